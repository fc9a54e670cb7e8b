/- Texts laid together: Miss, Clr, Has9, Sam, Sam2. -/
import Derived.Test.YtebpacmhdkgfeaaGreatJm5
import Derived.Lib.SliceRun
set_option linter.unusedSimpArgs false
set_option linter.unusedVariables false
namespace Go.Proofs.YtebpacmhdkgfeaaGreat
open Go.RowKit
set_option maxHeartbeats 4000000
set_option maxRecDepth 20000
theorem enter1T {P : Program} {o : Oper} {a : Act} {w : World} {t : Tmp} {x : Operand} {u : Value} {f : FuncId} {fn : Func} {ats : Array TypeId} (hf : P.funcs[f]? = some fn) (hname : (fn.name == "runtime.NumGoroutine") = false) (hb : fn.body.isNone = false) (ho : o.op = .call { callee := .value (.tmp t), args := #[x], argTypes := ats }) (ht : a.eval (.tmp t) = .func (.func f) #[] #[]) (hu : a.eval x = u) :
  (execOp a.eval o).run P w = .ok (.enter f #[u]) w := by
 simp [execOp, ho, resolve, invoke, hu, ht, Deferred.ofValue, enters hf hname hb]
def StaD.lostN (s : StaD) (id : Mk) : Bool := s.seen.has id && !(s.nodes.any fun n => decide (n.hd.id = id))
def StaD.lostK (s : StaD) (id : Mk) : Bool := s.seen.has id && !(s.links.any fun l => decide (l.id = id))
theorem join_nodeId (x : Nd) (w : World) : Calls Tryz.prog 45 #[.agg (encN.cells x).toArray] w fun e w' => e = .returned (.agg #[.int .i64 x.s.hd.id.boot, .int .i64 x.s.hd.id.n]) ∧ Below w.heap.size w w' := by
 have hL := Loc.nil w NoM
 show Calls _ _ #[.agg (Ino.cells x.s).toArray] w _
 unfold Ino.cells
 go_enter Tryz.func45, Tryz.ntmps45
 go_wp2_with (first | ((with_reducible refine gate (N := 1) rfl ?_); (refine lJ rfl hL rfl rfl cy ?_; clear hL; intro g1 w1 hL)) | ((with_reducible refine gate (N := 2) rfl ?_); (refine lI rfl hL rfl cy ?_; clear hL; intro g2 w2 hL)) | ((with_reducible refine qB rfl rfl ?_); (refine lF rfl hL rfl rfl vM SegC.seg ?_)) | ((with_reducible refine qC rfl rfl ?_); (refine lH rfl hL rfl rfl rfl cy (by rfl) ?_); clear hL; intro wq hL))
 exact bodyPost_ret (res_cell rfl hL _ rfl vM (by rfl)) rfl ⟨rfl, hL.below⟩
theorem missN_1 (x : Nd) (id : Mk) (g6 g7 : Nat) (w : World) (h7 : Box w g7 ([.func (.func 45) #[] #[]] : List Value).toArray 78) (h6 : Box w g6 ([.int .i64 id.boot, .int .i64 id.n] : List Value).toArray 44) :
  Calls Tryz.prog 108 #[.agg (encN.cells x).toArray, .pointer (some ⟨g7, 0, none⟩), .pointer (some ⟨g6, 0, none⟩)] w fun e w' => e = .returned (.bool (decide (x.s.hd.id = id))) ∧ Below w.heap.size w w' := by
 have hL := Loc.nil w NoM
 obtain ⟨r, hr⟩ : ∃ r, decide (x.s.hd.id = id) = r := ⟨_, rfl⟩
 have q1 := stampE x.s.hd.id id hr
 rw [hr]
 clear hr
 go_enter Tryz.func108, Tryz.ntmps108
 go_wp2_with (first | ((with_reducible refine gate (N := 3) rfl ?_); (refine lJ rfl hL rfl rfl (cells_agg _ rfl) ?_; clear hL; intro g3 w3 hL)))
 (try simp only [Act.put, zs, zt, zu])
 refine region_held (fun wx => Box wx g7 ([.func (.func 45) #[] #[]] : List Value).toArray 78 ∧ Box wx g6 ([.int .i64 id.boot, .int .i64 id.n] : List Value).toArray 44 ∧ Box wx g3 (encN.cells x).toArray 58) (by kernel_rfl) hL ?_
 clear hL
 intro w8 hL
 refine tK (i := 0) (y := y_loadCell (fun _ h => h.1) (by rfl) (by rfl) (by rfl) (by infer_instance) (by rfl)) (s := ⟨h7.below hL.below, h6.below hL.below, hL.box (g := g3) vM⟩) (z := ?_)
 (try simp only [Act.put, zs, zt, zu])
 refine tK (i := 1) (y := y_loadAll (fun _ h => h.2.2) (by rfl) (by rfl) (by rfl) (by infer_instance) (by infer_instance) (by rfl)) (s := ⟨h7.below hL.below, h6.below hL.below, hL.box (g := g3) vM⟩) (z := ?_)
 (try simp only [Act.put, zs, zt, zu])
 refine tK (i := 3) (y := y_loadAll (fun _ h => h.2.1) (by rfl) (by rfl) (by rfl) (by infer_instance) (by infer_instance) (by rfl)) (s := ⟨h7.below hL.below, h6.below hL.below, hL.box (g := g3) vM⟩) (z := ?_)
 (try simp only [Act.put, zs, zt, zu])
 refine heldOne (i := 2) (by kernel_rfl) ?_
 refine heldCall (i := 2) (Nth.get nx) (by rfl) (enter1T Tryz.func45 (by kernel_rfl) (by kernel_rfl) (by rfl) (by rfl) (by rfl)) (join_nodeId x _) ?_
 rintro e wq ⟨rfl, hbq⟩
 replace hL := hL.call hbq
 clear hbq
 refine ⟨_, rfl, ⟨h7.below hL.below, h6.below hL.below, hL.box (g := g3) vM⟩, ?_⟩
 (try simp only [Act.put, zs, zt, zu])
 refine heldOne (i := 4) (by kernel_rfl) ?_
 refine wpOp_runW (v := .bool r) (Nth.get nx) (by rfl) (by simp [execOp, q1, Act.eval, run_eqGuard_agg _ _ _ _ _ _ _ Tryz.eqGuardType44]; rfl) ?_
 refine ⟨⟨h7.below hL.below, h6.below hL.below, hL.box (g := g3) vM⟩, ?_⟩
 (try simp only [Act.put, zs, zt, zu])
 refine heldOne (i := 5) (by kernel_rfl) ?_
 refine wpOp_runW (v := .bool r) (Nth.get nx) (by rfl) (by rfl) ?_
 refine ⟨⟨h7.below hL.below, h6.below hL.below, hL.box (g := g3) vM⟩, ?_⟩
 (try simp only [Act.put, zs, zt, zu])
 refine wpAnyH_done (by kernel_rfl) ?_ _
 go_wp2_with fail
 go_ret
 exact ⟨rfl, hL.below⟩
set_option maxHeartbeats 4000000 in
theorem missN_index (v : Value) (xs : List Nd) (p : Nd → Bool) (c1 c2 : Value) (w : World) (h : encN.R w v xs)
  (hp : ∀ x ∈ xs, ∀ w', Below w.heap.size w w' → Calls Tryz.prog 108 #[.agg (encN.cells x).toArray, c1, c2] w' fun e w'' => e = .returned (.bool (p x)) ∧ Below w'.heap.size w' w'') :
  Calls Tryz.prog 105 #[v, .func (.func 108) #[] #[c1, c2]] w fun e w' => (∃ i : Int, e = .returned (.int .i64 i) ∧ ((0 ≤ i) ↔ xs.any p = true)) ∧ Below w.heap.size w w' := by
 have hL := Loc.nil w NoM
 have hmx := R_max h
 obtain ⟨ao, c, rfl, hel⟩ := R_elem h
 have HP := kD hp
 clear hp h
 go_enter Tryz.func105, Tryz.ntmps105
 go_wp2_with fail
 have HN : Hid (∀ x ∈ xs.take 0, p x = false) := kD (by simp)
 go_loopw [8] (fun i wr => ∃ k : Nat, k ≤ xs.length ∧ i = .int .i64 k ∧ Hid (∀ x ∈ xs.take k, p x = false) ∧ Loc w NoM wr []) (fun i _ => xs.length - (intOf i).toNat)
 case atStart => exact ⟨0, by omega, rfl, HN, hL⟩
 case round =>
  clear hL HN
  obtain ⟨k, hk, rfl, HN, hL⟩ := hrel
  by_cases hlt : k < xs.length
  ·obtain ⟨g, off, rfl, hr⟩ := hel k hlt
   have hrW : World.rangeAt _ g (off + k * 13) (encN.cells xs[k]) := range_below hr hL.below
   clear hr
   have hx := kD (HP.out _ (List.getElem_mem hlt))
   have HT := kD (show xs.take (k + 1) = xs.take k ++ [xs[k]] from (List.take_append_getElem hlt).symm)
   have hm : xs[k] ∈ xs := List.getElem_mem hlt
   have HM := kD hm
   clear hm
   cases hpx : p xs[k]
   ·have HPX := kD hpx
    rw [hpx] at hx
    clear hpx
    generalize xs[k] = x at *
    go_wp2_with (first
     | ((with_reducible refine qF rfl rfl ?_); refine lL rfl rfl rfl rfl hlt ?_) | ((with_reducible refine gate (N := 15) rfl ?_); refine lK rfl rfl rfl hrW (by rfl) ?_)
     | (go_at_call 108; (with_reducible refine (hx.out _ hL.below).mono ?_); rintro e w3 ⟨rfl, hb3⟩; have hL := hL.call hb3; clear hb3))
    go_roundw
    case rel => exact ⟨k + 1, by omega, by go_num, kD (by rw [HT.out]; intro y hy; rcases List.mem_append.1 hy with hy | hy; exact HN.out y hy; rw [List.mem_singleton.1 hy]; exact HPX.out), hL⟩
    case measure => simp [intOf]; omega
   ·have HPX := kD hpx
    rw [hpx] at hx
    clear hpx
    generalize xs[k] = x at *
    go_wp2_with (first
     | ((with_reducible refine qF rfl rfl ?_); refine lL rfl rfl rfl rfl hlt ?_) | ((with_reducible refine gate (N := 15) rfl ?_); refine lK rfl rfl rfl hrW (by rfl) ?_)
     | (go_at_call 108; (with_reducible refine (hx.out _ hL.below).mono ?_); rintro e w3 ⟨rfl, hb3⟩; have hL := hL.call hb3; clear hb3))
    go_ret
    exact ⟨⟨(k : Int), rfl, ⟨fun _ => List.any_eq_true.2 ⟨x, HM.out, HPX.out⟩, fun _ => by omega⟩⟩, hL.below⟩
  ·obtain rfl : k = xs.length := by omega
   go_wp2
   go_ret
   refine ⟨⟨-1, rfl, ⟨fun h => by omega, fun h => ?_⟩⟩, hL.below⟩
   obtain ⟨x, hx, hpx⟩ := List.any_eq_true.1 h
   have := HN.out x (by rw [List.take_length]; exact hx)
   rw [this] at hpx
   cases hpx
theorem missN_contains (v : Value) (xs : List Nd) (p : Nd → Bool) (c1 c2 : Value) (w : World) (h : encN.R w v xs)
  (hp : ∀ x ∈ xs, ∀ w', Below w.heap.size w w' → Calls Tryz.prog 108 #[.agg (encN.cells x).toArray, c1, c2] w' fun e w'' => e = .returned (.bool (p x)) ∧ Below w'.heap.size w' w'') :
  Calls Tryz.prog 107 #[v, .func (.func 108) #[] #[c1, c2]] w fun e w' => e = .returned (.bool (xs.any p)) ∧ Below w.heap.size w w' := by
 have hL := Loc.nil w NoM
 have hq := kD (missN_index v xs p c1 c2 w h hp)
 clear h hp
 generalize xs.any p = r at *
 go_enter Tryz.func107, Tryz.ntmps107
 go_wp2_with (first
  | (go_at_call 105; (with_reducible refine hq.out.mono ?_); rintro e w3 ⟨⟨i, rfl, hir⟩, hb3⟩; have HI := kD hir; clear hir; have hL := hL.call hb3; clear hb3))
 go_ret
 refine ⟨ret_b ?_, hL.below⟩
 cases r
 ·simpa using HI.out
 ·simpa using HI.out
theorem missN (s : Sta) (d : StaD) (xs : List Nd) (id : Mk) (w : World) (hse : s.seen = d.seen) (h : encN.R w s.nodes.val xs) :
  Calls Tryz.prog 44 #[.agg (Sta.cells s).toArray, .slice s.nodes.a s.nodes.n s.nodes.c, .agg #[.int .i64 id.boot, .int .i64 id.n], .func (.func 45) #[] #[]] w fun e w' => e = .returned (.bool (d.seen.has id && !(xs.any fun x => decide (x.s.hd.id = id)))) ∧ Below w.heap.size w w' := by
 have hL := Loc.nil w NoM
 rw [← hse]
 obtain ⟨sv, ⟨a1, n1, f1⟩, ⟨a2, n2, f2⟩⟩ := s
 simp only at h
 simp only
 have HH := kD (fun wx => vec_has sv id wx)
 have H9 := kD h
 clear h hse
 obtain ⟨b, hb⟩ : ∃ b, sv.has id = b := ⟨_, rfl⟩
 rw [hb] at HH ⊢
 clear hb
 obtain ⟨r, hr⟩ : ∃ r, (xs.any fun x => decide (x.s.hd.id = id)) = r := ⟨_, rfl⟩
 have HRR := kD hr
 rw [hr]
 clear hr
 unfold Sta.cells
 simp only
 cases b
 ·go_enter Tryz.func44, Tryz.ntmps44
  go_wp2_with (first
   | ((with_reducible refine gate (N := 4) rfl ?_); (refine lJ rfl hL rfl rfl cy ?_; clear hL; intro g4 w4 hL)) | ((with_reducible refine gate (N := 6) rfl ?_); (refine lJ rfl hL rfl rfl cy ?_; clear hL; intro g6 w6 hL)) | ((with_reducible refine gate (N := 7) rfl ?_); (refine lJ rfl hL rfl rfl cy ?_; clear hL; intro g7 w7 hL))
   | (go_at_call 106; (with_reducible refine (HH.out _).mono ?_); rintro e w3 ⟨rfl, hb3⟩; have hL := hL.call hb3; clear hb3)
   | ((with_reducible refine qB rfl rfl ?_); (first | (refine lA rfl hL rfl rfl vM (by rfl) ?_) | (refine lF rfl hL rfl rfl vM SegC.seg ?_))))
  go_ret
  exact ⟨rfl, hL.below⟩
 ·go_enter Tryz.func44, Tryz.ntmps44
  go_wp2_with (first
   | ((with_reducible refine gate (N := 4) rfl ?_); (refine lJ rfl hL rfl rfl cy ?_; clear hL; intro g4 w4 hL)) | ((with_reducible refine gate (N := 6) rfl ?_); (refine lJ rfl hL rfl rfl cy ?_; clear hL; intro g6 w6 hL)) | ((with_reducible refine gate (N := 7) rfl ?_); (refine lJ rfl hL rfl rfl cy ?_; clear hL; intro g7 w7 hL))
   | (go_at_call 106; (with_reducible refine (HH.out _).mono ?_); rintro e w3 ⟨rfl, hb3⟩; have hL := hL.call hb3; clear hb3)
   | (go_at_call 107; have h7 := hL.box (g := g7) vM; have h6 := hL.box (g := g6) vM; have hq := missN_contains (.slice a1 n1 f1) xs (fun x => decide (x.s.hd.id = id)) (.pointer (some ⟨g7, 0, none⟩)) (.pointer (some ⟨g6, 0, none⟩)) _ (H9.out.below hL.below) (fun x _ w' hb' => missN_1 x id g6 g7 w' (h7.below hb') (h6.below hb')); rw [HRR.out] at hq; (with_reducible refine hq.mono ?_); rintro e w5 ⟨rfl, hb5⟩; clear hq h7 h6; have hL := hL.call hb5; clear hb5)
   | ((with_reducible refine qB rfl rfl ?_); (first | (refine lA rfl hL rfl rfl vM (by rfl) ?_) | (refine lF rfl hL rfl rfl vM SegC.seg ?_))))
  go_ret
  exact ⟨rfl, hL.below⟩
theorem join_linkId (x : Lnk) (w : World) : Calls Tryz.prog 49 #[.agg (encK.cells x).toArray] w fun e w' => e = .returned (.agg #[.int .i64 x.id.boot, .int .i64 x.id.n]) ∧ Below w.heap.size w w' := by
 have hL := Loc.nil w NoM
 show Calls _ _ #[.agg (Lnk.cells x).toArray] w _
 unfold Lnk.cells
 go_enter Tryz.func49, Tryz.ntmps49
 go_wp2_with (first | ((with_reducible refine gate (N := 1) rfl ?_); (refine lJ rfl hL rfl rfl cy ?_; clear hL; intro g1 w1 hL)) | ((with_reducible refine gate (N := 2) rfl ?_); (refine lI rfl hL rfl cy ?_; clear hL; intro g2 w2 hL)) | ((with_reducible refine qB rfl rfl ?_); (refine lF rfl hL rfl rfl vM SegC.seg ?_)) | ((with_reducible refine qC rfl rfl ?_); (refine lH rfl hL rfl rfl rfl cy (by rfl) ?_); clear hL; intro wq hL))
 exact bodyPost_ret (res_cell rfl hL _ rfl vM (by rfl)) rfl ⟨rfl, hL.below⟩
theorem missK_1 (x : Lnk) (id : Mk) (g6 g7 : Nat) (w : World) (h7 : Box w g7 ([.func (.func 49) #[] #[]] : List Value).toArray 82) (h6 : Box w g6 ([.int .i64 id.boot, .int .i64 id.n] : List Value).toArray 44) :
  Calls Tryz.prog 111 #[.agg (encK.cells x).toArray, .pointer (some ⟨g7, 0, none⟩), .pointer (some ⟨g6, 0, none⟩)] w fun e w' => e = .returned (.bool (decide (x.id = id))) ∧ Below w.heap.size w w' := by
 have hL := Loc.nil w NoM
 obtain ⟨r, hr⟩ : ∃ r, decide (x.id = id) = r := ⟨_, rfl⟩
 have q1 := stampE x.id id hr
 rw [hr]
 clear hr
 go_enter Tryz.func111, Tryz.ntmps111
 go_wp2_with (first | ((with_reducible refine gate (N := 3) rfl ?_); (refine lJ rfl hL rfl rfl (cells_agg _ rfl) ?_; clear hL; intro g3 w3 hL)))
 (try simp only [Act.put, zs, zt, zu])
 refine region_held (fun wx => Box wx g7 ([.func (.func 49) #[] #[]] : List Value).toArray 82 ∧ Box wx g6 ([.int .i64 id.boot, .int .i64 id.n] : List Value).toArray 44 ∧ Box wx g3 (encK.cells x).toArray 46) (by kernel_rfl) hL ?_
 clear hL
 intro w8 hL
 refine tK (i := 0) (y := y_loadCell (fun _ h => h.1) (by rfl) (by rfl) (by rfl) (by infer_instance) (by rfl)) (s := ⟨h7.below hL.below, h6.below hL.below, hL.box (g := g3) vM⟩) (z := ?_)
 (try simp only [Act.put, zs, zt, zu])
 refine tK (i := 1) (y := y_loadAll (fun _ h => h.2.2) (by rfl) (by rfl) (by rfl) (by infer_instance) (by infer_instance) (by rfl)) (s := ⟨h7.below hL.below, h6.below hL.below, hL.box (g := g3) vM⟩) (z := ?_)
 (try simp only [Act.put, zs, zt, zu])
 refine tK (i := 3) (y := y_loadAll (fun _ h => h.2.1) (by rfl) (by rfl) (by rfl) (by infer_instance) (by infer_instance) (by rfl)) (s := ⟨h7.below hL.below, h6.below hL.below, hL.box (g := g3) vM⟩) (z := ?_)
 (try simp only [Act.put, zs, zt, zu])
 refine heldOne (i := 2) (by kernel_rfl) ?_
 refine heldCall (i := 2) (Nth.get nx) (by rfl) (enter1T Tryz.func49 (by kernel_rfl) (by kernel_rfl) (by rfl) (by rfl) (by rfl)) (join_linkId x _) ?_
 rintro e wq ⟨rfl, hbq⟩
 replace hL := hL.call hbq
 clear hbq
 refine ⟨_, rfl, ⟨h7.below hL.below, h6.below hL.below, hL.box (g := g3) vM⟩, ?_⟩
 (try simp only [Act.put, zs, zt, zu])
 refine heldOne (i := 4) (by kernel_rfl) ?_
 refine wpOp_runW (v := .bool r) (Nth.get nx) (by rfl) (by simp [execOp, q1, Act.eval, run_eqGuard_agg _ _ _ _ _ _ _ Tryz.eqGuardType44]; rfl) ?_
 refine ⟨⟨h7.below hL.below, h6.below hL.below, hL.box (g := g3) vM⟩, ?_⟩
 (try simp only [Act.put, zs, zt, zu])
 refine heldOne (i := 5) (by kernel_rfl) ?_
 refine wpOp_runW (v := .bool r) (Nth.get nx) (by rfl) (by rfl) ?_
 refine ⟨⟨h7.below hL.below, h6.below hL.below, hL.box (g := g3) vM⟩, ?_⟩
 (try simp only [Act.put, zs, zt, zu])
 refine wpAnyH_done (by kernel_rfl) ?_ _
 go_wp2_with fail
 go_ret
 exact ⟨rfl, hL.below⟩
set_option maxHeartbeats 4000000 in
theorem missK_index (v : Value) (xs : List Lnk) (p : Lnk → Bool) (c1 c2 : Value) (w : World) (h : encK.R w v xs)
  (hp : ∀ x ∈ xs, ∀ w', Below w.heap.size w w' → Calls Tryz.prog 111 #[.agg (encK.cells x).toArray, c1, c2] w' fun e w'' => e = .returned (.bool (p x)) ∧ Below w'.heap.size w' w'') :
  Calls Tryz.prog 109 #[v, .func (.func 111) #[] #[c1, c2]] w fun e w' => (∃ i : Int, e = .returned (.int .i64 i) ∧ ((0 ≤ i) ↔ xs.any p = true)) ∧ Below w.heap.size w w' := by
 have hL := Loc.nil w NoM
 have hmx := R_max h
 obtain ⟨ao, c, rfl, hel⟩ := R_elem h
 have HP := kD hp
 clear hp h
 go_enter Tryz.func109, Tryz.ntmps109
 go_wp2_with fail
 have HN : Hid (∀ x ∈ xs.take 0, p x = false) := kD (by simp)
 go_loopw [8] (fun i wr => ∃ k : Nat, k ≤ xs.length ∧ i = .int .i64 k ∧ Hid (∀ x ∈ xs.take k, p x = false) ∧ Loc w NoM wr []) (fun i _ => xs.length - (intOf i).toNat)
 case atStart => exact ⟨0, by omega, rfl, HN, hL⟩
 case round =>
  clear hL HN
  obtain ⟨k, hk, rfl, HN, hL⟩ := hrel
  by_cases hlt : k < xs.length
  ·obtain ⟨g, off, rfl, hr⟩ := hel k hlt
   have hrW : World.rangeAt _ g (off + k * 25) (encK.cells xs[k]) := range_below hr hL.below
   clear hr
   have hx := kD (HP.out _ (List.getElem_mem hlt))
   have HT := kD (show xs.take (k + 1) = xs.take k ++ [xs[k]] from (List.take_append_getElem hlt).symm)
   have hm : xs[k] ∈ xs := List.getElem_mem hlt
   have HM := kD hm
   clear hm
   cases hpx : p xs[k]
   ·have HPX := kD hpx
    rw [hpx] at hx
    clear hpx
    generalize xs[k] = x at *
    go_wp2_with (first
     | ((with_reducible refine qF rfl rfl ?_); refine lL rfl rfl rfl rfl hlt ?_) | ((with_reducible refine gate (N := 15) rfl ?_); refine lK rfl rfl rfl hrW (by rfl) ?_)
     | (go_at_call 111; (with_reducible refine (hx.out _ hL.below).mono ?_); rintro e w3 ⟨rfl, hb3⟩; have hL := hL.call hb3; clear hb3))
    go_roundw
    case rel => exact ⟨k + 1, by omega, by go_num, kD (by rw [HT.out]; intro y hy; rcases List.mem_append.1 hy with hy | hy; exact HN.out y hy; rw [List.mem_singleton.1 hy]; exact HPX.out), hL⟩
    case measure => simp [intOf]; omega
   ·have HPX := kD hpx
    rw [hpx] at hx
    clear hpx
    generalize xs[k] = x at *
    go_wp2_with (first
     | ((with_reducible refine qF rfl rfl ?_); refine lL rfl rfl rfl rfl hlt ?_) | ((with_reducible refine gate (N := 15) rfl ?_); refine lK rfl rfl rfl hrW (by rfl) ?_)
     | (go_at_call 111; (with_reducible refine (hx.out _ hL.below).mono ?_); rintro e w3 ⟨rfl, hb3⟩; have hL := hL.call hb3; clear hb3))
    go_ret
    exact ⟨⟨(k : Int), rfl, ⟨fun _ => List.any_eq_true.2 ⟨x, HM.out, HPX.out⟩, fun _ => by omega⟩⟩, hL.below⟩
  ·obtain rfl : k = xs.length := by omega
   go_wp2
   go_ret
   refine ⟨⟨-1, rfl, ⟨fun h => by omega, fun h => ?_⟩⟩, hL.below⟩
   obtain ⟨x, hx, hpx⟩ := List.any_eq_true.1 h
   have := HN.out x (by rw [List.take_length]; exact hx)
   rw [this] at hpx
   cases hpx
theorem missK_contains (v : Value) (xs : List Lnk) (p : Lnk → Bool) (c1 c2 : Value) (w : World) (h : encK.R w v xs)
  (hp : ∀ x ∈ xs, ∀ w', Below w.heap.size w w' → Calls Tryz.prog 111 #[.agg (encK.cells x).toArray, c1, c2] w' fun e w'' => e = .returned (.bool (p x)) ∧ Below w'.heap.size w' w'') :
  Calls Tryz.prog 110 #[v, .func (.func 111) #[] #[c1, c2]] w fun e w' => e = .returned (.bool (xs.any p)) ∧ Below w.heap.size w w' := by
 have hL := Loc.nil w NoM
 have hq := kD (missK_index v xs p c1 c2 w h hp)
 clear h hp
 generalize xs.any p = r at *
 go_enter Tryz.func110, Tryz.ntmps110
 go_wp2_with (first
  | (go_at_call 109; (with_reducible refine hq.out.mono ?_); rintro e w3 ⟨⟨i, rfl, hir⟩, hb3⟩; have HI := kD hir; clear hir; have hL := hL.call hb3; clear hb3))
 go_ret
 refine ⟨ret_b ?_, hL.below⟩
 cases r
 ·simpa using HI.out
 ·simpa using HI.out
theorem missK (s : Sta) (d : StaD) (xs : List Lnk) (id : Mk) (w : World) (hse : s.seen = d.seen) (h : encK.R w s.links.val xs) :
  Calls Tryz.prog 48 #[.agg (Sta.cells s).toArray, .slice s.links.a s.links.n s.links.c, .agg #[.int .i64 id.boot, .int .i64 id.n], .func (.func 49) #[] #[]] w fun e w' => e = .returned (.bool (d.seen.has id && !(xs.any fun x => decide (x.id = id)))) ∧ Below w.heap.size w w' := by
 have hL := Loc.nil w NoM
 rw [← hse]
 obtain ⟨sv, ⟨a1, n1, f1⟩, ⟨a2, n2, f2⟩⟩ := s
 simp only at h
 simp only
 have HH := kD (fun wx => vec_has sv id wx)
 have H9 := kD h
 clear h hse
 obtain ⟨b, hb⟩ : ∃ b, sv.has id = b := ⟨_, rfl⟩
 rw [hb] at HH ⊢
 clear hb
 obtain ⟨r, hr⟩ : ∃ r, (xs.any fun x => decide (x.id = id)) = r := ⟨_, rfl⟩
 have HRR := kD hr
 rw [hr]
 clear hr
 unfold Sta.cells
 simp only
 cases b
 ·go_enter Tryz.func48, Tryz.ntmps48
  go_wp2_with (first
   | ((with_reducible refine gate (N := 4) rfl ?_); (refine lJ rfl hL rfl rfl cy ?_; clear hL; intro g4 w4 hL)) | ((with_reducible refine gate (N := 6) rfl ?_); (refine lJ rfl hL rfl rfl cy ?_; clear hL; intro g6 w6 hL)) | ((with_reducible refine gate (N := 7) rfl ?_); (refine lJ rfl hL rfl rfl cy ?_; clear hL; intro g7 w7 hL))
   | (go_at_call 106; (with_reducible refine (HH.out _).mono ?_); rintro e w3 ⟨rfl, hb3⟩; have hL := hL.call hb3; clear hb3)
   | ((with_reducible refine qB rfl rfl ?_); (first | (refine lA rfl hL rfl rfl vM (by rfl) ?_) | (refine lF rfl hL rfl rfl vM SegC.seg ?_))))
  go_ret
  exact ⟨rfl, hL.below⟩
 ·go_enter Tryz.func48, Tryz.ntmps48
  go_wp2_with (first
   | ((with_reducible refine gate (N := 4) rfl ?_); (refine lJ rfl hL rfl rfl cy ?_; clear hL; intro g4 w4 hL)) | ((with_reducible refine gate (N := 6) rfl ?_); (refine lJ rfl hL rfl rfl cy ?_; clear hL; intro g6 w6 hL)) | ((with_reducible refine gate (N := 7) rfl ?_); (refine lJ rfl hL rfl rfl cy ?_; clear hL; intro g7 w7 hL))
   | (go_at_call 106; (with_reducible refine (HH.out _).mono ?_); rintro e w3 ⟨rfl, hb3⟩; have hL := hL.call hb3; clear hb3)
   | (go_at_call 110; have h7 := hL.box (g := g7) vM; have h6 := hL.box (g := g6) vM; have hq := missK_contains (.slice a2 n2 f2) xs (fun x => decide (x.id = id)) (.pointer (some ⟨g7, 0, none⟩)) (.pointer (some ⟨g6, 0, none⟩)) _ (H9.out.below hL.below) (fun x _ w' hb' => missK_1 x id g6 g7 w' (h7.below hb') (h6.below hb')); rw [HRR.out] at hq; (with_reducible refine hq.mono ?_); rintro e w5 ⟨rfl, hb5⟩; clear hq h7 h6; have hL := hL.call hb5; clear hb5)
   | ((with_reducible refine qB rfl rfl ?_); (first | (refine lA rfl hL rfl rfl vM (by rfl) ?_) | (refine lF rfl hL rfl rfl vM SegC.seg ?_))))
  go_ret
  exact ⟨rfl, hL.below⟩
end Go.Proofs.YtebpacmhdkgfeaaGreat

namespace Go.Proofs.YtebpacmhdkgfeaaGreat
open Go.RowKit
section
variable {P : Program} {α : Type} {E : Enc α}
theorem O_clear {w : World} {base g n c k : Nat} {te t ty : TypeId} {z : Value} {xs : List α} [ht : SliceT P t te] [hz : ZeroT P te z] (hzs : z.cells.size = E.sz) (hz1 : ∀ u ∈ z.cells.toList, u.oneCell' = true)
  (h : E.O w base te (.slice (some ⟨g, 0, none⟩) n c) xs) (hn : n = xs.length) (hk : k ≤ n) :
  ∃ w1, (Builtin.clear_ #[t] ty #[.slice (some ⟨g, k * E.sz, none⟩) (n - k) (c - k)]).run P w = .ok (.tuple #[]) w1 ∧ E.O w1 base te (.slice (some ⟨g, 0, none⟩) k c) (xs.take k) ∧ Mod (· = g) w w1 := by
 subst hn
 obtain ⟨hl, h2⟩ := h
 rcases h2 with ⟨hn, _⟩ | ⟨g', cap, cur, hv, hb, hg, hnc, hcm, hcs, htake⟩
 ·cases hn
 injection hv with hv1 hv2 hv3
 injection hv1 with hv1
 injection hv1 with hv1
 subst hv1 hv3
 clear hv2
 have hkc : k * E.sz ≤ c * E.sz := Nat.mul_le_mul_right _ (by omega)
 have hkx : k * E.sz ≤ xs.length * E.sz := Nat.mul_le_mul_right _ hk
 have hxc : xs.length * E.sz ≤ c * E.sz := Nat.mul_le_mul_right _ hnc
 have hpre : cur.toList.take (k * E.sz) = E.all (xs.take k) := by
  have h1 := congrArg (fun l => l.take (k * E.sz)) htake
  simp only [List.take_take] at h1
  rw [Nat.min_eq_left hkx] at h1
  rw [h1]
  have h2 : E.all xs = E.all (xs.take k) ++ E.all (xs.drop k) := by rw [← Enc.all_append, List.take_append_drop]
  rw [h2, List.take_append_of_le_length (by rw [Enc.all_length, List.length_take, Nat.min_eq_left hk]; exact Nat.le_refl _), List.take_of_length_le (by rw [Enc.all_length, List.length_take, Nat.min_eq_left hk]; exact Nat.le_refl _)]
 have hlk : (xs.take k).length = k := by rw [List.length_take, Nat.min_eq_left hk]
 by_cases hz0 : xs.length - k = 0
 ·have hkk : k = xs.length := by omega
  refine ⟨w, ?_, ⟨by rw [Enc.all_length, hlk], .inr ⟨g, c, cur, by rw [hlk], hb, hg, by omega, hcm, hcs, ?_⟩⟩, .refl _ _⟩
  ·rw [hz0]
   simp [Builtin.clear_, run_underlying ht.slice]
  ·rw [hlk, hpre]
 ·obtain ⟨m, hm⟩ : ∃ m, xs.length - k = m + 1 := ⟨xs.length - k - 1, by omega⟩
  obtain ⟨inf, hinf, hzz⟩ := Option.map_eq_some_iff.1 hz.zero
  have hv : ∀ w, (zeroValue te).run P w = .ok z w := fun w => by simp [zeroValue, typeInfo, hinf, hzz]
  have hzl : (Builtin.zeroCells z.cells (xs.length - k)).toList.length = (xs.length - k) * E.sz := by simp [Builtin.zeroCells, hzs, Nat.mul_comm]
  have hsub : (xs.length - k) * E.sz + k * E.sz = xs.length * E.sz := by rw [← Nat.add_mul]; congr 1; omega
  have hst := run_storeCells_at P g (k * E.sz) te (Builtin.zeroCells z.cells (xs.length - k)).toList 0 cur w hg (by rw [hzl, hcs]; omega) (fun v hv => by
   have hp := E.pos
   simp only [Builtin.zeroCells, Array.toList_map, Array.toList_range, List.mem_map] at hv
   obtain ⟨j, hj, rfl⟩ := hv
   have hlt : j % z.cells.size < z.cells.size := Nat.mod_lt _ (by omega)
   refine hz1 _ ?_
   rw [getElem!_pos z.cells _ hlt]
   exact Array.mem_toList_iff.2 (Array.getElem_mem hlt))
  simp only [Nat.add_zero] at hst
  obtain ⟨cur', hcur⟩ : ∃ x, x = (cur.toList.take (k * E.sz) ++ (Builtin.zeroCells z.cells (xs.length - k)).toList ++ cur.toList.drop (k * E.sz + (Builtin.zeroCells z.cells (xs.length - k)).toList.length)).toArray := ⟨_, rfl⟩
  rw [← hcur] at hst
  refine ⟨w.setRow g cur', ?_, ⟨by rw [Enc.all_length, hlk], .inr ⟨g, c, cur', by rw [hlk], hb, setRow_heap w g cur cur' te _ hg, by omega, hcm, ?_, ?_⟩⟩, ⟨rfl, rfl, rfl, by simp, fun j _ hj => setRow_other w g j cur' hj⟩⟩
  ·rw [hm] at hst ⊢
   simp [Builtin.clear_, run_underlying ht.slice, hv, hst]
  ·rw [hcur]
   simp only [List.size_toArray, List.length_append, List.length_take, List.length_drop, Array.length_toList, hcs, hzl]
   omega
  ·rw [hlk, hcur, ← hpre, List.append_assoc, List.take_append_of_le_length (by rw [List.length_take, Array.length_toList, hcs]; omega), List.take_take, Nat.min_self]
theorem ev_clearRow {ops : Array Oper} {rest : List Oper} {o : Oper} {a : Act} {Q : Exit → Act → World → Prop} {W w0 : World} {M : Nat → Prop} {l l' : List Item} {x : Operand} {base g n c k off m d : Nat} {te t : TypeId} {z : Value} {xs : List α} [ht : SliceT P t te] [hz : ZeroT P te z]
  (hgd : o.guard = none) (hL : Loc w0 M W l) (ho : o.op = .call { callee := .builtin .clear, args := #[x], argTypes := #[t] }) (hx : a.eval x = .slice (some ⟨g, off, none⟩) m d) (hoff : off = k * E.sz) (hm : m = n - k) (hd : d = c - k)
  (hzs : z.cells.size = E.sz) (hz1 : ∀ u ∈ z.cells.toList, u.oneCell' = true) (hn : n = xs.length) (hk : k ≤ n)
  (hs : Swap (row E base te (.slice (some ⟨g, 0, none⟩) n c) xs) (row E base te (.slice (some ⟨g, 0, none⟩) k c) (xs.take k)) l l')
  (h : ∀ w1, Loc w0 M w1 l' → wpList P ops Q rest (a.put o.dst (.tuple #[])) w1) : wpList P ops Q (o :: rest) a W := by
 subst hoff hm hd
 obtain ⟨w1, h1, h2, h3⟩ := O_clear (P := P) (t := t) (ty := o.type) hzs hz1 (hL.own hs.mem) hn hk
 refine event hgd (v := .tuple #[]) (w1 := w1) ?_ (h _ (hL.swap hs (h3.mono fun k _ hk => ?_) (row_at h2) fun _ hk => .inl hk))
 ·simp only [execOp, ho, resolve, invoke, builtin, Sem.run_bind, Sem.run_pure, Result.andThen_ok, List.map_toArray, List.map_cons, List.map_nil, hx, h1]
 ·show (Value.slice (some ⟨g, 0, none⟩) n c).ownBlock = some k
  rw [hk]; rfl
end
end Go.Proofs.YtebpacmhdkgfeaaGreat

namespace Go.Proofs.YtebpacmhdkgfeaaGreat
open Go.RowKit
set_option maxHeartbeats 2000000
theorem ref09_is (m : Mk) (w : World) : Calls Tryz.prog 177 #[.agg #[.int .i64 m.boot, .int .i64 m.n]] w fun e w' => e = .returned (.bool m.is) ∧ Below w.heap.size w w' := by
 have hL := Loc.nil w NoM
 unfold Mk.is
 by_cases c1 : 1 ≤ m.boot
 ·by_cases c2 : m.boot ≤ 1099511627776
  ·by_cases c3 : 0 ≤ m.n
   ·rw [decide_eq_true c1, decide_eq_true c2, decide_eq_true c3]
    simp only [Bool.true_and]
    go_enter Tryz.func177, Tryz.ntmps177
    go_wp2_with (first | ((with_reducible refine qE rfl rfl ?_); (refine lJ rfl hL rfl rfl cy ?_; clear hL; intro gq wq hL)) | ((with_reducible refine qB rfl rfl ?_); (refine lC rfl hL rfl rfl vM (by rfl) ?_)) | ((with_reducible refine qA rfl rfl ?_ ?_); (exact wz rfl rfl rfl (by with_reducible rfl)); (refine lD (wz rfl rfl rfl rfl) hL rfl rfl vM (by rfl) ?_)))
    go_ret
    exact ⟨rfl, hL.below⟩
   ·rw [decide_eq_true c1, decide_eq_true c2, decide_eq_false c3]
    simp only [Bool.true_and, Bool.false_and]
    have t3 : decide (0 ≤ m.n) = false := decide_eq_false c3
    go_enter Tryz.func177, Tryz.ntmps177
    go_wp2_with (first | ((with_reducible refine qE rfl rfl ?_); (refine lJ rfl hL rfl rfl cy ?_; clear hL; intro gq wq hL)) | ((with_reducible refine qB rfl rfl ?_); (refine lC rfl hL rfl rfl vM (by rfl) ?_)) | ((with_reducible refine qA rfl rfl ?_ ?_); (exact wz rfl rfl rfl (by with_reducible rfl)); (refine lD (wz rfl rfl rfl rfl) hL rfl rfl vM (by rfl) ?_)))
    go_ret
    exact ⟨rfl, hL.below⟩
  ·rw [decide_eq_true c1, decide_eq_false c2]
   simp only [Bool.true_and, Bool.false_and]
   have t2 : decide (m.boot ≤ 1099511627776) = false := decide_eq_false c2
   go_enter Tryz.func177, Tryz.ntmps177
   go_wp2_with (first | ((with_reducible refine qE rfl rfl ?_); (refine lJ rfl hL rfl rfl cy ?_; clear hL; intro gq wq hL)) | ((with_reducible refine qB rfl rfl ?_); (refine lC rfl hL rfl rfl vM (by rfl) ?_)) | ((with_reducible refine qA rfl rfl ?_ ?_); (exact wz rfl rfl rfl (by with_reducible rfl)); (refine lD (wz rfl rfl rfl rfl) hL rfl rfl vM (by rfl) ?_)))
   go_ret
   exact ⟨rfl, hL.below⟩
 ·rw [decide_eq_false c1]
  simp only [Bool.false_and]
  have t1 : decide (1 ≤ m.boot) = false := decide_eq_false c1
  go_enter Tryz.func177, Tryz.ntmps177
  go_wp2_with (first | ((with_reducible refine qE rfl rfl ?_); (refine lJ rfl hL rfl rfl cy ?_; clear hL; intro gq wq hL)) | ((with_reducible refine qB rfl rfl ?_); (refine lC rfl hL rfl rfl vM (by rfl) ?_)))
  go_ret
  exact ⟨rfl, hL.below⟩
theorem ref09_is_ext {W : World} {e : Ext W} (a b : Int) (r : Bool) (h : (Mk.mk a b).is = r) : Calls Tryz.prog 177 #[.agg #[.int .i64 a, .int .i64 b]] e.w fun en w'' => en = .returned (.bool r) ∧ ∃ x : Ext W, w'' = x.w :=
 calls_ext (by subst h; exact ref09_is ⟨a, b⟩ _)
theorem ref09_has (v : V8) (m : Mk) (w : World) : Calls Tryz.prog 112 #[.agg #[.int .i64 v.a0, .int .i64 v.a1, .int .i64 v.a2, .int .i64 v.a3, .int .i64 v.a4, .int .i64 v.a5, .int .i64 v.a6, .int .i64 v.a7], .agg #[.int .i64 m.boot, .int .i64 m.n]] w fun e w' => e = .returned (.bool (v.has m)) ∧ Below w.heap.size w w' := by
 have hL := Loc.nil w NoM
 unfold V8.has
 obtain ⟨a, b⟩ := m
 cases his : (Mk.mk a b).is
 ·have HI := kD his
  clear his
  simp only [Bool.false_and]
  go_enter Tryz.func112, Tryz.ntmps112
  go_wp2_with (first | ((with_reducible refine qE rfl rfl ?_); (refine lJ rfl hL rfl rfl cy ?_; clear hL; intro gq wq hL)))
  refine wp_region_ext (by kernel_rfl) (by kernel_rfl) ?_
  repeat (first
   | (go_big_quiet_want; (first | refine qH hL rfl rfl vM (by rfl) ?_ | refine qG hL rfl rfl vM (by rfl) ?_ | refine qI hL rfl rfl vM SegC.seg ?_); go_big_quiet_on; simp only [Act.put, zs, zt, zu])
   | go_big_quiet_step (first | (go_at_call 177; with_reducible exact ref09_is_ext a b false HI.out)))
  refine wpQuiet_nil ?_
  rintro _ ⟨⟨w2, hb2⟩, rfl⟩
  replace hL := hL.call hb2
  go_wp2
  go_ret
  exact ⟨rfl, hL.below⟩
 ·have hn := Mk.is_n his
  have HI := kD his
  clear his
  simp only [Bool.true_and]
  replace hn : b = 0 ∨ b = 1 ∨ b = 2 ∨ b = 3 ∨ b = 4 ∨ b = 5 ∨ b = 6 ∨ b = 7 := hn
  rcases hn with rfl | rfl | rfl | rfl | rfl | rfl | rfl | rfl
  ·show Calls _ _ _ w fun e w' => e = .returned (.bool (decide (a ≤ v.a0))) ∧ Below w.heap.size w w'
   go_enter Tryz.func112, Tryz.ntmps112
   go_wp2_with (first | ((with_reducible refine qE rfl rfl ?_); (refine lJ rfl hL rfl rfl cy ?_; clear hL; intro gq wq hL)))
   refine wp_region_ext (by kernel_rfl) (by kernel_rfl) ?_
   repeat (first
    | (go_big_quiet_want; (first | refine qH hL rfl rfl vM (by rfl) ?_ | refine qG hL rfl rfl vM (by rfl) ?_ | refine qI hL rfl rfl vM SegC.seg ?_); go_big_quiet_on; simp only [Act.put, zs, zt, zu])
    | go_big_quiet_step (first | (go_at_call 177; with_reducible exact ref09_is_ext a 0 true HI.out)))
   refine wpQuiet_nil ?_
   rintro _ ⟨⟨w2, hb2⟩, rfl⟩
   replace hL := hL.call hb2
   go_wp2
   go_ret
   exact ⟨rfl, hL.below⟩
  ·show Calls _ _ _ w fun e w' => e = .returned (.bool (decide (a ≤ v.a1))) ∧ Below w.heap.size w w'
   go_enter Tryz.func112, Tryz.ntmps112
   go_wp2_with (first | ((with_reducible refine qE rfl rfl ?_); (refine lJ rfl hL rfl rfl cy ?_; clear hL; intro gq wq hL)))
   refine wp_region_ext (by kernel_rfl) (by kernel_rfl) ?_
   repeat (first
    | (go_big_quiet_want; (first | refine qH hL rfl rfl vM (by rfl) ?_ | refine qG hL rfl rfl vM (by rfl) ?_ | refine qI hL rfl rfl vM SegC.seg ?_); go_big_quiet_on; simp only [Act.put, zs, zt, zu])
    | go_big_quiet_step (first | (go_at_call 177; with_reducible exact ref09_is_ext a 1 true HI.out)))
   refine wpQuiet_nil ?_
   rintro _ ⟨⟨w2, hb2⟩, rfl⟩
   replace hL := hL.call hb2
   go_wp2
   go_ret
   exact ⟨rfl, hL.below⟩
  ·show Calls _ _ _ w fun e w' => e = .returned (.bool (decide (a ≤ v.a2))) ∧ Below w.heap.size w w'
   go_enter Tryz.func112, Tryz.ntmps112
   go_wp2_with (first | ((with_reducible refine qE rfl rfl ?_); (refine lJ rfl hL rfl rfl cy ?_; clear hL; intro gq wq hL)))
   refine wp_region_ext (by kernel_rfl) (by kernel_rfl) ?_
   repeat (first
    | (go_big_quiet_want; (first | refine qH hL rfl rfl vM (by rfl) ?_ | refine qG hL rfl rfl vM (by rfl) ?_ | refine qI hL rfl rfl vM SegC.seg ?_); go_big_quiet_on; simp only [Act.put, zs, zt, zu])
    | go_big_quiet_step (first | (go_at_call 177; with_reducible exact ref09_is_ext a 2 true HI.out)))
   refine wpQuiet_nil ?_
   rintro _ ⟨⟨w2, hb2⟩, rfl⟩
   replace hL := hL.call hb2
   go_wp2
   go_ret
   exact ⟨rfl, hL.below⟩
  ·show Calls _ _ _ w fun e w' => e = .returned (.bool (decide (a ≤ v.a3))) ∧ Below w.heap.size w w'
   go_enter Tryz.func112, Tryz.ntmps112
   go_wp2_with (first | ((with_reducible refine qE rfl rfl ?_); (refine lJ rfl hL rfl rfl cy ?_; clear hL; intro gq wq hL)))
   refine wp_region_ext (by kernel_rfl) (by kernel_rfl) ?_
   repeat (first
    | (go_big_quiet_want; (first | refine qH hL rfl rfl vM (by rfl) ?_ | refine qG hL rfl rfl vM (by rfl) ?_ | refine qI hL rfl rfl vM SegC.seg ?_); go_big_quiet_on; simp only [Act.put, zs, zt, zu])
    | go_big_quiet_step (first | (go_at_call 177; with_reducible exact ref09_is_ext a 3 true HI.out)))
   refine wpQuiet_nil ?_
   rintro _ ⟨⟨w2, hb2⟩, rfl⟩
   replace hL := hL.call hb2
   go_wp2
   go_ret
   exact ⟨rfl, hL.below⟩
  ·show Calls _ _ _ w fun e w' => e = .returned (.bool (decide (a ≤ v.a4))) ∧ Below w.heap.size w w'
   go_enter Tryz.func112, Tryz.ntmps112
   go_wp2_with (first | ((with_reducible refine qE rfl rfl ?_); (refine lJ rfl hL rfl rfl cy ?_; clear hL; intro gq wq hL)))
   refine wp_region_ext (by kernel_rfl) (by kernel_rfl) ?_
   repeat (first
    | (go_big_quiet_want; (first | refine qH hL rfl rfl vM (by rfl) ?_ | refine qG hL rfl rfl vM (by rfl) ?_ | refine qI hL rfl rfl vM SegC.seg ?_); go_big_quiet_on; simp only [Act.put, zs, zt, zu])
    | go_big_quiet_step (first | (go_at_call 177; with_reducible exact ref09_is_ext a 4 true HI.out)))
   refine wpQuiet_nil ?_
   rintro _ ⟨⟨w2, hb2⟩, rfl⟩
   replace hL := hL.call hb2
   go_wp2
   go_ret
   exact ⟨rfl, hL.below⟩
  ·show Calls _ _ _ w fun e w' => e = .returned (.bool (decide (a ≤ v.a5))) ∧ Below w.heap.size w w'
   go_enter Tryz.func112, Tryz.ntmps112
   go_wp2_with (first | ((with_reducible refine qE rfl rfl ?_); (refine lJ rfl hL rfl rfl cy ?_; clear hL; intro gq wq hL)))
   refine wp_region_ext (by kernel_rfl) (by kernel_rfl) ?_
   repeat (first
    | (go_big_quiet_want; (first | refine qH hL rfl rfl vM (by rfl) ?_ | refine qG hL rfl rfl vM (by rfl) ?_ | refine qI hL rfl rfl vM SegC.seg ?_); go_big_quiet_on; simp only [Act.put, zs, zt, zu])
    | go_big_quiet_step (first | (go_at_call 177; with_reducible exact ref09_is_ext a 5 true HI.out)))
   refine wpQuiet_nil ?_
   rintro _ ⟨⟨w2, hb2⟩, rfl⟩
   replace hL := hL.call hb2
   go_wp2
   go_ret
   exact ⟨rfl, hL.below⟩
  ·show Calls _ _ _ w fun e w' => e = .returned (.bool (decide (a ≤ v.a6))) ∧ Below w.heap.size w w'
   go_enter Tryz.func112, Tryz.ntmps112
   go_wp2_with (first | ((with_reducible refine qE rfl rfl ?_); (refine lJ rfl hL rfl rfl cy ?_; clear hL; intro gq wq hL)))
   refine wp_region_ext (by kernel_rfl) (by kernel_rfl) ?_
   repeat (first
    | (go_big_quiet_want; (first | refine qH hL rfl rfl vM (by rfl) ?_ | refine qG hL rfl rfl vM (by rfl) ?_ | refine qI hL rfl rfl vM SegC.seg ?_); go_big_quiet_on; simp only [Act.put, zs, zt, zu])
    | go_big_quiet_step (first | (go_at_call 177; with_reducible exact ref09_is_ext a 6 true HI.out)))
   refine wpQuiet_nil ?_
   rintro _ ⟨⟨w2, hb2⟩, rfl⟩
   replace hL := hL.call hb2
   go_wp2
   go_ret
   exact ⟨rfl, hL.below⟩
  ·show Calls _ _ _ w fun e w' => e = .returned (.bool (decide (a ≤ v.a7))) ∧ Below w.heap.size w w'
   go_enter Tryz.func112, Tryz.ntmps112
   go_wp2_with (first | ((with_reducible refine qE rfl rfl ?_); (refine lJ rfl hL rfl rfl cy ?_; clear hL; intro gq wq hL)))
   refine wp_region_ext (by kernel_rfl) (by kernel_rfl) ?_
   repeat (first
    | (go_big_quiet_want; (first | refine qH hL rfl rfl vM (by rfl) ?_ | refine qG hL rfl rfl vM (by rfl) ?_ | refine qI hL rfl rfl vM SegC.seg ?_); go_big_quiet_on; simp only [Act.put, zs, zt, zu])
    | go_big_quiet_step (first | (go_at_call 177; with_reducible exact ref09_is_ext a 7 true HI.out)))
   refine wpQuiet_nil ?_
   rintro _ ⟨⟨w2, hb2⟩, rfl⟩
   replace hL := hL.call hb2
   go_wp2
   go_ret
   exact ⟨rfl, hL.below⟩
end Go.Proofs.YtebpacmhdkgfeaaGreat

namespace Go.Proofs.YtebpacmhdkgfeaaGreat
open Go.RowKit
theorem ino_shape (i : Ino) (d : InoD) (w : World) (h : i.Ok w d) : ∃ a c b e, i = ⟨d.hd, ⟨a, d.ps.length, c⟩, ⟨b, d.xs.length, e⟩⟩ := by
 obtain ⟨hd, p, x⟩ := i
 obtain ⟨ao, c, e1, -⟩ := R_elem h.ps
 obtain ⟨bo, c2, e2, -⟩ := R_elem h.xs
 have e0 : hd = d.hd := h.hd
 obtain ⟨pa, pn, pc⟩ := p
 obtain ⟨xa, xn, xc⟩ := x
 unfold Sl.val at e1 e2
 injection e1 with a1 a2 a3
 injection e2 with b1 b2 b3
 subst e0 a2 b2
 exact ⟨pa, pc, xa, xc, rfl⟩
set_option maxHeartbeats 8000000 in
theorem same_node (i j : Ino) (d : InoD) (w : World) (hi : i.Ok w d) (hj : j.Ok w d) :
  Calls Tryz.prog 38 #[.agg (Ino.cells i).toArray, .agg (Ino.cells j).toArray] w fun e w' => e = .returned (.bool true) ∧ Below w.heap.size w w' := by
 have hL := Loc.nil w NoM
 obtain ⟨a1, c1, b1, e1, rfl⟩ := ino_shape i d w hi
 obtain ⟨a2, c2, b2, e2, rfl⟩ := ino_shape j d w hj
 obtain ⟨hd, ps, xs⟩ := d
 have hm1 : ps.length ≤ 9223372036854775807 := R_max hi.ps
 have hm2 : xs.length ≤ 9223372036854775807 := R_max hi.xs
 obtain ⟨ao, c, e3, hp1⟩ := R_elem hi.ps
 have e3' : a1 = ao := by unfold Sl.val at e3; injection e3
 subst e3'
 obtain ⟨ao, c', e3, hp2⟩ := R_elem hj.ps
 have e3' : a2 = ao := by unfold Sl.val at e3; injection e3
 subst e3'
 obtain ⟨ao, c', e3, hx1⟩ := R_elem hi.xs
 have e3' : b1 = ao := by unfold Sl.val at e3; injection e3
 subst e3'
 obtain ⟨ao, c', e3, hx2⟩ := R_elem hj.xs
 have e3' : b2 = ao := by unfold Sl.val at e3; injection e3
 subst e3'
 clear e3 hi hj
 replace hp1 : ∀ (i : Nat) (hi : i < ps.length), ∃ g off, a1 = some ⟨g, off, none⟩ ∧ w.rangeAt g (off + i * 4) (Pce.cells ps[i]) := hp1
 replace hp2 : ∀ (i : Nat) (hi : i < ps.length), ∃ g off, a2 = some ⟨g, off, none⟩ ∧ w.rangeAt g (off + i * 4) (Pce.cells ps[i]) := hp2
 replace hx1 : ∀ (i : Nat) (hi : i < xs.length), ∃ g off, b1 = some ⟨g, off, none⟩ ∧ w.rangeAt g (off + i * 5) (Xat.cells xs[i]) := hx1
 replace hx2 : ∀ (i : Nat) (hi : i < xs.length), ∃ g off, b2 = some ⟨g, off, none⟩ ∧ w.rangeAt g (off + i * 5) (Xat.cells xs[i]) := hx2
 have n1 := stamp_ns hd.id
 have n2 := attr_ns hd.attr
 have n3 := size_ns hd.size
 unfold Atr.cells at n2
 unfold Siz.cells at n3
 show Calls _ _ #[.agg ([.int .i64 hd.id.boot, .int .i64 hd.id.n, .int .i64 hd.kind, .string hd.text, .int .i64 hd.attr.at_.boot, .int .i64 hd.attr.at_.n, .int .i64 hd.attr.mode, .int .u64 hd.attr.time, .int .i64 hd.size.at_.boot, .int .i64 hd.size.at_.n, .int .i64 hd.size.n, .slice a1 ps.length c1, .slice b1 xs.length e1] : List Value).toArray, .agg ([.int .i64 hd.id.boot, .int .i64 hd.id.n, .int .i64 hd.kind, .string hd.text, .int .i64 hd.attr.at_.boot, .int .i64 hd.attr.at_.n, .int .i64 hd.attr.mode, .int .u64 hd.attr.time, .int .i64 hd.size.at_.boot, .int .i64 hd.size.at_.n, .int .i64 hd.size.n, .slice a2 ps.length c2, .slice b2 xs.length e2] : List Value).toArray] w _
 go_enter Tryz.func38, Tryz.ntmps38
 go_wp2_with (first | ((with_reducible refine gate (N := 2) rfl ?_); (refine lJ rfl hL rfl rfl cy ?_; clear hL; intro g2 w2 hL)) | ((with_reducible refine gate (N := 3) rfl ?_); (refine lJ rfl hL rfl rfl cy ?_; clear hL; intro g3 w3 hL)) | ((with_reducible refine qB rfl rfl ?_); (first | (refine lC rfl hL rfl rfl vM (by rfl) ?_) | (refine lF rfl hL rfl rfl vM SegC.seg ?_))) | ((with_reducible refine qA rfl rfl ?_ ?_); (exact wz rfl rfl rfl (by with_reducible rfl)); (first | (refine lD (wz rfl rfl rfl rfl) hL rfl rfl vM (by rfl) ?_) | (refine lE (wz rfl rfl rfl rfl) hL rfl rfl vM SegC.seg ?_))))
 clear n1 n2 n3
 go_loopw [61] (fun i wr => ∃ k : Nat, k ≤ ps.length ∧ i = .int .i64 k ∧ Loc w NoM wr [var g3 [.int .i64 hd.id.boot, .int .i64 hd.id.n, .int .i64 hd.kind, .string hd.text, .int .i64 hd.attr.at_.boot, .int .i64 hd.attr.at_.n, .int .i64 hd.attr.mode, .int .u64 hd.attr.time, .int .i64 hd.size.at_.boot, .int .i64 hd.size.at_.n, .int .i64 hd.size.n, .slice a2 ps.length c2, .slice b2 xs.length e2] 58, var g2 [.int .i64 hd.id.boot, .int .i64 hd.id.n, .int .i64 hd.kind, .string hd.text, .int .i64 hd.attr.at_.boot, .int .i64 hd.attr.at_.n, .int .i64 hd.attr.mode, .int .u64 hd.attr.time, .int .i64 hd.size.at_.boot, .int .i64 hd.size.at_.n, .int .i64 hd.size.n, .slice a1 ps.length c1, .slice b1 xs.length e1] 58]) (fun i _ => ps.length - (intOf i).toNat)
 case atStart => exact ⟨0, by omega, rfl, hL⟩
 case round =>
  clear hL
  obtain ⟨k, hk, rfl, hL⟩ := hrel
  by_cases hlt : k < ps.length
  ·obtain ⟨q1, o1, rfl, r1⟩ := hp1 k hlt
   obtain ⟨q2, o2, rfl, r2⟩ := hp2 k hlt
   have hz1 : World.rangeAt _ q1 (o1 + k * 4) (Pce.cells ps[k]) := range_below r1 hL.below
   have hz2 : World.rangeAt _ q2 (o2 + k * 4) (Pce.cells ps[k]) := range_below r2 hL.below
   clear r1 r2
   have hne := piece_ns ps[k]
   generalize ps[k] = q at *
   unfold Pce.cells at hz1 hz2 hne
   go_wp2_with fail
   refine wp_region_ext (by kernel_rfl) (by kernel_rfl) ?_
   repeat (first
    | (go_big_quiet_want; (first | refine qH hL rfl rfl vM (by rfl) ?_ | refine qG hL rfl rfl vM (by rfl) ?_ | refine qI hL rfl rfl vM SegC.seg ?_); go_big_quiet_on; simp only [Act.put, zs, zt, zu])
    | (go_big_quiet_want; (first | refine quiet_index rfl rfl rfl hlt ?_ | refine quiet_loadR rfl rfl hz1 (by rfl) ?_ | refine quiet_loadR rfl rfl hz2 (by rfl) ?_); go_big_quiet_on; simp only [Act.put, zs, zt, zu])
    | go_big_quiet_step (fail))
   refine wpQuiet_nil ?_
   rintro _ ⟨⟨w2, hb2⟩, rfl⟩
   replace hL := hL.call hb2
   clear hb2
   go_wp2_with fail
   go_roundw
   case rel => exact ⟨k + 1, by omega, by go_num, hL⟩
   case measure => simp [intOf]; omega
  ·obtain rfl : k = ps.length := by omega
   go_wp2_with (first | ((with_reducible refine qB rfl rfl ?_); (refine lC rfl hL rfl rfl vM (by rfl) ?_)))
   go_loopw [79] (fun i wr => ∃ k : Nat, k ≤ xs.length ∧ i = .int .i64 k ∧ Loc w NoM wr [var g3 [.int .i64 hd.id.boot, .int .i64 hd.id.n, .int .i64 hd.kind, .string hd.text, .int .i64 hd.attr.at_.boot, .int .i64 hd.attr.at_.n, .int .i64 hd.attr.mode, .int .u64 hd.attr.time, .int .i64 hd.size.at_.boot, .int .i64 hd.size.at_.n, .int .i64 hd.size.n, .slice a2 ps.length c2, .slice b2 xs.length e2] 58, var g2 [.int .i64 hd.id.boot, .int .i64 hd.id.n, .int .i64 hd.kind, .string hd.text, .int .i64 hd.attr.at_.boot, .int .i64 hd.attr.at_.n, .int .i64 hd.attr.mode, .int .u64 hd.attr.time, .int .i64 hd.size.at_.boot, .int .i64 hd.size.at_.n, .int .i64 hd.size.n, .slice a1 ps.length c1, .slice b1 xs.length e1] 58]) (fun i _ => xs.length - (intOf i).toNat)
   case atStart => exact ⟨0, by omega, rfl, hL⟩
   case round =>
    clear hL
    obtain ⟨k, hk, rfl, hL⟩ := hrel
    by_cases hlt : k < xs.length
    ·obtain ⟨q1, o1, rfl, r1⟩ := hx1 k hlt
     obtain ⟨q2, o2, rfl, r2⟩ := hx2 k hlt
     have hz1 : World.rangeAt _ q1 (o1 + k * 5) (Xat.cells xs[k]) := range_below r1 hL.below
     have hz2 : World.rangeAt _ q2 (o2 + k * 5) (Xat.cells xs[k]) := range_below r2 hL.below
     clear r1 r2
     have hne := xattr_ns xs[k]
     generalize xs[k] = q at *
     unfold Xat.cells at hz1 hz2 hne
     go_wp2_with fail
     refine wp_region_ext (by kernel_rfl) (by kernel_rfl) ?_
     repeat (first
    | (go_big_quiet_want; (first | refine qH hL rfl rfl vM (by rfl) ?_ | refine qG hL rfl rfl vM (by rfl) ?_ | refine qI hL rfl rfl vM SegC.seg ?_); go_big_quiet_on; simp only [Act.put, zs, zt, zu])
      | (go_big_quiet_want; (first | refine quiet_index rfl rfl rfl hlt ?_ | refine quiet_loadR rfl rfl hz1 (by rfl) ?_ | refine quiet_loadR rfl rfl hz2 (by rfl) ?_); go_big_quiet_on; simp only [Act.put, zs, zt, zu])
      | go_big_quiet_step (fail))
     refine wpQuiet_nil ?_
     rintro _ ⟨⟨w2, hb2⟩, rfl⟩
     replace hL := hL.call hb2
     clear hb2
     go_wp2_with fail
     go_roundw
     case rel => exact ⟨k + 1, by omega, by go_num, hL⟩
     case measure => simp [intOf]; omega
    ·obtain rfl : k = xs.length := by omega
     go_wp2_with fail
     go_ret
     exact ⟨rfl, hL.below⟩
end Go.Proofs.YtebpacmhdkgfeaaGreat

namespace Go.Proofs.YtebpacmhdkgfeaaGreat
open Go.RowKit
theorem node_ext {W : World} {e : Ext W} (i j : Ino) (d : InoD) (hi : i.Ok W d) (hj : j.Ok W d) : Calls Tryz.prog 38 #[.agg (Ino.cells i).toArray, .agg (Ino.cells j).toArray] e.w fun en w'' => en = .returned (.bool true) ∧ ∃ x : Ext W, w'' = x.w :=
 calls_ext (same_node i j d _ (hi.below e.ok) (hj.below e.ok))
set_option maxHeartbeats 8000000 in
theorem same_state (s t : Sta) (d : StaD) (w : World) (hs : s.Ok w d) (ht : t.Ok w d) :
  Calls Tryz.prog 11 #[.agg (Sta.cells s).toArray, .agg (Sta.cells t).toArray] w fun e w' => e = .returned (.bool true) ∧ Below w.heap.size w w' := by
 have hL := Loc.nil w NoM
 obtain ⟨ns1, hn1, ho1, hd1⟩ := hs.nodes
 obtain ⟨ns2, hn2, ho2, hd2⟩ := ht.nodes
 have hl1 : ns1.length = d.nodes.length := by rw [← hd1, List.length_map]
 have hl2 : ns2.length = d.nodes.length := by rw [← hd2, List.length_map]
 have hm1 : ns1.length ≤ 9223372036854775807 := R_max hn1
 have hm2 : d.links.length ≤ 9223372036854775807 := R_max hs.links
 have hsame : ∀ k (h1 : k < ns1.length) (h2 : k < ns2.length), ns1[k].d = ns2[k].d := fun k h1 h2 => by
  have e1 : (ns1.map (·.d))[k]? = (ns2.map (·.d))[k]? := by rw [hd1, hd2]
  simpa [h1, h2] using e1
 obtain ⟨a1, c1, e1, hp1⟩ := R_elem hn1
 obtain ⟨a2, c2, e2, hp2⟩ := R_elem hn2
 obtain ⟨b1, f1, e3, hx1⟩ := R_elem hs.links
 obtain ⟨b2, f2, e4, hx2⟩ := R_elem ht.links
 have he1 : s.seen = d.seen := hs.seen
 have he2 : t.seen = d.seen := ht.seen
 obtain ⟨sv, ⟨sa, sn, sc⟩, ⟨sb, sm, sf⟩⟩ := s
 obtain ⟨tv, ⟨ta, tn, tc⟩, ⟨tb, tm, tf⟩⟩ := t
 unfold Sl.val at e1 e2 e3 e4
 injection e1 with i1 i2 i3
 injection e2 with j1 j2 j3
 injection e3 with k1 k2 k3
 injection e4 with l1 l2 l3
 replace he1 : sv = d.seen := he1
 replace he2 : tv = d.seen := he2
 have hll : ns2.length = ns1.length := hl2.trans hl1.symm
 rw [hll] at j2
 subst i1 i2 i3 j1 j2 j3 k1 k2 k3 l1 l2 l3
 have HO1 := kD ho1
 have HO2 := kD ho2
 have HS := kD hsame
 have HLL := kD hll
 subst he1
 clear hs ht hn1 hn2 ho1 ho2 hd1 hd2 hsame hl1 hl2 hll
 have n1 := vec_ns d.seen
 rw [he2]
 clear he2
 generalize d.seen = v at *
 generalize d.links = ls at *
 replace hp1 : ∀ (i : Nat) (hi : i < ns1.length), ∃ g off, sa = some ⟨g, off, none⟩ ∧ w.rangeAt g (off + i * 13) (Ino.cells ns1[i].s) := hp1
 replace hp2 : ∀ (i : Nat) (hi : i < ns2.length), ∃ g off, ta = some ⟨g, off, none⟩ ∧ w.rangeAt g (off + i * 13) (Ino.cells ns2[i].s) := hp2
 replace hx1 : ∀ (i : Nat) (hi : i < ls.length), ∃ g off, sb = some ⟨g, off, none⟩ ∧ w.rangeAt g (off + i * 25) (Lnk.cells ls[i]) := hx1
 replace hx2 : ∀ (i : Nat) (hi : i < ls.length), ∃ g off, tb = some ⟨g, off, none⟩ ∧ w.rangeAt g (off + i * 25) (Lnk.cells ls[i]) := hx2
 unfold Sta.cells
 go_enter Tryz.func11, Tryz.ntmps11
 go_wp2_with (first | ((with_reducible refine gate (N := 2) rfl ?_); (refine lJ rfl hL rfl rfl cy ?_; clear hL; intro g2 w2 hL)) | ((with_reducible refine gate (N := 3) rfl ?_); (refine lJ rfl hL rfl rfl cy ?_; clear hL; intro g3 w3 hL)) | ((with_reducible refine qB rfl rfl ?_); (first | (refine lC rfl hL rfl rfl vM (by rfl) ?_) | (refine lF rfl hL rfl rfl vM SegC.seg ?_))) | ((with_reducible refine qA rfl rfl ?_ ?_); (exact wz rfl rfl rfl (by with_reducible rfl)); (refine lD (wz rfl rfl rfl rfl) hL rfl rfl vM (by rfl) ?_)))
 clear n1
 go_loopw [33] (fun i wr => ∃ k : Nat, k ≤ ns1.length ∧ i = .int .i64 k ∧ Loc w NoM wr [var g3 [.int .i64 v.a0, .int .i64 v.a1, .int .i64 v.a2, .int .i64 v.a3, .int .i64 v.a4, .int .i64 v.a5, .int .i64 v.a6, .int .i64 v.a7, .slice ta ns1.length tc, .slice tb ls.length tf] 27, var g2 [.int .i64 v.a0, .int .i64 v.a1, .int .i64 v.a2, .int .i64 v.a3, .int .i64 v.a4, .int .i64 v.a5, .int .i64 v.a6, .int .i64 v.a7, .slice sa ns1.length sc, .slice sb ls.length sf] 27]) (fun i _ => ns1.length - (intOf i).toNat)
 case atStart => exact ⟨0, by omega, rfl, hL⟩
 case round =>
  clear hL
  obtain ⟨k, hk, rfl, hL⟩ := hrel
  by_cases hlt : k < ns1.length
  ·have hlt2 : k < ns2.length := by have := HLL.out; omega
   obtain ⟨q1, o1, rfl, r1⟩ := hp1 k hlt
   obtain ⟨q2, o2, rfl, r2⟩ := hp2 k hlt2
   have hz1 : World.rangeAt _ q1 (o1 + k * 13) (Ino.cells ns1[k].s) := range_below r1 hL.below
   have hz2 : World.rangeAt _ q2 (o2 + k * 13) (Ino.cells ns2[k].s) := range_below r2 hL.below
   clear r1 r2
   have hk1 := (HO1.out _ (List.getElem_mem hlt)).below hL.below
   have hk2 := (HO2.out _ (List.getElem_mem hlt2)).below hL.below
   rw [← HS.out k hlt hlt2] at hk2
   have HK1 := kD hk1
   have HK2 := kD hk2
   clear hk1 hk2
   generalize ns1[k].d = dd at *
   generalize ns1[k].s = x1 at *
   generalize ns2[k].s = x2 at *
   go_wp2_with fail
   refine wp_region_ext (by kernel_rfl) (by kernel_rfl) ?_
   repeat (first
    | (go_big_quiet_want; (first | refine qH hL rfl rfl vM (by rfl) ?_ | refine qG hL rfl rfl vM (by rfl) ?_ | refine qI hL rfl rfl vM SegC.seg ?_); go_big_quiet_on; simp only [Act.put, zs, zt, zu])
    | (go_big_quiet_want; (first | refine quiet_index rfl rfl rfl hlt ?_ | refine quiet_loadR (cs := Ino.cells x1) rfl rfl (range_below hz1 (Below.refl _ _)) (by rfl) ?_ | refine quiet_loadR (cs := Ino.cells x2) rfl rfl (range_below hz2 (Below.refl _ _)) (by rfl) ?_); go_big_quiet_on; simp only [Act.put, zs, zt, zu])
    | go_big_quiet_step (first
     | (go_at_call 38; with_reducible exact node_ext x1 x2 dd HK1.out HK2.out)))
   refine wpQuiet_nil ?_
   rintro _ ⟨⟨w2, hb2⟩, rfl⟩
   replace hL := hL.call hb2
   clear hb2
   go_wp2_with fail
   go_roundw
   case rel => exact ⟨k + 1, by omega, by go_num, hL⟩
   case measure => simp [intOf]; omega
  ·obtain rfl : k = ns1.length := by omega
   go_wp2_with (first | ((with_reducible refine qB rfl rfl ?_); (refine lC rfl hL rfl rfl vM (by rfl) ?_)))
   go_loopw [52] (fun i wr => ∃ k : Nat, k ≤ ls.length ∧ i = .int .i64 k ∧ Loc w NoM wr [var g3 [.int .i64 v.a0, .int .i64 v.a1, .int .i64 v.a2, .int .i64 v.a3, .int .i64 v.a4, .int .i64 v.a5, .int .i64 v.a6, .int .i64 v.a7, .slice ta ns1.length tc, .slice tb ls.length tf] 27, var g2 [.int .i64 v.a0, .int .i64 v.a1, .int .i64 v.a2, .int .i64 v.a3, .int .i64 v.a4, .int .i64 v.a5, .int .i64 v.a6, .int .i64 v.a7, .slice sa ns1.length sc, .slice sb ls.length sf] 27]) (fun i _ => ls.length - (intOf i).toNat)
   case atStart => exact ⟨0, by omega, rfl, hL⟩
   case round =>
    clear hL
    obtain ⟨k, hk, rfl, hL⟩ := hrel
    by_cases hlt : k < ls.length
    ·obtain ⟨q1, o1, rfl, r1⟩ := hx1 k hlt
     obtain ⟨q2, o2, rfl, r2⟩ := hx2 k hlt
     have hz1 : World.rangeAt _ q1 (o1 + k * 25) (Lnk.cells ls[k]) := range_below r1 hL.below
     have hz2 : World.rangeAt _ q2 (o2 + k * 25) (Lnk.cells ls[k]) := range_below r2 hL.below
     clear r1 r2
     have hne := link_ns ls[k]
     generalize ls[k] = q at *
     go_wp2_with fail
     refine wp_region_ext (by kernel_rfl) (by kernel_rfl) ?_
     repeat (first
      | (go_big_quiet_want; (first | refine qH hL rfl rfl vM (by rfl) ?_ | refine qG hL rfl rfl vM (by rfl) ?_ | refine qI hL rfl rfl vM SegC.seg ?_); go_big_quiet_on; simp only [Act.put, zs, zt, zu])
      | (go_big_quiet_want; (first | refine quiet_index rfl rfl rfl hlt ?_ | refine quiet_loadR (cs := Lnk.cells q) rfl rfl (range_below hz1 (Below.refl _ _)) (by rfl) ?_ | refine quiet_loadR (cs := Lnk.cells q) rfl rfl (range_below hz2 (Below.refl _ _)) (by rfl) ?_); go_big_quiet_on; simp only [Act.put, zs, zt, zu])
      | go_big_quiet_step (fail))
     refine wpQuiet_nil ?_
     rintro _ ⟨⟨w2, hb2⟩, rfl⟩
     replace hL := hL.call hb2
     clear hb2
     go_wp2_with fail
     go_roundw
     case rel => exact ⟨k + 1, by omega, by go_num, hL⟩
     case measure => simp [intOf]; omega
    ·obtain rfl : k = ls.length := by omega
     go_wp2_with fail
     go_ret
     exact ⟨rfl, hL.below⟩
end Go.Proofs.YtebpacmhdkgfeaaGreat
