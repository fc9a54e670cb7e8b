/- Texts laid together: Pru3, EqJ, Fsm, Sma, JoQ, JoR. -/
import Derived.Test.YtebpacmhdkgfeaaJa5
set_option linter.unusedSimpArgs false
set_option linter.unusedVariables false
/- Package join: Prune of a state of one link that all know to be gone. -/
namespace Go.Proofs.Ytebpacmhdkgfeaa
open Go.RowKit Go.Maps Go.WideMaps
set_option maxHeartbeats 8000000
set_option maxRecDepth 100000
theorem idx_none (ao : Option Addr) (c : Nat) (fv : Value) (w : World) : Calls Try.prog 159 #[.slice ao 0 c, fv] w fun e w' => e = .returned (.int .i64 (-1)) ∧ w' = w := by
  go_enter Try.func159, Try.ntmps159
  go_wp2
  refine wp_loop_rounds 1 ?_
  rw [rounds_succ]
  go_wp2
  go_ret
  exact ⟨rfl, rfl⟩
theorem delete_none (ao : Option Addr) (c : Nat) (fv : Value) (w : World) : Calls Try.prog 120 #[.slice ao 0 c, fv] w fun e w' => e = .returned (.slice ao 0 c) ∧ w' = w := by
  have hq := Lib.hid (idx_none ao c fv w)
  go_enter Try.func120, Try.ntmps120
  go_wp2_with (go_at_call 159; (with_reducible refine hq.out.mono ?_); rintro e w9 ⟨rfl, rfl⟩)
  go_ret
  exact ⟨rfl, rfl⟩
theorem delete_ext {W : World} {e : Ext W} (ao : Option Addr) (c : Nat) (fv : Value) : Calls Try.prog 120 #[.slice ao 0 c, fv] e.w fun en w'' => en = .returned (.slice ao 0 c) ∧ ∃ z : Ext W, w'' = z.w :=
  calls_ext ((delete_none ao c fv e.w).mono fun _ _ ⟨h1, h2⟩ => ⟨h1, by rw [h2]; exact Below.refl _ _⟩)
theorem cut_nodes (sv st : V8) (na : Option Addr) (nc gc : Nat) (w0 w : World) (M : Nat → Prop) (l : List Item) (hL : Loc w0 M w (var gc [.int .i64 sv.a0, .int .i64 sv.a1, .int .i64 sv.a2, .int .i64 sv.a3, .int .i64 sv.a4, .int .i64 sv.a5, .int .i64 sv.a6, .int .i64 sv.a7, .slice na 0 nc, .slice none 0 0, .int .i64 st.a0, .int .i64 st.a1, .int .i64 st.a2, .int .i64 st.a3, .int .i64 st.a4, .int .i64 st.a5, .int .i64 st.a6, .int .i64 st.a7] 91 :: l)) :
    Calls Try.prog 56 #[.pointer (some ⟨gc, 0, none⟩)] w fun e w' => e = .returned (.tuple #[]) ∧ Loc w0 M w' (var gc [.int .i64 sv.a0, .int .i64 sv.a1, .int .i64 sv.a2, .int .i64 sv.a3, .int .i64 sv.a4, .int .i64 sv.a5, .int .i64 sv.a6, .int .i64 sv.a7, .slice na 0 nc, .slice none 0 0, .int .i64 st.a0, .int .i64 st.a1, .int .i64 st.a2, .int .i64 st.a3, .int .i64 st.a4, .int .i64 st.a5, .int .i64 st.a6, .int .i64 st.a7] 91 :: l) := by
  go_enter Try.func56, Try.ntmps56
  go_wp2_with (first
    | ((with_reducible refine gate (N := 1) rfl ?_); (refine lJ rfl hL rfl rfl cy ?_; clear hL; intro g1 w1 hL)) | ((with_reducible refine gate (N := 2) rfl ?_); (refine lI rfl hL rfl cy ?_; clear hL; intro g2 w2 hL))
    | ((with_reducible refine gate (N := 5) rfl ?_); refine ev_mkmap rfl hL rfl ?_; clear hL; intro gm wq hL)
    | ((with_reducible refine qD rfl rfl ?_); (refine lI rfl hL rfl cy ?_; clear hL; intro gq wq hL)) | ((with_reducible refine qE rfl rfl ?_); (refine lJ rfl hL rfl rfl cy ?_; clear hL; intro gq wq hL)) | ((with_reducible refine qB rfl rfl ?_); (first | (refine lC rfl hL rfl rfl HasV.mem (by rfl) ?_) | (refine lA rfl hL rfl rfl HasV.mem (by rfl) ?_) | (refine lF rfl hL rfl rfl HasV.mem SegC.seg ?_))) | ((with_reducible refine qC rfl rfl ?_); (first | (refine lH rfl hL rfl rfl rfl cy (by rfl) ?_) | (refine lG rfl hL rfl rfl rfl cy (by rfl) (by rfl) ?_)); clear hL; intro wq hL) | ((with_reducible refine qA rfl rfl ?_ ?_); (exact wz rfl rfl rfl (by with_reducible rfl)); (first | (refine lD (wz rfl rfl rfl rfl) hL rfl rfl HasV.mem (by rfl) ?_) | (refine lB (wz rfl rfl rfl rfl) hL rfl rfl HasV.mem (by rfl) ?_) | (refine lE (wz rfl rfl rfl rfl) hL rfl rfl HasV.mem SegC.seg ?_))))
  refine wp_loop_rounds 1 ?_
  rw [rounds_succ]
  go_wp2_with (first | ((with_reducible refine qD rfl rfl ?_); (refine lI rfl hL rfl cy ?_; clear hL; intro gq wq hL)) | ((with_reducible refine qE rfl rfl ?_); (refine lJ rfl hL rfl rfl cy ?_; clear hL; intro gq wq hL)) | ((with_reducible refine qB rfl rfl ?_); (first | (refine lC rfl hL rfl rfl HasV.mem (by rfl) ?_) | (refine lA rfl hL rfl rfl HasV.mem (by rfl) ?_) | (refine lF rfl hL rfl rfl HasV.mem SegC.seg ?_))) | ((with_reducible refine qC rfl rfl ?_); (first | (refine lH rfl hL rfl rfl rfl cy (by rfl) ?_) | (refine lG rfl hL rfl rfl rfl cy (by rfl) (by rfl) ?_)); clear hL; intro wq hL) | ((with_reducible refine qA rfl rfl ?_ ?_); (exact wz rfl rfl rfl (by with_reducible rfl)); (first | (refine lD (wz rfl rfl rfl rfl) hL rfl rfl HasV.mem (by rfl) ?_) | (refine lB (wz rfl rfl rfl rfl) hL rfl rfl HasV.mem (by rfl) ?_) | (refine lE (wz rfl rfl rfl rfl) hL rfl rfl HasV.mem SegC.seg ?_))))
  (try simp only [Act.put, zs, zt, zu])
  refine region_qtail 11 (by kernel_rfl) hL (by kernel_rfl) ?_
  clear hL
  intro w8 hL
  simp only [List.take_succ_cons, List.take_zero, List.drop_succ_cons, List.drop_zero]
  repeat (first
    | (go_big_quiet_want; (first | refine qH hL rfl rfl HasV.mem (by rfl) ?_ | refine qG hL rfl rfl HasV.mem (by rfl) ?_ | refine qI hL rfl rfl HasV.mem SegC.seg ?_); go_big_quiet_on; simp only [Act.put, zs, zt, zu])
    | go_big_quiet_step (first | (go_at_call 120; exact delete_ext na nc _)))
  refine wpQuiet_nil ?_
  rintro _ ⟨⟨w9, hb9⟩, rfl⟩
  replace hL := hL.call hb9
  clear hb9
  go_wp2_with (first | ((with_reducible refine qD rfl rfl ?_); (refine lI rfl hL rfl cy ?_; clear hL; intro gq wq hL)) | ((with_reducible refine qE rfl rfl ?_); (refine lJ rfl hL rfl rfl cy ?_; clear hL; intro gq wq hL)) | ((with_reducible refine qB rfl rfl ?_); (first | (refine lC rfl hL rfl rfl HasV.mem (by rfl) ?_) | (refine lA rfl hL rfl rfl HasV.mem (by rfl) ?_) | (refine lF rfl hL rfl rfl HasV.mem SegC.seg ?_))) | ((with_reducible refine qC rfl rfl ?_); (first | (refine lH rfl hL rfl rfl rfl cy (by rfl) ?_) | (refine lG rfl hL rfl rfl rfl cy (by rfl) (by rfl) ?_)); clear hL; intro wq hL) | ((with_reducible refine qA rfl rfl ?_ ?_); (exact wz rfl rfl rfl (by with_reducible rfl)); (first | (refine lD (wz rfl rfl rfl rfl) hL rfl rfl HasV.mem (by rfl) ?_) | (refine lB (wz rfl rfl rfl rfl) hL rfl rfl HasV.mem (by rfl) ?_) | (refine lE (wz rfl rfl rfl rfl) hL rfl rfl HasV.mem SegC.seg ?_))))
  go_end0
  refine ⟨rfl, hL.sub (by repeat (first | exact .refl _ | apply List.Sublist.cons))⟩
theorem join_prune1 (sv q : V8) (a1 la : Option Addr) (c1 lc0 : Nat) (l : Lnk) (w : World) (hn : encN.R w (.slice a1 0 c1) []) (hl : encK.R w (.slice la 1 lc0) [l]) (hat : l.at_ = l.id) (hal : l.alive.within l.dead = true) (h1 : l.alive.within (q.meet sv) = true) (h2 : l.dead.within (q.meet sv) = true) (h3 : (q.meet sv).has l.at_ = true)
    (hk : ∃ ly, keyOf Try.prog 34 (.agg #[.int .i64 l.node.boot, .int .i64 l.node.n]) = some ly) :
    Calls Try.prog 18 #[.agg ([.int .i64 sv.a0, .int .i64 sv.a1, .int .i64 sv.a2, .int .i64 sv.a3, .int .i64 sv.a4, .int .i64 sv.a5, .int .i64 sv.a6, .int .i64 sv.a7, .slice a1 0 c1, .slice la 1 lc0] : List Value).toArray, .agg #[.int .i64 q.a0, .int .i64 q.a1, .int .i64 q.a2, .int .i64 q.a3, .int .i64 q.a4, .int .i64 q.a5, .int .i64 q.a6, .int .i64 q.a7]] w fun e w' => (∃ na nc, e = .returned (.agg ([.int .i64 sv.a0, .int .i64 sv.a1, .int .i64 sv.a2, .int .i64 sv.a3, .int .i64 sv.a4, .int .i64 sv.a5, .int .i64 sv.a6, .int .i64 sv.a7, .slice na 0 nc, .slice none 0 0] : List Value).toArray)) ∧ Below w.heap.size w w' := by
  have hL := Loc.nil w NoM
  obtain ⟨st, hst⟩ : ∃ st, q.meet sv = st := ⟨_, rfl⟩
  rw [hst] at h1 h2 h3
  have HST := Lib.hid hst
  have HN := Lib.hid hn; have HL := Lib.hid hl
  have H0 := Lib.hid hat; have HAL := Lib.hid hal; have H1 := Lib.hid h1; have H2 := Lib.hid h2; have H3 := Lib.hid h3; have HK := Lib.hid hk
  clear hst hn hl hat hal h1 h2 h3 hk
  go_enter Try.func18, Try.ntmps18
  go_wp2_with (first | ((with_reducible refine gate (N := 2) rfl ?_); (refine lJ rfl hL rfl rfl cy ?_; clear hL; intro g2 w2 hL)) | ((with_reducible refine gate (N := 3) rfl ?_); (refine lJ rfl hL rfl rfl cy ?_; clear hL; intro g3 w3 hL)) | ((with_reducible refine gate (N := 4) rfl ?_); (refine lI rfl hL rfl cy ?_; clear hL; intro g4 w4 hL)) | ((with_reducible refine qD rfl rfl ?_); (refine lI rfl hL rfl cy ?_; clear hL; intro gq wq hL)) | ((with_reducible refine qE rfl rfl ?_); (refine lJ rfl hL rfl rfl cy ?_; clear hL; intro gq wq hL)) | ((with_reducible refine qB rfl rfl ?_); (first | (refine lC rfl hL rfl rfl HasV.mem (by rfl) ?_) | (refine lA rfl hL rfl rfl HasV.mem (by rfl) ?_) | (refine lF rfl hL rfl rfl HasV.mem SegC.seg ?_))) | ((with_reducible refine qC rfl rfl ?_); (first | (refine lH rfl hL rfl rfl rfl cy (by rfl) ?_) | (refine lG rfl hL rfl rfl rfl cy (by rfl) (by rfl) ?_)); clear hL; intro wq hL) | ((with_reducible refine qA rfl rfl ?_ ?_); (exact wz rfl rfl rfl (by with_reducible rfl)); (first | (refine lD (wz rfl rfl rfl rfl) hL rfl rfl HasV.mem (by rfl) ?_) | (refine lB (wz rfl rfl rfl rfl) hL rfl rfl HasV.mem (by rfl) ?_) | (refine lE (wz rfl rfl rfl rfl) hL rfl rfl HasV.mem SegC.seg ?_))))
  (try simp only [Act.put, zs, zt, zu])
  refine region_qtail 6 (by kernel_rfl) hL (by kernel_rfl) ?_
  clear hL
  intro w5 hL
  simp only [List.take_succ_cons, List.take_zero, List.drop_succ_cons, List.drop_zero]
  repeat (first
    | (go_big_quiet_want; (first | refine qH hL rfl rfl HasV.mem (by rfl) ?_ | refine qG hL rfl rfl HasV.mem (by rfl) ?_ | refine qI hL rfl rfl HasV.mem SegC.seg ?_); go_big_quiet_on; simp only [Act.put, zs, zt, zu])
    | go_big_quiet_step (first | (go_at_call 51; with_reducible exact meet_ext q sv st HST.out)))
  refine wpQuiet_nil ?_
  rintro _ ⟨⟨w6, hb6⟩, rfl⟩
  replace hL := hL.call hb6
  clear hb6
  go_wp2_with (first | ((with_reducible refine gate (N := 12) rfl ?_); (refine lJ rfl hL rfl rfl cy ?_; clear hL; intro g12 w12 hL)) | ((with_reducible refine qD rfl rfl ?_); (refine lI rfl hL rfl cy ?_; clear hL; intro gq wq hL)) | ((with_reducible refine qE rfl rfl ?_); (refine lJ rfl hL rfl rfl cy ?_; clear hL; intro gq wq hL)) | ((with_reducible refine qB rfl rfl ?_); (first | (refine lC rfl hL rfl rfl HasV.mem (by rfl) ?_) | (refine lA rfl hL rfl rfl HasV.mem (by rfl) ?_) | (refine lF rfl hL rfl rfl HasV.mem SegC.seg ?_))) | ((with_reducible refine qC rfl rfl ?_); (first | (refine lH rfl hL rfl rfl rfl cy (by rfl) ?_) | (refine lG rfl hL rfl rfl rfl cy (by rfl) (by rfl) ?_)); clear hL; intro wq hL) | ((with_reducible refine qA rfl rfl ?_ ?_); (exact wz rfl rfl rfl (by with_reducible rfl)); (first | (refine lD (wz rfl rfl rfl rfl) hL rfl rfl HasV.mem (by rfl) ?_) | (refine lB (wz rfl rfl rfl rfl) hL rfl rfl HasV.mem (by rfl) ?_) | (refine lE (wz rfl rfl rfl rfl) hL rfl rfl HasV.mem SegC.seg ?_))))
  (try simp only [Act.put, zs, zt, zu])
  refine region_held (fun wx => Box wx g2 ([.int .i64 sv.a0, .int .i64 sv.a1, .int .i64 sv.a2, .int .i64 sv.a3, .int .i64 sv.a4, .int .i64 sv.a5, .int .i64 sv.a6, .int .i64 sv.a7, .slice a1 0 c1, .slice la 1 lc0] : List Value).toArray 27) (by kernel_rfl) hL ?_
  clear hL
  intro w8 hL
  refine heldTake (i := 0) nx (by kernel_rfl) (by kernel_rfl) (by kernel_rfl) (by exact fun _ _ _ h => h) (y_moveG (.pointer (some ⟨g12, 0, none⟩)) (by rfl) rfl (by rfl)) (hL.box (g := g2) HasV.mem) ?_
  (try simp only [Act.put, zs, zt, zu])
  refine heldTake (i := 1) nx (by kernel_rfl) (by kernel_rfl) (by kernel_rfl) (by exact fun _ _ _ h => h) (y_moveG (.pointer (some ⟨g12, 0, none⟩)) (by rfl) rfl (by rfl)) (hL.box (g := g2) HasV.mem) ?_
  (try simp only [Act.put, zs, zt, zu])
  refine heldTake (i := 2) nx (by kernel_rfl) (by kernel_rfl) (by kernel_rfl) (by exact fun _ _ _ h => h) (y_pure (v := .pointer (some ⟨g2, 8, none⟩)) (by rfl) (fun w => by simp [execOp, Instr.fieldAt, go_sem])) (hL.box (g := g2) HasV.mem) ?_
  (try simp only [Act.put, zs, zt, zu])
  refine heldTake (i := 3) nx (by kernel_rfl) (by kernel_rfl) (by kernel_rfl) (by exact fun _ _ _ h => h) (y_loadCell (fun _ h => h) (by rfl) (by rfl) (by rfl) (by infer_instance) (by rfl)) (hL.box (g := g2) HasV.mem) ?_
  (try simp only [Act.put, zs, zt, zu])
  refine heldTake (i := 5) nx (by kernel_rfl) (by kernel_rfl) (by kernel_rfl) (by exact fun _ _ _ h => h) (y_pure (v := .pointer (some ⟨g2, 9, none⟩)) (by rfl) (fun w => by simp [execOp, Instr.fieldAt, go_sem])) (hL.box (g := g2) HasV.mem) ?_
  (try simp only [Act.put, zs, zt, zu])
  refine heldTake (i := 6) nx (by kernel_rfl) (by kernel_rfl) (by kernel_rfl) (by exact fun _ _ _ h => h) (y_loadCell (fun _ h => h) (by rfl) (by rfl) (by rfl) (by infer_instance) (by rfl)) (hL.box (g := g2) HasV.mem) ?_
  (try simp only [Act.put, zs, zt, zu])
  refine heldOne (i := 4) (by kernel_rfl) ?_
  refine heldCall (Nth.get nx) (by rfl) (enter1 Try.func52 (by kernel_rfl) (by kernel_rfl) (by rfl) (by rfl)) (clone_nodes (.slice a1 0 c1) [] _ (HN.out.below hL.below) (by simp)) ?_
  rintro e w9 ⟨u9, rfl, hL9⟩
  replace hL := hL.takeRow hL9
  clear hL9
  obtain ⟨na, nc, hu9, -⟩ := R_elem (hL.own (E := encN) (.head _)).read
  replace hu9 : u9 = .slice na 0 nc := hu9
  subst hu9
  refine ⟨_, rfl, (hL.box (g := g2) HasV.mem), ?_⟩
  (try simp only [Act.put, zs, zt, zu])
  refine heldOne (i := 7) (by kernel_rfl) ?_
  refine heldCall (Nth.get nx) (by rfl) (enter1 Try.func53 (by kernel_rfl) (by kernel_rfl) (by rfl) (by rfl)) (clone_links (.slice la 1 lc0) [l] _ (HL.out.below hL.below) (by simp)) ?_
  rintro e w10 ⟨u10, rfl, hL10⟩
  replace hL := hL.takeRow hL10
  clear hL10
  rcases own_casesG hL with ⟨-, e2⟩ | ⟨gl, lc, hu10, -, -, hgl⟩
  · cases e2
  replace hu10 : u10 = .slice (some ⟨gl, 0, none⟩) 1 lc := hu10
  subst hu10
  refine ⟨_, rfl, (hL.box (g := g2) HasV.mem), ?_⟩
  (try simp only [Act.put, zs, zt, zu])
  refine heldTake (i := 8) nx (by kernel_rfl) (by kernel_rfl) (by kernel_rfl) (by exact fun _ _ _ h => h) (y_pure (v := .pointer (some ⟨g12, 0, none⟩)) (by rfl) (fun w => by simp [execOp, go_sem])) (hL.box (g := g2) HasV.mem) ?_
  (try simp only [Act.put, zs, zt, zu])
  refine heldTake (i := 9) nx (by kernel_rfl) (by kernel_rfl) (by kernel_rfl) (by exact fun _ _ _ h => h) (y_pure (v := .pointer (some ⟨g12, 0, none⟩)) (by rfl) (fun w => by simp [execOp, Instr.fieldAt, go_sem])) (hL.box (g := g2) HasV.mem) ?_
  (try simp only [Act.put, zs, zt, zu])
  refine heldTake (i := 10) nx (by kernel_rfl) (by kernel_rfl) (by kernel_rfl) (by exact fun _ _ _ h => h) (y_pure (v := .pointer (some ⟨g12, 8, none⟩)) (by rfl) (fun w => by simp [execOp, Instr.fieldAt, go_sem])) (hL.box (g := g2) HasV.mem) ?_
  (try simp only [Act.put, zs, zt, zu])
  refine heldStore (i := 11) nx (by kernel_rfl) rfl hL rfl (by rfl) (by rfl) cy (by rfl) ?_
  clear hL; intro w11 hL
  refine ⟨(hL.box (g := g2) HasV.mem), ?_⟩
  (try simp only [Act.put, zs, zt, zu])
  refine heldTake (i := 12) nx (by kernel_rfl) (by kernel_rfl) (by kernel_rfl) (by exact fun _ _ _ h => h) (y_pure (v := .pointer (some ⟨g12, 0, none⟩)) (by rfl) (fun w => by simp [execOp, go_sem])) (hL.box (g := g2) HasV.mem) ?_
  (try simp only [Act.put, zs, zt, zu])
  refine heldTake (i := 13) nx (by kernel_rfl) (by kernel_rfl) (by kernel_rfl) (by exact fun _ _ _ h => h) (y_pure (v := .pointer (some ⟨g12, 0, none⟩)) (by rfl) (fun w => by simp [execOp, Instr.fieldAt, go_sem])) (hL.box (g := g2) HasV.mem) ?_
  (try simp only [Act.put, zs, zt, zu])
  refine heldTake (i := 14) nx (by kernel_rfl) (by kernel_rfl) (by kernel_rfl) (by exact fun _ _ _ h => h) (y_pure (v := .pointer (some ⟨g12, 9, none⟩)) (by rfl) (fun w => by simp [execOp, Instr.fieldAt, go_sem])) (hL.box (g := g2) HasV.mem) ?_
  (try simp only [Act.put, zs, zt, zu])
  refine heldStore (i := 15) nx (by kernel_rfl) rfl hL rfl (by rfl) (by rfl) cy (by rfl) ?_
  clear hL; intro w15 hL
  refine ⟨(hL.box (g := g2) HasV.mem), ?_⟩
  (try simp only [Act.put, zs, zt, zu])
  refine wpAnyH_done (by kernel_rfl) ?_ _
  replace hL := hL.sub (l' := [row encK w.heap.size 48 (.slice (some ⟨gl, 0, none⟩) 1 lc) [l], var g12 [.int .i64 sv.a0, .int .i64 sv.a1, .int .i64 sv.a2, .int .i64 sv.a3, .int .i64 sv.a4, .int .i64 sv.a5, .int .i64 sv.a6, .int .i64 sv.a7, .slice na 0 nc, .slice (some ⟨gl, 0, none⟩) 1 lc, .int .i64 st.a0, .int .i64 st.a1, .int .i64 st.a2, .int .i64 st.a3, .int .i64 st.a4, .int .i64 st.a5, .int .i64 st.a6, .int .i64 st.a7] 91, var g4 [.int .i64 0, .int .i64 0, .int .i64 0, .int .i64 0, .int .i64 0, .int .i64 0, .int .i64 0, .int .i64 0, .slice none 0 0, .slice none 0 0] 27]) (by repeat (first | exact List.nil_sublist _ | apply List.Sublist.cons_cons | apply List.Sublist.cons))
  replace hL := hL.comm
  go_wp2_with (first
    | (go_at_call 54; have hq := cut_moved ⟨⟨sv, ⟨na, 0, nc⟩, ⟨some ⟨gl, 0, none⟩, 1, lc⟩⟩, st⟩ l g12 _ (hL.box (g := g12) HasV.mem) (hL.own (E := encK) (.tail _ (.head _))).read H0.out; (with_reducible refine hq.mono ?_); rintro e w16 ⟨rfl, hb16⟩; clear hq; have hL := hL.call hb16; clear hb16)
    | (go_at_call 55; have hq := cut_links sv st ⟨na, 0, nc⟩ l gl lc g12 _ _ _ _ _ hL HAL.out H1.out H2.out H3.out HK.out; clear hL; (with_reducible refine hq.mono ?_); rintro e w17 ⟨rfl, hL⟩; clear hq)
    | (go_at_call 56; have hq := cut_nodes sv st na nc g12 _ _ _ _ hL; clear hL; (with_reducible refine hq.mono ?_); rintro e w18 ⟨rfl, hL⟩; clear hq)
    | ((with_reducible refine qD rfl rfl ?_); (refine lI rfl hL rfl cy ?_; clear hL; intro gq wq hL)) | ((with_reducible refine qE rfl rfl ?_); (refine lJ rfl hL rfl rfl cy ?_; clear hL; intro gq wq hL)) | ((with_reducible refine qB rfl rfl ?_); (first | (refine lC rfl hL rfl rfl HasV.mem (by rfl) ?_) | (refine lA rfl hL rfl rfl HasV.mem (by rfl) ?_) | (refine lF rfl hL rfl rfl HasV.mem SegC.seg ?_))) | ((with_reducible refine qC rfl rfl ?_); (first | (refine lH rfl hL rfl rfl rfl cy (by rfl) ?_) | (refine lG rfl hL rfl rfl rfl cy (by rfl) (by rfl) ?_)); clear hL; intro wq hL) | ((with_reducible refine qA rfl rfl ?_ ?_); (exact wz rfl rfl rfl (by with_reducible rfl)); (first | (refine lD (wz rfl rfl rfl rfl) hL rfl rfl HasV.mem (by rfl) ?_) | (refine lB (wz rfl rfl rfl rfl) hL rfl rfl HasV.mem (by rfl) ?_) | (refine lE (wz rfl rfl rfl rfl) hL rfl rfl HasV.mem SegC.seg ?_))))
  exact bodyPost_ret (res_cell rfl hL _ rfl HasV.mem (by rfl)) rfl ⟨⟨na, nc, rfl⟩, hL.below⟩
end Go.Proofs.Ytebpacmhdkgfeaa


/- Package facts: Same of states that say the same. -/
namespace Go.Proofs.Ytebpacmhdkgfeaa
open Go.RowKit
set_option maxHeartbeats 4000000
set_option maxRecDepth 20000
end Go.Proofs.Ytebpacmhdkgfeaa


/- Package facts: Same of states that say the same. -/
namespace Go.Proofs.Ytebpacmhdkgfeaa
open Go.RowKit
set_option maxHeartbeats 4000000
set_option maxRecDepth 20000
end Go.Proofs.Ytebpacmhdkgfeaa


/- crannogplain.Small: what it lets in. -/
namespace Go.Proofs.Ytebpacmhdkgfeaa
open Go.RowKit

/-- What crannogplain.Small lets in, as far as it is wanted. -/
structure StaD.plain (d : StaD) : Prop where
  nodes : d.nodes.length ≤ 120
  links : d.links.length ≤ 120
  ps : ∀ n ∈ d.nodes, n.ps.length ≤ 120
  xs : ∀ n ∈ d.nodes, n.xs.length ≤ 120
set_option maxHeartbeats 4000000 in
theorem small_big (s : Sta) (d : StaD) (w : World) (hO : s.Ok w d) (h : 120 < d.nodes.length ∨ 120 < d.links.length) :
    Calls Try.prog 20 #[.agg s.cells.toArray] w fun e w' => e = .returned (.bool false) ∧ Below w.heap.size w w' := by
  have hL := Loc.nil w NoM
  obtain ⟨ns, hns, -, hds⟩ := hO.nodes
  obtain ⟨aon, cn, en, -⟩ := R_elem hns
  obtain ⟨aol, cl, el, -⟩ := R_elem hO.links
  have hnl : ns.length = d.nodes.length := by rw [← hds, List.length_map]
  rw [hnl] at en
  have en1 : s.nodes.a = aon ∧ s.nodes.n = d.nodes.length ∧ s.nodes.c = cn := by unfold Sl.val at en; injection en with a b c; exact ⟨a, b, c⟩
  have el1 : s.links.a = aol ∧ s.links.n = d.links.length ∧ s.links.c = cl := by unfold Sl.val at el; injection el with a b c; exact ⟨a, b, c⟩
  obtain ⟨r1, r2, r3⟩ := en1
  obtain ⟨r4, r5, r6⟩ := el1
  unfold Sta.cells
  rw [r1, r2, r3, r4, r5, r6]
  generalize d.nodes.length = n at *
  generalize d.links.length = m at *
  clear hO hns hds en el hnl r1 r2 r3 r4 r5 r6
  by_cases h1 : 120 < n
  · have t1 : decide ((120 : Int) < (n : Int)) = true := (by first | (simp; done) | (simp; omega))
    go_enter Try.func20, Try.ntmps20
    go_wp2_with (first | ((with_reducible refine qD rfl rfl ?_); (refine lI rfl hL rfl cy ?_; clear hL; intro gq wq hL)) | ((with_reducible refine qE rfl rfl ?_); (refine lJ rfl hL rfl rfl cy ?_; clear hL; intro gq wq hL)) | ((with_reducible refine qB rfl rfl ?_); (first | (refine lC rfl hL rfl rfl HasV.mem (by rfl) ?_) | (refine lA rfl hL rfl rfl HasV.mem (by rfl) ?_) | (refine lF rfl hL rfl rfl HasV.mem SegC.seg ?_))) | ((with_reducible refine qC rfl rfl ?_); (first | (refine lH rfl hL rfl rfl rfl cy (by rfl) ?_) | (refine lG rfl hL rfl rfl rfl cy (by rfl) (by rfl) ?_)); clear hL; intro wq hL) | ((with_reducible refine qA rfl rfl ?_ ?_); (exact wz rfl rfl rfl (by with_reducible rfl)); (first | (refine lD (wz rfl rfl rfl rfl) hL rfl rfl HasV.mem (by rfl) ?_) | (refine lB (wz rfl rfl rfl rfl) hL rfl rfl HasV.mem (by rfl) ?_) | (refine lE (wz rfl rfl rfl rfl) hL rfl rfl HasV.mem SegC.seg ?_))))
    go_ret
    exact ⟨rfl, hL.below⟩
  · have h2 : 120 < m := by omega
    have t1 : decide ((120 : Int) < (n : Int)) = false := (by first | (simp; done) | (simp; omega))
    have t2 : decide ((120 : Int) < (m : Int)) = true := (by first | (simp; done) | (simp; omega))
    clear h
    go_enter Try.func20, Try.ntmps20
    go_wp2_with (first | ((with_reducible refine qD rfl rfl ?_); (refine lI rfl hL rfl cy ?_; clear hL; intro gq wq hL)) | ((with_reducible refine qE rfl rfl ?_); (refine lJ rfl hL rfl rfl cy ?_; clear hL; intro gq wq hL)) | ((with_reducible refine qB rfl rfl ?_); (first | (refine lC rfl hL rfl rfl HasV.mem (by rfl) ?_) | (refine lA rfl hL rfl rfl HasV.mem (by rfl) ?_) | (refine lF rfl hL rfl rfl HasV.mem SegC.seg ?_))) | ((with_reducible refine qC rfl rfl ?_); (first | (refine lH rfl hL rfl rfl rfl cy (by rfl) ?_) | (refine lG rfl hL rfl rfl rfl cy (by rfl) (by rfl) ?_)); clear hL; intro wq hL) | ((with_reducible refine qA rfl rfl ?_ ?_); (exact wz rfl rfl rfl (by with_reducible rfl)); (first | (refine lD (wz rfl rfl rfl rfl) hL rfl rfl HasV.mem (by rfl) ?_) | (refine lB (wz rfl rfl rfl rfl) hL rfl rfl HasV.mem (by rfl) ?_) | (refine lE (wz rfl rfl rfl rfl) hL rfl rfl HasV.mem SegC.seg ?_))))
    go_ret
    exact ⟨rfl, hL.below⟩
set_option maxHeartbeats 8000000 in
theorem small_in (s : Sta) (d : StaD) (w : World) (hO : s.Ok w d) (hn0 : d.nodes.length ≤ 120) (hl0 : d.links.length ≤ 120) :
    Calls Try.prog 20 #[.agg s.cells.toArray] w fun e w' => (∃ b, e = .returned (.bool b) ∧ (b = true → d.plain)) ∧ Below w.heap.size w w' := by
  have hL := Loc.nil w NoM
  obtain ⟨ns, hns, hok, hds⟩ := hO.nodes
  obtain ⟨aon, cn, en, heln⟩ := R_elem hns
  obtain ⟨aol, cl, el, hell⟩ := R_elem hO.links
  have en1 : s.nodes.a = aon ∧ s.nodes.n = ns.length ∧ s.nodes.c = cn := by unfold Sl.val at en; injection en with a b c; exact ⟨a, b, c⟩
  have el1 : s.links.a = aol ∧ s.links.n = d.links.length ∧ s.links.c = cl := by unfold Sl.val at el; injection el with a b c; exact ⟨a, b, c⟩
  have HK := Lib.hid hok
  have HD : Hid ((∀ n ∈ ns, n.d.ps.length ≤ 120 ∧ n.d.xs.length ≤ 120) → d.plain) := Lib.hid (fun h => ⟨hn0, hl0, fun n hn => by
    rw [← hds] at hn; obtain ⟨q, hq, rfl⟩ := List.mem_map.1 hn; exact (h q hq).1, fun n hn => by
    rw [← hds] at hn; obtain ⟨q, hq, rfl⟩ := List.mem_map.1 hn; exact (h q hq).2⟩)
  have hn1 : ns.length ≤ 120 := by rw [← hds, List.length_map] at hn0; exact hn0
  obtain ⟨r1, r2, r3⟩ := en1
  obtain ⟨r4, r5, r6⟩ := el1
  unfold Sta.cells
  rw [r1, r2, r3, r4, r5, r6]
  clear hO hns en el r1 r2 r3 r4 r5 r6 hok hds hn0
  have t1 : decide ((120 : Int) < (ns.length : Int)) = false := (by first | (simp; done) | (simp; omega))
  have t2 : decide ((120 : Int) < (d.links.length : Int)) = false := (by first | (simp; done) | (simp; omega))
  generalize d.links = ls at *
  go_enter Try.func20, Try.ntmps20
  go_wp2_with (first | ((with_reducible refine gate (N := 1) rfl ?_); (refine lJ rfl hL rfl rfl cy ?_; clear hL; intro g1 w1 hL)) | ((with_reducible refine qD rfl rfl ?_); (refine lI rfl hL rfl cy ?_; clear hL; intro gq wq hL)) | ((with_reducible refine qE rfl rfl ?_); (refine lJ rfl hL rfl rfl cy ?_; clear hL; intro gq wq hL)) | ((with_reducible refine qB rfl rfl ?_); (first | (refine lC rfl hL rfl rfl HasV.mem (by rfl) ?_) | (refine lA rfl hL rfl rfl HasV.mem (by rfl) ?_) | (refine lF rfl hL rfl rfl HasV.mem SegC.seg ?_))) | ((with_reducible refine qC rfl rfl ?_); (first | (refine lH rfl hL rfl rfl rfl cy (by rfl) ?_) | (refine lG rfl hL rfl rfl rfl cy (by rfl) (by rfl) ?_)); clear hL; intro wq hL) | ((with_reducible refine qA rfl rfl ?_ ?_); (exact wz rfl rfl rfl (by with_reducible rfl)); (first | (refine lD (wz rfl rfl rfl rfl) hL rfl rfl HasV.mem (by rfl) ?_) | (refine lB (wz rfl rfl rfl rfl) hL rfl rfl HasV.mem (by rfl) ?_) | (refine lE (wz rfl rfl rfl rfl) hL rfl rfl HasV.mem SegC.seg ?_))))
  clear t1 t2
  have HP : Hid (∀ n ∈ ns.take 0, n.d.ps.length ≤ 120 ∧ n.d.xs.length ≤ 120) := Lib.hid (by simp)
  go_loopw [3, 25] (fun sv i wr => ∃ (k : Nat) (m : Int), k ≤ ns.length ∧ i = .int .i64 k ∧ sv = .int .i64 m ∧ 0 ≤ m ∧ m ≤ 16384 ∧ Hid (∀ n ∈ ns.take k, n.d.ps.length ≤ 120 ∧ n.d.xs.length ≤ 120) ∧ Loc w NoM wr [var g1 [.int .i64 s.seen.a0, .int .i64 s.seen.a1, .int .i64 s.seen.a2, .int .i64 s.seen.a3, .int .i64 s.seen.a4, .int .i64 s.seen.a5, .int .i64 s.seen.a6, .int .i64 s.seen.a7, .slice aon ns.length cn, .slice aol ls.length cl] 27]) (fun _ i _ => ns.length - (intOf i).toNat)
  case atStart => exact ⟨0, 0, by omega, rfl, rfl, by omega, by omega, HP, hL⟩
  case round =>
    clear hL HP
    obtain ⟨k, m, hk, rfl, rfl, hm0, hm1, HP, hL⟩ := hrel
    by_cases hlt : k < ns.length
    · obtain ⟨g, off, rfl, hr⟩ := heln k hlt
      have hrW : wr.rangeAt g (off + k * 13) (Ino.cells ns[k].s) := range_below hr hL.below
      clear hr
      have hoq : ns[k].s.Ok w ns[k].d := HK.out _ (List.getElem_mem hlt)
      have HP2 : Hid (ns[k].d.ps.length ≤ 120 → ns[k].d.xs.length ≤ 120 → ∀ n ∈ ns.take (k + 1), n.d.ps.length ≤ 120 ∧ n.d.xs.length ≤ 120) := Lib.hid (fun a b n hn => by
        rw [(List.take_append_getElem hlt).symm, List.mem_append, List.mem_singleton] at hn
        rcases hn with hn | rfl
        · exact HP.out n hn
        · exact ⟨a, b⟩)
      clear HP
      generalize ns[k] = q at *
      obtain ⟨aop, cp, ep, help⟩ := R_elem hoq.ps
      obtain ⟨aox, cx, ex, helx⟩ := R_elem hoq.xs
      obtain ⟨⟨hd, p, x⟩, ⟨hd2, ps, xs⟩⟩ := q
      simp only [Sl.val] at ep ex
      have ep1 : p.a = aop ∧ p.n = ps.length ∧ p.c = cp := by injection ep with a b c; exact ⟨a, b, c⟩
      have ex1 : x.a = aox ∧ x.n = xs.length ∧ x.c = cx := by injection ex with a b c; exact ⟨a, b, c⟩
      clear ep ex hoq
      simp only [Ino.cells] at hrW
      rw [ep1.1, ep1.2.1, ep1.2.2, ex1.1, ex1.2.1, ex1.2.2] at hrW
      clear ep1 ex1
      replace HP2 : Hid (ps.length ≤ 120 → xs.length ≤ 120 → ∀ n ∈ ns.take (k + 1), n.d.ps.length ≤ 120 ∧ n.d.xs.length ≤ 120) := HP2
      replace help : ∀ (i : Nat) (hi : i < ps.length), ∃ g off, aop = some ⟨g, off, none⟩ ∧ w.rangeAt g (off + i * 4) (Pce.cells ps[i]) := help
      replace helx : ∀ (i : Nat) (hi : i < xs.length), ∃ g off, aox = some ⟨g, off, none⟩ ∧ w.rangeAt g (off + i * 5) (Xat.cells xs[i]) := helx
      go_upto_region 7 with (first | ((with_reducible refine gate (N := 5) rfl ?_); (refine lI rfl hL rfl cy ?_; clear hL; intro g5 w5 hL)) | ((with_reducible refine qF rfl rfl ?_); refine lL rfl rfl rfl rfl hlt ?_) | ((with_reducible refine gate (N := 28) rfl ?_); refine lK rfl rfl rfl hrW (by rfl) ?_) | ((with_reducible refine qD rfl rfl ?_); (refine lI rfl hL rfl cy ?_; clear hL; intro gq wq hL)) | ((with_reducible refine qE rfl rfl ?_); (refine lJ rfl hL rfl rfl cy ?_; clear hL; intro gq wq hL)) | ((with_reducible refine qB rfl rfl ?_); (first | (refine lC rfl hL rfl rfl HasV.mem (by rfl) ?_) | (refine lA rfl hL rfl rfl HasV.mem (by rfl) ?_) | (refine lF rfl hL rfl rfl HasV.mem SegC.seg ?_))) | ((with_reducible refine qC rfl rfl ?_); (first | (refine lH rfl hL rfl rfl rfl cy (by rfl) ?_) | (refine lG rfl hL rfl rfl rfl cy (by rfl) (by rfl) ?_)); clear hL; intro wq hL) | ((with_reducible refine qA rfl rfl ?_ ?_); (exact wz rfl rfl rfl (by with_reducible rfl)); (first | (refine lD (wz rfl rfl rfl rfl) hL rfl rfl HasV.mem (by rfl) ?_) | (refine lB (wz rfl rfl rfl rfl) hL rfl rfl HasV.mem (by rfl) ?_) | (refine lE (wz rfl rfl rfl rfl) hL rfl rfl HasV.mem SegC.seg ?_))))
      simp only [Act.put, zs, zt, zu]
      go_cut [3] (fun sv wx => ∃ m2 : Int, sv = .int .i64 m2 ∧ 0 ≤ m2 ∧ m2 ≤ 32768 ∧ wx = wq)
      case first =>
        go_wp2_with (first | ((with_reducible refine qD rfl rfl ?_); (refine lI rfl hL rfl cy ?_; clear hL; intro gq wq hL)) | ((with_reducible refine qE rfl rfl ?_); (refine lJ rfl hL rfl rfl cy ?_; clear hL; intro gq wq hL)) | ((with_reducible refine qB rfl rfl ?_); (first | (refine lC rfl hL rfl rfl HasV.mem (by rfl) ?_) | (refine lA rfl hL rfl rfl HasV.mem (by rfl) ?_) | (refine lF rfl hL rfl rfl HasV.mem SegC.seg ?_))) | ((with_reducible refine qC rfl rfl ?_); (first | (refine lH rfl hL rfl rfl rfl cy (by rfl) ?_) | (refine lG rfl hL rfl rfl rfl cy (by rfl) (by rfl) ?_)); clear hL; intro wq hL) | ((with_reducible refine qA rfl rfl ?_ ?_); (exact wz rfl rfl rfl (by with_reducible rfl)); (first | (refine lD (wz rfl rfl rfl rfl) hL rfl rfl HasV.mem (by rfl) ?_) | (refine lB (wz rfl rfl rfl rfl) hL rfl rfl HasV.mem (by rfl) ?_) | (refine lE (wz rfl rfl rfl rfl) hL rfl rfl HasV.mem SegC.seg ?_))))
        all_goals go_meet
        all_goals exact ⟨_, rfl, by omega, by omega, rfl⟩
      case rest =>
      obtain ⟨m2, rfl, hm20, hm21, rfl⟩ := hcut
      by_cases c1 : 120 < ps.length
      · have t1 : decide ((120 : Int) < (ps.length : Int)) = true := (by first | (simp; done) | (simp; omega))
        go_wp2_with (first | ((with_reducible refine qD rfl rfl ?_); (refine lI rfl hL rfl cy ?_; clear hL; intro gq wq hL)) | ((with_reducible refine qE rfl rfl ?_); (refine lJ rfl hL rfl rfl cy ?_; clear hL; intro gq wq hL)) | ((with_reducible refine qB rfl rfl ?_); (first | (refine lC rfl hL rfl rfl HasV.mem (by rfl) ?_) | (refine lA rfl hL rfl rfl HasV.mem (by rfl) ?_) | (refine lF rfl hL rfl rfl HasV.mem SegC.seg ?_))) | ((with_reducible refine qC rfl rfl ?_); (first | (refine lH rfl hL rfl rfl rfl cy (by rfl) ?_) | (refine lG rfl hL rfl rfl rfl cy (by rfl) (by rfl) ?_)); clear hL; intro wq hL) | ((with_reducible refine qA rfl rfl ?_ ?_); (exact wz rfl rfl rfl (by with_reducible rfl)); (first | (refine lD (wz rfl rfl rfl rfl) hL rfl rfl HasV.mem (by rfl) ?_) | (refine lB (wz rfl rfl rfl rfl) hL rfl rfl HasV.mem (by rfl) ?_) | (refine lE (wz rfl rfl rfl rfl) hL rfl rfl HasV.mem SegC.seg ?_))))
        go_ret
        exact ⟨⟨false, rfl, by simp⟩, hL.below⟩
      by_cases c2 : 120 < xs.length
      · have t1 : decide ((120 : Int) < (ps.length : Int)) = false := (by first | (simp; done) | (simp; omega))
        have t2 : decide ((120 : Int) < (xs.length : Int)) = true := (by first | (simp; done) | (simp; omega))
        go_wp2_with (first | ((with_reducible refine qD rfl rfl ?_); (refine lI rfl hL rfl cy ?_; clear hL; intro gq wq hL)) | ((with_reducible refine qE rfl rfl ?_); (refine lJ rfl hL rfl rfl cy ?_; clear hL; intro gq wq hL)) | ((with_reducible refine qB rfl rfl ?_); (first | (refine lC rfl hL rfl rfl HasV.mem (by rfl) ?_) | (refine lA rfl hL rfl rfl HasV.mem (by rfl) ?_) | (refine lF rfl hL rfl rfl HasV.mem SegC.seg ?_))) | ((with_reducible refine qC rfl rfl ?_); (first | (refine lH rfl hL rfl rfl rfl cy (by rfl) ?_) | (refine lG rfl hL rfl rfl rfl cy (by rfl) (by rfl) ?_)); clear hL; intro wq hL) | ((with_reducible refine qA rfl rfl ?_ ?_); (exact wz rfl rfl rfl (by with_reducible rfl)); (first | (refine lD (wz rfl rfl rfl rfl) hL rfl rfl HasV.mem (by rfl) ?_) | (refine lB (wz rfl rfl rfl rfl) hL rfl rfl HasV.mem (by rfl) ?_) | (refine lE (wz rfl rfl rfl rfl) hL rfl rfl HasV.mem SegC.seg ?_))))
        go_ret
        exact ⟨⟨false, rfl, by simp⟩, hL.below⟩
      have HQ := Lib.hid (HP2.out (by omega) (by omega))
      have t1 : decide ((120 : Int) < (ps.length : Int)) = false := (by first | (simp; done) | (simp; omega))
      have t2 : decide ((120 : Int) < (xs.length : Int)) = false := (by first | (simp; done) | (simp; omega))
      clear HP2
      go_wp2_with (first | ((with_reducible refine qD rfl rfl ?_); (refine lI rfl hL rfl cy ?_; clear hL; intro gq wq hL)) | ((with_reducible refine qE rfl rfl ?_); (refine lJ rfl hL rfl rfl cy ?_; clear hL; intro gq wq hL)) | ((with_reducible refine qB rfl rfl ?_); (first | (refine lC rfl hL rfl rfl HasV.mem (by rfl) ?_) | (refine lA rfl hL rfl rfl HasV.mem (by rfl) ?_) | (refine lF rfl hL rfl rfl HasV.mem SegC.seg ?_))) | ((with_reducible refine qC rfl rfl ?_); (first | (refine lH rfl hL rfl rfl rfl cy (by rfl) ?_) | (refine lG rfl hL rfl rfl rfl cy (by rfl) (by rfl) ?_)); clear hL; intro wq hL) | ((with_reducible refine qA rfl rfl ?_ ?_); (exact wz rfl rfl rfl (by with_reducible rfl)); (first | (refine lD (wz rfl rfl rfl rfl) hL rfl rfl HasV.mem (by rfl) ?_) | (refine lB (wz rfl rfl rfl rfl) hL rfl rfl HasV.mem (by rfl) ?_) | (refine lE (wz rfl rfl rfl rfl) hL rfl rfl HasV.mem SegC.seg ?_))))
      clear t1 t2 hrW
      go_loopw [3, 48] (fun sv i wr => ∃ (j : Nat) (m : Int), j ≤ ps.length ∧ i = .int .i64 j ∧ sv = .int .i64 m ∧ 0 ≤ m ∧ m ≤ 32768 + j * 16385 ∧ Loc w NoM wr [var g5 [.int .i64 hd.id.boot, .int .i64 hd.id.n, .int .i64 hd.kind, .string hd.text, .int .i64 hd.attr.at_.boot, .int .i64 hd.attr.at_.n, .int .i64 hd.attr.mode, .int .u64 hd.attr.time, .int .i64 hd.size.at_.boot, .int .i64 hd.size.at_.n, .int .i64 hd.size.n, .slice aop ps.length cp, .slice aox xs.length cx] 43, var g1 [.int .i64 s.seen.a0, .int .i64 s.seen.a1, .int .i64 s.seen.a2, .int .i64 s.seen.a3, .int .i64 s.seen.a4, .int .i64 s.seen.a5, .int .i64 s.seen.a6, .int .i64 s.seen.a7, .slice (some ⟨g, off, none⟩) ns.length cn, .slice aol ls.length cl] 27]) (fun _ i _ => ps.length - (intOf i).toNat)
      case atStart => exact ⟨0, m2, by omega, rfl, rfl, by omega, by omega, hL⟩
      case round =>
        clear hL
        obtain ⟨j, m, hj, rfl, rfl, hm0, hm1, hL⟩ := hrel
        by_cases hlj : j < ps.length
        · obtain ⟨g2, off2, rfl, hr⟩ := help j hlj
          have hrW : World.rangeAt _ g2 (off2 + j * 4) (Pce.cells ps[j]) := range_below hr hL.below
          clear hr
          generalize ps[j] = q at *
          have hqs : 0 ≤ (q.data.size : Int) := by omega
          go_wp2_with (first
            | ((with_reducible refine qF rfl rfl ?_); refine lL rfl rfl rfl rfl hlj ?_) | ((with_reducible refine gate (N := 51) rfl ?_); refine lK rfl rfl rfl hrW (by rfl) ?_) | ((with_reducible refine qD rfl rfl ?_); (refine lI rfl hL rfl cy ?_; clear hL; intro gq wq hL)) | ((with_reducible refine qE rfl rfl ?_); (refine lJ rfl hL rfl rfl cy ?_; clear hL; intro gq wq hL)) | ((with_reducible refine qB rfl rfl ?_); (first | (refine lC rfl hL rfl rfl HasV.mem (by rfl) ?_) | (refine lA rfl hL rfl rfl HasV.mem (by rfl) ?_) | (refine lF rfl hL rfl rfl HasV.mem SegC.seg ?_))) | ((with_reducible refine qC rfl rfl ?_); (first | (refine lH rfl hL rfl rfl rfl cy (by rfl) ?_) | (refine lG rfl hL rfl rfl rfl cy (by rfl) (by rfl) ?_)); clear hL; intro wq hL) | ((with_reducible refine qA rfl rfl ?_ ?_); (exact wz rfl rfl rfl (by with_reducible rfl)); (first | (refine lD (wz rfl rfl rfl rfl) hL rfl rfl HasV.mem (by rfl) ?_) | (refine lB (wz rfl rfl rfl rfl) hL rfl rfl HasV.mem (by rfl) ?_) | (refine lE (wz rfl rfl rfl rfl) hL rfl rfl HasV.mem SegC.seg ?_))))
          all_goals (go_roundw; (case rel => exact ⟨j + 1, _, by omega, by go_num, rfl, by omega, by omega, hL.sub (by repeat (first | exact List.nil_sublist _ | with_reducible apply List.Sublist.cons_cons | with_reducible apply List.Sublist.cons))⟩); (case measure => simp [intOf]; omega))
        · obtain rfl : j = ps.length := by omega
          go_wp2_with (first | ((with_reducible refine qD rfl rfl ?_); (refine lI rfl hL rfl cy ?_; clear hL; intro gq wq hL)) | ((with_reducible refine qE rfl rfl ?_); (refine lJ rfl hL rfl rfl cy ?_; clear hL; intro gq wq hL)) | ((with_reducible refine qB rfl rfl ?_); (first | (refine lC rfl hL rfl rfl HasV.mem (by rfl) ?_) | (refine lA rfl hL rfl rfl HasV.mem (by rfl) ?_) | (refine lF rfl hL rfl rfl HasV.mem SegC.seg ?_))) | ((with_reducible refine qC rfl rfl ?_); (first | (refine lH rfl hL rfl rfl rfl cy (by rfl) ?_) | (refine lG rfl hL rfl rfl rfl cy (by rfl) (by rfl) ?_)); clear hL; intro wq hL) | ((with_reducible refine qA rfl rfl ?_ ?_); (exact wz rfl rfl rfl (by with_reducible rfl)); (first | (refine lD (wz rfl rfl rfl rfl) hL rfl rfl HasV.mem (by rfl) ?_) | (refine lB (wz rfl rfl rfl rfl) hL rfl rfl HasV.mem (by rfl) ?_) | (refine lE (wz rfl rfl rfl rfl) hL rfl rfl HasV.mem SegC.seg ?_))))
          go_loopw [3, 63] (fun sv i wr => ∃ (j : Nat) (m : Int), j ≤ xs.length ∧ i = .int .i64 j ∧ sv = .int .i64 m ∧ 0 ≤ m ∧ m ≤ 3000000 + j * 32769 ∧ Loc w NoM wr [var g1 [.int .i64 s.seen.a0, .int .i64 s.seen.a1, .int .i64 s.seen.a2, .int .i64 s.seen.a3, .int .i64 s.seen.a4, .int .i64 s.seen.a5, .int .i64 s.seen.a6, .int .i64 s.seen.a7, .slice (some ⟨g, off, none⟩) ns.length cn, .slice aol ls.length cl] 27]) (fun _ i _ => xs.length - (intOf i).toNat)
          case atStart => exact ⟨0, m, by omega, rfl, rfl, by omega, by omega, hL.sub (by repeat (first | exact List.nil_sublist _ | with_reducible apply List.Sublist.cons_cons | with_reducible apply List.Sublist.cons))⟩
          case round =>
            clear hL
            obtain ⟨j, m, hj, rfl, rfl, hm0, hm1, hL⟩ := hrel
            by_cases hlj : j < xs.length
            · obtain ⟨g3, off3, rfl, hr⟩ := helx j hlj
              have hrW : World.rangeAt _ g3 (off3 + j * 5) (Xat.cells xs[j]) := range_below hr hL.below
              clear hr
              generalize xs[j] = q at *
              have hqs : 0 ≤ (q.name.size : Int) := by omega
              have hqs2 : 0 ≤ (q.val.size : Int) := by omega
              go_wp2_with (first
                | ((with_reducible refine qF rfl rfl ?_); refine lL rfl rfl rfl rfl hlj ?_) | ((with_reducible refine gate (N := 66) rfl ?_); refine lK rfl rfl rfl hrW (by rfl) ?_) | ((with_reducible refine qD rfl rfl ?_); (refine lI rfl hL rfl cy ?_; clear hL; intro gq wq hL)) | ((with_reducible refine qE rfl rfl ?_); (refine lJ rfl hL rfl rfl cy ?_; clear hL; intro gq wq hL)) | ((with_reducible refine qB rfl rfl ?_); (first | (refine lC rfl hL rfl rfl HasV.mem (by rfl) ?_) | (refine lA rfl hL rfl rfl HasV.mem (by rfl) ?_) | (refine lF rfl hL rfl rfl HasV.mem SegC.seg ?_))) | ((with_reducible refine qC rfl rfl ?_); (first | (refine lH rfl hL rfl rfl rfl cy (by rfl) ?_) | (refine lG rfl hL rfl rfl rfl cy (by rfl) (by rfl) ?_)); clear hL; intro wq hL) | ((with_reducible refine qA rfl rfl ?_ ?_); (exact wz rfl rfl rfl (by with_reducible rfl)); (first | (refine lD (wz rfl rfl rfl rfl) hL rfl rfl HasV.mem (by rfl) ?_) | (refine lB (wz rfl rfl rfl rfl) hL rfl rfl HasV.mem (by rfl) ?_) | (refine lE (wz rfl rfl rfl rfl) hL rfl rfl HasV.mem SegC.seg ?_))))
              all_goals (go_roundw; (case rel => exact ⟨j + 1, _, by omega, by go_num, rfl, by omega, by omega, hL.sub (by repeat (first | exact List.nil_sublist _ | with_reducible apply List.Sublist.cons_cons | with_reducible apply List.Sublist.cons))⟩); (case measure => simp [intOf]; omega))
            · obtain rfl : j = xs.length := by omega
              by_cases c3 : 16384 < m
              · have t3 : decide ((16384 : Int) < m) = true := (by first | (simp; done) | (simp; omega))
                go_wp2_with (first | ((with_reducible refine qD rfl rfl ?_); (refine lI rfl hL rfl cy ?_; clear hL; intro gq wq hL)) | ((with_reducible refine qE rfl rfl ?_); (refine lJ rfl hL rfl rfl cy ?_; clear hL; intro gq wq hL)) | ((with_reducible refine qB rfl rfl ?_); (first | (refine lC rfl hL rfl rfl HasV.mem (by rfl) ?_) | (refine lA rfl hL rfl rfl HasV.mem (by rfl) ?_) | (refine lF rfl hL rfl rfl HasV.mem SegC.seg ?_))) | ((with_reducible refine qC rfl rfl ?_); (first | (refine lH rfl hL rfl rfl rfl cy (by rfl) ?_) | (refine lG rfl hL rfl rfl rfl cy (by rfl) (by rfl) ?_)); clear hL; intro wq hL) | ((with_reducible refine qA rfl rfl ?_ ?_); (exact wz rfl rfl rfl (by with_reducible rfl)); (first | (refine lD (wz rfl rfl rfl rfl) hL rfl rfl HasV.mem (by rfl) ?_) | (refine lB (wz rfl rfl rfl rfl) hL rfl rfl HasV.mem (by rfl) ?_) | (refine lE (wz rfl rfl rfl rfl) hL rfl rfl HasV.mem SegC.seg ?_))))
                go_ret
                exact ⟨⟨false, rfl, by simp⟩, hL.below⟩
              · have t3 : decide ((16384 : Int) < m) = false := (by first | (simp; done) | (simp; omega))
                go_wp2_with (first | ((with_reducible refine qD rfl rfl ?_); (refine lI rfl hL rfl cy ?_; clear hL; intro gq wq hL)) | ((with_reducible refine qE rfl rfl ?_); (refine lJ rfl hL rfl rfl cy ?_; clear hL; intro gq wq hL)) | ((with_reducible refine qB rfl rfl ?_); (first | (refine lC rfl hL rfl rfl HasV.mem (by rfl) ?_) | (refine lA rfl hL rfl rfl HasV.mem (by rfl) ?_) | (refine lF rfl hL rfl rfl HasV.mem SegC.seg ?_))) | ((with_reducible refine qC rfl rfl ?_); (first | (refine lH rfl hL rfl rfl rfl cy (by rfl) ?_) | (refine lG rfl hL rfl rfl rfl cy (by rfl) (by rfl) ?_)); clear hL; intro wq hL) | ((with_reducible refine qA rfl rfl ?_ ?_); (exact wz rfl rfl rfl (by with_reducible rfl)); (first | (refine lD (wz rfl rfl rfl rfl) hL rfl rfl HasV.mem (by rfl) ?_) | (refine lB (wz rfl rfl rfl rfl) hL rfl rfl HasV.mem (by rfl) ?_) | (refine lE (wz rfl rfl rfl rfl) hL rfl rfl HasV.mem SegC.seg ?_))))
                go_roundw
                case rel => exact ⟨k + 1, m, by omega, by go_num, rfl, by omega, by omega, HQ, hL⟩
                case measure => simp [intOf]; omega
    · obtain rfl : k = ns.length := by omega
      have HA : Hid d.plain := Lib.hid (HD.out (by have := HP.out; rwa [List.take_length] at this))
      clear HD HP
      go_wp2_with (first | ((with_reducible refine qD rfl rfl ?_); (refine lI rfl hL rfl cy ?_; clear hL; intro gq wq hL)) | ((with_reducible refine qE rfl rfl ?_); (refine lJ rfl hL rfl rfl cy ?_; clear hL; intro gq wq hL)) | ((with_reducible refine qB rfl rfl ?_); (first | (refine lC rfl hL rfl rfl HasV.mem (by rfl) ?_) | (refine lA rfl hL rfl rfl HasV.mem (by rfl) ?_) | (refine lF rfl hL rfl rfl HasV.mem SegC.seg ?_))) | ((with_reducible refine qC rfl rfl ?_); (first | (refine lH rfl hL rfl rfl rfl cy (by rfl) ?_) | (refine lG rfl hL rfl rfl rfl cy (by rfl) (by rfl) ?_)); clear hL; intro wq hL) | ((with_reducible refine qA rfl rfl ?_ ?_); (exact wz rfl rfl rfl (by with_reducible rfl)); (first | (refine lD (wz rfl rfl rfl rfl) hL rfl rfl HasV.mem (by rfl) ?_) | (refine lB (wz rfl rfl rfl rfl) hL rfl rfl HasV.mem (by rfl) ?_) | (refine lE (wz rfl rfl rfl rfl) hL rfl rfl HasV.mem SegC.seg ?_))))
      go_loopw [3, 86] (fun sv i wr => ∃ (j : Nat) (m : Int), j ≤ ls.length ∧ i = .int .i64 j ∧ sv = .int .i64 m ∧ 0 ≤ m ∧ m ≤ 16384 ∧ Loc w NoM wr []) (fun _ i _ => ls.length - (intOf i).toNat)
      case atStart => exact ⟨0, m, by omega, rfl, rfl, by omega, by omega, hL.sub (List.nil_sublist _)⟩
      case round =>
        clear hL
        obtain ⟨j, m, hj, rfl, rfl, hm0, hm1, hL⟩ := hrel
        by_cases hlj : j < ls.length
        · obtain ⟨g3, off3, rfl, hr⟩ := hell j hlj
          have hrW : World.rangeAt _ g3 (off3 + j * 25) (Lnk.cells ls[j]) := range_below hr hL.below
          clear hr
          generalize ls[j] = q at *
          go_upto_region 26 with (first
            | ((with_reducible refine qF rfl rfl ?_); refine lL rfl rfl rfl rfl hlj ?_) | ((with_reducible refine gate (N := 89) rfl ?_); refine lK rfl rfl rfl hrW (by rfl) ?_) | ((with_reducible refine qD rfl rfl ?_); (refine lI rfl hL rfl cy ?_; clear hL; intro gq wq hL)) | ((with_reducible refine qE rfl rfl ?_); (refine lJ rfl hL rfl rfl cy ?_; clear hL; intro gq wq hL)) | ((with_reducible refine qB rfl rfl ?_); (first | (refine lC rfl hL rfl rfl HasV.mem (by rfl) ?_) | (refine lA rfl hL rfl rfl HasV.mem (by rfl) ?_) | (refine lF rfl hL rfl rfl HasV.mem SegC.seg ?_))) | ((with_reducible refine qC rfl rfl ?_); (first | (refine lH rfl hL rfl rfl rfl cy (by rfl) ?_) | (refine lG rfl hL rfl rfl rfl cy (by rfl) (by rfl) ?_)); clear hL; intro wq hL) | ((with_reducible refine qA rfl rfl ?_ ?_); (exact wz rfl rfl rfl (by with_reducible rfl)); (first | (refine lD (wz rfl rfl rfl rfl) hL rfl rfl HasV.mem (by rfl) ?_) | (refine lB (wz rfl rfl rfl rfl) hL rfl rfl HasV.mem (by rfl) ?_) | (refine lE (wz rfl rfl rfl rfl) hL rfl rfl HasV.mem SegC.seg ?_))))
          simp only [Act.put, zs, zt, zu]
          go_cut [3] (fun sv wx => ∃ m2 : Int, sv = .int .i64 m2 ∧ 0 ≤ m2 ∧ m2 ≤ 32768 ∧ wx = wq)
          case first =>
            have hqs : 0 ≤ (q.name.size : Int) := by omega
            go_wp2_with (first | ((with_reducible refine qD rfl rfl ?_); (refine lI rfl hL rfl cy ?_; clear hL; intro gq wq hL)) | ((with_reducible refine qE rfl rfl ?_); (refine lJ rfl hL rfl rfl cy ?_; clear hL; intro gq wq hL)) | ((with_reducible refine qB rfl rfl ?_); (first | (refine lC rfl hL rfl rfl HasV.mem (by rfl) ?_) | (refine lA rfl hL rfl rfl HasV.mem (by rfl) ?_) | (refine lF rfl hL rfl rfl HasV.mem SegC.seg ?_))) | ((with_reducible refine qC rfl rfl ?_); (first | (refine lH rfl hL rfl rfl rfl cy (by rfl) ?_) | (refine lG rfl hL rfl rfl rfl cy (by rfl) (by rfl) ?_)); clear hL; intro wq hL) | ((with_reducible refine qA rfl rfl ?_ ?_); (exact wz rfl rfl rfl (by with_reducible rfl)); (first | (refine lD (wz rfl rfl rfl rfl) hL rfl rfl HasV.mem (by rfl) ?_) | (refine lB (wz rfl rfl rfl rfl) hL rfl rfl HasV.mem (by rfl) ?_) | (refine lE (wz rfl rfl rfl rfl) hL rfl rfl HasV.mem SegC.seg ?_))))
            all_goals go_meet
            all_goals exact ⟨_, rfl, by omega, by omega, rfl⟩
          case rest =>
          obtain ⟨m3, rfl, hm30, hm31, rfl⟩ := hcut
          by_cases c3 : 16384 < m3
          · have t3 : decide ((16384 : Int) < m3) = true := (by first | (simp; done) | (simp; omega))
            go_wp2_with (first | ((with_reducible refine qD rfl rfl ?_); (refine lI rfl hL rfl cy ?_; clear hL; intro gq wq hL)) | ((with_reducible refine qE rfl rfl ?_); (refine lJ rfl hL rfl rfl cy ?_; clear hL; intro gq wq hL)) | ((with_reducible refine qB rfl rfl ?_); (first | (refine lC rfl hL rfl rfl HasV.mem (by rfl) ?_) | (refine lA rfl hL rfl rfl HasV.mem (by rfl) ?_) | (refine lF rfl hL rfl rfl HasV.mem SegC.seg ?_))) | ((with_reducible refine qC rfl rfl ?_); (first | (refine lH rfl hL rfl rfl rfl cy (by rfl) ?_) | (refine lG rfl hL rfl rfl rfl cy (by rfl) (by rfl) ?_)); clear hL; intro wq hL) | ((with_reducible refine qA rfl rfl ?_ ?_); (exact wz rfl rfl rfl (by with_reducible rfl)); (first | (refine lD (wz rfl rfl rfl rfl) hL rfl rfl HasV.mem (by rfl) ?_) | (refine lB (wz rfl rfl rfl rfl) hL rfl rfl HasV.mem (by rfl) ?_) | (refine lE (wz rfl rfl rfl rfl) hL rfl rfl HasV.mem SegC.seg ?_))))
            go_ret
            exact ⟨⟨false, rfl, by simp⟩, hL.below⟩
          · have t3 : decide ((16384 : Int) < m3) = false := (by first | (simp; done) | (simp; omega))
            go_wp2_with (first | ((with_reducible refine qD rfl rfl ?_); (refine lI rfl hL rfl cy ?_; clear hL; intro gq wq hL)) | ((with_reducible refine qE rfl rfl ?_); (refine lJ rfl hL rfl rfl cy ?_; clear hL; intro gq wq hL)) | ((with_reducible refine qB rfl rfl ?_); (first | (refine lC rfl hL rfl rfl HasV.mem (by rfl) ?_) | (refine lA rfl hL rfl rfl HasV.mem (by rfl) ?_) | (refine lF rfl hL rfl rfl HasV.mem SegC.seg ?_))) | ((with_reducible refine qC rfl rfl ?_); (first | (refine lH rfl hL rfl rfl rfl cy (by rfl) ?_) | (refine lG rfl hL rfl rfl rfl cy (by rfl) (by rfl) ?_)); clear hL; intro wq hL) | ((with_reducible refine qA rfl rfl ?_ ?_); (exact wz rfl rfl rfl (by with_reducible rfl)); (first | (refine lD (wz rfl rfl rfl rfl) hL rfl rfl HasV.mem (by rfl) ?_) | (refine lB (wz rfl rfl rfl rfl) hL rfl rfl HasV.mem (by rfl) ?_) | (refine lE (wz rfl rfl rfl rfl) hL rfl rfl HasV.mem SegC.seg ?_))))
            go_roundw
            case rel => first | exact ⟨j + 1, m3, by omega, by go_num, rfl, hm30, by omega, hL.sub (List.nil_sublist _)⟩ | ((repeat apply Exists.intro); exact ⟨⟨j + 1, m3, by omega, by go_num, rfl, hm30, by omega, hL.sub (List.nil_sublist _)⟩, rfl⟩)
            case measure => simp [intOf]; omega
        · obtain rfl : j = ls.length := by omega
          go_wp2_with (first | ((with_reducible refine qD rfl rfl ?_); (refine lI rfl hL rfl cy ?_; clear hL; intro gq wq hL)) | ((with_reducible refine qE rfl rfl ?_); (refine lJ rfl hL rfl rfl cy ?_; clear hL; intro gq wq hL)) | ((with_reducible refine qB rfl rfl ?_); (first | (refine lC rfl hL rfl rfl HasV.mem (by rfl) ?_) | (refine lA rfl hL rfl rfl HasV.mem (by rfl) ?_) | (refine lF rfl hL rfl rfl HasV.mem SegC.seg ?_))) | ((with_reducible refine qC rfl rfl ?_); (first | (refine lH rfl hL rfl rfl rfl cy (by rfl) ?_) | (refine lG rfl hL rfl rfl rfl cy (by rfl) (by rfl) ?_)); clear hL; intro wq hL) | ((with_reducible refine qA rfl rfl ?_ ?_); (exact wz rfl rfl rfl (by with_reducible rfl)); (first | (refine lD (wz rfl rfl rfl rfl) hL rfl rfl HasV.mem (by rfl) ?_) | (refine lB (wz rfl rfl rfl rfl) hL rfl rfl HasV.mem (by rfl) ?_) | (refine lE (wz rfl rfl rfl rfl) hL rfl rfl HasV.mem SegC.seg ?_))))
          go_ret
          exact ⟨⟨true, rfl, fun _ => HA.out⟩, hL.below⟩
theorem plain_small (s : Sta) (d : StaD) (w : World) (hO : s.Ok w d) :
    Calls Try.prog 20 #[.agg s.cells.toArray] w fun e w' => (∃ b, e = .returned (.bool b) ∧ (b = true → d.plain)) ∧ Below w.heap.size w w' := by
  by_cases h1 : d.nodes.length ≤ 120
  · by_cases h2 : d.links.length ≤ 120
    · exact small_in s d w hO h1 h2
    · exact (small_big s d w hO (.inr (by omega))).mono fun _ _ ⟨he, hb⟩ => ⟨⟨false, he, by simp⟩, hb⟩
  · exact (small_big s d w hO (.inl (by omega))).mono fun _ _ ⟨he, hb⟩ => ⟨⟨false, he, by simp⟩, hb⟩
end Go.Proofs.Ytebpacmhdkgfeaa


/- Chapter 11, plainly: the document's way (each inode put in as two of it) and the program's. -/
namespace Go.Proofs.Ytebpacmhdkgfeaa
open Go.RowKit

end Go.Proofs.Ytebpacmhdkgfeaa


/- Chapter 11, plainly: states as one hang neither on order nor on repetition. -/
namespace Go.Proofs.Ytebpacmhdkgfeaa
open Go.RowKit

theorem map_set {α κ : Type} (π : α → κ) {a a' : α} {t t' : List α} (hm : ∀ x, x ∈ a :: t ↔ x ∈ a' :: t') : ∀ y, y ∈ π a :: t.map π ↔ y ∈ π a' :: t'.map π := fun y => by
  have e1 : π a :: t.map π = (a :: t).map π := rfl
  have e2 : π a' :: t'.map π = (a' :: t').map π := rfl
  rw [e1, e2, List.mem_map, List.mem_map]
  exact ⟨fun ⟨x, h1, h2⟩ => ⟨x, (hm x).1 h1, h2⟩, fun ⟨x, h1, h2⟩ => ⟨x, (hm x).2 h1, h2⟩⟩
theorem Pce.tri {a b : Pce} (hi : a.idx = b.idx) (h : ¬ a.cmps b < 0) (k : ¬ b.cmps a < 0) : a = b := by
  rw [Pce.cmps_lt] at h k
  have h1 : a.at_ = b.at_ := by
    rcases Mk.lss_tri a.at_ b.at_ with h1 | h1 | h1
    · exact absurd (.inl h1) h
    · exact h1
    · exact absurd (.inl h1) k
  have h2 : a.data = b.data := by
    rcases slt_cases a.data b.data with h2 | h2 | h2
    · exact absurd (.inr ⟨h1, h2⟩) h
    · exact h2
    · exact absurd (.inr ⟨h1.symm, h2⟩) k
  obtain ⟨a1, a2, a3⟩ := a; obtain ⟨b1, b2, b3⟩ := b
  simp_all
theorem flag_inj {a b : Bool} (h : flagI a = flagI b) : a = b := by cases a <;> cases b <;> simp [flagI] at h ⊢
theorem Xat.tri {a b : Xat} (hi : a.name = b.name) (h : ¬ a.cmps b < 0) (k : ¬ b.cmps a < 0) : a = b := by
  rw [Xat.cmps_lt] at h k
  have h1 : a.at_ = b.at_ := by
    rcases Mk.lss_tri a.at_ b.at_ with h1 | h1 | h1
    · exact absurd (.inl h1) h
    · exact h1
    · exact absurd (.inl h1) k
  have h2 : flagI a.gone = flagI b.gone := by
    rcases Int.lt_trichotomy (flagI a.gone) (flagI b.gone) with h2 | h2 | h2
    · exact absurd (.inr ⟨h1, .inl h2⟩) h
    · exact h2
    · exact absurd (.inr ⟨h1.symm, .inl h2⟩) k
  have h3 : a.val = b.val := by
    rcases slt_cases a.val b.val with h3 | h3 | h3
    · exact absurd (.inr ⟨h1, .inr ⟨h2, h3⟩⟩) h
    · exact h3
    · exact absurd (.inr ⟨h1.symm, .inr ⟨h2.symm, h3⟩⟩) k
  have h4 := flag_inj h2
  obtain ⟨a1, a2, a3, a4⟩ := a; obtain ⟨b1, b2, b3, b4⟩ := b
  simp_all
/-! ### Registers -/
/-- Where a link is. -/
abbrev Place3 := Mk × Mk × ByteArray
def Place3.cm (a b : Place3) : Int := orL [a.1.cmps b.1, a.2.1.cmps b.2.1, scmp a.2.2 b.2.2]
def Place3.top (a b : Place3) : Place3 := if Place3.cm a b < 0 then b else a
def Lnk.place (l : Lnk) : Place3 := (l.at_, l.parent, l.name)
/-! ### Inodes -/
end Go.Proofs.Ytebpacmhdkgfeaa

