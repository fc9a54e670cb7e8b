/- Texts laid together: Sto12. -/
import Derived.Test.YtebpacmhdkgfeaaDoorLi7
/- Chapter 29: an inode's line, the program's side. -/
namespace Go.Proofs.YtebpacmhdkgfeaaDoor
open Go.RowKit

set_option maxHeartbeats 2000000

theorem story_inode111 (hd : IHd) (p x : Sl) (ps : List Pce) (xs : List Xat) (w : World) (hp : encPc.R w p.val ps) (hx : encXt.R w x.val xs) (hw : (InoD.mk hd ps xs).wf 100000000) (hpl : ps.length ≤ 1000) (hxl : xs.length ≤ 1000) (ht : Tb w) (hk : hd.kind = 1) (h1 : decide (hd.attr.at_ = Mk.zero) = true) (h2 : decide (hd.size.at_ = Mk.zero) = true) :
    Calls Tryd.prog 25 #[.agg (Ino.mk hd p x).cells.toArray] w fun e w' => e = .returned (.string (InoD.mk hd ps xs).line) ∧ Below w.heap.size w w' := by
  have hL := (Loc.nil w NoM).rowNil encS w.heap.size 9
  obtain ⟨hib, hin⟩ := hw.hd.id
  have hszn : I64 hd.size.n := hw.hd.n
  have HPS := Lib.hid (fun q hq => (hw.ps q hq).idx)
  have HXS := Lib.hid (fun q hq => (hw.xs q hq).name)
  have n1 := stamp_nz hd.attr.at_
  have n2 := stamp_nz hd.size.at_
  rw [h1] at n1
  rw [h2] at n2
  simp only [Bool.not_true, Bool.not_false] at n1 n2
  have hs1 := hd.id.text_size hib hin
  have hs2 : (itoaB hd.size.n).size ≤ 30 := hszn.size
  obtain ⟨SW, hSW⟩ : ∃ SW, SW = (⟨#[115, 105, 122, 101, 58]⟩ : ByteArray) ++ itoaB hd.size.n := ⟨_, rfl⟩
  have hSs : SW.size ≤ 1000000000 := by rw [hSW]; simp only [ByteArray.size_append, ByteArray.size_mk']; simp; omega
  have hws : hd.ws = [⟨#[102, 105, 108, 101]⟩] := by
    unfold IHd.ws kindWs
    rw [← hSW]
    simp only [decide_eq_true_eq, decide_eq_false_iff_not] at h1 h2
    simp [h1, h2, hk]
  have t1 : (hd.kind == 1) = true := by simpa using hk
  have hwsz : ∀ y ∈ ([⟨#[102, 105, 108, 101]⟩] : List ByteArray), y.size ≤ 1000000000 := by
    intro y hy
    simp only [List.mem_cons, List.not_mem_nil, or_false] at hy
    rcases hy with rfl <;> first | exact hSs | (show _ ≤ (1000000000 : Nat); decide)
  have HW : Hid (∀ y ∈ ([[⟨#[102, 105, 108, 101]⟩], ps.map Pce.word, xs.map Xat.word] : List (List ByteArray)).flatten, y.size ≤ 1000000000) := Lib.hid (by
    intro y hy
    simp only [List.flatten_cons, List.flatten_nil, List.append_nil, List.mem_append, List.mem_map] at hy
    rcases hy with hy | ⟨q, hq, rfl⟩ | ⟨q, hq, rfl⟩
    · exact hwsz y hy
    · exact word_pc q (HPS.out q hq)
    · exact word_xt q (Nat.le_trans (HXS.out q hq) (by decide)))
  have hfl : ([[⟨#[102, 105, 108, 101]⟩], ps.map Pce.word, xs.map Xat.word] : List (List ByteArray)).flatten.length ≤ 2003 := by simp; omega
  have HFL := Lib.hid hfl
  have hJ : (joinB ([[⟨#[102, 105, 108, 101]⟩], ps.map Pce.word, xs.map Xat.word] : List (List ByteArray)).flatten).size ≤ 10000000000000 := by
    have := joinB_le 1000000000 _ HW.out
    have h4 := Nat.mul_le_mul_right (1000000000 + 1) hfl
    omega
  have HE := Lib.hid (show InoD.line (InoD.mk hd ps xs) = ⟨#[105, 110, 111, 100, 101, 32]⟩ ++ hd.id.text ++ ⟨#[32]⟩ ++ joinB ([[⟨#[102, 105, 108, 101]⟩], ps.map Pce.word, xs.map Xat.word] : List (List ByteArray)).flatten from by unfold InoD.line InoD.ws; rw [hws]; simp)
  obtain ⟨J, hJD⟩ : ∃ J, J = joinB ([[⟨#[102, 105, 108, 101]⟩], ps.map Pce.word, xs.map Xat.word] : List (List ByteArray)).flatten := ⟨_, rfl⟩
  rw [← hJD] at hJ HE
  have HJD := Lib.hid hJD
  clear hJD
  have HSW := Lib.hid hSW
  have HPR := Lib.hid hp
  have HXR := Lib.hid hx
  clear hws h1 h2 hk hw hSW hwsz hfl hp hx
  unfold Ino.cells
  go_enter Tryd.func25, Tryd.ntmps25
  go_wp2_with (first
    | ((with_reducible refine gate (N := 1) rfl ?_); (refine ev_boxL rfl hL rfl rfl (by first | exact CellsC.of | exact cells_one (by assumption) (by assumption) | exact cells_agg _ rfl) ?_; clear hL; intro g1 w1 hL))
    | ((with_reducible refine gate (N := 9) rfl ?_); refine ev_litL (cs := [.string ⟨#[102, 105, 108, 101]⟩]) rfl hL rfl rfl rfl (by kernel_rfl) ?_; clear hL; intro gq wq hL)
    | (go_at_call 24; have hq := itoa_c hd.size.n hszn.1 hszn.2 _ (ht.below hL.below); (with_reducible refine hq.mono ?_); rintro e w3 ⟨rfl, hb3⟩; have hL := hL.call hb3; clear hb3 hq)
    | (((with_reducible refine gCat rfl rfl ?_); refine ev_cat rfl rfl rfl rfl (by simp only [ByteArray.size_append, ByteArray.size_mk']; simp; omega) ?_); rw [← HSW.out])
    | ((with_reducible refine gAlloc rfl rfl ?_); (refine ev_allocL rfl hL rfl (by first | exact CellsC.of | exact cells_one (by assumption) (by assumption) | exact cells_agg _ rfl) ?_; clear hL; intro gq wq hL)) | ((with_reducible refine gBox rfl rfl ?_); (refine ev_boxL rfl hL rfl rfl (by first | exact CellsC.of | exact cells_one (by assumption) (by assumption) | exact cells_agg _ rfl) ?_; clear hL; intro gq wq hL)) | ((with_reducible refine gLoad rfl rfl ?_); (first | (refine ev_load1L rfl hL rfl rfl HasV.mem (by rfl) ?_) | (refine ev_loadAllL rfl hL rfl rfl HasV.mem (by rfl) ?_) | (refine ev_loadL rfl hL rfl rfl HasV.mem SegC.seg ?_))) | ((with_reducible refine gStore rfl rfl ?_); (first | (refine ev_storeC rfl hL rfl rfl rfl (by first | exact CellsC.of | exact cells_one (by assumption) (by assumption) | exact cells_agg _ rfl) (by rfl) ?_) | (refine ev_storeAllC rfl hL rfl rfl rfl (by first | exact CellsC.of | exact cells_one (by assumption) (by assumption) | exact cells_agg _ rfl) (by rfl) (by rfl) ?_)); clear hL; intro wq hL) | ((with_reducible refine gLoadG rfl rfl ?_ ?_); (exact wanted_some rfl rfl rfl (by with_reducible rfl)); (first | (refine ev_load1G (wanted_some rfl rfl rfl rfl) hL rfl rfl HasV.mem (by rfl) ?_) | (refine ev_loadAllG (wanted_some rfl rfl rfl rfl) hL rfl rfl HasV.mem (by rfl) ?_) | (refine ev_loadG_ (wanted_some rfl rfl rfl rfl) hL rfl rfl HasV.mem SegC.seg ?_)))
    | (at_builtin; refine ev_app1M (E := encS) (⟨#[102, 105, 108, 101]⟩) 1 [⟨#[102, 105, 108, 101]⟩] rfl hL rfl rfl rfl (by first | exact mm0 | exact mm1 | exact mm2 | exact mm3 | exact mm4 | exact mm5 | exact mm6 | exact mm7 | exact mm8) rfl rfl rfl (by first | exact fun _ => ss0 | exact fun _ => ss1 | exact fun _ => ss2 | exact fun _ => ss3 | exact fun _ => ss4 | exact fun _ => ss5 | exact fun _ => ss6) rfl rfl (by decide) hL.size ?_; clear hL; intro ao' c' wq hL))
  refine region_any (by kernel_rfl) hL ?_
  intro w5 hL5 hb5 hz5
  clear hL
  have hL := hL5
  clear hL5 hb5 hz5
  refine wpAny_takeN (i := 0) (by repeat (first | exact .zero _ _ | with_reducible apply Nth.succ)) (by kernel_rfl) (by kernel_rfl) (by kernel_rfl) (by exact fun _ _ _ h => h) (v := .slice ao' 1 c') (.inl ⟨by rfl, fun w => by simp [execOp, Instr.fieldAt, go_sem]⟩) ?_
  refine wpAny_takeN (i := 1) (by repeat (first | exact .zero _ _ | with_reducible apply Nth.succ)) (by kernel_rfl) (by kernel_rfl) (by kernel_rfl) (by exact fun _ _ _ h => h) (v := .pointer (some ⟨g1, 11, none⟩)) (.inl ⟨by rfl, fun w => by simp [execOp, Instr.fieldAt, go_sem]⟩) ?_
  refine wpAny_takeN (i := 4) (by repeat (first | exact .zero _ _ | with_reducible apply Nth.succ)) (by kernel_rfl) (by kernel_rfl) (by kernel_rfl) (by exact fun _ _ _ h => h) (v := .pointer (some ⟨g1, 12, none⟩)) (.inl ⟨by rfl, fun w => by simp [execOp, Instr.fieldAt, go_sem]⟩) ?_
  simp only [Act.put, List.setIfInBounds_toArray, List.set_cons_succ, List.set_cons_zero]
  have HL5 := Lib.hid hL
  refine wpAny_two (i1 := 2) (j1 := 3) (i2 := 5) (j2 := 6) (s1 := 43) (p1 := 44) (q1 := 45) (s2 := 46) (p2 := 47) (q2 := 48) (g := g1) (o1 := 11) (o2 := 12) (it1 := fun v => row encS w.heap.size 9 v (ps.map Pce.word)) (it2 := fun v => row encS w.heap.size 9 v (xs.map Xat.word))
    (Nth.get (by repeat (first | exact .zero _ _ | with_reducible apply Nth.succ))) (Nth.get (by repeat (first | exact .zero _ _ | with_reducible apply Nth.succ))) (Nth.get (by repeat (first | exact .zero _ _ | with_reducible apply Nth.succ))) (Nth.get (by repeat (first | exact .zero _ _ | with_reducible apply Nth.succ))) (wd_free (by rfl)) (wd_free (by rfl)) (wd_free (by rfl)) (wd_free (by rfl)) (by rfl) (by rfl) (by rfl) (by rfl) (by kernel_rfl) (by kernel_rfl) (by kernel_rfl) (by kernel_rfl) (by kernel_rfl) (by kernel_rfl)
    (by decide) (by decide) ⟨by simp, by simp⟩ (by rfl) (by rfl) (by infer_instance) (by infer_instance) (by rfl) (by rfl) hL (by first | exact mm0 | exact mm1 | exact mm2 | exact mm3 | exact mm4 | exact mm5 | exact mm6 | exact mm7 | exact mm8) (by rfl) (by rfl)
    (enters_op Tryd.func46 (by kernel_rfl) (by kernel_rfl) (by rfl)) (enters_op Tryd.func47 (by kernel_rfl) (by kernel_rfl) (by rfl))
    (fun w' l' hL' hb' => gives_row hL'.size (story_pieces _ ps w' (HPR.out.below (bl_then HL5.out.below hb')) HPS.out (by omega) (ht.below (bl_then HL5.out.below hb'))))
    (fun w' l' hL' hb' => gives_row hL'.size (story_xattrs _ xs w' (HXR.out.below (bl_then HL5.out.below hb')) (fun q hq => Nat.le_trans (HXS.out q hq) (by decide)) (by omega))) ?_
  clear hL HL5
  intro r1 r2 w6 hL
  obtain ⟨ao1, c1, e1, -⟩ := R_elem (hL.own (E := encS) (v := r1) (xs := ps.map Pce.word) (base := w.heap.size) (e := 9) (.tail _ (.head _))).read
  subst e1
  obtain ⟨ao2, c2, e2, -⟩ := R_elem (hL.own (E := encS) (v := r2) (xs := xs.map Xat.word) (base := w.heap.size) (e := 9) (.head _)).read
  subst e2
  refine wpAny_drop 7 (by rfl) (by kernel_rfl) ?_
  simp only [List.drop_succ_cons, List.drop_zero, Act.put, List.setIfInBounds_toArray, List.set_cons_succ, List.set_cons_zero]
  obtain ⟨n1', hn1⟩ : ∃ n1', n1' = (ps.map Pce.word).length := ⟨_, rfl⟩
  obtain ⟨n2', hn2⟩ : ∃ n2', n2' = (xs.map Xat.word).length := ⟨_, rfl⟩
  rw [← hn1, ← hn2] at hL ⊢
  have HN1 := Lib.hid hn1
  have HN2 := Lib.hid hn2
  clear hn1 hn2
  go_wp2_with (first
    | ((with_reducible refine gate (N := 49) rfl ?_); refine ev_litL (cs := [.slice ao' 1 c', .slice ao1 n1' c1, .slice ao2 n2' c2]) rfl hL rfl rfl rfl (by kernel_rfl) ?_; clear hL; intro gq wq hL)
    | (go_at_call 45; have hq := ConcatS.concat (.slice (some ⟨gq, 0, none⟩) 3 3) [⟨ao', 1, c'⟩, ⟨ao1, n1', c1⟩, ⟨ao2, n2', c2⟩] [[⟨#[102, 105, 108, 101]⟩], ps.map Pce.word, xs.map Xat.word] _ (R_box (E := encSl) (t := 34) [⟨ao', 1, c'⟩, ⟨ao1, n1', c1⟩, ⟨ao2, n2', c2⟩] (hL.box (by first | exact mm0 | exact mm1 | exact mm2 | exact mm3 | exact mm4 | exact mm5 | exact mm6 | exact mm7 | exact mm8)) rfl (by simp)) rfl (three_ (hL.own (E := encS) (base := w.heap.size) (e := 9) (by first | exact mm0 | exact mm1 | exact mm2 | exact mm3 | exact mm4 | exact mm5 | exact mm6 | exact mm7 | exact mm8)).read (hL.own (E := encS) (base := w.heap.size) (e := 9) (by first | exact mm0 | exact mm1 | exact mm2 | exact mm3 | exact mm4 | exact mm5 | exact mm6 | exact mm7 | exact mm8)).read (hL.own (E := encS) (base := w.heap.size) (e := 9) (by first | exact mm0 | exact mm1 | exact mm2 | exact mm3 | exact mm4 | exact mm5 | exact mm6 | exact mm7 | exact mm8)).read) (Nat.le_trans HFL.out (by decide)) (by simp); (with_reducible refine hq.mono ?_); rintro e w3 ⟨u, rfl, hL3⟩; have hL := hL.takeRow hL3; clear hL3 hq)
    | (go_at_call 23; (with_reducible refine (story_stamp hd.id _ hib hin (ht.below hL.below)).mono ?_); rintro e w3 ⟨rfl, hb3⟩; have hL := hL.call hb3; clear hb3)
    | (go_at_call 48; have hq := join_b _ _ _ _ (hL.own (E := encS) (by first | exact mm0 | exact mm1 | exact mm2 | exact mm3 | exact mm4 | exact mm5 | exact mm6 | exact mm7 | exact mm8)) (by rw [← HJD.out]; exact Nat.le_trans hJ (by decide)) (Nat.le_trans HFL.out (by decide)); rw [← HJD.out] at hq; (with_reducible refine hq.mono ?_); rintro e w3 ⟨rfl, hb3⟩; have hL := hL.call hb3; clear hb3 hq)
    | ((with_reducible refine gCat rfl rfl ?_); refine ev_cat rfl rfl rfl rfl (by simp only [ByteArray.size_append, ByteArray.size_mk']; simp; omega) ?_)
    | ((with_reducible refine gAlloc rfl rfl ?_); (refine ev_allocL rfl hL rfl (by first | exact CellsC.of | exact cells_one (by assumption) (by assumption) | exact cells_agg _ rfl) ?_; clear hL; intro gq wq hL)) | ((with_reducible refine gBox rfl rfl ?_); (refine ev_boxL rfl hL rfl rfl (by first | exact CellsC.of | exact cells_one (by assumption) (by assumption) | exact cells_agg _ rfl) ?_; clear hL; intro gq wq hL)) | ((with_reducible refine gLoad rfl rfl ?_); (first | (refine ev_load1L rfl hL rfl rfl HasV.mem (by rfl) ?_) | (refine ev_loadAllL rfl hL rfl rfl HasV.mem (by rfl) ?_) | (refine ev_loadL rfl hL rfl rfl HasV.mem SegC.seg ?_))) | ((with_reducible refine gStore rfl rfl ?_); (first | (refine ev_storeC rfl hL rfl rfl rfl (by first | exact CellsC.of | exact cells_one (by assumption) (by assumption) | exact cells_agg _ rfl) (by rfl) ?_) | (refine ev_storeAllC rfl hL rfl rfl rfl (by first | exact CellsC.of | exact cells_one (by assumption) (by assumption) | exact cells_agg _ rfl) (by rfl) (by rfl) ?_)); clear hL; intro wq hL) | ((with_reducible refine gLoadG rfl rfl ?_ ?_); (exact wanted_some rfl rfl rfl (by with_reducible rfl)); (first | (refine ev_load1G (wanted_some rfl rfl rfl rfl) hL rfl rfl HasV.mem (by rfl) ?_) | (refine ev_loadAllG (wanted_some rfl rfl rfl rfl) hL rfl rfl HasV.mem (by rfl) ?_) | (refine ev_loadG_ (wanted_some rfl rfl rfl rfl) hL rfl rfl HasV.mem SegC.seg ?_))))
  go_ret
  exact ⟨ret_s HE.out.symm, hL.below⟩
theorem story_inode110 (hd : IHd) (p x : Sl) (ps : List Pce) (xs : List Xat) (w : World) (hp : encPc.R w p.val ps) (hx : encXt.R w x.val xs) (hw : (InoD.mk hd ps xs).wf 100000000) (hpl : ps.length ≤ 1000) (hxl : xs.length ≤ 1000) (ht : Tb w) (hk : hd.kind = 1) (h1 : decide (hd.attr.at_ = Mk.zero) = true) (h2 : decide (hd.size.at_ = Mk.zero) = false) :
    Calls Tryd.prog 25 #[.agg (Ino.mk hd p x).cells.toArray] w fun e w' => e = .returned (.string (InoD.mk hd ps xs).line) ∧ Below w.heap.size w w' := by
  have hL := (Loc.nil w NoM).rowNil encS w.heap.size 9
  obtain ⟨hib, hin⟩ := hw.hd.id
  have hszn : I64 hd.size.n := hw.hd.n
  have HPS := Lib.hid (fun q hq => (hw.ps q hq).idx)
  have HXS := Lib.hid (fun q hq => (hw.xs q hq).name)
  have n1 := stamp_nz hd.attr.at_
  have n2 := stamp_nz hd.size.at_
  rw [h1] at n1
  rw [h2] at n2
  simp only [Bool.not_true, Bool.not_false] at n1 n2
  have hs1 := hd.id.text_size hib hin
  have hs2 : (itoaB hd.size.n).size ≤ 30 := hszn.size
  obtain ⟨SW, hSW⟩ : ∃ SW, SW = (⟨#[115, 105, 122, 101, 58]⟩ : ByteArray) ++ itoaB hd.size.n := ⟨_, rfl⟩
  have hSs : SW.size ≤ 1000000000 := by rw [hSW]; simp only [ByteArray.size_append, ByteArray.size_mk']; simp; omega
  have hws : hd.ws = [⟨#[102, 105, 108, 101]⟩, SW] := by
    unfold IHd.ws kindWs
    rw [← hSW]
    simp only [decide_eq_true_eq, decide_eq_false_iff_not] at h1 h2
    simp [h1, h2, hk]
  have t1 : (hd.kind == 1) = true := by simpa using hk
  have hwsz : ∀ y ∈ ([⟨#[102, 105, 108, 101]⟩, SW] : List ByteArray), y.size ≤ 1000000000 := by
    intro y hy
    simp only [List.mem_cons, List.not_mem_nil, or_false] at hy
    rcases hy with rfl | rfl <;> first | exact hSs | (show _ ≤ (1000000000 : Nat); decide)
  have HW : Hid (∀ y ∈ ([[⟨#[102, 105, 108, 101]⟩, SW], ps.map Pce.word, xs.map Xat.word] : List (List ByteArray)).flatten, y.size ≤ 1000000000) := Lib.hid (by
    intro y hy
    simp only [List.flatten_cons, List.flatten_nil, List.append_nil, List.mem_append, List.mem_map] at hy
    rcases hy with hy | ⟨q, hq, rfl⟩ | ⟨q, hq, rfl⟩
    · exact hwsz y hy
    · exact word_pc q (HPS.out q hq)
    · exact word_xt q (Nat.le_trans (HXS.out q hq) (by decide)))
  have hfl : ([[⟨#[102, 105, 108, 101]⟩, SW], ps.map Pce.word, xs.map Xat.word] : List (List ByteArray)).flatten.length ≤ 2003 := by simp; omega
  have HFL := Lib.hid hfl
  have hJ : (joinB ([[⟨#[102, 105, 108, 101]⟩, SW], ps.map Pce.word, xs.map Xat.word] : List (List ByteArray)).flatten).size ≤ 10000000000000 := by
    have := joinB_le 1000000000 _ HW.out
    have h4 := Nat.mul_le_mul_right (1000000000 + 1) hfl
    omega
  have HE := Lib.hid (show InoD.line (InoD.mk hd ps xs) = ⟨#[105, 110, 111, 100, 101, 32]⟩ ++ hd.id.text ++ ⟨#[32]⟩ ++ joinB ([[⟨#[102, 105, 108, 101]⟩, SW], ps.map Pce.word, xs.map Xat.word] : List (List ByteArray)).flatten from by unfold InoD.line InoD.ws; rw [hws]; simp)
  obtain ⟨J, hJD⟩ : ∃ J, J = joinB ([[⟨#[102, 105, 108, 101]⟩, SW], ps.map Pce.word, xs.map Xat.word] : List (List ByteArray)).flatten := ⟨_, rfl⟩
  rw [← hJD] at hJ HE
  have HJD := Lib.hid hJD
  clear hJD
  have HSW := Lib.hid hSW
  have HPR := Lib.hid hp
  have HXR := Lib.hid hx
  clear hws h1 h2 hk hw hSW hwsz hfl hp hx
  unfold Ino.cells
  go_enter Tryd.func25, Tryd.ntmps25
  go_wp2_with (first
    | ((with_reducible refine gate (N := 1) rfl ?_); (refine ev_boxL rfl hL rfl rfl (by first | exact CellsC.of | exact cells_one (by assumption) (by assumption) | exact cells_agg _ rfl) ?_; clear hL; intro g1 w1 hL))
    | ((with_reducible refine gate (N := 9) rfl ?_); refine ev_litL (cs := [.string ⟨#[102, 105, 108, 101]⟩]) rfl hL rfl rfl rfl (by kernel_rfl) ?_; clear hL; intro gq wq hL)
    | ((with_reducible refine gate (N := 40) rfl ?_); refine ev_litL (cs := [.string SW]) rfl hL rfl rfl rfl (by kernel_rfl) ?_; clear hL; intro gq wq hL)
    | (go_at_call 24; have hq := itoa_c hd.size.n hszn.1 hszn.2 _ (ht.below hL.below); (with_reducible refine hq.mono ?_); rintro e w3 ⟨rfl, hb3⟩; have hL := hL.call hb3; clear hb3 hq)
    | (((with_reducible refine gCat rfl rfl ?_); refine ev_cat rfl rfl rfl rfl (by simp only [ByteArray.size_append, ByteArray.size_mk']; simp; omega) ?_); rw [← HSW.out])
    | ((with_reducible refine gAlloc rfl rfl ?_); (refine ev_allocL rfl hL rfl (by first | exact CellsC.of | exact cells_one (by assumption) (by assumption) | exact cells_agg _ rfl) ?_; clear hL; intro gq wq hL)) | ((with_reducible refine gBox rfl rfl ?_); (refine ev_boxL rfl hL rfl rfl (by first | exact CellsC.of | exact cells_one (by assumption) (by assumption) | exact cells_agg _ rfl) ?_; clear hL; intro gq wq hL)) | ((with_reducible refine gLoad rfl rfl ?_); (first | (refine ev_load1L rfl hL rfl rfl HasV.mem (by rfl) ?_) | (refine ev_loadAllL rfl hL rfl rfl HasV.mem (by rfl) ?_) | (refine ev_loadL rfl hL rfl rfl HasV.mem SegC.seg ?_))) | ((with_reducible refine gStore rfl rfl ?_); (first | (refine ev_storeC rfl hL rfl rfl rfl (by first | exact CellsC.of | exact cells_one (by assumption) (by assumption) | exact cells_agg _ rfl) (by rfl) ?_) | (refine ev_storeAllC rfl hL rfl rfl rfl (by first | exact CellsC.of | exact cells_one (by assumption) (by assumption) | exact cells_agg _ rfl) (by rfl) (by rfl) ?_)); clear hL; intro wq hL) | ((with_reducible refine gLoadG rfl rfl ?_ ?_); (exact wanted_some rfl rfl rfl (by with_reducible rfl)); (first | (refine ev_load1G (wanted_some rfl rfl rfl rfl) hL rfl rfl HasV.mem (by rfl) ?_) | (refine ev_loadAllG (wanted_some rfl rfl rfl rfl) hL rfl rfl HasV.mem (by rfl) ?_) | (refine ev_loadG_ (wanted_some rfl rfl rfl rfl) hL rfl rfl HasV.mem SegC.seg ?_)))
    | (at_builtin; refine ev_app1M (E := encS) (⟨#[102, 105, 108, 101]⟩) 1 [⟨#[102, 105, 108, 101]⟩] rfl hL rfl rfl rfl (by first | exact mm0 | exact mm1 | exact mm2 | exact mm3 | exact mm4 | exact mm5 | exact mm6 | exact mm7 | exact mm8) rfl rfl rfl (by first | exact fun _ => ss0 | exact fun _ => ss1 | exact fun _ => ss2 | exact fun _ => ss3 | exact fun _ => ss4 | exact fun _ => ss5 | exact fun _ => ss6) rfl rfl (by decide) hL.size ?_; clear hL; intro ao' c' wq hL)
    | (at_builtin; refine ev_app1M (E := encS) (SW) 2 [⟨#[102, 105, 108, 101]⟩, SW] rfl hL rfl rfl rfl (by first | exact mm0 | exact mm1 | exact mm2 | exact mm3 | exact mm4 | exact mm5 | exact mm6 | exact mm7 | exact mm8) rfl rfl rfl (by first | exact fun _ => ss0 | exact fun _ => ss1 | exact fun _ => ss2 | exact fun _ => ss3 | exact fun _ => ss4 | exact fun _ => ss5 | exact fun _ => ss6) rfl rfl (by decide) hL.size ?_; clear hL; intro ao' c' wq hL))
  refine region_any (by kernel_rfl) hL ?_
  intro w5 hL5 hb5 hz5
  clear hL
  have hL := hL5
  clear hL5 hb5 hz5
  refine wpAny_takeN (i := 0) (by repeat (first | exact .zero _ _ | with_reducible apply Nth.succ)) (by kernel_rfl) (by kernel_rfl) (by kernel_rfl) (by exact fun _ _ _ h => h) (v := .slice ao' 2 c') (.inl ⟨by rfl, fun w => by simp [execOp, Instr.fieldAt, go_sem]⟩) ?_
  refine wpAny_takeN (i := 1) (by repeat (first | exact .zero _ _ | with_reducible apply Nth.succ)) (by kernel_rfl) (by kernel_rfl) (by kernel_rfl) (by exact fun _ _ _ h => h) (v := .pointer (some ⟨g1, 11, none⟩)) (.inl ⟨by rfl, fun w => by simp [execOp, Instr.fieldAt, go_sem]⟩) ?_
  refine wpAny_takeN (i := 4) (by repeat (first | exact .zero _ _ | with_reducible apply Nth.succ)) (by kernel_rfl) (by kernel_rfl) (by kernel_rfl) (by exact fun _ _ _ h => h) (v := .pointer (some ⟨g1, 12, none⟩)) (.inl ⟨by rfl, fun w => by simp [execOp, Instr.fieldAt, go_sem]⟩) ?_
  simp only [Act.put, List.setIfInBounds_toArray, List.set_cons_succ, List.set_cons_zero]
  have HL5 := Lib.hid hL
  refine wpAny_two (i1 := 2) (j1 := 3) (i2 := 5) (j2 := 6) (s1 := 43) (p1 := 44) (q1 := 45) (s2 := 46) (p2 := 47) (q2 := 48) (g := g1) (o1 := 11) (o2 := 12) (it1 := fun v => row encS w.heap.size 9 v (ps.map Pce.word)) (it2 := fun v => row encS w.heap.size 9 v (xs.map Xat.word))
    (Nth.get (by repeat (first | exact .zero _ _ | with_reducible apply Nth.succ))) (Nth.get (by repeat (first | exact .zero _ _ | with_reducible apply Nth.succ))) (Nth.get (by repeat (first | exact .zero _ _ | with_reducible apply Nth.succ))) (Nth.get (by repeat (first | exact .zero _ _ | with_reducible apply Nth.succ))) (wd_free (by rfl)) (wd_free (by rfl)) (wd_free (by rfl)) (wd_free (by rfl)) (by rfl) (by rfl) (by rfl) (by rfl) (by kernel_rfl) (by kernel_rfl) (by kernel_rfl) (by kernel_rfl) (by kernel_rfl) (by kernel_rfl)
    (by decide) (by decide) ⟨by simp, by simp⟩ (by rfl) (by rfl) (by infer_instance) (by infer_instance) (by rfl) (by rfl) hL (by first | exact mm0 | exact mm1 | exact mm2 | exact mm3 | exact mm4 | exact mm5 | exact mm6 | exact mm7 | exact mm8) (by rfl) (by rfl)
    (enters_op Tryd.func46 (by kernel_rfl) (by kernel_rfl) (by rfl)) (enters_op Tryd.func47 (by kernel_rfl) (by kernel_rfl) (by rfl))
    (fun w' l' hL' hb' => gives_row hL'.size (story_pieces _ ps w' (HPR.out.below (bl_then HL5.out.below hb')) HPS.out (by omega) (ht.below (bl_then HL5.out.below hb'))))
    (fun w' l' hL' hb' => gives_row hL'.size (story_xattrs _ xs w' (HXR.out.below (bl_then HL5.out.below hb')) (fun q hq => Nat.le_trans (HXS.out q hq) (by decide)) (by omega))) ?_
  clear hL HL5
  intro r1 r2 w6 hL
  obtain ⟨ao1, c1, e1, -⟩ := R_elem (hL.own (E := encS) (v := r1) (xs := ps.map Pce.word) (base := w.heap.size) (e := 9) (.tail _ (.head _))).read
  subst e1
  obtain ⟨ao2, c2, e2, -⟩ := R_elem (hL.own (E := encS) (v := r2) (xs := xs.map Xat.word) (base := w.heap.size) (e := 9) (.head _)).read
  subst e2
  refine wpAny_drop 7 (by rfl) (by kernel_rfl) ?_
  simp only [List.drop_succ_cons, List.drop_zero, Act.put, List.setIfInBounds_toArray, List.set_cons_succ, List.set_cons_zero]
  obtain ⟨n1', hn1⟩ : ∃ n1', n1' = (ps.map Pce.word).length := ⟨_, rfl⟩
  obtain ⟨n2', hn2⟩ : ∃ n2', n2' = (xs.map Xat.word).length := ⟨_, rfl⟩
  rw [← hn1, ← hn2] at hL ⊢
  have HN1 := Lib.hid hn1
  have HN2 := Lib.hid hn2
  clear hn1 hn2
  go_wp2_with (first
    | ((with_reducible refine gate (N := 49) rfl ?_); refine ev_litL (cs := [.slice ao' 2 c', .slice ao1 n1' c1, .slice ao2 n2' c2]) rfl hL rfl rfl rfl (by kernel_rfl) ?_; clear hL; intro gq wq hL)
    | (go_at_call 45; have hq := ConcatS.concat (.slice (some ⟨gq, 0, none⟩) 3 3) [⟨ao', 2, c'⟩, ⟨ao1, n1', c1⟩, ⟨ao2, n2', c2⟩] [[⟨#[102, 105, 108, 101]⟩, SW], ps.map Pce.word, xs.map Xat.word] _ (R_box (E := encSl) (t := 34) [⟨ao', 2, c'⟩, ⟨ao1, n1', c1⟩, ⟨ao2, n2', c2⟩] (hL.box (by first | exact mm0 | exact mm1 | exact mm2 | exact mm3 | exact mm4 | exact mm5 | exact mm6 | exact mm7 | exact mm8)) rfl (by simp)) rfl (three_ (hL.own (E := encS) (base := w.heap.size) (e := 9) (by first | exact mm0 | exact mm1 | exact mm2 | exact mm3 | exact mm4 | exact mm5 | exact mm6 | exact mm7 | exact mm8)).read (hL.own (E := encS) (base := w.heap.size) (e := 9) (by first | exact mm0 | exact mm1 | exact mm2 | exact mm3 | exact mm4 | exact mm5 | exact mm6 | exact mm7 | exact mm8)).read (hL.own (E := encS) (base := w.heap.size) (e := 9) (by first | exact mm0 | exact mm1 | exact mm2 | exact mm3 | exact mm4 | exact mm5 | exact mm6 | exact mm7 | exact mm8)).read) (Nat.le_trans HFL.out (by decide)) (by simp); (with_reducible refine hq.mono ?_); rintro e w3 ⟨u, rfl, hL3⟩; have hL := hL.takeRow hL3; clear hL3 hq)
    | (go_at_call 23; (with_reducible refine (story_stamp hd.id _ hib hin (ht.below hL.below)).mono ?_); rintro e w3 ⟨rfl, hb3⟩; have hL := hL.call hb3; clear hb3)
    | (go_at_call 48; have hq := join_b _ _ _ _ (hL.own (E := encS) (by first | exact mm0 | exact mm1 | exact mm2 | exact mm3 | exact mm4 | exact mm5 | exact mm6 | exact mm7 | exact mm8)) (by rw [← HJD.out]; exact Nat.le_trans hJ (by decide)) (Nat.le_trans HFL.out (by decide)); rw [← HJD.out] at hq; (with_reducible refine hq.mono ?_); rintro e w3 ⟨rfl, hb3⟩; have hL := hL.call hb3; clear hb3 hq)
    | ((with_reducible refine gCat rfl rfl ?_); refine ev_cat rfl rfl rfl rfl (by simp only [ByteArray.size_append, ByteArray.size_mk']; simp; omega) ?_)
    | ((with_reducible refine gAlloc rfl rfl ?_); (refine ev_allocL rfl hL rfl (by first | exact CellsC.of | exact cells_one (by assumption) (by assumption) | exact cells_agg _ rfl) ?_; clear hL; intro gq wq hL)) | ((with_reducible refine gBox rfl rfl ?_); (refine ev_boxL rfl hL rfl rfl (by first | exact CellsC.of | exact cells_one (by assumption) (by assumption) | exact cells_agg _ rfl) ?_; clear hL; intro gq wq hL)) | ((with_reducible refine gLoad rfl rfl ?_); (first | (refine ev_load1L rfl hL rfl rfl HasV.mem (by rfl) ?_) | (refine ev_loadAllL rfl hL rfl rfl HasV.mem (by rfl) ?_) | (refine ev_loadL rfl hL rfl rfl HasV.mem SegC.seg ?_))) | ((with_reducible refine gStore rfl rfl ?_); (first | (refine ev_storeC rfl hL rfl rfl rfl (by first | exact CellsC.of | exact cells_one (by assumption) (by assumption) | exact cells_agg _ rfl) (by rfl) ?_) | (refine ev_storeAllC rfl hL rfl rfl rfl (by first | exact CellsC.of | exact cells_one (by assumption) (by assumption) | exact cells_agg _ rfl) (by rfl) (by rfl) ?_)); clear hL; intro wq hL) | ((with_reducible refine gLoadG rfl rfl ?_ ?_); (exact wanted_some rfl rfl rfl (by with_reducible rfl)); (first | (refine ev_load1G (wanted_some rfl rfl rfl rfl) hL rfl rfl HasV.mem (by rfl) ?_) | (refine ev_loadAllG (wanted_some rfl rfl rfl rfl) hL rfl rfl HasV.mem (by rfl) ?_) | (refine ev_loadG_ (wanted_some rfl rfl rfl rfl) hL rfl rfl HasV.mem SegC.seg ?_))))
  go_ret
  exact ⟨ret_s HE.out.symm, hL.below⟩
theorem story_inode101 (hd : IHd) (p x : Sl) (ps : List Pce) (xs : List Xat) (w : World) (hp : encPc.R w p.val ps) (hx : encXt.R w x.val xs) (hw : (InoD.mk hd ps xs).wf 100000000) (hpl : ps.length ≤ 1000) (hxl : xs.length ≤ 1000) (ht : Tb w) (hk : hd.kind = 1) (h1 : decide (hd.attr.at_ = Mk.zero) = false) (h2 : decide (hd.size.at_ = Mk.zero) = true) :
    Calls Tryd.prog 25 #[.agg (Ino.mk hd p x).cells.toArray] w fun e w' => e = .returned (.string (InoD.mk hd ps xs).line) ∧ Below w.heap.size w w' := by
  have hL := (Loc.nil w NoM).rowNil encS w.heap.size 9
  obtain ⟨hib, hin⟩ := hw.hd.id
  have hszn : I64 hd.size.n := hw.hd.n
  have HPS := Lib.hid (fun q hq => (hw.ps q hq).idx)
  have HXS := Lib.hid (fun q hq => (hw.xs q hq).name)
  have n1 := stamp_nz hd.attr.at_
  have n2 := stamp_nz hd.size.at_
  rw [h1] at n1
  rw [h2] at n2
  simp only [Bool.not_true, Bool.not_false] at n1 n2
  have hs1 := hd.id.text_size hib hin
  have hs2 : (itoaB hd.size.n).size ≤ 30 := hszn.size
  obtain ⟨SW, hSW⟩ : ∃ SW, SW = (⟨#[115, 105, 122, 101, 58]⟩ : ByteArray) ++ itoaB hd.size.n := ⟨_, rfl⟩
  have hSs : SW.size ≤ 1000000000 := by rw [hSW]; simp only [ByteArray.size_append, ByteArray.size_mk']; simp; omega
  have hws : hd.ws = [⟨#[102, 105, 108, 101]⟩, ⟨#[97, 116, 116, 114]⟩] := by
    unfold IHd.ws kindWs
    rw [← hSW]
    simp only [decide_eq_true_eq, decide_eq_false_iff_not] at h1 h2
    simp [h1, h2, hk]
  have t1 : (hd.kind == 1) = true := by simpa using hk
  have hwsz : ∀ y ∈ ([⟨#[102, 105, 108, 101]⟩, ⟨#[97, 116, 116, 114]⟩] : List ByteArray), y.size ≤ 1000000000 := by
    intro y hy
    simp only [List.mem_cons, List.not_mem_nil, or_false] at hy
    rcases hy with rfl | rfl <;> first | exact hSs | (show _ ≤ (1000000000 : Nat); decide)
  have HW : Hid (∀ y ∈ ([[⟨#[102, 105, 108, 101]⟩, ⟨#[97, 116, 116, 114]⟩], ps.map Pce.word, xs.map Xat.word] : List (List ByteArray)).flatten, y.size ≤ 1000000000) := Lib.hid (by
    intro y hy
    simp only [List.flatten_cons, List.flatten_nil, List.append_nil, List.mem_append, List.mem_map] at hy
    rcases hy with hy | ⟨q, hq, rfl⟩ | ⟨q, hq, rfl⟩
    · exact hwsz y hy
    · exact word_pc q (HPS.out q hq)
    · exact word_xt q (Nat.le_trans (HXS.out q hq) (by decide)))
  have hfl : ([[⟨#[102, 105, 108, 101]⟩, ⟨#[97, 116, 116, 114]⟩], ps.map Pce.word, xs.map Xat.word] : List (List ByteArray)).flatten.length ≤ 2003 := by simp; omega
  have HFL := Lib.hid hfl
  have hJ : (joinB ([[⟨#[102, 105, 108, 101]⟩, ⟨#[97, 116, 116, 114]⟩], ps.map Pce.word, xs.map Xat.word] : List (List ByteArray)).flatten).size ≤ 10000000000000 := by
    have := joinB_le 1000000000 _ HW.out
    have h4 := Nat.mul_le_mul_right (1000000000 + 1) hfl
    omega
  have HE := Lib.hid (show InoD.line (InoD.mk hd ps xs) = ⟨#[105, 110, 111, 100, 101, 32]⟩ ++ hd.id.text ++ ⟨#[32]⟩ ++ joinB ([[⟨#[102, 105, 108, 101]⟩, ⟨#[97, 116, 116, 114]⟩], ps.map Pce.word, xs.map Xat.word] : List (List ByteArray)).flatten from by unfold InoD.line InoD.ws; rw [hws]; simp)
  obtain ⟨J, hJD⟩ : ∃ J, J = joinB ([[⟨#[102, 105, 108, 101]⟩, ⟨#[97, 116, 116, 114]⟩], ps.map Pce.word, xs.map Xat.word] : List (List ByteArray)).flatten := ⟨_, rfl⟩
  rw [← hJD] at hJ HE
  have HJD := Lib.hid hJD
  clear hJD
  have HSW := Lib.hid hSW
  have HPR := Lib.hid hp
  have HXR := Lib.hid hx
  clear hws h1 h2 hk hw hSW hwsz hfl hp hx
  unfold Ino.cells
  go_enter Tryd.func25, Tryd.ntmps25
  go_wp2_with (first
    | ((with_reducible refine gate (N := 1) rfl ?_); (refine ev_boxL rfl hL rfl rfl (by first | exact CellsC.of | exact cells_one (by assumption) (by assumption) | exact cells_agg _ rfl) ?_; clear hL; intro g1 w1 hL))
    | ((with_reducible refine gate (N := 9) rfl ?_); refine ev_litL (cs := [.string ⟨#[102, 105, 108, 101]⟩]) rfl hL rfl rfl rfl (by kernel_rfl) ?_; clear hL; intro gq wq hL)
    | ((with_reducible refine gate (N := 27) rfl ?_); refine ev_litL (cs := [.string ⟨#[97, 116, 116, 114]⟩]) rfl hL rfl rfl rfl (by kernel_rfl) ?_; clear hL; intro gq wq hL)
    | (go_at_call 24; have hq := itoa_c hd.size.n hszn.1 hszn.2 _ (ht.below hL.below); (with_reducible refine hq.mono ?_); rintro e w3 ⟨rfl, hb3⟩; have hL := hL.call hb3; clear hb3 hq)
    | (((with_reducible refine gCat rfl rfl ?_); refine ev_cat rfl rfl rfl rfl (by simp only [ByteArray.size_append, ByteArray.size_mk']; simp; omega) ?_); rw [← HSW.out])
    | ((with_reducible refine gAlloc rfl rfl ?_); (refine ev_allocL rfl hL rfl (by first | exact CellsC.of | exact cells_one (by assumption) (by assumption) | exact cells_agg _ rfl) ?_; clear hL; intro gq wq hL)) | ((with_reducible refine gBox rfl rfl ?_); (refine ev_boxL rfl hL rfl rfl (by first | exact CellsC.of | exact cells_one (by assumption) (by assumption) | exact cells_agg _ rfl) ?_; clear hL; intro gq wq hL)) | ((with_reducible refine gLoad rfl rfl ?_); (first | (refine ev_load1L rfl hL rfl rfl HasV.mem (by rfl) ?_) | (refine ev_loadAllL rfl hL rfl rfl HasV.mem (by rfl) ?_) | (refine ev_loadL rfl hL rfl rfl HasV.mem SegC.seg ?_))) | ((with_reducible refine gStore rfl rfl ?_); (first | (refine ev_storeC rfl hL rfl rfl rfl (by first | exact CellsC.of | exact cells_one (by assumption) (by assumption) | exact cells_agg _ rfl) (by rfl) ?_) | (refine ev_storeAllC rfl hL rfl rfl rfl (by first | exact CellsC.of | exact cells_one (by assumption) (by assumption) | exact cells_agg _ rfl) (by rfl) (by rfl) ?_)); clear hL; intro wq hL) | ((with_reducible refine gLoadG rfl rfl ?_ ?_); (exact wanted_some rfl rfl rfl (by with_reducible rfl)); (first | (refine ev_load1G (wanted_some rfl rfl rfl rfl) hL rfl rfl HasV.mem (by rfl) ?_) | (refine ev_loadAllG (wanted_some rfl rfl rfl rfl) hL rfl rfl HasV.mem (by rfl) ?_) | (refine ev_loadG_ (wanted_some rfl rfl rfl rfl) hL rfl rfl HasV.mem SegC.seg ?_)))
    | (at_builtin; refine ev_app1M (E := encS) (⟨#[102, 105, 108, 101]⟩) 1 [⟨#[102, 105, 108, 101]⟩] rfl hL rfl rfl rfl (by first | exact mm0 | exact mm1 | exact mm2 | exact mm3 | exact mm4 | exact mm5 | exact mm6 | exact mm7 | exact mm8) rfl rfl rfl (by first | exact fun _ => ss0 | exact fun _ => ss1 | exact fun _ => ss2 | exact fun _ => ss3 | exact fun _ => ss4 | exact fun _ => ss5 | exact fun _ => ss6) rfl rfl (by decide) hL.size ?_; clear hL; intro ao' c' wq hL)
    | (at_builtin; refine ev_app1M (E := encS) (⟨#[97, 116, 116, 114]⟩) 2 [⟨#[102, 105, 108, 101]⟩, ⟨#[97, 116, 116, 114]⟩] rfl hL rfl rfl rfl (by first | exact mm0 | exact mm1 | exact mm2 | exact mm3 | exact mm4 | exact mm5 | exact mm6 | exact mm7 | exact mm8) rfl rfl rfl (by first | exact fun _ => ss0 | exact fun _ => ss1 | exact fun _ => ss2 | exact fun _ => ss3 | exact fun _ => ss4 | exact fun _ => ss5 | exact fun _ => ss6) rfl rfl (by decide) hL.size ?_; clear hL; intro ao' c' wq hL))
  refine region_any (by kernel_rfl) hL ?_
  intro w5 hL5 hb5 hz5
  clear hL
  have hL := hL5
  clear hL5 hb5 hz5
  refine wpAny_takeN (i := 0) (by repeat (first | exact .zero _ _ | with_reducible apply Nth.succ)) (by kernel_rfl) (by kernel_rfl) (by kernel_rfl) (by exact fun _ _ _ h => h) (v := .slice ao' 2 c') (.inl ⟨by rfl, fun w => by simp [execOp, Instr.fieldAt, go_sem]⟩) ?_
  refine wpAny_takeN (i := 1) (by repeat (first | exact .zero _ _ | with_reducible apply Nth.succ)) (by kernel_rfl) (by kernel_rfl) (by kernel_rfl) (by exact fun _ _ _ h => h) (v := .pointer (some ⟨g1, 11, none⟩)) (.inl ⟨by rfl, fun w => by simp [execOp, Instr.fieldAt, go_sem]⟩) ?_
  refine wpAny_takeN (i := 4) (by repeat (first | exact .zero _ _ | with_reducible apply Nth.succ)) (by kernel_rfl) (by kernel_rfl) (by kernel_rfl) (by exact fun _ _ _ h => h) (v := .pointer (some ⟨g1, 12, none⟩)) (.inl ⟨by rfl, fun w => by simp [execOp, Instr.fieldAt, go_sem]⟩) ?_
  simp only [Act.put, List.setIfInBounds_toArray, List.set_cons_succ, List.set_cons_zero]
  have HL5 := Lib.hid hL
  refine wpAny_two (i1 := 2) (j1 := 3) (i2 := 5) (j2 := 6) (s1 := 43) (p1 := 44) (q1 := 45) (s2 := 46) (p2 := 47) (q2 := 48) (g := g1) (o1 := 11) (o2 := 12) (it1 := fun v => row encS w.heap.size 9 v (ps.map Pce.word)) (it2 := fun v => row encS w.heap.size 9 v (xs.map Xat.word))
    (Nth.get (by repeat (first | exact .zero _ _ | with_reducible apply Nth.succ))) (Nth.get (by repeat (first | exact .zero _ _ | with_reducible apply Nth.succ))) (Nth.get (by repeat (first | exact .zero _ _ | with_reducible apply Nth.succ))) (Nth.get (by repeat (first | exact .zero _ _ | with_reducible apply Nth.succ))) (wd_free (by rfl)) (wd_free (by rfl)) (wd_free (by rfl)) (wd_free (by rfl)) (by rfl) (by rfl) (by rfl) (by rfl) (by kernel_rfl) (by kernel_rfl) (by kernel_rfl) (by kernel_rfl) (by kernel_rfl) (by kernel_rfl)
    (by decide) (by decide) ⟨by simp, by simp⟩ (by rfl) (by rfl) (by infer_instance) (by infer_instance) (by rfl) (by rfl) hL (by first | exact mm0 | exact mm1 | exact mm2 | exact mm3 | exact mm4 | exact mm5 | exact mm6 | exact mm7 | exact mm8) (by rfl) (by rfl)
    (enters_op Tryd.func46 (by kernel_rfl) (by kernel_rfl) (by rfl)) (enters_op Tryd.func47 (by kernel_rfl) (by kernel_rfl) (by rfl))
    (fun w' l' hL' hb' => gives_row hL'.size (story_pieces _ ps w' (HPR.out.below (bl_then HL5.out.below hb')) HPS.out (by omega) (ht.below (bl_then HL5.out.below hb'))))
    (fun w' l' hL' hb' => gives_row hL'.size (story_xattrs _ xs w' (HXR.out.below (bl_then HL5.out.below hb')) (fun q hq => Nat.le_trans (HXS.out q hq) (by decide)) (by omega))) ?_
  clear hL HL5
  intro r1 r2 w6 hL
  obtain ⟨ao1, c1, e1, -⟩ := R_elem (hL.own (E := encS) (v := r1) (xs := ps.map Pce.word) (base := w.heap.size) (e := 9) (.tail _ (.head _))).read
  subst e1
  obtain ⟨ao2, c2, e2, -⟩ := R_elem (hL.own (E := encS) (v := r2) (xs := xs.map Xat.word) (base := w.heap.size) (e := 9) (.head _)).read
  subst e2
  refine wpAny_drop 7 (by rfl) (by kernel_rfl) ?_
  simp only [List.drop_succ_cons, List.drop_zero, Act.put, List.setIfInBounds_toArray, List.set_cons_succ, List.set_cons_zero]
  obtain ⟨n1', hn1⟩ : ∃ n1', n1' = (ps.map Pce.word).length := ⟨_, rfl⟩
  obtain ⟨n2', hn2⟩ : ∃ n2', n2' = (xs.map Xat.word).length := ⟨_, rfl⟩
  rw [← hn1, ← hn2] at hL ⊢
  have HN1 := Lib.hid hn1
  have HN2 := Lib.hid hn2
  clear hn1 hn2
  go_wp2_with (first
    | ((with_reducible refine gate (N := 49) rfl ?_); refine ev_litL (cs := [.slice ao' 2 c', .slice ao1 n1' c1, .slice ao2 n2' c2]) rfl hL rfl rfl rfl (by kernel_rfl) ?_; clear hL; intro gq wq hL)
    | (go_at_call 45; have hq := ConcatS.concat (.slice (some ⟨gq, 0, none⟩) 3 3) [⟨ao', 2, c'⟩, ⟨ao1, n1', c1⟩, ⟨ao2, n2', c2⟩] [[⟨#[102, 105, 108, 101]⟩, ⟨#[97, 116, 116, 114]⟩], ps.map Pce.word, xs.map Xat.word] _ (R_box (E := encSl) (t := 34) [⟨ao', 2, c'⟩, ⟨ao1, n1', c1⟩, ⟨ao2, n2', c2⟩] (hL.box (by first | exact mm0 | exact mm1 | exact mm2 | exact mm3 | exact mm4 | exact mm5 | exact mm6 | exact mm7 | exact mm8)) rfl (by simp)) rfl (three_ (hL.own (E := encS) (base := w.heap.size) (e := 9) (by first | exact mm0 | exact mm1 | exact mm2 | exact mm3 | exact mm4 | exact mm5 | exact mm6 | exact mm7 | exact mm8)).read (hL.own (E := encS) (base := w.heap.size) (e := 9) (by first | exact mm0 | exact mm1 | exact mm2 | exact mm3 | exact mm4 | exact mm5 | exact mm6 | exact mm7 | exact mm8)).read (hL.own (E := encS) (base := w.heap.size) (e := 9) (by first | exact mm0 | exact mm1 | exact mm2 | exact mm3 | exact mm4 | exact mm5 | exact mm6 | exact mm7 | exact mm8)).read) (Nat.le_trans HFL.out (by decide)) (by simp); (with_reducible refine hq.mono ?_); rintro e w3 ⟨u, rfl, hL3⟩; have hL := hL.takeRow hL3; clear hL3 hq)
    | (go_at_call 23; (with_reducible refine (story_stamp hd.id _ hib hin (ht.below hL.below)).mono ?_); rintro e w3 ⟨rfl, hb3⟩; have hL := hL.call hb3; clear hb3)
    | (go_at_call 48; have hq := join_b _ _ _ _ (hL.own (E := encS) (by first | exact mm0 | exact mm1 | exact mm2 | exact mm3 | exact mm4 | exact mm5 | exact mm6 | exact mm7 | exact mm8)) (by rw [← HJD.out]; exact Nat.le_trans hJ (by decide)) (Nat.le_trans HFL.out (by decide)); rw [← HJD.out] at hq; (with_reducible refine hq.mono ?_); rintro e w3 ⟨rfl, hb3⟩; have hL := hL.call hb3; clear hb3 hq)
    | ((with_reducible refine gCat rfl rfl ?_); refine ev_cat rfl rfl rfl rfl (by simp only [ByteArray.size_append, ByteArray.size_mk']; simp; omega) ?_)
    | ((with_reducible refine gAlloc rfl rfl ?_); (refine ev_allocL rfl hL rfl (by first | exact CellsC.of | exact cells_one (by assumption) (by assumption) | exact cells_agg _ rfl) ?_; clear hL; intro gq wq hL)) | ((with_reducible refine gBox rfl rfl ?_); (refine ev_boxL rfl hL rfl rfl (by first | exact CellsC.of | exact cells_one (by assumption) (by assumption) | exact cells_agg _ rfl) ?_; clear hL; intro gq wq hL)) | ((with_reducible refine gLoad rfl rfl ?_); (first | (refine ev_load1L rfl hL rfl rfl HasV.mem (by rfl) ?_) | (refine ev_loadAllL rfl hL rfl rfl HasV.mem (by rfl) ?_) | (refine ev_loadL rfl hL rfl rfl HasV.mem SegC.seg ?_))) | ((with_reducible refine gStore rfl rfl ?_); (first | (refine ev_storeC rfl hL rfl rfl rfl (by first | exact CellsC.of | exact cells_one (by assumption) (by assumption) | exact cells_agg _ rfl) (by rfl) ?_) | (refine ev_storeAllC rfl hL rfl rfl rfl (by first | exact CellsC.of | exact cells_one (by assumption) (by assumption) | exact cells_agg _ rfl) (by rfl) (by rfl) ?_)); clear hL; intro wq hL) | ((with_reducible refine gLoadG rfl rfl ?_ ?_); (exact wanted_some rfl rfl rfl (by with_reducible rfl)); (first | (refine ev_load1G (wanted_some rfl rfl rfl rfl) hL rfl rfl HasV.mem (by rfl) ?_) | (refine ev_loadAllG (wanted_some rfl rfl rfl rfl) hL rfl rfl HasV.mem (by rfl) ?_) | (refine ev_loadG_ (wanted_some rfl rfl rfl rfl) hL rfl rfl HasV.mem SegC.seg ?_))))
  go_ret
  exact ⟨ret_s HE.out.symm, hL.below⟩
theorem story_inode100 (hd : IHd) (p x : Sl) (ps : List Pce) (xs : List Xat) (w : World) (hp : encPc.R w p.val ps) (hx : encXt.R w x.val xs) (hw : (InoD.mk hd ps xs).wf 100000000) (hpl : ps.length ≤ 1000) (hxl : xs.length ≤ 1000) (ht : Tb w) (hk : hd.kind = 1) (h1 : decide (hd.attr.at_ = Mk.zero) = false) (h2 : decide (hd.size.at_ = Mk.zero) = false) :
    Calls Tryd.prog 25 #[.agg (Ino.mk hd p x).cells.toArray] w fun e w' => e = .returned (.string (InoD.mk hd ps xs).line) ∧ Below w.heap.size w w' := by
  have hL := (Loc.nil w NoM).rowNil encS w.heap.size 9
  obtain ⟨hib, hin⟩ := hw.hd.id
  have hszn : I64 hd.size.n := hw.hd.n
  have HPS := Lib.hid (fun q hq => (hw.ps q hq).idx)
  have HXS := Lib.hid (fun q hq => (hw.xs q hq).name)
  have n1 := stamp_nz hd.attr.at_
  have n2 := stamp_nz hd.size.at_
  rw [h1] at n1
  rw [h2] at n2
  simp only [Bool.not_true, Bool.not_false] at n1 n2
  have hs1 := hd.id.text_size hib hin
  have hs2 : (itoaB hd.size.n).size ≤ 30 := hszn.size
  obtain ⟨SW, hSW⟩ : ∃ SW, SW = (⟨#[115, 105, 122, 101, 58]⟩ : ByteArray) ++ itoaB hd.size.n := ⟨_, rfl⟩
  have hSs : SW.size ≤ 1000000000 := by rw [hSW]; simp only [ByteArray.size_append, ByteArray.size_mk']; simp; omega
  have hws : hd.ws = [⟨#[102, 105, 108, 101]⟩, ⟨#[97, 116, 116, 114]⟩, SW] := by
    unfold IHd.ws kindWs
    rw [← hSW]
    simp only [decide_eq_true_eq, decide_eq_false_iff_not] at h1 h2
    simp [h1, h2, hk]
  have t1 : (hd.kind == 1) = true := by simpa using hk
  have hwsz : ∀ y ∈ ([⟨#[102, 105, 108, 101]⟩, ⟨#[97, 116, 116, 114]⟩, SW] : List ByteArray), y.size ≤ 1000000000 := by
    intro y hy
    simp only [List.mem_cons, List.not_mem_nil, or_false] at hy
    rcases hy with rfl | rfl | rfl <;> first | exact hSs | (show _ ≤ (1000000000 : Nat); decide)
  have HW : Hid (∀ y ∈ ([[⟨#[102, 105, 108, 101]⟩, ⟨#[97, 116, 116, 114]⟩, SW], ps.map Pce.word, xs.map Xat.word] : List (List ByteArray)).flatten, y.size ≤ 1000000000) := Lib.hid (by
    intro y hy
    simp only [List.flatten_cons, List.flatten_nil, List.append_nil, List.mem_append, List.mem_map] at hy
    rcases hy with hy | ⟨q, hq, rfl⟩ | ⟨q, hq, rfl⟩
    · exact hwsz y hy
    · exact word_pc q (HPS.out q hq)
    · exact word_xt q (Nat.le_trans (HXS.out q hq) (by decide)))
  have hfl : ([[⟨#[102, 105, 108, 101]⟩, ⟨#[97, 116, 116, 114]⟩, SW], ps.map Pce.word, xs.map Xat.word] : List (List ByteArray)).flatten.length ≤ 2003 := by simp; omega
  have HFL := Lib.hid hfl
  have hJ : (joinB ([[⟨#[102, 105, 108, 101]⟩, ⟨#[97, 116, 116, 114]⟩, SW], ps.map Pce.word, xs.map Xat.word] : List (List ByteArray)).flatten).size ≤ 10000000000000 := by
    have := joinB_le 1000000000 _ HW.out
    have h4 := Nat.mul_le_mul_right (1000000000 + 1) hfl
    omega
  have HE := Lib.hid (show InoD.line (InoD.mk hd ps xs) = ⟨#[105, 110, 111, 100, 101, 32]⟩ ++ hd.id.text ++ ⟨#[32]⟩ ++ joinB ([[⟨#[102, 105, 108, 101]⟩, ⟨#[97, 116, 116, 114]⟩, SW], ps.map Pce.word, xs.map Xat.word] : List (List ByteArray)).flatten from by unfold InoD.line InoD.ws; rw [hws]; simp)
  obtain ⟨J, hJD⟩ : ∃ J, J = joinB ([[⟨#[102, 105, 108, 101]⟩, ⟨#[97, 116, 116, 114]⟩, SW], ps.map Pce.word, xs.map Xat.word] : List (List ByteArray)).flatten := ⟨_, rfl⟩
  rw [← hJD] at hJ HE
  have HJD := Lib.hid hJD
  clear hJD
  have HSW := Lib.hid hSW
  have HPR := Lib.hid hp
  have HXR := Lib.hid hx
  clear hws h1 h2 hk hw hSW hwsz hfl hp hx
  unfold Ino.cells
  go_enter Tryd.func25, Tryd.ntmps25
  go_wp2_with (first
    | ((with_reducible refine gate (N := 1) rfl ?_); (refine ev_boxL rfl hL rfl rfl (by first | exact CellsC.of | exact cells_one (by assumption) (by assumption) | exact cells_agg _ rfl) ?_; clear hL; intro g1 w1 hL))
    | ((with_reducible refine gate (N := 9) rfl ?_); refine ev_litL (cs := [.string ⟨#[102, 105, 108, 101]⟩]) rfl hL rfl rfl rfl (by kernel_rfl) ?_; clear hL; intro gq wq hL)
    | ((with_reducible refine gate (N := 27) rfl ?_); refine ev_litL (cs := [.string ⟨#[97, 116, 116, 114]⟩]) rfl hL rfl rfl rfl (by kernel_rfl) ?_; clear hL; intro gq wq hL)
    | ((with_reducible refine gate (N := 40) rfl ?_); refine ev_litL (cs := [.string SW]) rfl hL rfl rfl rfl (by kernel_rfl) ?_; clear hL; intro gq wq hL)
    | (go_at_call 24; have hq := itoa_c hd.size.n hszn.1 hszn.2 _ (ht.below hL.below); (with_reducible refine hq.mono ?_); rintro e w3 ⟨rfl, hb3⟩; have hL := hL.call hb3; clear hb3 hq)
    | (((with_reducible refine gCat rfl rfl ?_); refine ev_cat rfl rfl rfl rfl (by simp only [ByteArray.size_append, ByteArray.size_mk']; simp; omega) ?_); rw [← HSW.out])
    | ((with_reducible refine gAlloc rfl rfl ?_); (refine ev_allocL rfl hL rfl (by first | exact CellsC.of | exact cells_one (by assumption) (by assumption) | exact cells_agg _ rfl) ?_; clear hL; intro gq wq hL)) | ((with_reducible refine gBox rfl rfl ?_); (refine ev_boxL rfl hL rfl rfl (by first | exact CellsC.of | exact cells_one (by assumption) (by assumption) | exact cells_agg _ rfl) ?_; clear hL; intro gq wq hL)) | ((with_reducible refine gLoad rfl rfl ?_); (first | (refine ev_load1L rfl hL rfl rfl HasV.mem (by rfl) ?_) | (refine ev_loadAllL rfl hL rfl rfl HasV.mem (by rfl) ?_) | (refine ev_loadL rfl hL rfl rfl HasV.mem SegC.seg ?_))) | ((with_reducible refine gStore rfl rfl ?_); (first | (refine ev_storeC rfl hL rfl rfl rfl (by first | exact CellsC.of | exact cells_one (by assumption) (by assumption) | exact cells_agg _ rfl) (by rfl) ?_) | (refine ev_storeAllC rfl hL rfl rfl rfl (by first | exact CellsC.of | exact cells_one (by assumption) (by assumption) | exact cells_agg _ rfl) (by rfl) (by rfl) ?_)); clear hL; intro wq hL) | ((with_reducible refine gLoadG rfl rfl ?_ ?_); (exact wanted_some rfl rfl rfl (by with_reducible rfl)); (first | (refine ev_load1G (wanted_some rfl rfl rfl rfl) hL rfl rfl HasV.mem (by rfl) ?_) | (refine ev_loadAllG (wanted_some rfl rfl rfl rfl) hL rfl rfl HasV.mem (by rfl) ?_) | (refine ev_loadG_ (wanted_some rfl rfl rfl rfl) hL rfl rfl HasV.mem SegC.seg ?_)))
    | (at_builtin; refine ev_app1M (E := encS) (⟨#[102, 105, 108, 101]⟩) 1 [⟨#[102, 105, 108, 101]⟩] rfl hL rfl rfl rfl (by first | exact mm0 | exact mm1 | exact mm2 | exact mm3 | exact mm4 | exact mm5 | exact mm6 | exact mm7 | exact mm8) rfl rfl rfl (by first | exact fun _ => ss0 | exact fun _ => ss1 | exact fun _ => ss2 | exact fun _ => ss3 | exact fun _ => ss4 | exact fun _ => ss5 | exact fun _ => ss6) rfl rfl (by decide) hL.size ?_; clear hL; intro ao' c' wq hL)
    | (at_builtin; refine ev_app1M (E := encS) (⟨#[97, 116, 116, 114]⟩) 2 [⟨#[102, 105, 108, 101]⟩, ⟨#[97, 116, 116, 114]⟩] rfl hL rfl rfl rfl (by first | exact mm0 | exact mm1 | exact mm2 | exact mm3 | exact mm4 | exact mm5 | exact mm6 | exact mm7 | exact mm8) rfl rfl rfl (by first | exact fun _ => ss0 | exact fun _ => ss1 | exact fun _ => ss2 | exact fun _ => ss3 | exact fun _ => ss4 | exact fun _ => ss5 | exact fun _ => ss6) rfl rfl (by decide) hL.size ?_; clear hL; intro ao' c' wq hL)
    | (at_builtin; refine ev_app1M (E := encS) (SW) 3 [⟨#[102, 105, 108, 101]⟩, ⟨#[97, 116, 116, 114]⟩, SW] rfl hL rfl rfl rfl (by first | exact mm0 | exact mm1 | exact mm2 | exact mm3 | exact mm4 | exact mm5 | exact mm6 | exact mm7 | exact mm8) rfl rfl rfl (by first | exact fun _ => ss0 | exact fun _ => ss1 | exact fun _ => ss2 | exact fun _ => ss3 | exact fun _ => ss4 | exact fun _ => ss5 | exact fun _ => ss6) rfl rfl (by decide) hL.size ?_; clear hL; intro ao' c' wq hL))
  refine region_any (by kernel_rfl) hL ?_
  intro w5 hL5 hb5 hz5
  clear hL
  have hL := hL5
  clear hL5 hb5 hz5
  refine wpAny_takeN (i := 0) (by repeat (first | exact .zero _ _ | with_reducible apply Nth.succ)) (by kernel_rfl) (by kernel_rfl) (by kernel_rfl) (by exact fun _ _ _ h => h) (v := .slice ao' 3 c') (.inl ⟨by rfl, fun w => by simp [execOp, Instr.fieldAt, go_sem]⟩) ?_
  refine wpAny_takeN (i := 1) (by repeat (first | exact .zero _ _ | with_reducible apply Nth.succ)) (by kernel_rfl) (by kernel_rfl) (by kernel_rfl) (by exact fun _ _ _ h => h) (v := .pointer (some ⟨g1, 11, none⟩)) (.inl ⟨by rfl, fun w => by simp [execOp, Instr.fieldAt, go_sem]⟩) ?_
  refine wpAny_takeN (i := 4) (by repeat (first | exact .zero _ _ | with_reducible apply Nth.succ)) (by kernel_rfl) (by kernel_rfl) (by kernel_rfl) (by exact fun _ _ _ h => h) (v := .pointer (some ⟨g1, 12, none⟩)) (.inl ⟨by rfl, fun w => by simp [execOp, Instr.fieldAt, go_sem]⟩) ?_
  simp only [Act.put, List.setIfInBounds_toArray, List.set_cons_succ, List.set_cons_zero]
  have HL5 := Lib.hid hL
  refine wpAny_two (i1 := 2) (j1 := 3) (i2 := 5) (j2 := 6) (s1 := 43) (p1 := 44) (q1 := 45) (s2 := 46) (p2 := 47) (q2 := 48) (g := g1) (o1 := 11) (o2 := 12) (it1 := fun v => row encS w.heap.size 9 v (ps.map Pce.word)) (it2 := fun v => row encS w.heap.size 9 v (xs.map Xat.word))
    (Nth.get (by repeat (first | exact .zero _ _ | with_reducible apply Nth.succ))) (Nth.get (by repeat (first | exact .zero _ _ | with_reducible apply Nth.succ))) (Nth.get (by repeat (first | exact .zero _ _ | with_reducible apply Nth.succ))) (Nth.get (by repeat (first | exact .zero _ _ | with_reducible apply Nth.succ))) (wd_free (by rfl)) (wd_free (by rfl)) (wd_free (by rfl)) (wd_free (by rfl)) (by rfl) (by rfl) (by rfl) (by rfl) (by kernel_rfl) (by kernel_rfl) (by kernel_rfl) (by kernel_rfl) (by kernel_rfl) (by kernel_rfl)
    (by decide) (by decide) ⟨by simp, by simp⟩ (by rfl) (by rfl) (by infer_instance) (by infer_instance) (by rfl) (by rfl) hL (by first | exact mm0 | exact mm1 | exact mm2 | exact mm3 | exact mm4 | exact mm5 | exact mm6 | exact mm7 | exact mm8) (by rfl) (by rfl)
    (enters_op Tryd.func46 (by kernel_rfl) (by kernel_rfl) (by rfl)) (enters_op Tryd.func47 (by kernel_rfl) (by kernel_rfl) (by rfl))
    (fun w' l' hL' hb' => gives_row hL'.size (story_pieces _ ps w' (HPR.out.below (bl_then HL5.out.below hb')) HPS.out (by omega) (ht.below (bl_then HL5.out.below hb'))))
    (fun w' l' hL' hb' => gives_row hL'.size (story_xattrs _ xs w' (HXR.out.below (bl_then HL5.out.below hb')) (fun q hq => Nat.le_trans (HXS.out q hq) (by decide)) (by omega))) ?_
  clear hL HL5
  intro r1 r2 w6 hL
  obtain ⟨ao1, c1, e1, -⟩ := R_elem (hL.own (E := encS) (v := r1) (xs := ps.map Pce.word) (base := w.heap.size) (e := 9) (.tail _ (.head _))).read
  subst e1
  obtain ⟨ao2, c2, e2, -⟩ := R_elem (hL.own (E := encS) (v := r2) (xs := xs.map Xat.word) (base := w.heap.size) (e := 9) (.head _)).read
  subst e2
  refine wpAny_drop 7 (by rfl) (by kernel_rfl) ?_
  simp only [List.drop_succ_cons, List.drop_zero, Act.put, List.setIfInBounds_toArray, List.set_cons_succ, List.set_cons_zero]
  obtain ⟨n1', hn1⟩ : ∃ n1', n1' = (ps.map Pce.word).length := ⟨_, rfl⟩
  obtain ⟨n2', hn2⟩ : ∃ n2', n2' = (xs.map Xat.word).length := ⟨_, rfl⟩
  rw [← hn1, ← hn2] at hL ⊢
  have HN1 := Lib.hid hn1
  have HN2 := Lib.hid hn2
  clear hn1 hn2
  go_wp2_with (first
    | ((with_reducible refine gate (N := 49) rfl ?_); refine ev_litL (cs := [.slice ao' 3 c', .slice ao1 n1' c1, .slice ao2 n2' c2]) rfl hL rfl rfl rfl (by kernel_rfl) ?_; clear hL; intro gq wq hL)
    | (go_at_call 45; have hq := ConcatS.concat (.slice (some ⟨gq, 0, none⟩) 3 3) [⟨ao', 3, c'⟩, ⟨ao1, n1', c1⟩, ⟨ao2, n2', c2⟩] [[⟨#[102, 105, 108, 101]⟩, ⟨#[97, 116, 116, 114]⟩, SW], ps.map Pce.word, xs.map Xat.word] _ (R_box (E := encSl) (t := 34) [⟨ao', 3, c'⟩, ⟨ao1, n1', c1⟩, ⟨ao2, n2', c2⟩] (hL.box (by first | exact mm0 | exact mm1 | exact mm2 | exact mm3 | exact mm4 | exact mm5 | exact mm6 | exact mm7 | exact mm8)) rfl (by simp)) rfl (three_ (hL.own (E := encS) (base := w.heap.size) (e := 9) (by first | exact mm0 | exact mm1 | exact mm2 | exact mm3 | exact mm4 | exact mm5 | exact mm6 | exact mm7 | exact mm8)).read (hL.own (E := encS) (base := w.heap.size) (e := 9) (by first | exact mm0 | exact mm1 | exact mm2 | exact mm3 | exact mm4 | exact mm5 | exact mm6 | exact mm7 | exact mm8)).read (hL.own (E := encS) (base := w.heap.size) (e := 9) (by first | exact mm0 | exact mm1 | exact mm2 | exact mm3 | exact mm4 | exact mm5 | exact mm6 | exact mm7 | exact mm8)).read) (Nat.le_trans HFL.out (by decide)) (by simp); (with_reducible refine hq.mono ?_); rintro e w3 ⟨u, rfl, hL3⟩; have hL := hL.takeRow hL3; clear hL3 hq)
    | (go_at_call 23; (with_reducible refine (story_stamp hd.id _ hib hin (ht.below hL.below)).mono ?_); rintro e w3 ⟨rfl, hb3⟩; have hL := hL.call hb3; clear hb3)
    | (go_at_call 48; have hq := join_b _ _ _ _ (hL.own (E := encS) (by first | exact mm0 | exact mm1 | exact mm2 | exact mm3 | exact mm4 | exact mm5 | exact mm6 | exact mm7 | exact mm8)) (by rw [← HJD.out]; exact Nat.le_trans hJ (by decide)) (Nat.le_trans HFL.out (by decide)); rw [← HJD.out] at hq; (with_reducible refine hq.mono ?_); rintro e w3 ⟨rfl, hb3⟩; have hL := hL.call hb3; clear hb3 hq)
    | ((with_reducible refine gCat rfl rfl ?_); refine ev_cat rfl rfl rfl rfl (by simp only [ByteArray.size_append, ByteArray.size_mk']; simp; omega) ?_)
    | ((with_reducible refine gAlloc rfl rfl ?_); (refine ev_allocL rfl hL rfl (by first | exact CellsC.of | exact cells_one (by assumption) (by assumption) | exact cells_agg _ rfl) ?_; clear hL; intro gq wq hL)) | ((with_reducible refine gBox rfl rfl ?_); (refine ev_boxL rfl hL rfl rfl (by first | exact CellsC.of | exact cells_one (by assumption) (by assumption) | exact cells_agg _ rfl) ?_; clear hL; intro gq wq hL)) | ((with_reducible refine gLoad rfl rfl ?_); (first | (refine ev_load1L rfl hL rfl rfl HasV.mem (by rfl) ?_) | (refine ev_loadAllL rfl hL rfl rfl HasV.mem (by rfl) ?_) | (refine ev_loadL rfl hL rfl rfl HasV.mem SegC.seg ?_))) | ((with_reducible refine gStore rfl rfl ?_); (first | (refine ev_storeC rfl hL rfl rfl rfl (by first | exact CellsC.of | exact cells_one (by assumption) (by assumption) | exact cells_agg _ rfl) (by rfl) ?_) | (refine ev_storeAllC rfl hL rfl rfl rfl (by first | exact CellsC.of | exact cells_one (by assumption) (by assumption) | exact cells_agg _ rfl) (by rfl) (by rfl) ?_)); clear hL; intro wq hL) | ((with_reducible refine gLoadG rfl rfl ?_ ?_); (exact wanted_some rfl rfl rfl (by with_reducible rfl)); (first | (refine ev_load1G (wanted_some rfl rfl rfl rfl) hL rfl rfl HasV.mem (by rfl) ?_) | (refine ev_loadAllG (wanted_some rfl rfl rfl rfl) hL rfl rfl HasV.mem (by rfl) ?_) | (refine ev_loadG_ (wanted_some rfl rfl rfl rfl) hL rfl rfl HasV.mem SegC.seg ?_))))
  go_ret
  exact ⟨ret_s HE.out.symm, hL.below⟩
theorem story_inode211 (hd : IHd) (p x : Sl) (ps : List Pce) (xs : List Xat) (w : World) (hp : encPc.R w p.val ps) (hx : encXt.R w x.val xs) (hw : (InoD.mk hd ps xs).wf 100000000) (hpl : ps.length ≤ 1000) (hxl : xs.length ≤ 1000) (ht : Tb w) (hk : hd.kind = 2) (h1 : decide (hd.attr.at_ = Mk.zero) = true) (h2 : decide (hd.size.at_ = Mk.zero) = true) :
    Calls Tryd.prog 25 #[.agg (Ino.mk hd p x).cells.toArray] w fun e w' => e = .returned (.string (InoD.mk hd ps xs).line) ∧ Below w.heap.size w w' := by
  have hL := (Loc.nil w NoM).rowNil encS w.heap.size 9
  obtain ⟨hib, hin⟩ := hw.hd.id
  have hszn : I64 hd.size.n := hw.hd.n
  have HPS := Lib.hid (fun q hq => (hw.ps q hq).idx)
  have HXS := Lib.hid (fun q hq => (hw.xs q hq).name)
  have n1 := stamp_nz hd.attr.at_
  have n2 := stamp_nz hd.size.at_
  rw [h1] at n1
  rw [h2] at n2
  simp only [Bool.not_true, Bool.not_false] at n1 n2
  have hs1 := hd.id.text_size hib hin
  have hs2 : (itoaB hd.size.n).size ≤ 30 := hszn.size
  obtain ⟨SW, hSW⟩ : ∃ SW, SW = (⟨#[115, 105, 122, 101, 58]⟩ : ByteArray) ++ itoaB hd.size.n := ⟨_, rfl⟩
  have hSs : SW.size ≤ 1000000000 := by rw [hSW]; simp only [ByteArray.size_append, ByteArray.size_mk']; simp; omega
  have hws : hd.ws = [⟨#[100, 105, 114]⟩] := by
    unfold IHd.ws kindWs
    rw [← hSW]
    simp only [decide_eq_true_eq, decide_eq_false_iff_not] at h1 h2
    simp [h1, h2, hk]
  have t1 : (hd.kind == 1) = false := by simp [hk]
  have t2 : (hd.kind == 2) = true := by simpa using hk
  have hwsz : ∀ y ∈ ([⟨#[100, 105, 114]⟩] : List ByteArray), y.size ≤ 1000000000 := by
    intro y hy
    simp only [List.mem_cons, List.not_mem_nil, or_false] at hy
    rcases hy with rfl <;> first | exact hSs | (show _ ≤ (1000000000 : Nat); decide)
  have HW : Hid (∀ y ∈ ([[⟨#[100, 105, 114]⟩], ps.map Pce.word, xs.map Xat.word] : List (List ByteArray)).flatten, y.size ≤ 1000000000) := Lib.hid (by
    intro y hy
    simp only [List.flatten_cons, List.flatten_nil, List.append_nil, List.mem_append, List.mem_map] at hy
    rcases hy with hy | ⟨q, hq, rfl⟩ | ⟨q, hq, rfl⟩
    · exact hwsz y hy
    · exact word_pc q (HPS.out q hq)
    · exact word_xt q (Nat.le_trans (HXS.out q hq) (by decide)))
  have hfl : ([[⟨#[100, 105, 114]⟩], ps.map Pce.word, xs.map Xat.word] : List (List ByteArray)).flatten.length ≤ 2003 := by simp; omega
  have HFL := Lib.hid hfl
  have hJ : (joinB ([[⟨#[100, 105, 114]⟩], ps.map Pce.word, xs.map Xat.word] : List (List ByteArray)).flatten).size ≤ 10000000000000 := by
    have := joinB_le 1000000000 _ HW.out
    have h4 := Nat.mul_le_mul_right (1000000000 + 1) hfl
    omega
  have HE := Lib.hid (show InoD.line (InoD.mk hd ps xs) = ⟨#[105, 110, 111, 100, 101, 32]⟩ ++ hd.id.text ++ ⟨#[32]⟩ ++ joinB ([[⟨#[100, 105, 114]⟩], ps.map Pce.word, xs.map Xat.word] : List (List ByteArray)).flatten from by unfold InoD.line InoD.ws; rw [hws]; simp)
  obtain ⟨J, hJD⟩ : ∃ J, J = joinB ([[⟨#[100, 105, 114]⟩], ps.map Pce.word, xs.map Xat.word] : List (List ByteArray)).flatten := ⟨_, rfl⟩
  rw [← hJD] at hJ HE
  have HJD := Lib.hid hJD
  clear hJD
  have HSW := Lib.hid hSW
  have HPR := Lib.hid hp
  have HXR := Lib.hid hx
  clear hws h1 h2 hk hw hSW hwsz hfl hp hx
  unfold Ino.cells
  go_enter Tryd.func25, Tryd.ntmps25
  go_wp2_with (first
    | ((with_reducible refine gate (N := 1) rfl ?_); (refine ev_boxL rfl hL rfl rfl (by first | exact CellsC.of | exact cells_one (by assumption) (by assumption) | exact cells_agg _ rfl) ?_; clear hL; intro g1 w1 hL))
    | ((with_reducible refine gate (N := 14) rfl ?_); refine ev_litL (cs := [.string ⟨#[100, 105, 114]⟩]) rfl hL rfl rfl rfl (by kernel_rfl) ?_; clear hL; intro gq wq hL)
    | (go_at_call 24; have hq := itoa_c hd.size.n hszn.1 hszn.2 _ (ht.below hL.below); (with_reducible refine hq.mono ?_); rintro e w3 ⟨rfl, hb3⟩; have hL := hL.call hb3; clear hb3 hq)
    | (((with_reducible refine gCat rfl rfl ?_); refine ev_cat rfl rfl rfl rfl (by simp only [ByteArray.size_append, ByteArray.size_mk']; simp; omega) ?_); rw [← HSW.out])
    | ((with_reducible refine gAlloc rfl rfl ?_); (refine ev_allocL rfl hL rfl (by first | exact CellsC.of | exact cells_one (by assumption) (by assumption) | exact cells_agg _ rfl) ?_; clear hL; intro gq wq hL)) | ((with_reducible refine gBox rfl rfl ?_); (refine ev_boxL rfl hL rfl rfl (by first | exact CellsC.of | exact cells_one (by assumption) (by assumption) | exact cells_agg _ rfl) ?_; clear hL; intro gq wq hL)) | ((with_reducible refine gLoad rfl rfl ?_); (first | (refine ev_load1L rfl hL rfl rfl HasV.mem (by rfl) ?_) | (refine ev_loadAllL rfl hL rfl rfl HasV.mem (by rfl) ?_) | (refine ev_loadL rfl hL rfl rfl HasV.mem SegC.seg ?_))) | ((with_reducible refine gStore rfl rfl ?_); (first | (refine ev_storeC rfl hL rfl rfl rfl (by first | exact CellsC.of | exact cells_one (by assumption) (by assumption) | exact cells_agg _ rfl) (by rfl) ?_) | (refine ev_storeAllC rfl hL rfl rfl rfl (by first | exact CellsC.of | exact cells_one (by assumption) (by assumption) | exact cells_agg _ rfl) (by rfl) (by rfl) ?_)); clear hL; intro wq hL) | ((with_reducible refine gLoadG rfl rfl ?_ ?_); (exact wanted_some rfl rfl rfl (by with_reducible rfl)); (first | (refine ev_load1G (wanted_some rfl rfl rfl rfl) hL rfl rfl HasV.mem (by rfl) ?_) | (refine ev_loadAllG (wanted_some rfl rfl rfl rfl) hL rfl rfl HasV.mem (by rfl) ?_) | (refine ev_loadG_ (wanted_some rfl rfl rfl rfl) hL rfl rfl HasV.mem SegC.seg ?_)))
    | (at_builtin; refine ev_app1M (E := encS) (⟨#[100, 105, 114]⟩) 1 [⟨#[100, 105, 114]⟩] rfl hL rfl rfl rfl (by first | exact mm0 | exact mm1 | exact mm2 | exact mm3 | exact mm4 | exact mm5 | exact mm6 | exact mm7 | exact mm8) rfl rfl rfl (by first | exact fun _ => ss0 | exact fun _ => ss1 | exact fun _ => ss2 | exact fun _ => ss3 | exact fun _ => ss4 | exact fun _ => ss5 | exact fun _ => ss6) rfl rfl (by decide) hL.size ?_; clear hL; intro ao' c' wq hL))
  refine region_any (by kernel_rfl) hL ?_
  intro w5 hL5 hb5 hz5
  clear hL
  have hL := hL5
  clear hL5 hb5 hz5
  refine wpAny_takeN (i := 0) (by repeat (first | exact .zero _ _ | with_reducible apply Nth.succ)) (by kernel_rfl) (by kernel_rfl) (by kernel_rfl) (by exact fun _ _ _ h => h) (v := .slice ao' 1 c') (.inl ⟨by rfl, fun w => by simp [execOp, Instr.fieldAt, go_sem]⟩) ?_
  refine wpAny_takeN (i := 1) (by repeat (first | exact .zero _ _ | with_reducible apply Nth.succ)) (by kernel_rfl) (by kernel_rfl) (by kernel_rfl) (by exact fun _ _ _ h => h) (v := .pointer (some ⟨g1, 11, none⟩)) (.inl ⟨by rfl, fun w => by simp [execOp, Instr.fieldAt, go_sem]⟩) ?_
  refine wpAny_takeN (i := 4) (by repeat (first | exact .zero _ _ | with_reducible apply Nth.succ)) (by kernel_rfl) (by kernel_rfl) (by kernel_rfl) (by exact fun _ _ _ h => h) (v := .pointer (some ⟨g1, 12, none⟩)) (.inl ⟨by rfl, fun w => by simp [execOp, Instr.fieldAt, go_sem]⟩) ?_
  simp only [Act.put, List.setIfInBounds_toArray, List.set_cons_succ, List.set_cons_zero]
  have HL5 := Lib.hid hL
  refine wpAny_two (i1 := 2) (j1 := 3) (i2 := 5) (j2 := 6) (s1 := 43) (p1 := 44) (q1 := 45) (s2 := 46) (p2 := 47) (q2 := 48) (g := g1) (o1 := 11) (o2 := 12) (it1 := fun v => row encS w.heap.size 9 v (ps.map Pce.word)) (it2 := fun v => row encS w.heap.size 9 v (xs.map Xat.word))
    (Nth.get (by repeat (first | exact .zero _ _ | with_reducible apply Nth.succ))) (Nth.get (by repeat (first | exact .zero _ _ | with_reducible apply Nth.succ))) (Nth.get (by repeat (first | exact .zero _ _ | with_reducible apply Nth.succ))) (Nth.get (by repeat (first | exact .zero _ _ | with_reducible apply Nth.succ))) (wd_free (by rfl)) (wd_free (by rfl)) (wd_free (by rfl)) (wd_free (by rfl)) (by rfl) (by rfl) (by rfl) (by rfl) (by kernel_rfl) (by kernel_rfl) (by kernel_rfl) (by kernel_rfl) (by kernel_rfl) (by kernel_rfl)
    (by decide) (by decide) ⟨by simp, by simp⟩ (by rfl) (by rfl) (by infer_instance) (by infer_instance) (by rfl) (by rfl) hL (by first | exact mm0 | exact mm1 | exact mm2 | exact mm3 | exact mm4 | exact mm5 | exact mm6 | exact mm7 | exact mm8) (by rfl) (by rfl)
    (enters_op Tryd.func46 (by kernel_rfl) (by kernel_rfl) (by rfl)) (enters_op Tryd.func47 (by kernel_rfl) (by kernel_rfl) (by rfl))
    (fun w' l' hL' hb' => gives_row hL'.size (story_pieces _ ps w' (HPR.out.below (bl_then HL5.out.below hb')) HPS.out (by omega) (ht.below (bl_then HL5.out.below hb'))))
    (fun w' l' hL' hb' => gives_row hL'.size (story_xattrs _ xs w' (HXR.out.below (bl_then HL5.out.below hb')) (fun q hq => Nat.le_trans (HXS.out q hq) (by decide)) (by omega))) ?_
  clear hL HL5
  intro r1 r2 w6 hL
  obtain ⟨ao1, c1, e1, -⟩ := R_elem (hL.own (E := encS) (v := r1) (xs := ps.map Pce.word) (base := w.heap.size) (e := 9) (.tail _ (.head _))).read
  subst e1
  obtain ⟨ao2, c2, e2, -⟩ := R_elem (hL.own (E := encS) (v := r2) (xs := xs.map Xat.word) (base := w.heap.size) (e := 9) (.head _)).read
  subst e2
  refine wpAny_drop 7 (by rfl) (by kernel_rfl) ?_
  simp only [List.drop_succ_cons, List.drop_zero, Act.put, List.setIfInBounds_toArray, List.set_cons_succ, List.set_cons_zero]
  obtain ⟨n1', hn1⟩ : ∃ n1', n1' = (ps.map Pce.word).length := ⟨_, rfl⟩
  obtain ⟨n2', hn2⟩ : ∃ n2', n2' = (xs.map Xat.word).length := ⟨_, rfl⟩
  rw [← hn1, ← hn2] at hL ⊢
  have HN1 := Lib.hid hn1
  have HN2 := Lib.hid hn2
  clear hn1 hn2
  go_wp2_with (first
    | ((with_reducible refine gate (N := 49) rfl ?_); refine ev_litL (cs := [.slice ao' 1 c', .slice ao1 n1' c1, .slice ao2 n2' c2]) rfl hL rfl rfl rfl (by kernel_rfl) ?_; clear hL; intro gq wq hL)
    | (go_at_call 45; have hq := ConcatS.concat (.slice (some ⟨gq, 0, none⟩) 3 3) [⟨ao', 1, c'⟩, ⟨ao1, n1', c1⟩, ⟨ao2, n2', c2⟩] [[⟨#[100, 105, 114]⟩], ps.map Pce.word, xs.map Xat.word] _ (R_box (E := encSl) (t := 34) [⟨ao', 1, c'⟩, ⟨ao1, n1', c1⟩, ⟨ao2, n2', c2⟩] (hL.box (by first | exact mm0 | exact mm1 | exact mm2 | exact mm3 | exact mm4 | exact mm5 | exact mm6 | exact mm7 | exact mm8)) rfl (by simp)) rfl (three_ (hL.own (E := encS) (base := w.heap.size) (e := 9) (by first | exact mm0 | exact mm1 | exact mm2 | exact mm3 | exact mm4 | exact mm5 | exact mm6 | exact mm7 | exact mm8)).read (hL.own (E := encS) (base := w.heap.size) (e := 9) (by first | exact mm0 | exact mm1 | exact mm2 | exact mm3 | exact mm4 | exact mm5 | exact mm6 | exact mm7 | exact mm8)).read (hL.own (E := encS) (base := w.heap.size) (e := 9) (by first | exact mm0 | exact mm1 | exact mm2 | exact mm3 | exact mm4 | exact mm5 | exact mm6 | exact mm7 | exact mm8)).read) (Nat.le_trans HFL.out (by decide)) (by simp); (with_reducible refine hq.mono ?_); rintro e w3 ⟨u, rfl, hL3⟩; have hL := hL.takeRow hL3; clear hL3 hq)
    | (go_at_call 23; (with_reducible refine (story_stamp hd.id _ hib hin (ht.below hL.below)).mono ?_); rintro e w3 ⟨rfl, hb3⟩; have hL := hL.call hb3; clear hb3)
    | (go_at_call 48; have hq := join_b _ _ _ _ (hL.own (E := encS) (by first | exact mm0 | exact mm1 | exact mm2 | exact mm3 | exact mm4 | exact mm5 | exact mm6 | exact mm7 | exact mm8)) (by rw [← HJD.out]; exact Nat.le_trans hJ (by decide)) (Nat.le_trans HFL.out (by decide)); rw [← HJD.out] at hq; (with_reducible refine hq.mono ?_); rintro e w3 ⟨rfl, hb3⟩; have hL := hL.call hb3; clear hb3 hq)
    | ((with_reducible refine gCat rfl rfl ?_); refine ev_cat rfl rfl rfl rfl (by simp only [ByteArray.size_append, ByteArray.size_mk']; simp; omega) ?_)
    | ((with_reducible refine gAlloc rfl rfl ?_); (refine ev_allocL rfl hL rfl (by first | exact CellsC.of | exact cells_one (by assumption) (by assumption) | exact cells_agg _ rfl) ?_; clear hL; intro gq wq hL)) | ((with_reducible refine gBox rfl rfl ?_); (refine ev_boxL rfl hL rfl rfl (by first | exact CellsC.of | exact cells_one (by assumption) (by assumption) | exact cells_agg _ rfl) ?_; clear hL; intro gq wq hL)) | ((with_reducible refine gLoad rfl rfl ?_); (first | (refine ev_load1L rfl hL rfl rfl HasV.mem (by rfl) ?_) | (refine ev_loadAllL rfl hL rfl rfl HasV.mem (by rfl) ?_) | (refine ev_loadL rfl hL rfl rfl HasV.mem SegC.seg ?_))) | ((with_reducible refine gStore rfl rfl ?_); (first | (refine ev_storeC rfl hL rfl rfl rfl (by first | exact CellsC.of | exact cells_one (by assumption) (by assumption) | exact cells_agg _ rfl) (by rfl) ?_) | (refine ev_storeAllC rfl hL rfl rfl rfl (by first | exact CellsC.of | exact cells_one (by assumption) (by assumption) | exact cells_agg _ rfl) (by rfl) (by rfl) ?_)); clear hL; intro wq hL) | ((with_reducible refine gLoadG rfl rfl ?_ ?_); (exact wanted_some rfl rfl rfl (by with_reducible rfl)); (first | (refine ev_load1G (wanted_some rfl rfl rfl rfl) hL rfl rfl HasV.mem (by rfl) ?_) | (refine ev_loadAllG (wanted_some rfl rfl rfl rfl) hL rfl rfl HasV.mem (by rfl) ?_) | (refine ev_loadG_ (wanted_some rfl rfl rfl rfl) hL rfl rfl HasV.mem SegC.seg ?_))))
  go_ret
  exact ⟨ret_s HE.out.symm, hL.below⟩
theorem story_inode210 (hd : IHd) (p x : Sl) (ps : List Pce) (xs : List Xat) (w : World) (hp : encPc.R w p.val ps) (hx : encXt.R w x.val xs) (hw : (InoD.mk hd ps xs).wf 100000000) (hpl : ps.length ≤ 1000) (hxl : xs.length ≤ 1000) (ht : Tb w) (hk : hd.kind = 2) (h1 : decide (hd.attr.at_ = Mk.zero) = true) (h2 : decide (hd.size.at_ = Mk.zero) = false) :
    Calls Tryd.prog 25 #[.agg (Ino.mk hd p x).cells.toArray] w fun e w' => e = .returned (.string (InoD.mk hd ps xs).line) ∧ Below w.heap.size w w' := by
  have hL := (Loc.nil w NoM).rowNil encS w.heap.size 9
  obtain ⟨hib, hin⟩ := hw.hd.id
  have hszn : I64 hd.size.n := hw.hd.n
  have HPS := Lib.hid (fun q hq => (hw.ps q hq).idx)
  have HXS := Lib.hid (fun q hq => (hw.xs q hq).name)
  have n1 := stamp_nz hd.attr.at_
  have n2 := stamp_nz hd.size.at_
  rw [h1] at n1
  rw [h2] at n2
  simp only [Bool.not_true, Bool.not_false] at n1 n2
  have hs1 := hd.id.text_size hib hin
  have hs2 : (itoaB hd.size.n).size ≤ 30 := hszn.size
  obtain ⟨SW, hSW⟩ : ∃ SW, SW = (⟨#[115, 105, 122, 101, 58]⟩ : ByteArray) ++ itoaB hd.size.n := ⟨_, rfl⟩
  have hSs : SW.size ≤ 1000000000 := by rw [hSW]; simp only [ByteArray.size_append, ByteArray.size_mk']; simp; omega
  have hws : hd.ws = [⟨#[100, 105, 114]⟩, SW] := by
    unfold IHd.ws kindWs
    rw [← hSW]
    simp only [decide_eq_true_eq, decide_eq_false_iff_not] at h1 h2
    simp [h1, h2, hk]
  have t1 : (hd.kind == 1) = false := by simp [hk]
  have t2 : (hd.kind == 2) = true := by simpa using hk
  have hwsz : ∀ y ∈ ([⟨#[100, 105, 114]⟩, SW] : List ByteArray), y.size ≤ 1000000000 := by
    intro y hy
    simp only [List.mem_cons, List.not_mem_nil, or_false] at hy
    rcases hy with rfl | rfl <;> first | exact hSs | (show _ ≤ (1000000000 : Nat); decide)
  have HW : Hid (∀ y ∈ ([[⟨#[100, 105, 114]⟩, SW], ps.map Pce.word, xs.map Xat.word] : List (List ByteArray)).flatten, y.size ≤ 1000000000) := Lib.hid (by
    intro y hy
    simp only [List.flatten_cons, List.flatten_nil, List.append_nil, List.mem_append, List.mem_map] at hy
    rcases hy with hy | ⟨q, hq, rfl⟩ | ⟨q, hq, rfl⟩
    · exact hwsz y hy
    · exact word_pc q (HPS.out q hq)
    · exact word_xt q (Nat.le_trans (HXS.out q hq) (by decide)))
  have hfl : ([[⟨#[100, 105, 114]⟩, SW], ps.map Pce.word, xs.map Xat.word] : List (List ByteArray)).flatten.length ≤ 2003 := by simp; omega
  have HFL := Lib.hid hfl
  have hJ : (joinB ([[⟨#[100, 105, 114]⟩, SW], ps.map Pce.word, xs.map Xat.word] : List (List ByteArray)).flatten).size ≤ 10000000000000 := by
    have := joinB_le 1000000000 _ HW.out
    have h4 := Nat.mul_le_mul_right (1000000000 + 1) hfl
    omega
  have HE := Lib.hid (show InoD.line (InoD.mk hd ps xs) = ⟨#[105, 110, 111, 100, 101, 32]⟩ ++ hd.id.text ++ ⟨#[32]⟩ ++ joinB ([[⟨#[100, 105, 114]⟩, SW], ps.map Pce.word, xs.map Xat.word] : List (List ByteArray)).flatten from by unfold InoD.line InoD.ws; rw [hws]; simp)
  obtain ⟨J, hJD⟩ : ∃ J, J = joinB ([[⟨#[100, 105, 114]⟩, SW], ps.map Pce.word, xs.map Xat.word] : List (List ByteArray)).flatten := ⟨_, rfl⟩
  rw [← hJD] at hJ HE
  have HJD := Lib.hid hJD
  clear hJD
  have HSW := Lib.hid hSW
  have HPR := Lib.hid hp
  have HXR := Lib.hid hx
  clear hws h1 h2 hk hw hSW hwsz hfl hp hx
  unfold Ino.cells
  go_enter Tryd.func25, Tryd.ntmps25
  go_wp2_with (first
    | ((with_reducible refine gate (N := 1) rfl ?_); (refine ev_boxL rfl hL rfl rfl (by first | exact CellsC.of | exact cells_one (by assumption) (by assumption) | exact cells_agg _ rfl) ?_; clear hL; intro g1 w1 hL))
    | ((with_reducible refine gate (N := 14) rfl ?_); refine ev_litL (cs := [.string ⟨#[100, 105, 114]⟩]) rfl hL rfl rfl rfl (by kernel_rfl) ?_; clear hL; intro gq wq hL)
    | ((with_reducible refine gate (N := 40) rfl ?_); refine ev_litL (cs := [.string SW]) rfl hL rfl rfl rfl (by kernel_rfl) ?_; clear hL; intro gq wq hL)
    | (go_at_call 24; have hq := itoa_c hd.size.n hszn.1 hszn.2 _ (ht.below hL.below); (with_reducible refine hq.mono ?_); rintro e w3 ⟨rfl, hb3⟩; have hL := hL.call hb3; clear hb3 hq)
    | (((with_reducible refine gCat rfl rfl ?_); refine ev_cat rfl rfl rfl rfl (by simp only [ByteArray.size_append, ByteArray.size_mk']; simp; omega) ?_); rw [← HSW.out])
    | ((with_reducible refine gAlloc rfl rfl ?_); (refine ev_allocL rfl hL rfl (by first | exact CellsC.of | exact cells_one (by assumption) (by assumption) | exact cells_agg _ rfl) ?_; clear hL; intro gq wq hL)) | ((with_reducible refine gBox rfl rfl ?_); (refine ev_boxL rfl hL rfl rfl (by first | exact CellsC.of | exact cells_one (by assumption) (by assumption) | exact cells_agg _ rfl) ?_; clear hL; intro gq wq hL)) | ((with_reducible refine gLoad rfl rfl ?_); (first | (refine ev_load1L rfl hL rfl rfl HasV.mem (by rfl) ?_) | (refine ev_loadAllL rfl hL rfl rfl HasV.mem (by rfl) ?_) | (refine ev_loadL rfl hL rfl rfl HasV.mem SegC.seg ?_))) | ((with_reducible refine gStore rfl rfl ?_); (first | (refine ev_storeC rfl hL rfl rfl rfl (by first | exact CellsC.of | exact cells_one (by assumption) (by assumption) | exact cells_agg _ rfl) (by rfl) ?_) | (refine ev_storeAllC rfl hL rfl rfl rfl (by first | exact CellsC.of | exact cells_one (by assumption) (by assumption) | exact cells_agg _ rfl) (by rfl) (by rfl) ?_)); clear hL; intro wq hL) | ((with_reducible refine gLoadG rfl rfl ?_ ?_); (exact wanted_some rfl rfl rfl (by with_reducible rfl)); (first | (refine ev_load1G (wanted_some rfl rfl rfl rfl) hL rfl rfl HasV.mem (by rfl) ?_) | (refine ev_loadAllG (wanted_some rfl rfl rfl rfl) hL rfl rfl HasV.mem (by rfl) ?_) | (refine ev_loadG_ (wanted_some rfl rfl rfl rfl) hL rfl rfl HasV.mem SegC.seg ?_)))
    | (at_builtin; refine ev_app1M (E := encS) (⟨#[100, 105, 114]⟩) 1 [⟨#[100, 105, 114]⟩] rfl hL rfl rfl rfl (by first | exact mm0 | exact mm1 | exact mm2 | exact mm3 | exact mm4 | exact mm5 | exact mm6 | exact mm7 | exact mm8) rfl rfl rfl (by first | exact fun _ => ss0 | exact fun _ => ss1 | exact fun _ => ss2 | exact fun _ => ss3 | exact fun _ => ss4 | exact fun _ => ss5 | exact fun _ => ss6) rfl rfl (by decide) hL.size ?_; clear hL; intro ao' c' wq hL)
    | (at_builtin; refine ev_app1M (E := encS) (SW) 2 [⟨#[100, 105, 114]⟩, SW] rfl hL rfl rfl rfl (by first | exact mm0 | exact mm1 | exact mm2 | exact mm3 | exact mm4 | exact mm5 | exact mm6 | exact mm7 | exact mm8) rfl rfl rfl (by first | exact fun _ => ss0 | exact fun _ => ss1 | exact fun _ => ss2 | exact fun _ => ss3 | exact fun _ => ss4 | exact fun _ => ss5 | exact fun _ => ss6) rfl rfl (by decide) hL.size ?_; clear hL; intro ao' c' wq hL))
  refine region_any (by kernel_rfl) hL ?_
  intro w5 hL5 hb5 hz5
  clear hL
  have hL := hL5
  clear hL5 hb5 hz5
  refine wpAny_takeN (i := 0) (by repeat (first | exact .zero _ _ | with_reducible apply Nth.succ)) (by kernel_rfl) (by kernel_rfl) (by kernel_rfl) (by exact fun _ _ _ h => h) (v := .slice ao' 2 c') (.inl ⟨by rfl, fun w => by simp [execOp, Instr.fieldAt, go_sem]⟩) ?_
  refine wpAny_takeN (i := 1) (by repeat (first | exact .zero _ _ | with_reducible apply Nth.succ)) (by kernel_rfl) (by kernel_rfl) (by kernel_rfl) (by exact fun _ _ _ h => h) (v := .pointer (some ⟨g1, 11, none⟩)) (.inl ⟨by rfl, fun w => by simp [execOp, Instr.fieldAt, go_sem]⟩) ?_
  refine wpAny_takeN (i := 4) (by repeat (first | exact .zero _ _ | with_reducible apply Nth.succ)) (by kernel_rfl) (by kernel_rfl) (by kernel_rfl) (by exact fun _ _ _ h => h) (v := .pointer (some ⟨g1, 12, none⟩)) (.inl ⟨by rfl, fun w => by simp [execOp, Instr.fieldAt, go_sem]⟩) ?_
  simp only [Act.put, List.setIfInBounds_toArray, List.set_cons_succ, List.set_cons_zero]
  have HL5 := Lib.hid hL
  refine wpAny_two (i1 := 2) (j1 := 3) (i2 := 5) (j2 := 6) (s1 := 43) (p1 := 44) (q1 := 45) (s2 := 46) (p2 := 47) (q2 := 48) (g := g1) (o1 := 11) (o2 := 12) (it1 := fun v => row encS w.heap.size 9 v (ps.map Pce.word)) (it2 := fun v => row encS w.heap.size 9 v (xs.map Xat.word))
    (Nth.get (by repeat (first | exact .zero _ _ | with_reducible apply Nth.succ))) (Nth.get (by repeat (first | exact .zero _ _ | with_reducible apply Nth.succ))) (Nth.get (by repeat (first | exact .zero _ _ | with_reducible apply Nth.succ))) (Nth.get (by repeat (first | exact .zero _ _ | with_reducible apply Nth.succ))) (wd_free (by rfl)) (wd_free (by rfl)) (wd_free (by rfl)) (wd_free (by rfl)) (by rfl) (by rfl) (by rfl) (by rfl) (by kernel_rfl) (by kernel_rfl) (by kernel_rfl) (by kernel_rfl) (by kernel_rfl) (by kernel_rfl)
    (by decide) (by decide) ⟨by simp, by simp⟩ (by rfl) (by rfl) (by infer_instance) (by infer_instance) (by rfl) (by rfl) hL (by first | exact mm0 | exact mm1 | exact mm2 | exact mm3 | exact mm4 | exact mm5 | exact mm6 | exact mm7 | exact mm8) (by rfl) (by rfl)
    (enters_op Tryd.func46 (by kernel_rfl) (by kernel_rfl) (by rfl)) (enters_op Tryd.func47 (by kernel_rfl) (by kernel_rfl) (by rfl))
    (fun w' l' hL' hb' => gives_row hL'.size (story_pieces _ ps w' (HPR.out.below (bl_then HL5.out.below hb')) HPS.out (by omega) (ht.below (bl_then HL5.out.below hb'))))
    (fun w' l' hL' hb' => gives_row hL'.size (story_xattrs _ xs w' (HXR.out.below (bl_then HL5.out.below hb')) (fun q hq => Nat.le_trans (HXS.out q hq) (by decide)) (by omega))) ?_
  clear hL HL5
  intro r1 r2 w6 hL
  obtain ⟨ao1, c1, e1, -⟩ := R_elem (hL.own (E := encS) (v := r1) (xs := ps.map Pce.word) (base := w.heap.size) (e := 9) (.tail _ (.head _))).read
  subst e1
  obtain ⟨ao2, c2, e2, -⟩ := R_elem (hL.own (E := encS) (v := r2) (xs := xs.map Xat.word) (base := w.heap.size) (e := 9) (.head _)).read
  subst e2
  refine wpAny_drop 7 (by rfl) (by kernel_rfl) ?_
  simp only [List.drop_succ_cons, List.drop_zero, Act.put, List.setIfInBounds_toArray, List.set_cons_succ, List.set_cons_zero]
  obtain ⟨n1', hn1⟩ : ∃ n1', n1' = (ps.map Pce.word).length := ⟨_, rfl⟩
  obtain ⟨n2', hn2⟩ : ∃ n2', n2' = (xs.map Xat.word).length := ⟨_, rfl⟩
  rw [← hn1, ← hn2] at hL ⊢
  have HN1 := Lib.hid hn1
  have HN2 := Lib.hid hn2
  clear hn1 hn2
  go_wp2_with (first
    | ((with_reducible refine gate (N := 49) rfl ?_); refine ev_litL (cs := [.slice ao' 2 c', .slice ao1 n1' c1, .slice ao2 n2' c2]) rfl hL rfl rfl rfl (by kernel_rfl) ?_; clear hL; intro gq wq hL)
    | (go_at_call 45; have hq := ConcatS.concat (.slice (some ⟨gq, 0, none⟩) 3 3) [⟨ao', 2, c'⟩, ⟨ao1, n1', c1⟩, ⟨ao2, n2', c2⟩] [[⟨#[100, 105, 114]⟩, SW], ps.map Pce.word, xs.map Xat.word] _ (R_box (E := encSl) (t := 34) [⟨ao', 2, c'⟩, ⟨ao1, n1', c1⟩, ⟨ao2, n2', c2⟩] (hL.box (by first | exact mm0 | exact mm1 | exact mm2 | exact mm3 | exact mm4 | exact mm5 | exact mm6 | exact mm7 | exact mm8)) rfl (by simp)) rfl (three_ (hL.own (E := encS) (base := w.heap.size) (e := 9) (by first | exact mm0 | exact mm1 | exact mm2 | exact mm3 | exact mm4 | exact mm5 | exact mm6 | exact mm7 | exact mm8)).read (hL.own (E := encS) (base := w.heap.size) (e := 9) (by first | exact mm0 | exact mm1 | exact mm2 | exact mm3 | exact mm4 | exact mm5 | exact mm6 | exact mm7 | exact mm8)).read (hL.own (E := encS) (base := w.heap.size) (e := 9) (by first | exact mm0 | exact mm1 | exact mm2 | exact mm3 | exact mm4 | exact mm5 | exact mm6 | exact mm7 | exact mm8)).read) (Nat.le_trans HFL.out (by decide)) (by simp); (with_reducible refine hq.mono ?_); rintro e w3 ⟨u, rfl, hL3⟩; have hL := hL.takeRow hL3; clear hL3 hq)
    | (go_at_call 23; (with_reducible refine (story_stamp hd.id _ hib hin (ht.below hL.below)).mono ?_); rintro e w3 ⟨rfl, hb3⟩; have hL := hL.call hb3; clear hb3)
    | (go_at_call 48; have hq := join_b _ _ _ _ (hL.own (E := encS) (by first | exact mm0 | exact mm1 | exact mm2 | exact mm3 | exact mm4 | exact mm5 | exact mm6 | exact mm7 | exact mm8)) (by rw [← HJD.out]; exact Nat.le_trans hJ (by decide)) (Nat.le_trans HFL.out (by decide)); rw [← HJD.out] at hq; (with_reducible refine hq.mono ?_); rintro e w3 ⟨rfl, hb3⟩; have hL := hL.call hb3; clear hb3 hq)
    | ((with_reducible refine gCat rfl rfl ?_); refine ev_cat rfl rfl rfl rfl (by simp only [ByteArray.size_append, ByteArray.size_mk']; simp; omega) ?_)
    | ((with_reducible refine gAlloc rfl rfl ?_); (refine ev_allocL rfl hL rfl (by first | exact CellsC.of | exact cells_one (by assumption) (by assumption) | exact cells_agg _ rfl) ?_; clear hL; intro gq wq hL)) | ((with_reducible refine gBox rfl rfl ?_); (refine ev_boxL rfl hL rfl rfl (by first | exact CellsC.of | exact cells_one (by assumption) (by assumption) | exact cells_agg _ rfl) ?_; clear hL; intro gq wq hL)) | ((with_reducible refine gLoad rfl rfl ?_); (first | (refine ev_load1L rfl hL rfl rfl HasV.mem (by rfl) ?_) | (refine ev_loadAllL rfl hL rfl rfl HasV.mem (by rfl) ?_) | (refine ev_loadL rfl hL rfl rfl HasV.mem SegC.seg ?_))) | ((with_reducible refine gStore rfl rfl ?_); (first | (refine ev_storeC rfl hL rfl rfl rfl (by first | exact CellsC.of | exact cells_one (by assumption) (by assumption) | exact cells_agg _ rfl) (by rfl) ?_) | (refine ev_storeAllC rfl hL rfl rfl rfl (by first | exact CellsC.of | exact cells_one (by assumption) (by assumption) | exact cells_agg _ rfl) (by rfl) (by rfl) ?_)); clear hL; intro wq hL) | ((with_reducible refine gLoadG rfl rfl ?_ ?_); (exact wanted_some rfl rfl rfl (by with_reducible rfl)); (first | (refine ev_load1G (wanted_some rfl rfl rfl rfl) hL rfl rfl HasV.mem (by rfl) ?_) | (refine ev_loadAllG (wanted_some rfl rfl rfl rfl) hL rfl rfl HasV.mem (by rfl) ?_) | (refine ev_loadG_ (wanted_some rfl rfl rfl rfl) hL rfl rfl HasV.mem SegC.seg ?_))))
  go_ret
  exact ⟨ret_s HE.out.symm, hL.below⟩
theorem story_inode201 (hd : IHd) (p x : Sl) (ps : List Pce) (xs : List Xat) (w : World) (hp : encPc.R w p.val ps) (hx : encXt.R w x.val xs) (hw : (InoD.mk hd ps xs).wf 100000000) (hpl : ps.length ≤ 1000) (hxl : xs.length ≤ 1000) (ht : Tb w) (hk : hd.kind = 2) (h1 : decide (hd.attr.at_ = Mk.zero) = false) (h2 : decide (hd.size.at_ = Mk.zero) = true) :
    Calls Tryd.prog 25 #[.agg (Ino.mk hd p x).cells.toArray] w fun e w' => e = .returned (.string (InoD.mk hd ps xs).line) ∧ Below w.heap.size w w' := by
  have hL := (Loc.nil w NoM).rowNil encS w.heap.size 9
  obtain ⟨hib, hin⟩ := hw.hd.id
  have hszn : I64 hd.size.n := hw.hd.n
  have HPS := Lib.hid (fun q hq => (hw.ps q hq).idx)
  have HXS := Lib.hid (fun q hq => (hw.xs q hq).name)
  have n1 := stamp_nz hd.attr.at_
  have n2 := stamp_nz hd.size.at_
  rw [h1] at n1
  rw [h2] at n2
  simp only [Bool.not_true, Bool.not_false] at n1 n2
  have hs1 := hd.id.text_size hib hin
  have hs2 : (itoaB hd.size.n).size ≤ 30 := hszn.size
  obtain ⟨SW, hSW⟩ : ∃ SW, SW = (⟨#[115, 105, 122, 101, 58]⟩ : ByteArray) ++ itoaB hd.size.n := ⟨_, rfl⟩
  have hSs : SW.size ≤ 1000000000 := by rw [hSW]; simp only [ByteArray.size_append, ByteArray.size_mk']; simp; omega
  have hws : hd.ws = [⟨#[100, 105, 114]⟩, ⟨#[97, 116, 116, 114]⟩] := by
    unfold IHd.ws kindWs
    rw [← hSW]
    simp only [decide_eq_true_eq, decide_eq_false_iff_not] at h1 h2
    simp [h1, h2, hk]
  have t1 : (hd.kind == 1) = false := by simp [hk]
  have t2 : (hd.kind == 2) = true := by simpa using hk
  have hwsz : ∀ y ∈ ([⟨#[100, 105, 114]⟩, ⟨#[97, 116, 116, 114]⟩] : List ByteArray), y.size ≤ 1000000000 := by
    intro y hy
    simp only [List.mem_cons, List.not_mem_nil, or_false] at hy
    rcases hy with rfl | rfl <;> first | exact hSs | (show _ ≤ (1000000000 : Nat); decide)
  have HW : Hid (∀ y ∈ ([[⟨#[100, 105, 114]⟩, ⟨#[97, 116, 116, 114]⟩], ps.map Pce.word, xs.map Xat.word] : List (List ByteArray)).flatten, y.size ≤ 1000000000) := Lib.hid (by
    intro y hy
    simp only [List.flatten_cons, List.flatten_nil, List.append_nil, List.mem_append, List.mem_map] at hy
    rcases hy with hy | ⟨q, hq, rfl⟩ | ⟨q, hq, rfl⟩
    · exact hwsz y hy
    · exact word_pc q (HPS.out q hq)
    · exact word_xt q (Nat.le_trans (HXS.out q hq) (by decide)))
  have hfl : ([[⟨#[100, 105, 114]⟩, ⟨#[97, 116, 116, 114]⟩], ps.map Pce.word, xs.map Xat.word] : List (List ByteArray)).flatten.length ≤ 2003 := by simp; omega
  have HFL := Lib.hid hfl
  have hJ : (joinB ([[⟨#[100, 105, 114]⟩, ⟨#[97, 116, 116, 114]⟩], ps.map Pce.word, xs.map Xat.word] : List (List ByteArray)).flatten).size ≤ 10000000000000 := by
    have := joinB_le 1000000000 _ HW.out
    have h4 := Nat.mul_le_mul_right (1000000000 + 1) hfl
    omega
  have HE := Lib.hid (show InoD.line (InoD.mk hd ps xs) = ⟨#[105, 110, 111, 100, 101, 32]⟩ ++ hd.id.text ++ ⟨#[32]⟩ ++ joinB ([[⟨#[100, 105, 114]⟩, ⟨#[97, 116, 116, 114]⟩], ps.map Pce.word, xs.map Xat.word] : List (List ByteArray)).flatten from by unfold InoD.line InoD.ws; rw [hws]; simp)
  obtain ⟨J, hJD⟩ : ∃ J, J = joinB ([[⟨#[100, 105, 114]⟩, ⟨#[97, 116, 116, 114]⟩], ps.map Pce.word, xs.map Xat.word] : List (List ByteArray)).flatten := ⟨_, rfl⟩
  rw [← hJD] at hJ HE
  have HJD := Lib.hid hJD
  clear hJD
  have HSW := Lib.hid hSW
  have HPR := Lib.hid hp
  have HXR := Lib.hid hx
  clear hws h1 h2 hk hw hSW hwsz hfl hp hx
  unfold Ino.cells
  go_enter Tryd.func25, Tryd.ntmps25
  go_wp2_with (first
    | ((with_reducible refine gate (N := 1) rfl ?_); (refine ev_boxL rfl hL rfl rfl (by first | exact CellsC.of | exact cells_one (by assumption) (by assumption) | exact cells_agg _ rfl) ?_; clear hL; intro g1 w1 hL))
    | ((with_reducible refine gate (N := 14) rfl ?_); refine ev_litL (cs := [.string ⟨#[100, 105, 114]⟩]) rfl hL rfl rfl rfl (by kernel_rfl) ?_; clear hL; intro gq wq hL)
    | ((with_reducible refine gate (N := 27) rfl ?_); refine ev_litL (cs := [.string ⟨#[97, 116, 116, 114]⟩]) rfl hL rfl rfl rfl (by kernel_rfl) ?_; clear hL; intro gq wq hL)
    | (go_at_call 24; have hq := itoa_c hd.size.n hszn.1 hszn.2 _ (ht.below hL.below); (with_reducible refine hq.mono ?_); rintro e w3 ⟨rfl, hb3⟩; have hL := hL.call hb3; clear hb3 hq)
    | (((with_reducible refine gCat rfl rfl ?_); refine ev_cat rfl rfl rfl rfl (by simp only [ByteArray.size_append, ByteArray.size_mk']; simp; omega) ?_); rw [← HSW.out])
    | ((with_reducible refine gAlloc rfl rfl ?_); (refine ev_allocL rfl hL rfl (by first | exact CellsC.of | exact cells_one (by assumption) (by assumption) | exact cells_agg _ rfl) ?_; clear hL; intro gq wq hL)) | ((with_reducible refine gBox rfl rfl ?_); (refine ev_boxL rfl hL rfl rfl (by first | exact CellsC.of | exact cells_one (by assumption) (by assumption) | exact cells_agg _ rfl) ?_; clear hL; intro gq wq hL)) | ((with_reducible refine gLoad rfl rfl ?_); (first | (refine ev_load1L rfl hL rfl rfl HasV.mem (by rfl) ?_) | (refine ev_loadAllL rfl hL rfl rfl HasV.mem (by rfl) ?_) | (refine ev_loadL rfl hL rfl rfl HasV.mem SegC.seg ?_))) | ((with_reducible refine gStore rfl rfl ?_); (first | (refine ev_storeC rfl hL rfl rfl rfl (by first | exact CellsC.of | exact cells_one (by assumption) (by assumption) | exact cells_agg _ rfl) (by rfl) ?_) | (refine ev_storeAllC rfl hL rfl rfl rfl (by first | exact CellsC.of | exact cells_one (by assumption) (by assumption) | exact cells_agg _ rfl) (by rfl) (by rfl) ?_)); clear hL; intro wq hL) | ((with_reducible refine gLoadG rfl rfl ?_ ?_); (exact wanted_some rfl rfl rfl (by with_reducible rfl)); (first | (refine ev_load1G (wanted_some rfl rfl rfl rfl) hL rfl rfl HasV.mem (by rfl) ?_) | (refine ev_loadAllG (wanted_some rfl rfl rfl rfl) hL rfl rfl HasV.mem (by rfl) ?_) | (refine ev_loadG_ (wanted_some rfl rfl rfl rfl) hL rfl rfl HasV.mem SegC.seg ?_)))
    | (at_builtin; refine ev_app1M (E := encS) (⟨#[100, 105, 114]⟩) 1 [⟨#[100, 105, 114]⟩] rfl hL rfl rfl rfl (by first | exact mm0 | exact mm1 | exact mm2 | exact mm3 | exact mm4 | exact mm5 | exact mm6 | exact mm7 | exact mm8) rfl rfl rfl (by first | exact fun _ => ss0 | exact fun _ => ss1 | exact fun _ => ss2 | exact fun _ => ss3 | exact fun _ => ss4 | exact fun _ => ss5 | exact fun _ => ss6) rfl rfl (by decide) hL.size ?_; clear hL; intro ao' c' wq hL)
    | (at_builtin; refine ev_app1M (E := encS) (⟨#[97, 116, 116, 114]⟩) 2 [⟨#[100, 105, 114]⟩, ⟨#[97, 116, 116, 114]⟩] rfl hL rfl rfl rfl (by first | exact mm0 | exact mm1 | exact mm2 | exact mm3 | exact mm4 | exact mm5 | exact mm6 | exact mm7 | exact mm8) rfl rfl rfl (by first | exact fun _ => ss0 | exact fun _ => ss1 | exact fun _ => ss2 | exact fun _ => ss3 | exact fun _ => ss4 | exact fun _ => ss5 | exact fun _ => ss6) rfl rfl (by decide) hL.size ?_; clear hL; intro ao' c' wq hL))
  refine region_any (by kernel_rfl) hL ?_
  intro w5 hL5 hb5 hz5
  clear hL
  have hL := hL5
  clear hL5 hb5 hz5
  refine wpAny_takeN (i := 0) (by repeat (first | exact .zero _ _ | with_reducible apply Nth.succ)) (by kernel_rfl) (by kernel_rfl) (by kernel_rfl) (by exact fun _ _ _ h => h) (v := .slice ao' 2 c') (.inl ⟨by rfl, fun w => by simp [execOp, Instr.fieldAt, go_sem]⟩) ?_
  refine wpAny_takeN (i := 1) (by repeat (first | exact .zero _ _ | with_reducible apply Nth.succ)) (by kernel_rfl) (by kernel_rfl) (by kernel_rfl) (by exact fun _ _ _ h => h) (v := .pointer (some ⟨g1, 11, none⟩)) (.inl ⟨by rfl, fun w => by simp [execOp, Instr.fieldAt, go_sem]⟩) ?_
  refine wpAny_takeN (i := 4) (by repeat (first | exact .zero _ _ | with_reducible apply Nth.succ)) (by kernel_rfl) (by kernel_rfl) (by kernel_rfl) (by exact fun _ _ _ h => h) (v := .pointer (some ⟨g1, 12, none⟩)) (.inl ⟨by rfl, fun w => by simp [execOp, Instr.fieldAt, go_sem]⟩) ?_
  simp only [Act.put, List.setIfInBounds_toArray, List.set_cons_succ, List.set_cons_zero]
  have HL5 := Lib.hid hL
  refine wpAny_two (i1 := 2) (j1 := 3) (i2 := 5) (j2 := 6) (s1 := 43) (p1 := 44) (q1 := 45) (s2 := 46) (p2 := 47) (q2 := 48) (g := g1) (o1 := 11) (o2 := 12) (it1 := fun v => row encS w.heap.size 9 v (ps.map Pce.word)) (it2 := fun v => row encS w.heap.size 9 v (xs.map Xat.word))
    (Nth.get (by repeat (first | exact .zero _ _ | with_reducible apply Nth.succ))) (Nth.get (by repeat (first | exact .zero _ _ | with_reducible apply Nth.succ))) (Nth.get (by repeat (first | exact .zero _ _ | with_reducible apply Nth.succ))) (Nth.get (by repeat (first | exact .zero _ _ | with_reducible apply Nth.succ))) (wd_free (by rfl)) (wd_free (by rfl)) (wd_free (by rfl)) (wd_free (by rfl)) (by rfl) (by rfl) (by rfl) (by rfl) (by kernel_rfl) (by kernel_rfl) (by kernel_rfl) (by kernel_rfl) (by kernel_rfl) (by kernel_rfl)
    (by decide) (by decide) ⟨by simp, by simp⟩ (by rfl) (by rfl) (by infer_instance) (by infer_instance) (by rfl) (by rfl) hL (by first | exact mm0 | exact mm1 | exact mm2 | exact mm3 | exact mm4 | exact mm5 | exact mm6 | exact mm7 | exact mm8) (by rfl) (by rfl)
    (enters_op Tryd.func46 (by kernel_rfl) (by kernel_rfl) (by rfl)) (enters_op Tryd.func47 (by kernel_rfl) (by kernel_rfl) (by rfl))
    (fun w' l' hL' hb' => gives_row hL'.size (story_pieces _ ps w' (HPR.out.below (bl_then HL5.out.below hb')) HPS.out (by omega) (ht.below (bl_then HL5.out.below hb'))))
    (fun w' l' hL' hb' => gives_row hL'.size (story_xattrs _ xs w' (HXR.out.below (bl_then HL5.out.below hb')) (fun q hq => Nat.le_trans (HXS.out q hq) (by decide)) (by omega))) ?_
  clear hL HL5
  intro r1 r2 w6 hL
  obtain ⟨ao1, c1, e1, -⟩ := R_elem (hL.own (E := encS) (v := r1) (xs := ps.map Pce.word) (base := w.heap.size) (e := 9) (.tail _ (.head _))).read
  subst e1
  obtain ⟨ao2, c2, e2, -⟩ := R_elem (hL.own (E := encS) (v := r2) (xs := xs.map Xat.word) (base := w.heap.size) (e := 9) (.head _)).read
  subst e2
  refine wpAny_drop 7 (by rfl) (by kernel_rfl) ?_
  simp only [List.drop_succ_cons, List.drop_zero, Act.put, List.setIfInBounds_toArray, List.set_cons_succ, List.set_cons_zero]
  obtain ⟨n1', hn1⟩ : ∃ n1', n1' = (ps.map Pce.word).length := ⟨_, rfl⟩
  obtain ⟨n2', hn2⟩ : ∃ n2', n2' = (xs.map Xat.word).length := ⟨_, rfl⟩
  rw [← hn1, ← hn2] at hL ⊢
  have HN1 := Lib.hid hn1
  have HN2 := Lib.hid hn2
  clear hn1 hn2
  go_wp2_with (first
    | ((with_reducible refine gate (N := 49) rfl ?_); refine ev_litL (cs := [.slice ao' 2 c', .slice ao1 n1' c1, .slice ao2 n2' c2]) rfl hL rfl rfl rfl (by kernel_rfl) ?_; clear hL; intro gq wq hL)
    | (go_at_call 45; have hq := ConcatS.concat (.slice (some ⟨gq, 0, none⟩) 3 3) [⟨ao', 2, c'⟩, ⟨ao1, n1', c1⟩, ⟨ao2, n2', c2⟩] [[⟨#[100, 105, 114]⟩, ⟨#[97, 116, 116, 114]⟩], ps.map Pce.word, xs.map Xat.word] _ (R_box (E := encSl) (t := 34) [⟨ao', 2, c'⟩, ⟨ao1, n1', c1⟩, ⟨ao2, n2', c2⟩] (hL.box (by first | exact mm0 | exact mm1 | exact mm2 | exact mm3 | exact mm4 | exact mm5 | exact mm6 | exact mm7 | exact mm8)) rfl (by simp)) rfl (three_ (hL.own (E := encS) (base := w.heap.size) (e := 9) (by first | exact mm0 | exact mm1 | exact mm2 | exact mm3 | exact mm4 | exact mm5 | exact mm6 | exact mm7 | exact mm8)).read (hL.own (E := encS) (base := w.heap.size) (e := 9) (by first | exact mm0 | exact mm1 | exact mm2 | exact mm3 | exact mm4 | exact mm5 | exact mm6 | exact mm7 | exact mm8)).read (hL.own (E := encS) (base := w.heap.size) (e := 9) (by first | exact mm0 | exact mm1 | exact mm2 | exact mm3 | exact mm4 | exact mm5 | exact mm6 | exact mm7 | exact mm8)).read) (Nat.le_trans HFL.out (by decide)) (by simp); (with_reducible refine hq.mono ?_); rintro e w3 ⟨u, rfl, hL3⟩; have hL := hL.takeRow hL3; clear hL3 hq)
    | (go_at_call 23; (with_reducible refine (story_stamp hd.id _ hib hin (ht.below hL.below)).mono ?_); rintro e w3 ⟨rfl, hb3⟩; have hL := hL.call hb3; clear hb3)
    | (go_at_call 48; have hq := join_b _ _ _ _ (hL.own (E := encS) (by first | exact mm0 | exact mm1 | exact mm2 | exact mm3 | exact mm4 | exact mm5 | exact mm6 | exact mm7 | exact mm8)) (by rw [← HJD.out]; exact Nat.le_trans hJ (by decide)) (Nat.le_trans HFL.out (by decide)); rw [← HJD.out] at hq; (with_reducible refine hq.mono ?_); rintro e w3 ⟨rfl, hb3⟩; have hL := hL.call hb3; clear hb3 hq)
    | ((with_reducible refine gCat rfl rfl ?_); refine ev_cat rfl rfl rfl rfl (by simp only [ByteArray.size_append, ByteArray.size_mk']; simp; omega) ?_)
    | ((with_reducible refine gAlloc rfl rfl ?_); (refine ev_allocL rfl hL rfl (by first | exact CellsC.of | exact cells_one (by assumption) (by assumption) | exact cells_agg _ rfl) ?_; clear hL; intro gq wq hL)) | ((with_reducible refine gBox rfl rfl ?_); (refine ev_boxL rfl hL rfl rfl (by first | exact CellsC.of | exact cells_one (by assumption) (by assumption) | exact cells_agg _ rfl) ?_; clear hL; intro gq wq hL)) | ((with_reducible refine gLoad rfl rfl ?_); (first | (refine ev_load1L rfl hL rfl rfl HasV.mem (by rfl) ?_) | (refine ev_loadAllL rfl hL rfl rfl HasV.mem (by rfl) ?_) | (refine ev_loadL rfl hL rfl rfl HasV.mem SegC.seg ?_))) | ((with_reducible refine gStore rfl rfl ?_); (first | (refine ev_storeC rfl hL rfl rfl rfl (by first | exact CellsC.of | exact cells_one (by assumption) (by assumption) | exact cells_agg _ rfl) (by rfl) ?_) | (refine ev_storeAllC rfl hL rfl rfl rfl (by first | exact CellsC.of | exact cells_one (by assumption) (by assumption) | exact cells_agg _ rfl) (by rfl) (by rfl) ?_)); clear hL; intro wq hL) | ((with_reducible refine gLoadG rfl rfl ?_ ?_); (exact wanted_some rfl rfl rfl (by with_reducible rfl)); (first | (refine ev_load1G (wanted_some rfl rfl rfl rfl) hL rfl rfl HasV.mem (by rfl) ?_) | (refine ev_loadAllG (wanted_some rfl rfl rfl rfl) hL rfl rfl HasV.mem (by rfl) ?_) | (refine ev_loadG_ (wanted_some rfl rfl rfl rfl) hL rfl rfl HasV.mem SegC.seg ?_))))
  go_ret
  exact ⟨ret_s HE.out.symm, hL.below⟩
theorem story_inode200 (hd : IHd) (p x : Sl) (ps : List Pce) (xs : List Xat) (w : World) (hp : encPc.R w p.val ps) (hx : encXt.R w x.val xs) (hw : (InoD.mk hd ps xs).wf 100000000) (hpl : ps.length ≤ 1000) (hxl : xs.length ≤ 1000) (ht : Tb w) (hk : hd.kind = 2) (h1 : decide (hd.attr.at_ = Mk.zero) = false) (h2 : decide (hd.size.at_ = Mk.zero) = false) :
    Calls Tryd.prog 25 #[.agg (Ino.mk hd p x).cells.toArray] w fun e w' => e = .returned (.string (InoD.mk hd ps xs).line) ∧ Below w.heap.size w w' := by
  have hL := (Loc.nil w NoM).rowNil encS w.heap.size 9
  obtain ⟨hib, hin⟩ := hw.hd.id
  have hszn : I64 hd.size.n := hw.hd.n
  have HPS := Lib.hid (fun q hq => (hw.ps q hq).idx)
  have HXS := Lib.hid (fun q hq => (hw.xs q hq).name)
  have n1 := stamp_nz hd.attr.at_
  have n2 := stamp_nz hd.size.at_
  rw [h1] at n1
  rw [h2] at n2
  simp only [Bool.not_true, Bool.not_false] at n1 n2
  have hs1 := hd.id.text_size hib hin
  have hs2 : (itoaB hd.size.n).size ≤ 30 := hszn.size
  obtain ⟨SW, hSW⟩ : ∃ SW, SW = (⟨#[115, 105, 122, 101, 58]⟩ : ByteArray) ++ itoaB hd.size.n := ⟨_, rfl⟩
  have hSs : SW.size ≤ 1000000000 := by rw [hSW]; simp only [ByteArray.size_append, ByteArray.size_mk']; simp; omega
  have hws : hd.ws = [⟨#[100, 105, 114]⟩, ⟨#[97, 116, 116, 114]⟩, SW] := by
    unfold IHd.ws kindWs
    rw [← hSW]
    simp only [decide_eq_true_eq, decide_eq_false_iff_not] at h1 h2
    simp [h1, h2, hk]
  have t1 : (hd.kind == 1) = false := by simp [hk]
  have t2 : (hd.kind == 2) = true := by simpa using hk
  have hwsz : ∀ y ∈ ([⟨#[100, 105, 114]⟩, ⟨#[97, 116, 116, 114]⟩, SW] : List ByteArray), y.size ≤ 1000000000 := by
    intro y hy
    simp only [List.mem_cons, List.not_mem_nil, or_false] at hy
    rcases hy with rfl | rfl | rfl <;> first | exact hSs | (show _ ≤ (1000000000 : Nat); decide)
  have HW : Hid (∀ y ∈ ([[⟨#[100, 105, 114]⟩, ⟨#[97, 116, 116, 114]⟩, SW], ps.map Pce.word, xs.map Xat.word] : List (List ByteArray)).flatten, y.size ≤ 1000000000) := Lib.hid (by
    intro y hy
    simp only [List.flatten_cons, List.flatten_nil, List.append_nil, List.mem_append, List.mem_map] at hy
    rcases hy with hy | ⟨q, hq, rfl⟩ | ⟨q, hq, rfl⟩
    · exact hwsz y hy
    · exact word_pc q (HPS.out q hq)
    · exact word_xt q (Nat.le_trans (HXS.out q hq) (by decide)))
  have hfl : ([[⟨#[100, 105, 114]⟩, ⟨#[97, 116, 116, 114]⟩, SW], ps.map Pce.word, xs.map Xat.word] : List (List ByteArray)).flatten.length ≤ 2003 := by simp; omega
  have HFL := Lib.hid hfl
  have hJ : (joinB ([[⟨#[100, 105, 114]⟩, ⟨#[97, 116, 116, 114]⟩, SW], ps.map Pce.word, xs.map Xat.word] : List (List ByteArray)).flatten).size ≤ 10000000000000 := by
    have := joinB_le 1000000000 _ HW.out
    have h4 := Nat.mul_le_mul_right (1000000000 + 1) hfl
    omega
  have HE := Lib.hid (show InoD.line (InoD.mk hd ps xs) = ⟨#[105, 110, 111, 100, 101, 32]⟩ ++ hd.id.text ++ ⟨#[32]⟩ ++ joinB ([[⟨#[100, 105, 114]⟩, ⟨#[97, 116, 116, 114]⟩, SW], ps.map Pce.word, xs.map Xat.word] : List (List ByteArray)).flatten from by unfold InoD.line InoD.ws; rw [hws]; simp)
  obtain ⟨J, hJD⟩ : ∃ J, J = joinB ([[⟨#[100, 105, 114]⟩, ⟨#[97, 116, 116, 114]⟩, SW], ps.map Pce.word, xs.map Xat.word] : List (List ByteArray)).flatten := ⟨_, rfl⟩
  rw [← hJD] at hJ HE
  have HJD := Lib.hid hJD
  clear hJD
  have HSW := Lib.hid hSW
  have HPR := Lib.hid hp
  have HXR := Lib.hid hx
  clear hws h1 h2 hk hw hSW hwsz hfl hp hx
  unfold Ino.cells
  go_enter Tryd.func25, Tryd.ntmps25
  go_wp2_with (first
    | ((with_reducible refine gate (N := 1) rfl ?_); (refine ev_boxL rfl hL rfl rfl (by first | exact CellsC.of | exact cells_one (by assumption) (by assumption) | exact cells_agg _ rfl) ?_; clear hL; intro g1 w1 hL))
    | ((with_reducible refine gate (N := 14) rfl ?_); refine ev_litL (cs := [.string ⟨#[100, 105, 114]⟩]) rfl hL rfl rfl rfl (by kernel_rfl) ?_; clear hL; intro gq wq hL)
    | ((with_reducible refine gate (N := 27) rfl ?_); refine ev_litL (cs := [.string ⟨#[97, 116, 116, 114]⟩]) rfl hL rfl rfl rfl (by kernel_rfl) ?_; clear hL; intro gq wq hL)
    | ((with_reducible refine gate (N := 40) rfl ?_); refine ev_litL (cs := [.string SW]) rfl hL rfl rfl rfl (by kernel_rfl) ?_; clear hL; intro gq wq hL)
    | (go_at_call 24; have hq := itoa_c hd.size.n hszn.1 hszn.2 _ (ht.below hL.below); (with_reducible refine hq.mono ?_); rintro e w3 ⟨rfl, hb3⟩; have hL := hL.call hb3; clear hb3 hq)
    | (((with_reducible refine gCat rfl rfl ?_); refine ev_cat rfl rfl rfl rfl (by simp only [ByteArray.size_append, ByteArray.size_mk']; simp; omega) ?_); rw [← HSW.out])
    | ((with_reducible refine gAlloc rfl rfl ?_); (refine ev_allocL rfl hL rfl (by first | exact CellsC.of | exact cells_one (by assumption) (by assumption) | exact cells_agg _ rfl) ?_; clear hL; intro gq wq hL)) | ((with_reducible refine gBox rfl rfl ?_); (refine ev_boxL rfl hL rfl rfl (by first | exact CellsC.of | exact cells_one (by assumption) (by assumption) | exact cells_agg _ rfl) ?_; clear hL; intro gq wq hL)) | ((with_reducible refine gLoad rfl rfl ?_); (first | (refine ev_load1L rfl hL rfl rfl HasV.mem (by rfl) ?_) | (refine ev_loadAllL rfl hL rfl rfl HasV.mem (by rfl) ?_) | (refine ev_loadL rfl hL rfl rfl HasV.mem SegC.seg ?_))) | ((with_reducible refine gStore rfl rfl ?_); (first | (refine ev_storeC rfl hL rfl rfl rfl (by first | exact CellsC.of | exact cells_one (by assumption) (by assumption) | exact cells_agg _ rfl) (by rfl) ?_) | (refine ev_storeAllC rfl hL rfl rfl rfl (by first | exact CellsC.of | exact cells_one (by assumption) (by assumption) | exact cells_agg _ rfl) (by rfl) (by rfl) ?_)); clear hL; intro wq hL) | ((with_reducible refine gLoadG rfl rfl ?_ ?_); (exact wanted_some rfl rfl rfl (by with_reducible rfl)); (first | (refine ev_load1G (wanted_some rfl rfl rfl rfl) hL rfl rfl HasV.mem (by rfl) ?_) | (refine ev_loadAllG (wanted_some rfl rfl rfl rfl) hL rfl rfl HasV.mem (by rfl) ?_) | (refine ev_loadG_ (wanted_some rfl rfl rfl rfl) hL rfl rfl HasV.mem SegC.seg ?_)))
    | (at_builtin; refine ev_app1M (E := encS) (⟨#[100, 105, 114]⟩) 1 [⟨#[100, 105, 114]⟩] rfl hL rfl rfl rfl (by first | exact mm0 | exact mm1 | exact mm2 | exact mm3 | exact mm4 | exact mm5 | exact mm6 | exact mm7 | exact mm8) rfl rfl rfl (by first | exact fun _ => ss0 | exact fun _ => ss1 | exact fun _ => ss2 | exact fun _ => ss3 | exact fun _ => ss4 | exact fun _ => ss5 | exact fun _ => ss6) rfl rfl (by decide) hL.size ?_; clear hL; intro ao' c' wq hL)
    | (at_builtin; refine ev_app1M (E := encS) (⟨#[97, 116, 116, 114]⟩) 2 [⟨#[100, 105, 114]⟩, ⟨#[97, 116, 116, 114]⟩] rfl hL rfl rfl rfl (by first | exact mm0 | exact mm1 | exact mm2 | exact mm3 | exact mm4 | exact mm5 | exact mm6 | exact mm7 | exact mm8) rfl rfl rfl (by first | exact fun _ => ss0 | exact fun _ => ss1 | exact fun _ => ss2 | exact fun _ => ss3 | exact fun _ => ss4 | exact fun _ => ss5 | exact fun _ => ss6) rfl rfl (by decide) hL.size ?_; clear hL; intro ao' c' wq hL)
    | (at_builtin; refine ev_app1M (E := encS) (SW) 3 [⟨#[100, 105, 114]⟩, ⟨#[97, 116, 116, 114]⟩, SW] rfl hL rfl rfl rfl (by first | exact mm0 | exact mm1 | exact mm2 | exact mm3 | exact mm4 | exact mm5 | exact mm6 | exact mm7 | exact mm8) rfl rfl rfl (by first | exact fun _ => ss0 | exact fun _ => ss1 | exact fun _ => ss2 | exact fun _ => ss3 | exact fun _ => ss4 | exact fun _ => ss5 | exact fun _ => ss6) rfl rfl (by decide) hL.size ?_; clear hL; intro ao' c' wq hL))
  refine region_any (by kernel_rfl) hL ?_
  intro w5 hL5 hb5 hz5
  clear hL
  have hL := hL5
  clear hL5 hb5 hz5
  refine wpAny_takeN (i := 0) (by repeat (first | exact .zero _ _ | with_reducible apply Nth.succ)) (by kernel_rfl) (by kernel_rfl) (by kernel_rfl) (by exact fun _ _ _ h => h) (v := .slice ao' 3 c') (.inl ⟨by rfl, fun w => by simp [execOp, Instr.fieldAt, go_sem]⟩) ?_
  refine wpAny_takeN (i := 1) (by repeat (first | exact .zero _ _ | with_reducible apply Nth.succ)) (by kernel_rfl) (by kernel_rfl) (by kernel_rfl) (by exact fun _ _ _ h => h) (v := .pointer (some ⟨g1, 11, none⟩)) (.inl ⟨by rfl, fun w => by simp [execOp, Instr.fieldAt, go_sem]⟩) ?_
  refine wpAny_takeN (i := 4) (by repeat (first | exact .zero _ _ | with_reducible apply Nth.succ)) (by kernel_rfl) (by kernel_rfl) (by kernel_rfl) (by exact fun _ _ _ h => h) (v := .pointer (some ⟨g1, 12, none⟩)) (.inl ⟨by rfl, fun w => by simp [execOp, Instr.fieldAt, go_sem]⟩) ?_
  simp only [Act.put, List.setIfInBounds_toArray, List.set_cons_succ, List.set_cons_zero]
  have HL5 := Lib.hid hL
  refine wpAny_two (i1 := 2) (j1 := 3) (i2 := 5) (j2 := 6) (s1 := 43) (p1 := 44) (q1 := 45) (s2 := 46) (p2 := 47) (q2 := 48) (g := g1) (o1 := 11) (o2 := 12) (it1 := fun v => row encS w.heap.size 9 v (ps.map Pce.word)) (it2 := fun v => row encS w.heap.size 9 v (xs.map Xat.word))
    (Nth.get (by repeat (first | exact .zero _ _ | with_reducible apply Nth.succ))) (Nth.get (by repeat (first | exact .zero _ _ | with_reducible apply Nth.succ))) (Nth.get (by repeat (first | exact .zero _ _ | with_reducible apply Nth.succ))) (Nth.get (by repeat (first | exact .zero _ _ | with_reducible apply Nth.succ))) (wd_free (by rfl)) (wd_free (by rfl)) (wd_free (by rfl)) (wd_free (by rfl)) (by rfl) (by rfl) (by rfl) (by rfl) (by kernel_rfl) (by kernel_rfl) (by kernel_rfl) (by kernel_rfl) (by kernel_rfl) (by kernel_rfl)
    (by decide) (by decide) ⟨by simp, by simp⟩ (by rfl) (by rfl) (by infer_instance) (by infer_instance) (by rfl) (by rfl) hL (by first | exact mm0 | exact mm1 | exact mm2 | exact mm3 | exact mm4 | exact mm5 | exact mm6 | exact mm7 | exact mm8) (by rfl) (by rfl)
    (enters_op Tryd.func46 (by kernel_rfl) (by kernel_rfl) (by rfl)) (enters_op Tryd.func47 (by kernel_rfl) (by kernel_rfl) (by rfl))
    (fun w' l' hL' hb' => gives_row hL'.size (story_pieces _ ps w' (HPR.out.below (bl_then HL5.out.below hb')) HPS.out (by omega) (ht.below (bl_then HL5.out.below hb'))))
    (fun w' l' hL' hb' => gives_row hL'.size (story_xattrs _ xs w' (HXR.out.below (bl_then HL5.out.below hb')) (fun q hq => Nat.le_trans (HXS.out q hq) (by decide)) (by omega))) ?_
  clear hL HL5
  intro r1 r2 w6 hL
  obtain ⟨ao1, c1, e1, -⟩ := R_elem (hL.own (E := encS) (v := r1) (xs := ps.map Pce.word) (base := w.heap.size) (e := 9) (.tail _ (.head _))).read
  subst e1
  obtain ⟨ao2, c2, e2, -⟩ := R_elem (hL.own (E := encS) (v := r2) (xs := xs.map Xat.word) (base := w.heap.size) (e := 9) (.head _)).read
  subst e2
  refine wpAny_drop 7 (by rfl) (by kernel_rfl) ?_
  simp only [List.drop_succ_cons, List.drop_zero, Act.put, List.setIfInBounds_toArray, List.set_cons_succ, List.set_cons_zero]
  obtain ⟨n1', hn1⟩ : ∃ n1', n1' = (ps.map Pce.word).length := ⟨_, rfl⟩
  obtain ⟨n2', hn2⟩ : ∃ n2', n2' = (xs.map Xat.word).length := ⟨_, rfl⟩
  rw [← hn1, ← hn2] at hL ⊢
  have HN1 := Lib.hid hn1
  have HN2 := Lib.hid hn2
  clear hn1 hn2
  go_wp2_with (first
    | ((with_reducible refine gate (N := 49) rfl ?_); refine ev_litL (cs := [.slice ao' 3 c', .slice ao1 n1' c1, .slice ao2 n2' c2]) rfl hL rfl rfl rfl (by kernel_rfl) ?_; clear hL; intro gq wq hL)
    | (go_at_call 45; have hq := ConcatS.concat (.slice (some ⟨gq, 0, none⟩) 3 3) [⟨ao', 3, c'⟩, ⟨ao1, n1', c1⟩, ⟨ao2, n2', c2⟩] [[⟨#[100, 105, 114]⟩, ⟨#[97, 116, 116, 114]⟩, SW], ps.map Pce.word, xs.map Xat.word] _ (R_box (E := encSl) (t := 34) [⟨ao', 3, c'⟩, ⟨ao1, n1', c1⟩, ⟨ao2, n2', c2⟩] (hL.box (by first | exact mm0 | exact mm1 | exact mm2 | exact mm3 | exact mm4 | exact mm5 | exact mm6 | exact mm7 | exact mm8)) rfl (by simp)) rfl (three_ (hL.own (E := encS) (base := w.heap.size) (e := 9) (by first | exact mm0 | exact mm1 | exact mm2 | exact mm3 | exact mm4 | exact mm5 | exact mm6 | exact mm7 | exact mm8)).read (hL.own (E := encS) (base := w.heap.size) (e := 9) (by first | exact mm0 | exact mm1 | exact mm2 | exact mm3 | exact mm4 | exact mm5 | exact mm6 | exact mm7 | exact mm8)).read (hL.own (E := encS) (base := w.heap.size) (e := 9) (by first | exact mm0 | exact mm1 | exact mm2 | exact mm3 | exact mm4 | exact mm5 | exact mm6 | exact mm7 | exact mm8)).read) (Nat.le_trans HFL.out (by decide)) (by simp); (with_reducible refine hq.mono ?_); rintro e w3 ⟨u, rfl, hL3⟩; have hL := hL.takeRow hL3; clear hL3 hq)
    | (go_at_call 23; (with_reducible refine (story_stamp hd.id _ hib hin (ht.below hL.below)).mono ?_); rintro e w3 ⟨rfl, hb3⟩; have hL := hL.call hb3; clear hb3)
    | (go_at_call 48; have hq := join_b _ _ _ _ (hL.own (E := encS) (by first | exact mm0 | exact mm1 | exact mm2 | exact mm3 | exact mm4 | exact mm5 | exact mm6 | exact mm7 | exact mm8)) (by rw [← HJD.out]; exact Nat.le_trans hJ (by decide)) (Nat.le_trans HFL.out (by decide)); rw [← HJD.out] at hq; (with_reducible refine hq.mono ?_); rintro e w3 ⟨rfl, hb3⟩; have hL := hL.call hb3; clear hb3 hq)
    | ((with_reducible refine gCat rfl rfl ?_); refine ev_cat rfl rfl rfl rfl (by simp only [ByteArray.size_append, ByteArray.size_mk']; simp; omega) ?_)
    | ((with_reducible refine gAlloc rfl rfl ?_); (refine ev_allocL rfl hL rfl (by first | exact CellsC.of | exact cells_one (by assumption) (by assumption) | exact cells_agg _ rfl) ?_; clear hL; intro gq wq hL)) | ((with_reducible refine gBox rfl rfl ?_); (refine ev_boxL rfl hL rfl rfl (by first | exact CellsC.of | exact cells_one (by assumption) (by assumption) | exact cells_agg _ rfl) ?_; clear hL; intro gq wq hL)) | ((with_reducible refine gLoad rfl rfl ?_); (first | (refine ev_load1L rfl hL rfl rfl HasV.mem (by rfl) ?_) | (refine ev_loadAllL rfl hL rfl rfl HasV.mem (by rfl) ?_) | (refine ev_loadL rfl hL rfl rfl HasV.mem SegC.seg ?_))) | ((with_reducible refine gStore rfl rfl ?_); (first | (refine ev_storeC rfl hL rfl rfl rfl (by first | exact CellsC.of | exact cells_one (by assumption) (by assumption) | exact cells_agg _ rfl) (by rfl) ?_) | (refine ev_storeAllC rfl hL rfl rfl rfl (by first | exact CellsC.of | exact cells_one (by assumption) (by assumption) | exact cells_agg _ rfl) (by rfl) (by rfl) ?_)); clear hL; intro wq hL) | ((with_reducible refine gLoadG rfl rfl ?_ ?_); (exact wanted_some rfl rfl rfl (by with_reducible rfl)); (first | (refine ev_load1G (wanted_some rfl rfl rfl rfl) hL rfl rfl HasV.mem (by rfl) ?_) | (refine ev_loadAllG (wanted_some rfl rfl rfl rfl) hL rfl rfl HasV.mem (by rfl) ?_) | (refine ev_loadG_ (wanted_some rfl rfl rfl rfl) hL rfl rfl HasV.mem SegC.seg ?_))))
  go_ret
  exact ⟨ret_s HE.out.symm, hL.below⟩
theorem story_inode311 (hd : IHd) (p x : Sl) (ps : List Pce) (xs : List Xat) (w : World) (hp : encPc.R w p.val ps) (hx : encXt.R w x.val xs) (hw : (InoD.mk hd ps xs).wf 100000000) (hpl : ps.length ≤ 1000) (hxl : xs.length ≤ 1000) (ht : Tb w) (hk : hd.kind = 3) (h1 : decide (hd.attr.at_ = Mk.zero) = true) (h2 : decide (hd.size.at_ = Mk.zero) = true) :
    Calls Tryd.prog 25 #[.agg (Ino.mk hd p x).cells.toArray] w fun e w' => e = .returned (.string (InoD.mk hd ps xs).line) ∧ Below w.heap.size w w' := by
  have hL := (Loc.nil w NoM).rowNil encS w.heap.size 9
  obtain ⟨hib, hin⟩ := hw.hd.id
  have hszn : I64 hd.size.n := hw.hd.n
  have HPS := Lib.hid (fun q hq => (hw.ps q hq).idx)
  have HXS := Lib.hid (fun q hq => (hw.xs q hq).name)
  have n1 := stamp_nz hd.attr.at_
  have n2 := stamp_nz hd.size.at_
  rw [h1] at n1
  rw [h2] at n2
  simp only [Bool.not_true, Bool.not_false] at n1 n2
  have hs1 := hd.id.text_size hib hin
  have hs2 : (itoaB hd.size.n).size ≤ 30 := hszn.size
  obtain ⟨SW, hSW⟩ : ∃ SW, SW = (⟨#[115, 105, 122, 101, 58]⟩ : ByteArray) ++ itoaB hd.size.n := ⟨_, rfl⟩
  have hSs : SW.size ≤ 1000000000 := by rw [hSW]; simp only [ByteArray.size_append, ByteArray.size_mk']; simp; omega
  have hws : hd.ws = [⟨#[115, 121, 109]⟩] := by
    unfold IHd.ws kindWs
    rw [← hSW]
    simp only [decide_eq_true_eq, decide_eq_false_iff_not] at h1 h2
    simp [h1, h2, hk]
  have t1 : (hd.kind == 1) = false := by simp [hk]
  have t2 : (hd.kind == 2) = false := by simp [hk]
  have t3 : (hd.kind == 3) = true := by simpa using hk
  have hwsz : ∀ y ∈ ([⟨#[115, 121, 109]⟩] : List ByteArray), y.size ≤ 1000000000 := by
    intro y hy
    simp only [List.mem_cons, List.not_mem_nil, or_false] at hy
    rcases hy with rfl <;> first | exact hSs | (show _ ≤ (1000000000 : Nat); decide)
  have HW : Hid (∀ y ∈ ([[⟨#[115, 121, 109]⟩], ps.map Pce.word, xs.map Xat.word] : List (List ByteArray)).flatten, y.size ≤ 1000000000) := Lib.hid (by
    intro y hy
    simp only [List.flatten_cons, List.flatten_nil, List.append_nil, List.mem_append, List.mem_map] at hy
    rcases hy with hy | ⟨q, hq, rfl⟩ | ⟨q, hq, rfl⟩
    · exact hwsz y hy
    · exact word_pc q (HPS.out q hq)
    · exact word_xt q (Nat.le_trans (HXS.out q hq) (by decide)))
  have hfl : ([[⟨#[115, 121, 109]⟩], ps.map Pce.word, xs.map Xat.word] : List (List ByteArray)).flatten.length ≤ 2003 := by simp; omega
  have HFL := Lib.hid hfl
  have hJ : (joinB ([[⟨#[115, 121, 109]⟩], ps.map Pce.word, xs.map Xat.word] : List (List ByteArray)).flatten).size ≤ 10000000000000 := by
    have := joinB_le 1000000000 _ HW.out
    have h4 := Nat.mul_le_mul_right (1000000000 + 1) hfl
    omega
  have HE := Lib.hid (show InoD.line (InoD.mk hd ps xs) = ⟨#[105, 110, 111, 100, 101, 32]⟩ ++ hd.id.text ++ ⟨#[32]⟩ ++ joinB ([[⟨#[115, 121, 109]⟩], ps.map Pce.word, xs.map Xat.word] : List (List ByteArray)).flatten from by unfold InoD.line InoD.ws; rw [hws]; simp)
  obtain ⟨J, hJD⟩ : ∃ J, J = joinB ([[⟨#[115, 121, 109]⟩], ps.map Pce.word, xs.map Xat.word] : List (List ByteArray)).flatten := ⟨_, rfl⟩
  rw [← hJD] at hJ HE
  have HJD := Lib.hid hJD
  clear hJD
  have HSW := Lib.hid hSW
  have HPR := Lib.hid hp
  have HXR := Lib.hid hx
  clear hws h1 h2 hk hw hSW hwsz hfl hp hx
  unfold Ino.cells
  go_enter Tryd.func25, Tryd.ntmps25
  go_wp2_with (first
    | ((with_reducible refine gate (N := 1) rfl ?_); (refine ev_boxL rfl hL rfl rfl (by first | exact CellsC.of | exact cells_one (by assumption) (by assumption) | exact cells_agg _ rfl) ?_; clear hL; intro g1 w1 hL))
    | ((with_reducible refine gate (N := 19) rfl ?_); refine ev_litL (cs := [.string ⟨#[115, 121, 109]⟩]) rfl hL rfl rfl rfl (by kernel_rfl) ?_; clear hL; intro gq wq hL)
    | (go_at_call 24; have hq := itoa_c hd.size.n hszn.1 hszn.2 _ (ht.below hL.below); (with_reducible refine hq.mono ?_); rintro e w3 ⟨rfl, hb3⟩; have hL := hL.call hb3; clear hb3 hq)
    | (((with_reducible refine gCat rfl rfl ?_); refine ev_cat rfl rfl rfl rfl (by simp only [ByteArray.size_append, ByteArray.size_mk']; simp; omega) ?_); rw [← HSW.out])
    | ((with_reducible refine gAlloc rfl rfl ?_); (refine ev_allocL rfl hL rfl (by first | exact CellsC.of | exact cells_one (by assumption) (by assumption) | exact cells_agg _ rfl) ?_; clear hL; intro gq wq hL)) | ((with_reducible refine gBox rfl rfl ?_); (refine ev_boxL rfl hL rfl rfl (by first | exact CellsC.of | exact cells_one (by assumption) (by assumption) | exact cells_agg _ rfl) ?_; clear hL; intro gq wq hL)) | ((with_reducible refine gLoad rfl rfl ?_); (first | (refine ev_load1L rfl hL rfl rfl HasV.mem (by rfl) ?_) | (refine ev_loadAllL rfl hL rfl rfl HasV.mem (by rfl) ?_) | (refine ev_loadL rfl hL rfl rfl HasV.mem SegC.seg ?_))) | ((with_reducible refine gStore rfl rfl ?_); (first | (refine ev_storeC rfl hL rfl rfl rfl (by first | exact CellsC.of | exact cells_one (by assumption) (by assumption) | exact cells_agg _ rfl) (by rfl) ?_) | (refine ev_storeAllC rfl hL rfl rfl rfl (by first | exact CellsC.of | exact cells_one (by assumption) (by assumption) | exact cells_agg _ rfl) (by rfl) (by rfl) ?_)); clear hL; intro wq hL) | ((with_reducible refine gLoadG rfl rfl ?_ ?_); (exact wanted_some rfl rfl rfl (by with_reducible rfl)); (first | (refine ev_load1G (wanted_some rfl rfl rfl rfl) hL rfl rfl HasV.mem (by rfl) ?_) | (refine ev_loadAllG (wanted_some rfl rfl rfl rfl) hL rfl rfl HasV.mem (by rfl) ?_) | (refine ev_loadG_ (wanted_some rfl rfl rfl rfl) hL rfl rfl HasV.mem SegC.seg ?_)))
    | (at_builtin; refine ev_app1M (E := encS) (⟨#[115, 121, 109]⟩) 1 [⟨#[115, 121, 109]⟩] rfl hL rfl rfl rfl (by first | exact mm0 | exact mm1 | exact mm2 | exact mm3 | exact mm4 | exact mm5 | exact mm6 | exact mm7 | exact mm8) rfl rfl rfl (by first | exact fun _ => ss0 | exact fun _ => ss1 | exact fun _ => ss2 | exact fun _ => ss3 | exact fun _ => ss4 | exact fun _ => ss5 | exact fun _ => ss6) rfl rfl (by decide) hL.size ?_; clear hL; intro ao' c' wq hL))
  refine region_any (by kernel_rfl) hL ?_
  intro w5 hL5 hb5 hz5
  clear hL
  have hL := hL5
  clear hL5 hb5 hz5
  refine wpAny_takeN (i := 0) (by repeat (first | exact .zero _ _ | with_reducible apply Nth.succ)) (by kernel_rfl) (by kernel_rfl) (by kernel_rfl) (by exact fun _ _ _ h => h) (v := .slice ao' 1 c') (.inl ⟨by rfl, fun w => by simp [execOp, Instr.fieldAt, go_sem]⟩) ?_
  refine wpAny_takeN (i := 1) (by repeat (first | exact .zero _ _ | with_reducible apply Nth.succ)) (by kernel_rfl) (by kernel_rfl) (by kernel_rfl) (by exact fun _ _ _ h => h) (v := .pointer (some ⟨g1, 11, none⟩)) (.inl ⟨by rfl, fun w => by simp [execOp, Instr.fieldAt, go_sem]⟩) ?_
  refine wpAny_takeN (i := 4) (by repeat (first | exact .zero _ _ | with_reducible apply Nth.succ)) (by kernel_rfl) (by kernel_rfl) (by kernel_rfl) (by exact fun _ _ _ h => h) (v := .pointer (some ⟨g1, 12, none⟩)) (.inl ⟨by rfl, fun w => by simp [execOp, Instr.fieldAt, go_sem]⟩) ?_
  simp only [Act.put, List.setIfInBounds_toArray, List.set_cons_succ, List.set_cons_zero]
  have HL5 := Lib.hid hL
  refine wpAny_two (i1 := 2) (j1 := 3) (i2 := 5) (j2 := 6) (s1 := 43) (p1 := 44) (q1 := 45) (s2 := 46) (p2 := 47) (q2 := 48) (g := g1) (o1 := 11) (o2 := 12) (it1 := fun v => row encS w.heap.size 9 v (ps.map Pce.word)) (it2 := fun v => row encS w.heap.size 9 v (xs.map Xat.word))
    (Nth.get (by repeat (first | exact .zero _ _ | with_reducible apply Nth.succ))) (Nth.get (by repeat (first | exact .zero _ _ | with_reducible apply Nth.succ))) (Nth.get (by repeat (first | exact .zero _ _ | with_reducible apply Nth.succ))) (Nth.get (by repeat (first | exact .zero _ _ | with_reducible apply Nth.succ))) (wd_free (by rfl)) (wd_free (by rfl)) (wd_free (by rfl)) (wd_free (by rfl)) (by rfl) (by rfl) (by rfl) (by rfl) (by kernel_rfl) (by kernel_rfl) (by kernel_rfl) (by kernel_rfl) (by kernel_rfl) (by kernel_rfl)
    (by decide) (by decide) ⟨by simp, by simp⟩ (by rfl) (by rfl) (by infer_instance) (by infer_instance) (by rfl) (by rfl) hL (by first | exact mm0 | exact mm1 | exact mm2 | exact mm3 | exact mm4 | exact mm5 | exact mm6 | exact mm7 | exact mm8) (by rfl) (by rfl)
    (enters_op Tryd.func46 (by kernel_rfl) (by kernel_rfl) (by rfl)) (enters_op Tryd.func47 (by kernel_rfl) (by kernel_rfl) (by rfl))
    (fun w' l' hL' hb' => gives_row hL'.size (story_pieces _ ps w' (HPR.out.below (bl_then HL5.out.below hb')) HPS.out (by omega) (ht.below (bl_then HL5.out.below hb'))))
    (fun w' l' hL' hb' => gives_row hL'.size (story_xattrs _ xs w' (HXR.out.below (bl_then HL5.out.below hb')) (fun q hq => Nat.le_trans (HXS.out q hq) (by decide)) (by omega))) ?_
  clear hL HL5
  intro r1 r2 w6 hL
  obtain ⟨ao1, c1, e1, -⟩ := R_elem (hL.own (E := encS) (v := r1) (xs := ps.map Pce.word) (base := w.heap.size) (e := 9) (.tail _ (.head _))).read
  subst e1
  obtain ⟨ao2, c2, e2, -⟩ := R_elem (hL.own (E := encS) (v := r2) (xs := xs.map Xat.word) (base := w.heap.size) (e := 9) (.head _)).read
  subst e2
  refine wpAny_drop 7 (by rfl) (by kernel_rfl) ?_
  simp only [List.drop_succ_cons, List.drop_zero, Act.put, List.setIfInBounds_toArray, List.set_cons_succ, List.set_cons_zero]
  obtain ⟨n1', hn1⟩ : ∃ n1', n1' = (ps.map Pce.word).length := ⟨_, rfl⟩
  obtain ⟨n2', hn2⟩ : ∃ n2', n2' = (xs.map Xat.word).length := ⟨_, rfl⟩
  rw [← hn1, ← hn2] at hL ⊢
  have HN1 := Lib.hid hn1
  have HN2 := Lib.hid hn2
  clear hn1 hn2
  go_wp2_with (first
    | ((with_reducible refine gate (N := 49) rfl ?_); refine ev_litL (cs := [.slice ao' 1 c', .slice ao1 n1' c1, .slice ao2 n2' c2]) rfl hL rfl rfl rfl (by kernel_rfl) ?_; clear hL; intro gq wq hL)
    | (go_at_call 45; have hq := ConcatS.concat (.slice (some ⟨gq, 0, none⟩) 3 3) [⟨ao', 1, c'⟩, ⟨ao1, n1', c1⟩, ⟨ao2, n2', c2⟩] [[⟨#[115, 121, 109]⟩], ps.map Pce.word, xs.map Xat.word] _ (R_box (E := encSl) (t := 34) [⟨ao', 1, c'⟩, ⟨ao1, n1', c1⟩, ⟨ao2, n2', c2⟩] (hL.box (by first | exact mm0 | exact mm1 | exact mm2 | exact mm3 | exact mm4 | exact mm5 | exact mm6 | exact mm7 | exact mm8)) rfl (by simp)) rfl (three_ (hL.own (E := encS) (base := w.heap.size) (e := 9) (by first | exact mm0 | exact mm1 | exact mm2 | exact mm3 | exact mm4 | exact mm5 | exact mm6 | exact mm7 | exact mm8)).read (hL.own (E := encS) (base := w.heap.size) (e := 9) (by first | exact mm0 | exact mm1 | exact mm2 | exact mm3 | exact mm4 | exact mm5 | exact mm6 | exact mm7 | exact mm8)).read (hL.own (E := encS) (base := w.heap.size) (e := 9) (by first | exact mm0 | exact mm1 | exact mm2 | exact mm3 | exact mm4 | exact mm5 | exact mm6 | exact mm7 | exact mm8)).read) (Nat.le_trans HFL.out (by decide)) (by simp); (with_reducible refine hq.mono ?_); rintro e w3 ⟨u, rfl, hL3⟩; have hL := hL.takeRow hL3; clear hL3 hq)
    | (go_at_call 23; (with_reducible refine (story_stamp hd.id _ hib hin (ht.below hL.below)).mono ?_); rintro e w3 ⟨rfl, hb3⟩; have hL := hL.call hb3; clear hb3)
    | (go_at_call 48; have hq := join_b _ _ _ _ (hL.own (E := encS) (by first | exact mm0 | exact mm1 | exact mm2 | exact mm3 | exact mm4 | exact mm5 | exact mm6 | exact mm7 | exact mm8)) (by rw [← HJD.out]; exact Nat.le_trans hJ (by decide)) (Nat.le_trans HFL.out (by decide)); rw [← HJD.out] at hq; (with_reducible refine hq.mono ?_); rintro e w3 ⟨rfl, hb3⟩; have hL := hL.call hb3; clear hb3 hq)
    | ((with_reducible refine gCat rfl rfl ?_); refine ev_cat rfl rfl rfl rfl (by simp only [ByteArray.size_append, ByteArray.size_mk']; simp; omega) ?_)
    | ((with_reducible refine gAlloc rfl rfl ?_); (refine ev_allocL rfl hL rfl (by first | exact CellsC.of | exact cells_one (by assumption) (by assumption) | exact cells_agg _ rfl) ?_; clear hL; intro gq wq hL)) | ((with_reducible refine gBox rfl rfl ?_); (refine ev_boxL rfl hL rfl rfl (by first | exact CellsC.of | exact cells_one (by assumption) (by assumption) | exact cells_agg _ rfl) ?_; clear hL; intro gq wq hL)) | ((with_reducible refine gLoad rfl rfl ?_); (first | (refine ev_load1L rfl hL rfl rfl HasV.mem (by rfl) ?_) | (refine ev_loadAllL rfl hL rfl rfl HasV.mem (by rfl) ?_) | (refine ev_loadL rfl hL rfl rfl HasV.mem SegC.seg ?_))) | ((with_reducible refine gStore rfl rfl ?_); (first | (refine ev_storeC rfl hL rfl rfl rfl (by first | exact CellsC.of | exact cells_one (by assumption) (by assumption) | exact cells_agg _ rfl) (by rfl) ?_) | (refine ev_storeAllC rfl hL rfl rfl rfl (by first | exact CellsC.of | exact cells_one (by assumption) (by assumption) | exact cells_agg _ rfl) (by rfl) (by rfl) ?_)); clear hL; intro wq hL) | ((with_reducible refine gLoadG rfl rfl ?_ ?_); (exact wanted_some rfl rfl rfl (by with_reducible rfl)); (first | (refine ev_load1G (wanted_some rfl rfl rfl rfl) hL rfl rfl HasV.mem (by rfl) ?_) | (refine ev_loadAllG (wanted_some rfl rfl rfl rfl) hL rfl rfl HasV.mem (by rfl) ?_) | (refine ev_loadG_ (wanted_some rfl rfl rfl rfl) hL rfl rfl HasV.mem SegC.seg ?_))))
  go_ret
  exact ⟨ret_s HE.out.symm, hL.below⟩
theorem story_inode310 (hd : IHd) (p x : Sl) (ps : List Pce) (xs : List Xat) (w : World) (hp : encPc.R w p.val ps) (hx : encXt.R w x.val xs) (hw : (InoD.mk hd ps xs).wf 100000000) (hpl : ps.length ≤ 1000) (hxl : xs.length ≤ 1000) (ht : Tb w) (hk : hd.kind = 3) (h1 : decide (hd.attr.at_ = Mk.zero) = true) (h2 : decide (hd.size.at_ = Mk.zero) = false) :
    Calls Tryd.prog 25 #[.agg (Ino.mk hd p x).cells.toArray] w fun e w' => e = .returned (.string (InoD.mk hd ps xs).line) ∧ Below w.heap.size w w' := by
  have hL := (Loc.nil w NoM).rowNil encS w.heap.size 9
  obtain ⟨hib, hin⟩ := hw.hd.id
  have hszn : I64 hd.size.n := hw.hd.n
  have HPS := Lib.hid (fun q hq => (hw.ps q hq).idx)
  have HXS := Lib.hid (fun q hq => (hw.xs q hq).name)
  have n1 := stamp_nz hd.attr.at_
  have n2 := stamp_nz hd.size.at_
  rw [h1] at n1
  rw [h2] at n2
  simp only [Bool.not_true, Bool.not_false] at n1 n2
  have hs1 := hd.id.text_size hib hin
  have hs2 : (itoaB hd.size.n).size ≤ 30 := hszn.size
  obtain ⟨SW, hSW⟩ : ∃ SW, SW = (⟨#[115, 105, 122, 101, 58]⟩ : ByteArray) ++ itoaB hd.size.n := ⟨_, rfl⟩
  have hSs : SW.size ≤ 1000000000 := by rw [hSW]; simp only [ByteArray.size_append, ByteArray.size_mk']; simp; omega
  have hws : hd.ws = [⟨#[115, 121, 109]⟩, SW] := by
    unfold IHd.ws kindWs
    rw [← hSW]
    simp only [decide_eq_true_eq, decide_eq_false_iff_not] at h1 h2
    simp [h1, h2, hk]
  have t1 : (hd.kind == 1) = false := by simp [hk]
  have t2 : (hd.kind == 2) = false := by simp [hk]
  have t3 : (hd.kind == 3) = true := by simpa using hk
  have hwsz : ∀ y ∈ ([⟨#[115, 121, 109]⟩, SW] : List ByteArray), y.size ≤ 1000000000 := by
    intro y hy
    simp only [List.mem_cons, List.not_mem_nil, or_false] at hy
    rcases hy with rfl | rfl <;> first | exact hSs | (show _ ≤ (1000000000 : Nat); decide)
  have HW : Hid (∀ y ∈ ([[⟨#[115, 121, 109]⟩, SW], ps.map Pce.word, xs.map Xat.word] : List (List ByteArray)).flatten, y.size ≤ 1000000000) := Lib.hid (by
    intro y hy
    simp only [List.flatten_cons, List.flatten_nil, List.append_nil, List.mem_append, List.mem_map] at hy
    rcases hy with hy | ⟨q, hq, rfl⟩ | ⟨q, hq, rfl⟩
    · exact hwsz y hy
    · exact word_pc q (HPS.out q hq)
    · exact word_xt q (Nat.le_trans (HXS.out q hq) (by decide)))
  have hfl : ([[⟨#[115, 121, 109]⟩, SW], ps.map Pce.word, xs.map Xat.word] : List (List ByteArray)).flatten.length ≤ 2003 := by simp; omega
  have HFL := Lib.hid hfl
  have hJ : (joinB ([[⟨#[115, 121, 109]⟩, SW], ps.map Pce.word, xs.map Xat.word] : List (List ByteArray)).flatten).size ≤ 10000000000000 := by
    have := joinB_le 1000000000 _ HW.out
    have h4 := Nat.mul_le_mul_right (1000000000 + 1) hfl
    omega
  have HE := Lib.hid (show InoD.line (InoD.mk hd ps xs) = ⟨#[105, 110, 111, 100, 101, 32]⟩ ++ hd.id.text ++ ⟨#[32]⟩ ++ joinB ([[⟨#[115, 121, 109]⟩, SW], ps.map Pce.word, xs.map Xat.word] : List (List ByteArray)).flatten from by unfold InoD.line InoD.ws; rw [hws]; simp)
  obtain ⟨J, hJD⟩ : ∃ J, J = joinB ([[⟨#[115, 121, 109]⟩, SW], ps.map Pce.word, xs.map Xat.word] : List (List ByteArray)).flatten := ⟨_, rfl⟩
  rw [← hJD] at hJ HE
  have HJD := Lib.hid hJD
  clear hJD
  have HSW := Lib.hid hSW
  have HPR := Lib.hid hp
  have HXR := Lib.hid hx
  clear hws h1 h2 hk hw hSW hwsz hfl hp hx
  unfold Ino.cells
  go_enter Tryd.func25, Tryd.ntmps25
  go_wp2_with (first
    | ((with_reducible refine gate (N := 1) rfl ?_); (refine ev_boxL rfl hL rfl rfl (by first | exact CellsC.of | exact cells_one (by assumption) (by assumption) | exact cells_agg _ rfl) ?_; clear hL; intro g1 w1 hL))
    | ((with_reducible refine gate (N := 19) rfl ?_); refine ev_litL (cs := [.string ⟨#[115, 121, 109]⟩]) rfl hL rfl rfl rfl (by kernel_rfl) ?_; clear hL; intro gq wq hL)
    | ((with_reducible refine gate (N := 40) rfl ?_); refine ev_litL (cs := [.string SW]) rfl hL rfl rfl rfl (by kernel_rfl) ?_; clear hL; intro gq wq hL)
    | (go_at_call 24; have hq := itoa_c hd.size.n hszn.1 hszn.2 _ (ht.below hL.below); (with_reducible refine hq.mono ?_); rintro e w3 ⟨rfl, hb3⟩; have hL := hL.call hb3; clear hb3 hq)
    | (((with_reducible refine gCat rfl rfl ?_); refine ev_cat rfl rfl rfl rfl (by simp only [ByteArray.size_append, ByteArray.size_mk']; simp; omega) ?_); rw [← HSW.out])
    | ((with_reducible refine gAlloc rfl rfl ?_); (refine ev_allocL rfl hL rfl (by first | exact CellsC.of | exact cells_one (by assumption) (by assumption) | exact cells_agg _ rfl) ?_; clear hL; intro gq wq hL)) | ((with_reducible refine gBox rfl rfl ?_); (refine ev_boxL rfl hL rfl rfl (by first | exact CellsC.of | exact cells_one (by assumption) (by assumption) | exact cells_agg _ rfl) ?_; clear hL; intro gq wq hL)) | ((with_reducible refine gLoad rfl rfl ?_); (first | (refine ev_load1L rfl hL rfl rfl HasV.mem (by rfl) ?_) | (refine ev_loadAllL rfl hL rfl rfl HasV.mem (by rfl) ?_) | (refine ev_loadL rfl hL rfl rfl HasV.mem SegC.seg ?_))) | ((with_reducible refine gStore rfl rfl ?_); (first | (refine ev_storeC rfl hL rfl rfl rfl (by first | exact CellsC.of | exact cells_one (by assumption) (by assumption) | exact cells_agg _ rfl) (by rfl) ?_) | (refine ev_storeAllC rfl hL rfl rfl rfl (by first | exact CellsC.of | exact cells_one (by assumption) (by assumption) | exact cells_agg _ rfl) (by rfl) (by rfl) ?_)); clear hL; intro wq hL) | ((with_reducible refine gLoadG rfl rfl ?_ ?_); (exact wanted_some rfl rfl rfl (by with_reducible rfl)); (first | (refine ev_load1G (wanted_some rfl rfl rfl rfl) hL rfl rfl HasV.mem (by rfl) ?_) | (refine ev_loadAllG (wanted_some rfl rfl rfl rfl) hL rfl rfl HasV.mem (by rfl) ?_) | (refine ev_loadG_ (wanted_some rfl rfl rfl rfl) hL rfl rfl HasV.mem SegC.seg ?_)))
    | (at_builtin; refine ev_app1M (E := encS) (⟨#[115, 121, 109]⟩) 1 [⟨#[115, 121, 109]⟩] rfl hL rfl rfl rfl (by first | exact mm0 | exact mm1 | exact mm2 | exact mm3 | exact mm4 | exact mm5 | exact mm6 | exact mm7 | exact mm8) rfl rfl rfl (by first | exact fun _ => ss0 | exact fun _ => ss1 | exact fun _ => ss2 | exact fun _ => ss3 | exact fun _ => ss4 | exact fun _ => ss5 | exact fun _ => ss6) rfl rfl (by decide) hL.size ?_; clear hL; intro ao' c' wq hL)
    | (at_builtin; refine ev_app1M (E := encS) (SW) 2 [⟨#[115, 121, 109]⟩, SW] rfl hL rfl rfl rfl (by first | exact mm0 | exact mm1 | exact mm2 | exact mm3 | exact mm4 | exact mm5 | exact mm6 | exact mm7 | exact mm8) rfl rfl rfl (by first | exact fun _ => ss0 | exact fun _ => ss1 | exact fun _ => ss2 | exact fun _ => ss3 | exact fun _ => ss4 | exact fun _ => ss5 | exact fun _ => ss6) rfl rfl (by decide) hL.size ?_; clear hL; intro ao' c' wq hL))
  refine region_any (by kernel_rfl) hL ?_
  intro w5 hL5 hb5 hz5
  clear hL
  have hL := hL5
  clear hL5 hb5 hz5
  refine wpAny_takeN (i := 0) (by repeat (first | exact .zero _ _ | with_reducible apply Nth.succ)) (by kernel_rfl) (by kernel_rfl) (by kernel_rfl) (by exact fun _ _ _ h => h) (v := .slice ao' 2 c') (.inl ⟨by rfl, fun w => by simp [execOp, Instr.fieldAt, go_sem]⟩) ?_
  refine wpAny_takeN (i := 1) (by repeat (first | exact .zero _ _ | with_reducible apply Nth.succ)) (by kernel_rfl) (by kernel_rfl) (by kernel_rfl) (by exact fun _ _ _ h => h) (v := .pointer (some ⟨g1, 11, none⟩)) (.inl ⟨by rfl, fun w => by simp [execOp, Instr.fieldAt, go_sem]⟩) ?_
  refine wpAny_takeN (i := 4) (by repeat (first | exact .zero _ _ | with_reducible apply Nth.succ)) (by kernel_rfl) (by kernel_rfl) (by kernel_rfl) (by exact fun _ _ _ h => h) (v := .pointer (some ⟨g1, 12, none⟩)) (.inl ⟨by rfl, fun w => by simp [execOp, Instr.fieldAt, go_sem]⟩) ?_
  simp only [Act.put, List.setIfInBounds_toArray, List.set_cons_succ, List.set_cons_zero]
  have HL5 := Lib.hid hL
  refine wpAny_two (i1 := 2) (j1 := 3) (i2 := 5) (j2 := 6) (s1 := 43) (p1 := 44) (q1 := 45) (s2 := 46) (p2 := 47) (q2 := 48) (g := g1) (o1 := 11) (o2 := 12) (it1 := fun v => row encS w.heap.size 9 v (ps.map Pce.word)) (it2 := fun v => row encS w.heap.size 9 v (xs.map Xat.word))
    (Nth.get (by repeat (first | exact .zero _ _ | with_reducible apply Nth.succ))) (Nth.get (by repeat (first | exact .zero _ _ | with_reducible apply Nth.succ))) (Nth.get (by repeat (first | exact .zero _ _ | with_reducible apply Nth.succ))) (Nth.get (by repeat (first | exact .zero _ _ | with_reducible apply Nth.succ))) (wd_free (by rfl)) (wd_free (by rfl)) (wd_free (by rfl)) (wd_free (by rfl)) (by rfl) (by rfl) (by rfl) (by rfl) (by kernel_rfl) (by kernel_rfl) (by kernel_rfl) (by kernel_rfl) (by kernel_rfl) (by kernel_rfl)
    (by decide) (by decide) ⟨by simp, by simp⟩ (by rfl) (by rfl) (by infer_instance) (by infer_instance) (by rfl) (by rfl) hL (by first | exact mm0 | exact mm1 | exact mm2 | exact mm3 | exact mm4 | exact mm5 | exact mm6 | exact mm7 | exact mm8) (by rfl) (by rfl)
    (enters_op Tryd.func46 (by kernel_rfl) (by kernel_rfl) (by rfl)) (enters_op Tryd.func47 (by kernel_rfl) (by kernel_rfl) (by rfl))
    (fun w' l' hL' hb' => gives_row hL'.size (story_pieces _ ps w' (HPR.out.below (bl_then HL5.out.below hb')) HPS.out (by omega) (ht.below (bl_then HL5.out.below hb'))))
    (fun w' l' hL' hb' => gives_row hL'.size (story_xattrs _ xs w' (HXR.out.below (bl_then HL5.out.below hb')) (fun q hq => Nat.le_trans (HXS.out q hq) (by decide)) (by omega))) ?_
  clear hL HL5
  intro r1 r2 w6 hL
  obtain ⟨ao1, c1, e1, -⟩ := R_elem (hL.own (E := encS) (v := r1) (xs := ps.map Pce.word) (base := w.heap.size) (e := 9) (.tail _ (.head _))).read
  subst e1
  obtain ⟨ao2, c2, e2, -⟩ := R_elem (hL.own (E := encS) (v := r2) (xs := xs.map Xat.word) (base := w.heap.size) (e := 9) (.head _)).read
  subst e2
  refine wpAny_drop 7 (by rfl) (by kernel_rfl) ?_
  simp only [List.drop_succ_cons, List.drop_zero, Act.put, List.setIfInBounds_toArray, List.set_cons_succ, List.set_cons_zero]
  obtain ⟨n1', hn1⟩ : ∃ n1', n1' = (ps.map Pce.word).length := ⟨_, rfl⟩
  obtain ⟨n2', hn2⟩ : ∃ n2', n2' = (xs.map Xat.word).length := ⟨_, rfl⟩
  rw [← hn1, ← hn2] at hL ⊢
  have HN1 := Lib.hid hn1
  have HN2 := Lib.hid hn2
  clear hn1 hn2
  go_wp2_with (first
    | ((with_reducible refine gate (N := 49) rfl ?_); refine ev_litL (cs := [.slice ao' 2 c', .slice ao1 n1' c1, .slice ao2 n2' c2]) rfl hL rfl rfl rfl (by kernel_rfl) ?_; clear hL; intro gq wq hL)
    | (go_at_call 45; have hq := ConcatS.concat (.slice (some ⟨gq, 0, none⟩) 3 3) [⟨ao', 2, c'⟩, ⟨ao1, n1', c1⟩, ⟨ao2, n2', c2⟩] [[⟨#[115, 121, 109]⟩, SW], ps.map Pce.word, xs.map Xat.word] _ (R_box (E := encSl) (t := 34) [⟨ao', 2, c'⟩, ⟨ao1, n1', c1⟩, ⟨ao2, n2', c2⟩] (hL.box (by first | exact mm0 | exact mm1 | exact mm2 | exact mm3 | exact mm4 | exact mm5 | exact mm6 | exact mm7 | exact mm8)) rfl (by simp)) rfl (three_ (hL.own (E := encS) (base := w.heap.size) (e := 9) (by first | exact mm0 | exact mm1 | exact mm2 | exact mm3 | exact mm4 | exact mm5 | exact mm6 | exact mm7 | exact mm8)).read (hL.own (E := encS) (base := w.heap.size) (e := 9) (by first | exact mm0 | exact mm1 | exact mm2 | exact mm3 | exact mm4 | exact mm5 | exact mm6 | exact mm7 | exact mm8)).read (hL.own (E := encS) (base := w.heap.size) (e := 9) (by first | exact mm0 | exact mm1 | exact mm2 | exact mm3 | exact mm4 | exact mm5 | exact mm6 | exact mm7 | exact mm8)).read) (Nat.le_trans HFL.out (by decide)) (by simp); (with_reducible refine hq.mono ?_); rintro e w3 ⟨u, rfl, hL3⟩; have hL := hL.takeRow hL3; clear hL3 hq)
    | (go_at_call 23; (with_reducible refine (story_stamp hd.id _ hib hin (ht.below hL.below)).mono ?_); rintro e w3 ⟨rfl, hb3⟩; have hL := hL.call hb3; clear hb3)
    | (go_at_call 48; have hq := join_b _ _ _ _ (hL.own (E := encS) (by first | exact mm0 | exact mm1 | exact mm2 | exact mm3 | exact mm4 | exact mm5 | exact mm6 | exact mm7 | exact mm8)) (by rw [← HJD.out]; exact Nat.le_trans hJ (by decide)) (Nat.le_trans HFL.out (by decide)); rw [← HJD.out] at hq; (with_reducible refine hq.mono ?_); rintro e w3 ⟨rfl, hb3⟩; have hL := hL.call hb3; clear hb3 hq)
    | ((with_reducible refine gCat rfl rfl ?_); refine ev_cat rfl rfl rfl rfl (by simp only [ByteArray.size_append, ByteArray.size_mk']; simp; omega) ?_)
    | ((with_reducible refine gAlloc rfl rfl ?_); (refine ev_allocL rfl hL rfl (by first | exact CellsC.of | exact cells_one (by assumption) (by assumption) | exact cells_agg _ rfl) ?_; clear hL; intro gq wq hL)) | ((with_reducible refine gBox rfl rfl ?_); (refine ev_boxL rfl hL rfl rfl (by first | exact CellsC.of | exact cells_one (by assumption) (by assumption) | exact cells_agg _ rfl) ?_; clear hL; intro gq wq hL)) | ((with_reducible refine gLoad rfl rfl ?_); (first | (refine ev_load1L rfl hL rfl rfl HasV.mem (by rfl) ?_) | (refine ev_loadAllL rfl hL rfl rfl HasV.mem (by rfl) ?_) | (refine ev_loadL rfl hL rfl rfl HasV.mem SegC.seg ?_))) | ((with_reducible refine gStore rfl rfl ?_); (first | (refine ev_storeC rfl hL rfl rfl rfl (by first | exact CellsC.of | exact cells_one (by assumption) (by assumption) | exact cells_agg _ rfl) (by rfl) ?_) | (refine ev_storeAllC rfl hL rfl rfl rfl (by first | exact CellsC.of | exact cells_one (by assumption) (by assumption) | exact cells_agg _ rfl) (by rfl) (by rfl) ?_)); clear hL; intro wq hL) | ((with_reducible refine gLoadG rfl rfl ?_ ?_); (exact wanted_some rfl rfl rfl (by with_reducible rfl)); (first | (refine ev_load1G (wanted_some rfl rfl rfl rfl) hL rfl rfl HasV.mem (by rfl) ?_) | (refine ev_loadAllG (wanted_some rfl rfl rfl rfl) hL rfl rfl HasV.mem (by rfl) ?_) | (refine ev_loadG_ (wanted_some rfl rfl rfl rfl) hL rfl rfl HasV.mem SegC.seg ?_))))
  go_ret
  exact ⟨ret_s HE.out.symm, hL.below⟩
theorem story_inode301 (hd : IHd) (p x : Sl) (ps : List Pce) (xs : List Xat) (w : World) (hp : encPc.R w p.val ps) (hx : encXt.R w x.val xs) (hw : (InoD.mk hd ps xs).wf 100000000) (hpl : ps.length ≤ 1000) (hxl : xs.length ≤ 1000) (ht : Tb w) (hk : hd.kind = 3) (h1 : decide (hd.attr.at_ = Mk.zero) = false) (h2 : decide (hd.size.at_ = Mk.zero) = true) :
    Calls Tryd.prog 25 #[.agg (Ino.mk hd p x).cells.toArray] w fun e w' => e = .returned (.string (InoD.mk hd ps xs).line) ∧ Below w.heap.size w w' := by
  have hL := (Loc.nil w NoM).rowNil encS w.heap.size 9
  obtain ⟨hib, hin⟩ := hw.hd.id
  have hszn : I64 hd.size.n := hw.hd.n
  have HPS := Lib.hid (fun q hq => (hw.ps q hq).idx)
  have HXS := Lib.hid (fun q hq => (hw.xs q hq).name)
  have n1 := stamp_nz hd.attr.at_
  have n2 := stamp_nz hd.size.at_
  rw [h1] at n1
  rw [h2] at n2
  simp only [Bool.not_true, Bool.not_false] at n1 n2
  have hs1 := hd.id.text_size hib hin
  have hs2 : (itoaB hd.size.n).size ≤ 30 := hszn.size
  obtain ⟨SW, hSW⟩ : ∃ SW, SW = (⟨#[115, 105, 122, 101, 58]⟩ : ByteArray) ++ itoaB hd.size.n := ⟨_, rfl⟩
  have hSs : SW.size ≤ 1000000000 := by rw [hSW]; simp only [ByteArray.size_append, ByteArray.size_mk']; simp; omega
  have hws : hd.ws = [⟨#[115, 121, 109]⟩, ⟨#[97, 116, 116, 114]⟩] := by
    unfold IHd.ws kindWs
    rw [← hSW]
    simp only [decide_eq_true_eq, decide_eq_false_iff_not] at h1 h2
    simp [h1, h2, hk]
  have t1 : (hd.kind == 1) = false := by simp [hk]
  have t2 : (hd.kind == 2) = false := by simp [hk]
  have t3 : (hd.kind == 3) = true := by simpa using hk
  have hwsz : ∀ y ∈ ([⟨#[115, 121, 109]⟩, ⟨#[97, 116, 116, 114]⟩] : List ByteArray), y.size ≤ 1000000000 := by
    intro y hy
    simp only [List.mem_cons, List.not_mem_nil, or_false] at hy
    rcases hy with rfl | rfl <;> first | exact hSs | (show _ ≤ (1000000000 : Nat); decide)
  have HW : Hid (∀ y ∈ ([[⟨#[115, 121, 109]⟩, ⟨#[97, 116, 116, 114]⟩], ps.map Pce.word, xs.map Xat.word] : List (List ByteArray)).flatten, y.size ≤ 1000000000) := Lib.hid (by
    intro y hy
    simp only [List.flatten_cons, List.flatten_nil, List.append_nil, List.mem_append, List.mem_map] at hy
    rcases hy with hy | ⟨q, hq, rfl⟩ | ⟨q, hq, rfl⟩
    · exact hwsz y hy
    · exact word_pc q (HPS.out q hq)
    · exact word_xt q (Nat.le_trans (HXS.out q hq) (by decide)))
  have hfl : ([[⟨#[115, 121, 109]⟩, ⟨#[97, 116, 116, 114]⟩], ps.map Pce.word, xs.map Xat.word] : List (List ByteArray)).flatten.length ≤ 2003 := by simp; omega
  have HFL := Lib.hid hfl
  have hJ : (joinB ([[⟨#[115, 121, 109]⟩, ⟨#[97, 116, 116, 114]⟩], ps.map Pce.word, xs.map Xat.word] : List (List ByteArray)).flatten).size ≤ 10000000000000 := by
    have := joinB_le 1000000000 _ HW.out
    have h4 := Nat.mul_le_mul_right (1000000000 + 1) hfl
    omega
  have HE := Lib.hid (show InoD.line (InoD.mk hd ps xs) = ⟨#[105, 110, 111, 100, 101, 32]⟩ ++ hd.id.text ++ ⟨#[32]⟩ ++ joinB ([[⟨#[115, 121, 109]⟩, ⟨#[97, 116, 116, 114]⟩], ps.map Pce.word, xs.map Xat.word] : List (List ByteArray)).flatten from by unfold InoD.line InoD.ws; rw [hws]; simp)
  obtain ⟨J, hJD⟩ : ∃ J, J = joinB ([[⟨#[115, 121, 109]⟩, ⟨#[97, 116, 116, 114]⟩], ps.map Pce.word, xs.map Xat.word] : List (List ByteArray)).flatten := ⟨_, rfl⟩
  rw [← hJD] at hJ HE
  have HJD := Lib.hid hJD
  clear hJD
  have HSW := Lib.hid hSW
  have HPR := Lib.hid hp
  have HXR := Lib.hid hx
  clear hws h1 h2 hk hw hSW hwsz hfl hp hx
  unfold Ino.cells
  go_enter Tryd.func25, Tryd.ntmps25
  go_wp2_with (first
    | ((with_reducible refine gate (N := 1) rfl ?_); (refine ev_boxL rfl hL rfl rfl (by first | exact CellsC.of | exact cells_one (by assumption) (by assumption) | exact cells_agg _ rfl) ?_; clear hL; intro g1 w1 hL))
    | ((with_reducible refine gate (N := 19) rfl ?_); refine ev_litL (cs := [.string ⟨#[115, 121, 109]⟩]) rfl hL rfl rfl rfl (by kernel_rfl) ?_; clear hL; intro gq wq hL)
    | ((with_reducible refine gate (N := 27) rfl ?_); refine ev_litL (cs := [.string ⟨#[97, 116, 116, 114]⟩]) rfl hL rfl rfl rfl (by kernel_rfl) ?_; clear hL; intro gq wq hL)
    | (go_at_call 24; have hq := itoa_c hd.size.n hszn.1 hszn.2 _ (ht.below hL.below); (with_reducible refine hq.mono ?_); rintro e w3 ⟨rfl, hb3⟩; have hL := hL.call hb3; clear hb3 hq)
    | (((with_reducible refine gCat rfl rfl ?_); refine ev_cat rfl rfl rfl rfl (by simp only [ByteArray.size_append, ByteArray.size_mk']; simp; omega) ?_); rw [← HSW.out])
    | ((with_reducible refine gAlloc rfl rfl ?_); (refine ev_allocL rfl hL rfl (by first | exact CellsC.of | exact cells_one (by assumption) (by assumption) | exact cells_agg _ rfl) ?_; clear hL; intro gq wq hL)) | ((with_reducible refine gBox rfl rfl ?_); (refine ev_boxL rfl hL rfl rfl (by first | exact CellsC.of | exact cells_one (by assumption) (by assumption) | exact cells_agg _ rfl) ?_; clear hL; intro gq wq hL)) | ((with_reducible refine gLoad rfl rfl ?_); (first | (refine ev_load1L rfl hL rfl rfl HasV.mem (by rfl) ?_) | (refine ev_loadAllL rfl hL rfl rfl HasV.mem (by rfl) ?_) | (refine ev_loadL rfl hL rfl rfl HasV.mem SegC.seg ?_))) | ((with_reducible refine gStore rfl rfl ?_); (first | (refine ev_storeC rfl hL rfl rfl rfl (by first | exact CellsC.of | exact cells_one (by assumption) (by assumption) | exact cells_agg _ rfl) (by rfl) ?_) | (refine ev_storeAllC rfl hL rfl rfl rfl (by first | exact CellsC.of | exact cells_one (by assumption) (by assumption) | exact cells_agg _ rfl) (by rfl) (by rfl) ?_)); clear hL; intro wq hL) | ((with_reducible refine gLoadG rfl rfl ?_ ?_); (exact wanted_some rfl rfl rfl (by with_reducible rfl)); (first | (refine ev_load1G (wanted_some rfl rfl rfl rfl) hL rfl rfl HasV.mem (by rfl) ?_) | (refine ev_loadAllG (wanted_some rfl rfl rfl rfl) hL rfl rfl HasV.mem (by rfl) ?_) | (refine ev_loadG_ (wanted_some rfl rfl rfl rfl) hL rfl rfl HasV.mem SegC.seg ?_)))
    | (at_builtin; refine ev_app1M (E := encS) (⟨#[115, 121, 109]⟩) 1 [⟨#[115, 121, 109]⟩] rfl hL rfl rfl rfl (by first | exact mm0 | exact mm1 | exact mm2 | exact mm3 | exact mm4 | exact mm5 | exact mm6 | exact mm7 | exact mm8) rfl rfl rfl (by first | exact fun _ => ss0 | exact fun _ => ss1 | exact fun _ => ss2 | exact fun _ => ss3 | exact fun _ => ss4 | exact fun _ => ss5 | exact fun _ => ss6) rfl rfl (by decide) hL.size ?_; clear hL; intro ao' c' wq hL)
    | (at_builtin; refine ev_app1M (E := encS) (⟨#[97, 116, 116, 114]⟩) 2 [⟨#[115, 121, 109]⟩, ⟨#[97, 116, 116, 114]⟩] rfl hL rfl rfl rfl (by first | exact mm0 | exact mm1 | exact mm2 | exact mm3 | exact mm4 | exact mm5 | exact mm6 | exact mm7 | exact mm8) rfl rfl rfl (by first | exact fun _ => ss0 | exact fun _ => ss1 | exact fun _ => ss2 | exact fun _ => ss3 | exact fun _ => ss4 | exact fun _ => ss5 | exact fun _ => ss6) rfl rfl (by decide) hL.size ?_; clear hL; intro ao' c' wq hL))
  refine region_any (by kernel_rfl) hL ?_
  intro w5 hL5 hb5 hz5
  clear hL
  have hL := hL5
  clear hL5 hb5 hz5
  refine wpAny_takeN (i := 0) (by repeat (first | exact .zero _ _ | with_reducible apply Nth.succ)) (by kernel_rfl) (by kernel_rfl) (by kernel_rfl) (by exact fun _ _ _ h => h) (v := .slice ao' 2 c') (.inl ⟨by rfl, fun w => by simp [execOp, Instr.fieldAt, go_sem]⟩) ?_
  refine wpAny_takeN (i := 1) (by repeat (first | exact .zero _ _ | with_reducible apply Nth.succ)) (by kernel_rfl) (by kernel_rfl) (by kernel_rfl) (by exact fun _ _ _ h => h) (v := .pointer (some ⟨g1, 11, none⟩)) (.inl ⟨by rfl, fun w => by simp [execOp, Instr.fieldAt, go_sem]⟩) ?_
  refine wpAny_takeN (i := 4) (by repeat (first | exact .zero _ _ | with_reducible apply Nth.succ)) (by kernel_rfl) (by kernel_rfl) (by kernel_rfl) (by exact fun _ _ _ h => h) (v := .pointer (some ⟨g1, 12, none⟩)) (.inl ⟨by rfl, fun w => by simp [execOp, Instr.fieldAt, go_sem]⟩) ?_
  simp only [Act.put, List.setIfInBounds_toArray, List.set_cons_succ, List.set_cons_zero]
  have HL5 := Lib.hid hL
  refine wpAny_two (i1 := 2) (j1 := 3) (i2 := 5) (j2 := 6) (s1 := 43) (p1 := 44) (q1 := 45) (s2 := 46) (p2 := 47) (q2 := 48) (g := g1) (o1 := 11) (o2 := 12) (it1 := fun v => row encS w.heap.size 9 v (ps.map Pce.word)) (it2 := fun v => row encS w.heap.size 9 v (xs.map Xat.word))
    (Nth.get (by repeat (first | exact .zero _ _ | with_reducible apply Nth.succ))) (Nth.get (by repeat (first | exact .zero _ _ | with_reducible apply Nth.succ))) (Nth.get (by repeat (first | exact .zero _ _ | with_reducible apply Nth.succ))) (Nth.get (by repeat (first | exact .zero _ _ | with_reducible apply Nth.succ))) (wd_free (by rfl)) (wd_free (by rfl)) (wd_free (by rfl)) (wd_free (by rfl)) (by rfl) (by rfl) (by rfl) (by rfl) (by kernel_rfl) (by kernel_rfl) (by kernel_rfl) (by kernel_rfl) (by kernel_rfl) (by kernel_rfl)
    (by decide) (by decide) ⟨by simp, by simp⟩ (by rfl) (by rfl) (by infer_instance) (by infer_instance) (by rfl) (by rfl) hL (by first | exact mm0 | exact mm1 | exact mm2 | exact mm3 | exact mm4 | exact mm5 | exact mm6 | exact mm7 | exact mm8) (by rfl) (by rfl)
    (enters_op Tryd.func46 (by kernel_rfl) (by kernel_rfl) (by rfl)) (enters_op Tryd.func47 (by kernel_rfl) (by kernel_rfl) (by rfl))
    (fun w' l' hL' hb' => gives_row hL'.size (story_pieces _ ps w' (HPR.out.below (bl_then HL5.out.below hb')) HPS.out (by omega) (ht.below (bl_then HL5.out.below hb'))))
    (fun w' l' hL' hb' => gives_row hL'.size (story_xattrs _ xs w' (HXR.out.below (bl_then HL5.out.below hb')) (fun q hq => Nat.le_trans (HXS.out q hq) (by decide)) (by omega))) ?_
  clear hL HL5
  intro r1 r2 w6 hL
  obtain ⟨ao1, c1, e1, -⟩ := R_elem (hL.own (E := encS) (v := r1) (xs := ps.map Pce.word) (base := w.heap.size) (e := 9) (.tail _ (.head _))).read
  subst e1
  obtain ⟨ao2, c2, e2, -⟩ := R_elem (hL.own (E := encS) (v := r2) (xs := xs.map Xat.word) (base := w.heap.size) (e := 9) (.head _)).read
  subst e2
  refine wpAny_drop 7 (by rfl) (by kernel_rfl) ?_
  simp only [List.drop_succ_cons, List.drop_zero, Act.put, List.setIfInBounds_toArray, List.set_cons_succ, List.set_cons_zero]
  obtain ⟨n1', hn1⟩ : ∃ n1', n1' = (ps.map Pce.word).length := ⟨_, rfl⟩
  obtain ⟨n2', hn2⟩ : ∃ n2', n2' = (xs.map Xat.word).length := ⟨_, rfl⟩
  rw [← hn1, ← hn2] at hL ⊢
  have HN1 := Lib.hid hn1
  have HN2 := Lib.hid hn2
  clear hn1 hn2
  go_wp2_with (first
    | ((with_reducible refine gate (N := 49) rfl ?_); refine ev_litL (cs := [.slice ao' 2 c', .slice ao1 n1' c1, .slice ao2 n2' c2]) rfl hL rfl rfl rfl (by kernel_rfl) ?_; clear hL; intro gq wq hL)
    | (go_at_call 45; have hq := ConcatS.concat (.slice (some ⟨gq, 0, none⟩) 3 3) [⟨ao', 2, c'⟩, ⟨ao1, n1', c1⟩, ⟨ao2, n2', c2⟩] [[⟨#[115, 121, 109]⟩, ⟨#[97, 116, 116, 114]⟩], ps.map Pce.word, xs.map Xat.word] _ (R_box (E := encSl) (t := 34) [⟨ao', 2, c'⟩, ⟨ao1, n1', c1⟩, ⟨ao2, n2', c2⟩] (hL.box (by first | exact mm0 | exact mm1 | exact mm2 | exact mm3 | exact mm4 | exact mm5 | exact mm6 | exact mm7 | exact mm8)) rfl (by simp)) rfl (three_ (hL.own (E := encS) (base := w.heap.size) (e := 9) (by first | exact mm0 | exact mm1 | exact mm2 | exact mm3 | exact mm4 | exact mm5 | exact mm6 | exact mm7 | exact mm8)).read (hL.own (E := encS) (base := w.heap.size) (e := 9) (by first | exact mm0 | exact mm1 | exact mm2 | exact mm3 | exact mm4 | exact mm5 | exact mm6 | exact mm7 | exact mm8)).read (hL.own (E := encS) (base := w.heap.size) (e := 9) (by first | exact mm0 | exact mm1 | exact mm2 | exact mm3 | exact mm4 | exact mm5 | exact mm6 | exact mm7 | exact mm8)).read) (Nat.le_trans HFL.out (by decide)) (by simp); (with_reducible refine hq.mono ?_); rintro e w3 ⟨u, rfl, hL3⟩; have hL := hL.takeRow hL3; clear hL3 hq)
    | (go_at_call 23; (with_reducible refine (story_stamp hd.id _ hib hin (ht.below hL.below)).mono ?_); rintro e w3 ⟨rfl, hb3⟩; have hL := hL.call hb3; clear hb3)
    | (go_at_call 48; have hq := join_b _ _ _ _ (hL.own (E := encS) (by first | exact mm0 | exact mm1 | exact mm2 | exact mm3 | exact mm4 | exact mm5 | exact mm6 | exact mm7 | exact mm8)) (by rw [← HJD.out]; exact Nat.le_trans hJ (by decide)) (Nat.le_trans HFL.out (by decide)); rw [← HJD.out] at hq; (with_reducible refine hq.mono ?_); rintro e w3 ⟨rfl, hb3⟩; have hL := hL.call hb3; clear hb3 hq)
    | ((with_reducible refine gCat rfl rfl ?_); refine ev_cat rfl rfl rfl rfl (by simp only [ByteArray.size_append, ByteArray.size_mk']; simp; omega) ?_)
    | ((with_reducible refine gAlloc rfl rfl ?_); (refine ev_allocL rfl hL rfl (by first | exact CellsC.of | exact cells_one (by assumption) (by assumption) | exact cells_agg _ rfl) ?_; clear hL; intro gq wq hL)) | ((with_reducible refine gBox rfl rfl ?_); (refine ev_boxL rfl hL rfl rfl (by first | exact CellsC.of | exact cells_one (by assumption) (by assumption) | exact cells_agg _ rfl) ?_; clear hL; intro gq wq hL)) | ((with_reducible refine gLoad rfl rfl ?_); (first | (refine ev_load1L rfl hL rfl rfl HasV.mem (by rfl) ?_) | (refine ev_loadAllL rfl hL rfl rfl HasV.mem (by rfl) ?_) | (refine ev_loadL rfl hL rfl rfl HasV.mem SegC.seg ?_))) | ((with_reducible refine gStore rfl rfl ?_); (first | (refine ev_storeC rfl hL rfl rfl rfl (by first | exact CellsC.of | exact cells_one (by assumption) (by assumption) | exact cells_agg _ rfl) (by rfl) ?_) | (refine ev_storeAllC rfl hL rfl rfl rfl (by first | exact CellsC.of | exact cells_one (by assumption) (by assumption) | exact cells_agg _ rfl) (by rfl) (by rfl) ?_)); clear hL; intro wq hL) | ((with_reducible refine gLoadG rfl rfl ?_ ?_); (exact wanted_some rfl rfl rfl (by with_reducible rfl)); (first | (refine ev_load1G (wanted_some rfl rfl rfl rfl) hL rfl rfl HasV.mem (by rfl) ?_) | (refine ev_loadAllG (wanted_some rfl rfl rfl rfl) hL rfl rfl HasV.mem (by rfl) ?_) | (refine ev_loadG_ (wanted_some rfl rfl rfl rfl) hL rfl rfl HasV.mem SegC.seg ?_))))
  go_ret
  exact ⟨ret_s HE.out.symm, hL.below⟩
theorem story_inode300 (hd : IHd) (p x : Sl) (ps : List Pce) (xs : List Xat) (w : World) (hp : encPc.R w p.val ps) (hx : encXt.R w x.val xs) (hw : (InoD.mk hd ps xs).wf 100000000) (hpl : ps.length ≤ 1000) (hxl : xs.length ≤ 1000) (ht : Tb w) (hk : hd.kind = 3) (h1 : decide (hd.attr.at_ = Mk.zero) = false) (h2 : decide (hd.size.at_ = Mk.zero) = false) :
    Calls Tryd.prog 25 #[.agg (Ino.mk hd p x).cells.toArray] w fun e w' => e = .returned (.string (InoD.mk hd ps xs).line) ∧ Below w.heap.size w w' := by
  have hL := (Loc.nil w NoM).rowNil encS w.heap.size 9
  obtain ⟨hib, hin⟩ := hw.hd.id
  have hszn : I64 hd.size.n := hw.hd.n
  have HPS := Lib.hid (fun q hq => (hw.ps q hq).idx)
  have HXS := Lib.hid (fun q hq => (hw.xs q hq).name)
  have n1 := stamp_nz hd.attr.at_
  have n2 := stamp_nz hd.size.at_
  rw [h1] at n1
  rw [h2] at n2
  simp only [Bool.not_true, Bool.not_false] at n1 n2
  have hs1 := hd.id.text_size hib hin
  have hs2 : (itoaB hd.size.n).size ≤ 30 := hszn.size
  obtain ⟨SW, hSW⟩ : ∃ SW, SW = (⟨#[115, 105, 122, 101, 58]⟩ : ByteArray) ++ itoaB hd.size.n := ⟨_, rfl⟩
  have hSs : SW.size ≤ 1000000000 := by rw [hSW]; simp only [ByteArray.size_append, ByteArray.size_mk']; simp; omega
  have hws : hd.ws = [⟨#[115, 121, 109]⟩, ⟨#[97, 116, 116, 114]⟩, SW] := by
    unfold IHd.ws kindWs
    rw [← hSW]
    simp only [decide_eq_true_eq, decide_eq_false_iff_not] at h1 h2
    simp [h1, h2, hk]
  have t1 : (hd.kind == 1) = false := by simp [hk]
  have t2 : (hd.kind == 2) = false := by simp [hk]
  have t3 : (hd.kind == 3) = true := by simpa using hk
  have hwsz : ∀ y ∈ ([⟨#[115, 121, 109]⟩, ⟨#[97, 116, 116, 114]⟩, SW] : List ByteArray), y.size ≤ 1000000000 := by
    intro y hy
    simp only [List.mem_cons, List.not_mem_nil, or_false] at hy
    rcases hy with rfl | rfl | rfl <;> first | exact hSs | (show _ ≤ (1000000000 : Nat); decide)
  have HW : Hid (∀ y ∈ ([[⟨#[115, 121, 109]⟩, ⟨#[97, 116, 116, 114]⟩, SW], ps.map Pce.word, xs.map Xat.word] : List (List ByteArray)).flatten, y.size ≤ 1000000000) := Lib.hid (by
    intro y hy
    simp only [List.flatten_cons, List.flatten_nil, List.append_nil, List.mem_append, List.mem_map] at hy
    rcases hy with hy | ⟨q, hq, rfl⟩ | ⟨q, hq, rfl⟩
    · exact hwsz y hy
    · exact word_pc q (HPS.out q hq)
    · exact word_xt q (Nat.le_trans (HXS.out q hq) (by decide)))
  have hfl : ([[⟨#[115, 121, 109]⟩, ⟨#[97, 116, 116, 114]⟩, SW], ps.map Pce.word, xs.map Xat.word] : List (List ByteArray)).flatten.length ≤ 2003 := by simp; omega
  have HFL := Lib.hid hfl
  have hJ : (joinB ([[⟨#[115, 121, 109]⟩, ⟨#[97, 116, 116, 114]⟩, SW], ps.map Pce.word, xs.map Xat.word] : List (List ByteArray)).flatten).size ≤ 10000000000000 := by
    have := joinB_le 1000000000 _ HW.out
    have h4 := Nat.mul_le_mul_right (1000000000 + 1) hfl
    omega
  have HE := Lib.hid (show InoD.line (InoD.mk hd ps xs) = ⟨#[105, 110, 111, 100, 101, 32]⟩ ++ hd.id.text ++ ⟨#[32]⟩ ++ joinB ([[⟨#[115, 121, 109]⟩, ⟨#[97, 116, 116, 114]⟩, SW], ps.map Pce.word, xs.map Xat.word] : List (List ByteArray)).flatten from by unfold InoD.line InoD.ws; rw [hws]; simp)
  obtain ⟨J, hJD⟩ : ∃ J, J = joinB ([[⟨#[115, 121, 109]⟩, ⟨#[97, 116, 116, 114]⟩, SW], ps.map Pce.word, xs.map Xat.word] : List (List ByteArray)).flatten := ⟨_, rfl⟩
  rw [← hJD] at hJ HE
  have HJD := Lib.hid hJD
  clear hJD
  have HSW := Lib.hid hSW
  have HPR := Lib.hid hp
  have HXR := Lib.hid hx
  clear hws h1 h2 hk hw hSW hwsz hfl hp hx
  unfold Ino.cells
  go_enter Tryd.func25, Tryd.ntmps25
  go_wp2_with (first
    | ((with_reducible refine gate (N := 1) rfl ?_); (refine ev_boxL rfl hL rfl rfl (by first | exact CellsC.of | exact cells_one (by assumption) (by assumption) | exact cells_agg _ rfl) ?_; clear hL; intro g1 w1 hL))
    | ((with_reducible refine gate (N := 19) rfl ?_); refine ev_litL (cs := [.string ⟨#[115, 121, 109]⟩]) rfl hL rfl rfl rfl (by kernel_rfl) ?_; clear hL; intro gq wq hL)
    | ((with_reducible refine gate (N := 27) rfl ?_); refine ev_litL (cs := [.string ⟨#[97, 116, 116, 114]⟩]) rfl hL rfl rfl rfl (by kernel_rfl) ?_; clear hL; intro gq wq hL)
    | ((with_reducible refine gate (N := 40) rfl ?_); refine ev_litL (cs := [.string SW]) rfl hL rfl rfl rfl (by kernel_rfl) ?_; clear hL; intro gq wq hL)
    | (go_at_call 24; have hq := itoa_c hd.size.n hszn.1 hszn.2 _ (ht.below hL.below); (with_reducible refine hq.mono ?_); rintro e w3 ⟨rfl, hb3⟩; have hL := hL.call hb3; clear hb3 hq)
    | (((with_reducible refine gCat rfl rfl ?_); refine ev_cat rfl rfl rfl rfl (by simp only [ByteArray.size_append, ByteArray.size_mk']; simp; omega) ?_); rw [← HSW.out])
    | ((with_reducible refine gAlloc rfl rfl ?_); (refine ev_allocL rfl hL rfl (by first | exact CellsC.of | exact cells_one (by assumption) (by assumption) | exact cells_agg _ rfl) ?_; clear hL; intro gq wq hL)) | ((with_reducible refine gBox rfl rfl ?_); (refine ev_boxL rfl hL rfl rfl (by first | exact CellsC.of | exact cells_one (by assumption) (by assumption) | exact cells_agg _ rfl) ?_; clear hL; intro gq wq hL)) | ((with_reducible refine gLoad rfl rfl ?_); (first | (refine ev_load1L rfl hL rfl rfl HasV.mem (by rfl) ?_) | (refine ev_loadAllL rfl hL rfl rfl HasV.mem (by rfl) ?_) | (refine ev_loadL rfl hL rfl rfl HasV.mem SegC.seg ?_))) | ((with_reducible refine gStore rfl rfl ?_); (first | (refine ev_storeC rfl hL rfl rfl rfl (by first | exact CellsC.of | exact cells_one (by assumption) (by assumption) | exact cells_agg _ rfl) (by rfl) ?_) | (refine ev_storeAllC rfl hL rfl rfl rfl (by first | exact CellsC.of | exact cells_one (by assumption) (by assumption) | exact cells_agg _ rfl) (by rfl) (by rfl) ?_)); clear hL; intro wq hL) | ((with_reducible refine gLoadG rfl rfl ?_ ?_); (exact wanted_some rfl rfl rfl (by with_reducible rfl)); (first | (refine ev_load1G (wanted_some rfl rfl rfl rfl) hL rfl rfl HasV.mem (by rfl) ?_) | (refine ev_loadAllG (wanted_some rfl rfl rfl rfl) hL rfl rfl HasV.mem (by rfl) ?_) | (refine ev_loadG_ (wanted_some rfl rfl rfl rfl) hL rfl rfl HasV.mem SegC.seg ?_)))
    | (at_builtin; refine ev_app1M (E := encS) (⟨#[115, 121, 109]⟩) 1 [⟨#[115, 121, 109]⟩] rfl hL rfl rfl rfl (by first | exact mm0 | exact mm1 | exact mm2 | exact mm3 | exact mm4 | exact mm5 | exact mm6 | exact mm7 | exact mm8) rfl rfl rfl (by first | exact fun _ => ss0 | exact fun _ => ss1 | exact fun _ => ss2 | exact fun _ => ss3 | exact fun _ => ss4 | exact fun _ => ss5 | exact fun _ => ss6) rfl rfl (by decide) hL.size ?_; clear hL; intro ao' c' wq hL)
    | (at_builtin; refine ev_app1M (E := encS) (⟨#[97, 116, 116, 114]⟩) 2 [⟨#[115, 121, 109]⟩, ⟨#[97, 116, 116, 114]⟩] rfl hL rfl rfl rfl (by first | exact mm0 | exact mm1 | exact mm2 | exact mm3 | exact mm4 | exact mm5 | exact mm6 | exact mm7 | exact mm8) rfl rfl rfl (by first | exact fun _ => ss0 | exact fun _ => ss1 | exact fun _ => ss2 | exact fun _ => ss3 | exact fun _ => ss4 | exact fun _ => ss5 | exact fun _ => ss6) rfl rfl (by decide) hL.size ?_; clear hL; intro ao' c' wq hL)
    | (at_builtin; refine ev_app1M (E := encS) (SW) 3 [⟨#[115, 121, 109]⟩, ⟨#[97, 116, 116, 114]⟩, SW] rfl hL rfl rfl rfl (by first | exact mm0 | exact mm1 | exact mm2 | exact mm3 | exact mm4 | exact mm5 | exact mm6 | exact mm7 | exact mm8) rfl rfl rfl (by first | exact fun _ => ss0 | exact fun _ => ss1 | exact fun _ => ss2 | exact fun _ => ss3 | exact fun _ => ss4 | exact fun _ => ss5 | exact fun _ => ss6) rfl rfl (by decide) hL.size ?_; clear hL; intro ao' c' wq hL))
  refine region_any (by kernel_rfl) hL ?_
  intro w5 hL5 hb5 hz5
  clear hL
  have hL := hL5
  clear hL5 hb5 hz5
  refine wpAny_takeN (i := 0) (by repeat (first | exact .zero _ _ | with_reducible apply Nth.succ)) (by kernel_rfl) (by kernel_rfl) (by kernel_rfl) (by exact fun _ _ _ h => h) (v := .slice ao' 3 c') (.inl ⟨by rfl, fun w => by simp [execOp, Instr.fieldAt, go_sem]⟩) ?_
  refine wpAny_takeN (i := 1) (by repeat (first | exact .zero _ _ | with_reducible apply Nth.succ)) (by kernel_rfl) (by kernel_rfl) (by kernel_rfl) (by exact fun _ _ _ h => h) (v := .pointer (some ⟨g1, 11, none⟩)) (.inl ⟨by rfl, fun w => by simp [execOp, Instr.fieldAt, go_sem]⟩) ?_
  refine wpAny_takeN (i := 4) (by repeat (first | exact .zero _ _ | with_reducible apply Nth.succ)) (by kernel_rfl) (by kernel_rfl) (by kernel_rfl) (by exact fun _ _ _ h => h) (v := .pointer (some ⟨g1, 12, none⟩)) (.inl ⟨by rfl, fun w => by simp [execOp, Instr.fieldAt, go_sem]⟩) ?_
  simp only [Act.put, List.setIfInBounds_toArray, List.set_cons_succ, List.set_cons_zero]
  have HL5 := Lib.hid hL
  refine wpAny_two (i1 := 2) (j1 := 3) (i2 := 5) (j2 := 6) (s1 := 43) (p1 := 44) (q1 := 45) (s2 := 46) (p2 := 47) (q2 := 48) (g := g1) (o1 := 11) (o2 := 12) (it1 := fun v => row encS w.heap.size 9 v (ps.map Pce.word)) (it2 := fun v => row encS w.heap.size 9 v (xs.map Xat.word))
    (Nth.get (by repeat (first | exact .zero _ _ | with_reducible apply Nth.succ))) (Nth.get (by repeat (first | exact .zero _ _ | with_reducible apply Nth.succ))) (Nth.get (by repeat (first | exact .zero _ _ | with_reducible apply Nth.succ))) (Nth.get (by repeat (first | exact .zero _ _ | with_reducible apply Nth.succ))) (wd_free (by rfl)) (wd_free (by rfl)) (wd_free (by rfl)) (wd_free (by rfl)) (by rfl) (by rfl) (by rfl) (by rfl) (by kernel_rfl) (by kernel_rfl) (by kernel_rfl) (by kernel_rfl) (by kernel_rfl) (by kernel_rfl)
    (by decide) (by decide) ⟨by simp, by simp⟩ (by rfl) (by rfl) (by infer_instance) (by infer_instance) (by rfl) (by rfl) hL (by first | exact mm0 | exact mm1 | exact mm2 | exact mm3 | exact mm4 | exact mm5 | exact mm6 | exact mm7 | exact mm8) (by rfl) (by rfl)
    (enters_op Tryd.func46 (by kernel_rfl) (by kernel_rfl) (by rfl)) (enters_op Tryd.func47 (by kernel_rfl) (by kernel_rfl) (by rfl))
    (fun w' l' hL' hb' => gives_row hL'.size (story_pieces _ ps w' (HPR.out.below (bl_then HL5.out.below hb')) HPS.out (by omega) (ht.below (bl_then HL5.out.below hb'))))
    (fun w' l' hL' hb' => gives_row hL'.size (story_xattrs _ xs w' (HXR.out.below (bl_then HL5.out.below hb')) (fun q hq => Nat.le_trans (HXS.out q hq) (by decide)) (by omega))) ?_
  clear hL HL5
  intro r1 r2 w6 hL
  obtain ⟨ao1, c1, e1, -⟩ := R_elem (hL.own (E := encS) (v := r1) (xs := ps.map Pce.word) (base := w.heap.size) (e := 9) (.tail _ (.head _))).read
  subst e1
  obtain ⟨ao2, c2, e2, -⟩ := R_elem (hL.own (E := encS) (v := r2) (xs := xs.map Xat.word) (base := w.heap.size) (e := 9) (.head _)).read
  subst e2
  refine wpAny_drop 7 (by rfl) (by kernel_rfl) ?_
  simp only [List.drop_succ_cons, List.drop_zero, Act.put, List.setIfInBounds_toArray, List.set_cons_succ, List.set_cons_zero]
  obtain ⟨n1', hn1⟩ : ∃ n1', n1' = (ps.map Pce.word).length := ⟨_, rfl⟩
  obtain ⟨n2', hn2⟩ : ∃ n2', n2' = (xs.map Xat.word).length := ⟨_, rfl⟩
  rw [← hn1, ← hn2] at hL ⊢
  have HN1 := Lib.hid hn1
  have HN2 := Lib.hid hn2
  clear hn1 hn2
  go_wp2_with (first
    | ((with_reducible refine gate (N := 49) rfl ?_); refine ev_litL (cs := [.slice ao' 3 c', .slice ao1 n1' c1, .slice ao2 n2' c2]) rfl hL rfl rfl rfl (by kernel_rfl) ?_; clear hL; intro gq wq hL)
    | (go_at_call 45; have hq := ConcatS.concat (.slice (some ⟨gq, 0, none⟩) 3 3) [⟨ao', 3, c'⟩, ⟨ao1, n1', c1⟩, ⟨ao2, n2', c2⟩] [[⟨#[115, 121, 109]⟩, ⟨#[97, 116, 116, 114]⟩, SW], ps.map Pce.word, xs.map Xat.word] _ (R_box (E := encSl) (t := 34) [⟨ao', 3, c'⟩, ⟨ao1, n1', c1⟩, ⟨ao2, n2', c2⟩] (hL.box (by first | exact mm0 | exact mm1 | exact mm2 | exact mm3 | exact mm4 | exact mm5 | exact mm6 | exact mm7 | exact mm8)) rfl (by simp)) rfl (three_ (hL.own (E := encS) (base := w.heap.size) (e := 9) (by first | exact mm0 | exact mm1 | exact mm2 | exact mm3 | exact mm4 | exact mm5 | exact mm6 | exact mm7 | exact mm8)).read (hL.own (E := encS) (base := w.heap.size) (e := 9) (by first | exact mm0 | exact mm1 | exact mm2 | exact mm3 | exact mm4 | exact mm5 | exact mm6 | exact mm7 | exact mm8)).read (hL.own (E := encS) (base := w.heap.size) (e := 9) (by first | exact mm0 | exact mm1 | exact mm2 | exact mm3 | exact mm4 | exact mm5 | exact mm6 | exact mm7 | exact mm8)).read) (Nat.le_trans HFL.out (by decide)) (by simp); (with_reducible refine hq.mono ?_); rintro e w3 ⟨u, rfl, hL3⟩; have hL := hL.takeRow hL3; clear hL3 hq)
    | (go_at_call 23; (with_reducible refine (story_stamp hd.id _ hib hin (ht.below hL.below)).mono ?_); rintro e w3 ⟨rfl, hb3⟩; have hL := hL.call hb3; clear hb3)
    | (go_at_call 48; have hq := join_b _ _ _ _ (hL.own (E := encS) (by first | exact mm0 | exact mm1 | exact mm2 | exact mm3 | exact mm4 | exact mm5 | exact mm6 | exact mm7 | exact mm8)) (by rw [← HJD.out]; exact Nat.le_trans hJ (by decide)) (Nat.le_trans HFL.out (by decide)); rw [← HJD.out] at hq; (with_reducible refine hq.mono ?_); rintro e w3 ⟨rfl, hb3⟩; have hL := hL.call hb3; clear hb3 hq)
    | ((with_reducible refine gCat rfl rfl ?_); refine ev_cat rfl rfl rfl rfl (by simp only [ByteArray.size_append, ByteArray.size_mk']; simp; omega) ?_)
    | ((with_reducible refine gAlloc rfl rfl ?_); (refine ev_allocL rfl hL rfl (by first | exact CellsC.of | exact cells_one (by assumption) (by assumption) | exact cells_agg _ rfl) ?_; clear hL; intro gq wq hL)) | ((with_reducible refine gBox rfl rfl ?_); (refine ev_boxL rfl hL rfl rfl (by first | exact CellsC.of | exact cells_one (by assumption) (by assumption) | exact cells_agg _ rfl) ?_; clear hL; intro gq wq hL)) | ((with_reducible refine gLoad rfl rfl ?_); (first | (refine ev_load1L rfl hL rfl rfl HasV.mem (by rfl) ?_) | (refine ev_loadAllL rfl hL rfl rfl HasV.mem (by rfl) ?_) | (refine ev_loadL rfl hL rfl rfl HasV.mem SegC.seg ?_))) | ((with_reducible refine gStore rfl rfl ?_); (first | (refine ev_storeC rfl hL rfl rfl rfl (by first | exact CellsC.of | exact cells_one (by assumption) (by assumption) | exact cells_agg _ rfl) (by rfl) ?_) | (refine ev_storeAllC rfl hL rfl rfl rfl (by first | exact CellsC.of | exact cells_one (by assumption) (by assumption) | exact cells_agg _ rfl) (by rfl) (by rfl) ?_)); clear hL; intro wq hL) | ((with_reducible refine gLoadG rfl rfl ?_ ?_); (exact wanted_some rfl rfl rfl (by with_reducible rfl)); (first | (refine ev_load1G (wanted_some rfl rfl rfl rfl) hL rfl rfl HasV.mem (by rfl) ?_) | (refine ev_loadAllG (wanted_some rfl rfl rfl rfl) hL rfl rfl HasV.mem (by rfl) ?_) | (refine ev_loadG_ (wanted_some rfl rfl rfl rfl) hL rfl rfl HasV.mem SegC.seg ?_))))
  go_ret
  exact ⟨ret_s HE.out.symm, hL.below⟩
theorem story_inode011 (hd : IHd) (p x : Sl) (ps : List Pce) (xs : List Xat) (w : World) (hp : encPc.R w p.val ps) (hx : encXt.R w x.val xs) (hw : (InoD.mk hd ps xs).wf 100000000) (hpl : ps.length ≤ 1000) (hxl : xs.length ≤ 1000) (ht : Tb w) (hk : ¬ hd.kind = 1 ∧ ¬ hd.kind = 2 ∧ ¬ hd.kind = 3) (h1 : decide (hd.attr.at_ = Mk.zero) = true) (h2 : decide (hd.size.at_ = Mk.zero) = true) :
    Calls Tryd.prog 25 #[.agg (Ino.mk hd p x).cells.toArray] w fun e w' => e = .returned (.string (InoD.mk hd ps xs).line) ∧ Below w.heap.size w w' := by
  have hL := (Loc.nil w NoM).rowNil encS w.heap.size 9
  obtain ⟨hib, hin⟩ := hw.hd.id
  have hszn : I64 hd.size.n := hw.hd.n
  have HPS := Lib.hid (fun q hq => (hw.ps q hq).idx)
  have HXS := Lib.hid (fun q hq => (hw.xs q hq).name)
  have n1 := stamp_nz hd.attr.at_
  have n2 := stamp_nz hd.size.at_
  rw [h1] at n1
  rw [h2] at n2
  simp only [Bool.not_true, Bool.not_false] at n1 n2
  have hs1 := hd.id.text_size hib hin
  have hs2 : (itoaB hd.size.n).size ≤ 30 := hszn.size
  obtain ⟨SW, hSW⟩ : ∃ SW, SW = (⟨#[115, 105, 122, 101, 58]⟩ : ByteArray) ++ itoaB hd.size.n := ⟨_, rfl⟩
  have hSs : SW.size ≤ 1000000000 := by rw [hSW]; simp only [ByteArray.size_append, ByteArray.size_mk']; simp; omega
  have hws : hd.ws = [] := by
    unfold IHd.ws kindWs
    rw [← hSW]
    simp only [decide_eq_true_eq, decide_eq_false_iff_not] at h1 h2
    simp [h1, h2, hk]
  have t1 : (hd.kind == 1) = false := by simpa using hk.1
  have t2 : (hd.kind == 2) = false := by simpa using hk.2.1
  have t3 : (hd.kind == 3) = false := by simpa using hk.2.2
  have hwsz : ∀ y ∈ ([] : List ByteArray), y.size ≤ 1000000000 := by
    intro y hy
    simp only [List.mem_cons, List.not_mem_nil, or_false] at hy
    
  have HW : Hid (∀ y ∈ ([[], ps.map Pce.word, xs.map Xat.word] : List (List ByteArray)).flatten, y.size ≤ 1000000000) := Lib.hid (by
    intro y hy
    simp only [List.flatten_cons, List.flatten_nil, List.append_nil, List.mem_append, List.mem_map] at hy
    rcases hy with hy | ⟨q, hq, rfl⟩ | ⟨q, hq, rfl⟩
    · exact hwsz y hy
    · exact word_pc q (HPS.out q hq)
    · exact word_xt q (Nat.le_trans (HXS.out q hq) (by decide)))
  have hfl : ([[], ps.map Pce.word, xs.map Xat.word] : List (List ByteArray)).flatten.length ≤ 2003 := by simp; omega
  have HFL := Lib.hid hfl
  have hJ : (joinB ([[], ps.map Pce.word, xs.map Xat.word] : List (List ByteArray)).flatten).size ≤ 10000000000000 := by
    have := joinB_le 1000000000 _ HW.out
    have h4 := Nat.mul_le_mul_right (1000000000 + 1) hfl
    omega
  have HE := Lib.hid (show InoD.line (InoD.mk hd ps xs) = ⟨#[105, 110, 111, 100, 101, 32]⟩ ++ hd.id.text ++ ⟨#[32]⟩ ++ joinB ([[], ps.map Pce.word, xs.map Xat.word] : List (List ByteArray)).flatten from by unfold InoD.line InoD.ws; rw [hws]; simp)
  obtain ⟨J, hJD⟩ : ∃ J, J = joinB ([[], ps.map Pce.word, xs.map Xat.word] : List (List ByteArray)).flatten := ⟨_, rfl⟩
  rw [← hJD] at hJ HE
  have HJD := Lib.hid hJD
  clear hJD
  have HSW := Lib.hid hSW
  have HPR := Lib.hid hp
  have HXR := Lib.hid hx
  clear hws h1 h2 hk hw hSW hwsz hfl hp hx
  unfold Ino.cells
  go_enter Tryd.func25, Tryd.ntmps25
  go_wp2_with (first
    | ((with_reducible refine gate (N := 1) rfl ?_); (refine ev_boxL rfl hL rfl rfl (by first | exact CellsC.of | exact cells_one (by assumption) (by assumption) | exact cells_agg _ rfl) ?_; clear hL; intro g1 w1 hL))
    
    | (go_at_call 24; have hq := itoa_c hd.size.n hszn.1 hszn.2 _ (ht.below hL.below); (with_reducible refine hq.mono ?_); rintro e w3 ⟨rfl, hb3⟩; have hL := hL.call hb3; clear hb3 hq)
    | (((with_reducible refine gCat rfl rfl ?_); refine ev_cat rfl rfl rfl rfl (by simp only [ByteArray.size_append, ByteArray.size_mk']; simp; omega) ?_); rw [← HSW.out])
    | ((with_reducible refine gAlloc rfl rfl ?_); (refine ev_allocL rfl hL rfl (by first | exact CellsC.of | exact cells_one (by assumption) (by assumption) | exact cells_agg _ rfl) ?_; clear hL; intro gq wq hL)) | ((with_reducible refine gBox rfl rfl ?_); (refine ev_boxL rfl hL rfl rfl (by first | exact CellsC.of | exact cells_one (by assumption) (by assumption) | exact cells_agg _ rfl) ?_; clear hL; intro gq wq hL)) | ((with_reducible refine gLoad rfl rfl ?_); (first | (refine ev_load1L rfl hL rfl rfl HasV.mem (by rfl) ?_) | (refine ev_loadAllL rfl hL rfl rfl HasV.mem (by rfl) ?_) | (refine ev_loadL rfl hL rfl rfl HasV.mem SegC.seg ?_))) | ((with_reducible refine gStore rfl rfl ?_); (first | (refine ev_storeC rfl hL rfl rfl rfl (by first | exact CellsC.of | exact cells_one (by assumption) (by assumption) | exact cells_agg _ rfl) (by rfl) ?_) | (refine ev_storeAllC rfl hL rfl rfl rfl (by first | exact CellsC.of | exact cells_one (by assumption) (by assumption) | exact cells_agg _ rfl) (by rfl) (by rfl) ?_)); clear hL; intro wq hL) | ((with_reducible refine gLoadG rfl rfl ?_ ?_); (exact wanted_some rfl rfl rfl (by with_reducible rfl)); (first | (refine ev_load1G (wanted_some rfl rfl rfl rfl) hL rfl rfl HasV.mem (by rfl) ?_) | (refine ev_loadAllG (wanted_some rfl rfl rfl rfl) hL rfl rfl HasV.mem (by rfl) ?_) | (refine ev_loadG_ (wanted_some rfl rfl rfl rfl) hL rfl rfl HasV.mem SegC.seg ?_)))
    )
  refine region_any (by kernel_rfl) hL ?_
  intro w5 hL5 hb5 hz5
  clear hL
  have hL := hL5
  clear hL5 hb5 hz5
  refine wpAny_takeN (i := 0) (by repeat (first | exact .zero _ _ | with_reducible apply Nth.succ)) (by kernel_rfl) (by kernel_rfl) (by kernel_rfl) (by exact fun _ _ _ h => h) (v := .slice none 0 0) (.inl ⟨by rfl, fun w => by simp [execOp, Instr.fieldAt, go_sem]⟩) ?_
  refine wpAny_takeN (i := 1) (by repeat (first | exact .zero _ _ | with_reducible apply Nth.succ)) (by kernel_rfl) (by kernel_rfl) (by kernel_rfl) (by exact fun _ _ _ h => h) (v := .pointer (some ⟨g1, 11, none⟩)) (.inl ⟨by rfl, fun w => by simp [execOp, Instr.fieldAt, go_sem]⟩) ?_
  refine wpAny_takeN (i := 4) (by repeat (first | exact .zero _ _ | with_reducible apply Nth.succ)) (by kernel_rfl) (by kernel_rfl) (by kernel_rfl) (by exact fun _ _ _ h => h) (v := .pointer (some ⟨g1, 12, none⟩)) (.inl ⟨by rfl, fun w => by simp [execOp, Instr.fieldAt, go_sem]⟩) ?_
  simp only [Act.put, List.setIfInBounds_toArray, List.set_cons_succ, List.set_cons_zero]
  have HL5 := Lib.hid hL
  refine wpAny_two (i1 := 2) (j1 := 3) (i2 := 5) (j2 := 6) (s1 := 43) (p1 := 44) (q1 := 45) (s2 := 46) (p2 := 47) (q2 := 48) (g := g1) (o1 := 11) (o2 := 12) (it1 := fun v => row encS w.heap.size 9 v (ps.map Pce.word)) (it2 := fun v => row encS w.heap.size 9 v (xs.map Xat.word))
    (Nth.get (by repeat (first | exact .zero _ _ | with_reducible apply Nth.succ))) (Nth.get (by repeat (first | exact .zero _ _ | with_reducible apply Nth.succ))) (Nth.get (by repeat (first | exact .zero _ _ | with_reducible apply Nth.succ))) (Nth.get (by repeat (first | exact .zero _ _ | with_reducible apply Nth.succ))) (wd_free (by rfl)) (wd_free (by rfl)) (wd_free (by rfl)) (wd_free (by rfl)) (by rfl) (by rfl) (by rfl) (by rfl) (by kernel_rfl) (by kernel_rfl) (by kernel_rfl) (by kernel_rfl) (by kernel_rfl) (by kernel_rfl)
    (by decide) (by decide) ⟨by simp, by simp⟩ (by rfl) (by rfl) (by infer_instance) (by infer_instance) (by rfl) (by rfl) hL (by first | exact mm0 | exact mm1 | exact mm2 | exact mm3 | exact mm4 | exact mm5 | exact mm6 | exact mm7 | exact mm8) (by rfl) (by rfl)
    (enters_op Tryd.func46 (by kernel_rfl) (by kernel_rfl) (by rfl)) (enters_op Tryd.func47 (by kernel_rfl) (by kernel_rfl) (by rfl))
    (fun w' l' hL' hb' => gives_row hL'.size (story_pieces _ ps w' (HPR.out.below (bl_then HL5.out.below hb')) HPS.out (by omega) (ht.below (bl_then HL5.out.below hb'))))
    (fun w' l' hL' hb' => gives_row hL'.size (story_xattrs _ xs w' (HXR.out.below (bl_then HL5.out.below hb')) (fun q hq => Nat.le_trans (HXS.out q hq) (by decide)) (by omega))) ?_
  clear hL HL5
  intro r1 r2 w6 hL
  obtain ⟨ao1, c1, e1, -⟩ := R_elem (hL.own (E := encS) (v := r1) (xs := ps.map Pce.word) (base := w.heap.size) (e := 9) (.tail _ (.head _))).read
  subst e1
  obtain ⟨ao2, c2, e2, -⟩ := R_elem (hL.own (E := encS) (v := r2) (xs := xs.map Xat.word) (base := w.heap.size) (e := 9) (.head _)).read
  subst e2
  refine wpAny_drop 7 (by rfl) (by kernel_rfl) ?_
  simp only [List.drop_succ_cons, List.drop_zero, Act.put, List.setIfInBounds_toArray, List.set_cons_succ, List.set_cons_zero]
  obtain ⟨n1', hn1⟩ : ∃ n1', n1' = (ps.map Pce.word).length := ⟨_, rfl⟩
  obtain ⟨n2', hn2⟩ : ∃ n2', n2' = (xs.map Xat.word).length := ⟨_, rfl⟩
  rw [← hn1, ← hn2] at hL ⊢
  have HN1 := Lib.hid hn1
  have HN2 := Lib.hid hn2
  clear hn1 hn2
  go_wp2_with (first
    | ((with_reducible refine gate (N := 49) rfl ?_); refine ev_litL (cs := [.slice none 0 0, .slice ao1 n1' c1, .slice ao2 n2' c2]) rfl hL rfl rfl rfl (by kernel_rfl) ?_; clear hL; intro gq wq hL)
    | (go_at_call 45; have hq := ConcatS.concat (.slice (some ⟨gq, 0, none⟩) 3 3) [⟨none, 0, 0⟩, ⟨ao1, n1', c1⟩, ⟨ao2, n2', c2⟩] [[], ps.map Pce.word, xs.map Xat.word] _ (R_box (E := encSl) (t := 34) [⟨none, 0, 0⟩, ⟨ao1, n1', c1⟩, ⟨ao2, n2', c2⟩] (hL.box (by first | exact mm0 | exact mm1 | exact mm2 | exact mm3 | exact mm4 | exact mm5 | exact mm6 | exact mm7 | exact mm8)) rfl (by simp)) rfl (three_ (hL.own (E := encS) (base := w.heap.size) (e := 9) (by first | exact mm0 | exact mm1 | exact mm2 | exact mm3 | exact mm4 | exact mm5 | exact mm6 | exact mm7 | exact mm8)).read (hL.own (E := encS) (base := w.heap.size) (e := 9) (by first | exact mm0 | exact mm1 | exact mm2 | exact mm3 | exact mm4 | exact mm5 | exact mm6 | exact mm7 | exact mm8)).read (hL.own (E := encS) (base := w.heap.size) (e := 9) (by first | exact mm0 | exact mm1 | exact mm2 | exact mm3 | exact mm4 | exact mm5 | exact mm6 | exact mm7 | exact mm8)).read) (Nat.le_trans HFL.out (by decide)) (by simp); (with_reducible refine hq.mono ?_); rintro e w3 ⟨u, rfl, hL3⟩; have hL := hL.takeRow hL3; clear hL3 hq)
    | (go_at_call 23; (with_reducible refine (story_stamp hd.id _ hib hin (ht.below hL.below)).mono ?_); rintro e w3 ⟨rfl, hb3⟩; have hL := hL.call hb3; clear hb3)
    | (go_at_call 48; have hq := join_b _ _ _ _ (hL.own (E := encS) (by first | exact mm0 | exact mm1 | exact mm2 | exact mm3 | exact mm4 | exact mm5 | exact mm6 | exact mm7 | exact mm8)) (by rw [← HJD.out]; exact Nat.le_trans hJ (by decide)) (Nat.le_trans HFL.out (by decide)); rw [← HJD.out] at hq; (with_reducible refine hq.mono ?_); rintro e w3 ⟨rfl, hb3⟩; have hL := hL.call hb3; clear hb3 hq)
    | ((with_reducible refine gCat rfl rfl ?_); refine ev_cat rfl rfl rfl rfl (by simp only [ByteArray.size_append, ByteArray.size_mk']; simp; omega) ?_)
    | ((with_reducible refine gAlloc rfl rfl ?_); (refine ev_allocL rfl hL rfl (by first | exact CellsC.of | exact cells_one (by assumption) (by assumption) | exact cells_agg _ rfl) ?_; clear hL; intro gq wq hL)) | ((with_reducible refine gBox rfl rfl ?_); (refine ev_boxL rfl hL rfl rfl (by first | exact CellsC.of | exact cells_one (by assumption) (by assumption) | exact cells_agg _ rfl) ?_; clear hL; intro gq wq hL)) | ((with_reducible refine gLoad rfl rfl ?_); (first | (refine ev_load1L rfl hL rfl rfl HasV.mem (by rfl) ?_) | (refine ev_loadAllL rfl hL rfl rfl HasV.mem (by rfl) ?_) | (refine ev_loadL rfl hL rfl rfl HasV.mem SegC.seg ?_))) | ((with_reducible refine gStore rfl rfl ?_); (first | (refine ev_storeC rfl hL rfl rfl rfl (by first | exact CellsC.of | exact cells_one (by assumption) (by assumption) | exact cells_agg _ rfl) (by rfl) ?_) | (refine ev_storeAllC rfl hL rfl rfl rfl (by first | exact CellsC.of | exact cells_one (by assumption) (by assumption) | exact cells_agg _ rfl) (by rfl) (by rfl) ?_)); clear hL; intro wq hL) | ((with_reducible refine gLoadG rfl rfl ?_ ?_); (exact wanted_some rfl rfl rfl (by with_reducible rfl)); (first | (refine ev_load1G (wanted_some rfl rfl rfl rfl) hL rfl rfl HasV.mem (by rfl) ?_) | (refine ev_loadAllG (wanted_some rfl rfl rfl rfl) hL rfl rfl HasV.mem (by rfl) ?_) | (refine ev_loadG_ (wanted_some rfl rfl rfl rfl) hL rfl rfl HasV.mem SegC.seg ?_))))
  go_ret
  exact ⟨ret_s HE.out.symm, hL.below⟩
theorem story_inode010 (hd : IHd) (p x : Sl) (ps : List Pce) (xs : List Xat) (w : World) (hp : encPc.R w p.val ps) (hx : encXt.R w x.val xs) (hw : (InoD.mk hd ps xs).wf 100000000) (hpl : ps.length ≤ 1000) (hxl : xs.length ≤ 1000) (ht : Tb w) (hk : ¬ hd.kind = 1 ∧ ¬ hd.kind = 2 ∧ ¬ hd.kind = 3) (h1 : decide (hd.attr.at_ = Mk.zero) = true) (h2 : decide (hd.size.at_ = Mk.zero) = false) :
    Calls Tryd.prog 25 #[.agg (Ino.mk hd p x).cells.toArray] w fun e w' => e = .returned (.string (InoD.mk hd ps xs).line) ∧ Below w.heap.size w w' := by
  have hL := (Loc.nil w NoM).rowNil encS w.heap.size 9
  obtain ⟨hib, hin⟩ := hw.hd.id
  have hszn : I64 hd.size.n := hw.hd.n
  have HPS := Lib.hid (fun q hq => (hw.ps q hq).idx)
  have HXS := Lib.hid (fun q hq => (hw.xs q hq).name)
  have n1 := stamp_nz hd.attr.at_
  have n2 := stamp_nz hd.size.at_
  rw [h1] at n1
  rw [h2] at n2
  simp only [Bool.not_true, Bool.not_false] at n1 n2
  have hs1 := hd.id.text_size hib hin
  have hs2 : (itoaB hd.size.n).size ≤ 30 := hszn.size
  obtain ⟨SW, hSW⟩ : ∃ SW, SW = (⟨#[115, 105, 122, 101, 58]⟩ : ByteArray) ++ itoaB hd.size.n := ⟨_, rfl⟩
  have hSs : SW.size ≤ 1000000000 := by rw [hSW]; simp only [ByteArray.size_append, ByteArray.size_mk']; simp; omega
  have hws : hd.ws = [SW] := by
    unfold IHd.ws kindWs
    rw [← hSW]
    simp only [decide_eq_true_eq, decide_eq_false_iff_not] at h1 h2
    simp [h1, h2, hk]
  have t1 : (hd.kind == 1) = false := by simpa using hk.1
  have t2 : (hd.kind == 2) = false := by simpa using hk.2.1
  have t3 : (hd.kind == 3) = false := by simpa using hk.2.2
  have hwsz : ∀ y ∈ ([SW] : List ByteArray), y.size ≤ 1000000000 := by
    intro y hy
    simp only [List.mem_cons, List.not_mem_nil, or_false] at hy
    rcases hy with rfl <;> first | exact hSs | (show _ ≤ (1000000000 : Nat); decide)
  have HW : Hid (∀ y ∈ ([[SW], ps.map Pce.word, xs.map Xat.word] : List (List ByteArray)).flatten, y.size ≤ 1000000000) := Lib.hid (by
    intro y hy
    simp only [List.flatten_cons, List.flatten_nil, List.append_nil, List.mem_append, List.mem_map] at hy
    rcases hy with hy | ⟨q, hq, rfl⟩ | ⟨q, hq, rfl⟩
    · exact hwsz y hy
    · exact word_pc q (HPS.out q hq)
    · exact word_xt q (Nat.le_trans (HXS.out q hq) (by decide)))
  have hfl : ([[SW], ps.map Pce.word, xs.map Xat.word] : List (List ByteArray)).flatten.length ≤ 2003 := by simp; omega
  have HFL := Lib.hid hfl
  have hJ : (joinB ([[SW], ps.map Pce.word, xs.map Xat.word] : List (List ByteArray)).flatten).size ≤ 10000000000000 := by
    have := joinB_le 1000000000 _ HW.out
    have h4 := Nat.mul_le_mul_right (1000000000 + 1) hfl
    omega
  have HE := Lib.hid (show InoD.line (InoD.mk hd ps xs) = ⟨#[105, 110, 111, 100, 101, 32]⟩ ++ hd.id.text ++ ⟨#[32]⟩ ++ joinB ([[SW], ps.map Pce.word, xs.map Xat.word] : List (List ByteArray)).flatten from by unfold InoD.line InoD.ws; rw [hws]; simp)
  obtain ⟨J, hJD⟩ : ∃ J, J = joinB ([[SW], ps.map Pce.word, xs.map Xat.word] : List (List ByteArray)).flatten := ⟨_, rfl⟩
  rw [← hJD] at hJ HE
  have HJD := Lib.hid hJD
  clear hJD
  have HSW := Lib.hid hSW
  have HPR := Lib.hid hp
  have HXR := Lib.hid hx
  clear hws h1 h2 hk hw hSW hwsz hfl hp hx
  unfold Ino.cells
  go_enter Tryd.func25, Tryd.ntmps25
  go_wp2_with (first
    | ((with_reducible refine gate (N := 1) rfl ?_); (refine ev_boxL rfl hL rfl rfl (by first | exact CellsC.of | exact cells_one (by assumption) (by assumption) | exact cells_agg _ rfl) ?_; clear hL; intro g1 w1 hL))
    | ((with_reducible refine gate (N := 40) rfl ?_); refine ev_litL (cs := [.string SW]) rfl hL rfl rfl rfl (by kernel_rfl) ?_; clear hL; intro gq wq hL)
    | (go_at_call 24; have hq := itoa_c hd.size.n hszn.1 hszn.2 _ (ht.below hL.below); (with_reducible refine hq.mono ?_); rintro e w3 ⟨rfl, hb3⟩; have hL := hL.call hb3; clear hb3 hq)
    | (((with_reducible refine gCat rfl rfl ?_); refine ev_cat rfl rfl rfl rfl (by simp only [ByteArray.size_append, ByteArray.size_mk']; simp; omega) ?_); rw [← HSW.out])
    | ((with_reducible refine gAlloc rfl rfl ?_); (refine ev_allocL rfl hL rfl (by first | exact CellsC.of | exact cells_one (by assumption) (by assumption) | exact cells_agg _ rfl) ?_; clear hL; intro gq wq hL)) | ((with_reducible refine gBox rfl rfl ?_); (refine ev_boxL rfl hL rfl rfl (by first | exact CellsC.of | exact cells_one (by assumption) (by assumption) | exact cells_agg _ rfl) ?_; clear hL; intro gq wq hL)) | ((with_reducible refine gLoad rfl rfl ?_); (first | (refine ev_load1L rfl hL rfl rfl HasV.mem (by rfl) ?_) | (refine ev_loadAllL rfl hL rfl rfl HasV.mem (by rfl) ?_) | (refine ev_loadL rfl hL rfl rfl HasV.mem SegC.seg ?_))) | ((with_reducible refine gStore rfl rfl ?_); (first | (refine ev_storeC rfl hL rfl rfl rfl (by first | exact CellsC.of | exact cells_one (by assumption) (by assumption) | exact cells_agg _ rfl) (by rfl) ?_) | (refine ev_storeAllC rfl hL rfl rfl rfl (by first | exact CellsC.of | exact cells_one (by assumption) (by assumption) | exact cells_agg _ rfl) (by rfl) (by rfl) ?_)); clear hL; intro wq hL) | ((with_reducible refine gLoadG rfl rfl ?_ ?_); (exact wanted_some rfl rfl rfl (by with_reducible rfl)); (first | (refine ev_load1G (wanted_some rfl rfl rfl rfl) hL rfl rfl HasV.mem (by rfl) ?_) | (refine ev_loadAllG (wanted_some rfl rfl rfl rfl) hL rfl rfl HasV.mem (by rfl) ?_) | (refine ev_loadG_ (wanted_some rfl rfl rfl rfl) hL rfl rfl HasV.mem SegC.seg ?_)))
    | (at_builtin; refine ev_app1M (E := encS) (SW) 1 [SW] rfl hL rfl rfl rfl (by first | exact mm0 | exact mm1 | exact mm2 | exact mm3 | exact mm4 | exact mm5 | exact mm6 | exact mm7 | exact mm8) rfl rfl rfl (by first | exact fun _ => ss0 | exact fun _ => ss1 | exact fun _ => ss2 | exact fun _ => ss3 | exact fun _ => ss4 | exact fun _ => ss5 | exact fun _ => ss6) rfl rfl (by decide) hL.size ?_; clear hL; intro ao' c' wq hL))
  refine region_any (by kernel_rfl) hL ?_
  intro w5 hL5 hb5 hz5
  clear hL
  have hL := hL5
  clear hL5 hb5 hz5
  refine wpAny_takeN (i := 0) (by repeat (first | exact .zero _ _ | with_reducible apply Nth.succ)) (by kernel_rfl) (by kernel_rfl) (by kernel_rfl) (by exact fun _ _ _ h => h) (v := .slice ao' 1 c') (.inl ⟨by rfl, fun w => by simp [execOp, Instr.fieldAt, go_sem]⟩) ?_
  refine wpAny_takeN (i := 1) (by repeat (first | exact .zero _ _ | with_reducible apply Nth.succ)) (by kernel_rfl) (by kernel_rfl) (by kernel_rfl) (by exact fun _ _ _ h => h) (v := .pointer (some ⟨g1, 11, none⟩)) (.inl ⟨by rfl, fun w => by simp [execOp, Instr.fieldAt, go_sem]⟩) ?_
  refine wpAny_takeN (i := 4) (by repeat (first | exact .zero _ _ | with_reducible apply Nth.succ)) (by kernel_rfl) (by kernel_rfl) (by kernel_rfl) (by exact fun _ _ _ h => h) (v := .pointer (some ⟨g1, 12, none⟩)) (.inl ⟨by rfl, fun w => by simp [execOp, Instr.fieldAt, go_sem]⟩) ?_
  simp only [Act.put, List.setIfInBounds_toArray, List.set_cons_succ, List.set_cons_zero]
  have HL5 := Lib.hid hL
  refine wpAny_two (i1 := 2) (j1 := 3) (i2 := 5) (j2 := 6) (s1 := 43) (p1 := 44) (q1 := 45) (s2 := 46) (p2 := 47) (q2 := 48) (g := g1) (o1 := 11) (o2 := 12) (it1 := fun v => row encS w.heap.size 9 v (ps.map Pce.word)) (it2 := fun v => row encS w.heap.size 9 v (xs.map Xat.word))
    (Nth.get (by repeat (first | exact .zero _ _ | with_reducible apply Nth.succ))) (Nth.get (by repeat (first | exact .zero _ _ | with_reducible apply Nth.succ))) (Nth.get (by repeat (first | exact .zero _ _ | with_reducible apply Nth.succ))) (Nth.get (by repeat (first | exact .zero _ _ | with_reducible apply Nth.succ))) (wd_free (by rfl)) (wd_free (by rfl)) (wd_free (by rfl)) (wd_free (by rfl)) (by rfl) (by rfl) (by rfl) (by rfl) (by kernel_rfl) (by kernel_rfl) (by kernel_rfl) (by kernel_rfl) (by kernel_rfl) (by kernel_rfl)
    (by decide) (by decide) ⟨by simp, by simp⟩ (by rfl) (by rfl) (by infer_instance) (by infer_instance) (by rfl) (by rfl) hL (by first | exact mm0 | exact mm1 | exact mm2 | exact mm3 | exact mm4 | exact mm5 | exact mm6 | exact mm7 | exact mm8) (by rfl) (by rfl)
    (enters_op Tryd.func46 (by kernel_rfl) (by kernel_rfl) (by rfl)) (enters_op Tryd.func47 (by kernel_rfl) (by kernel_rfl) (by rfl))
    (fun w' l' hL' hb' => gives_row hL'.size (story_pieces _ ps w' (HPR.out.below (bl_then HL5.out.below hb')) HPS.out (by omega) (ht.below (bl_then HL5.out.below hb'))))
    (fun w' l' hL' hb' => gives_row hL'.size (story_xattrs _ xs w' (HXR.out.below (bl_then HL5.out.below hb')) (fun q hq => Nat.le_trans (HXS.out q hq) (by decide)) (by omega))) ?_
  clear hL HL5
  intro r1 r2 w6 hL
  obtain ⟨ao1, c1, e1, -⟩ := R_elem (hL.own (E := encS) (v := r1) (xs := ps.map Pce.word) (base := w.heap.size) (e := 9) (.tail _ (.head _))).read
  subst e1
  obtain ⟨ao2, c2, e2, -⟩ := R_elem (hL.own (E := encS) (v := r2) (xs := xs.map Xat.word) (base := w.heap.size) (e := 9) (.head _)).read
  subst e2
  refine wpAny_drop 7 (by rfl) (by kernel_rfl) ?_
  simp only [List.drop_succ_cons, List.drop_zero, Act.put, List.setIfInBounds_toArray, List.set_cons_succ, List.set_cons_zero]
  obtain ⟨n1', hn1⟩ : ∃ n1', n1' = (ps.map Pce.word).length := ⟨_, rfl⟩
  obtain ⟨n2', hn2⟩ : ∃ n2', n2' = (xs.map Xat.word).length := ⟨_, rfl⟩
  rw [← hn1, ← hn2] at hL ⊢
  have HN1 := Lib.hid hn1
  have HN2 := Lib.hid hn2
  clear hn1 hn2
  go_wp2_with (first
    | ((with_reducible refine gate (N := 49) rfl ?_); refine ev_litL (cs := [.slice ao' 1 c', .slice ao1 n1' c1, .slice ao2 n2' c2]) rfl hL rfl rfl rfl (by kernel_rfl) ?_; clear hL; intro gq wq hL)
    | (go_at_call 45; have hq := ConcatS.concat (.slice (some ⟨gq, 0, none⟩) 3 3) [⟨ao', 1, c'⟩, ⟨ao1, n1', c1⟩, ⟨ao2, n2', c2⟩] [[SW], ps.map Pce.word, xs.map Xat.word] _ (R_box (E := encSl) (t := 34) [⟨ao', 1, c'⟩, ⟨ao1, n1', c1⟩, ⟨ao2, n2', c2⟩] (hL.box (by first | exact mm0 | exact mm1 | exact mm2 | exact mm3 | exact mm4 | exact mm5 | exact mm6 | exact mm7 | exact mm8)) rfl (by simp)) rfl (three_ (hL.own (E := encS) (base := w.heap.size) (e := 9) (by first | exact mm0 | exact mm1 | exact mm2 | exact mm3 | exact mm4 | exact mm5 | exact mm6 | exact mm7 | exact mm8)).read (hL.own (E := encS) (base := w.heap.size) (e := 9) (by first | exact mm0 | exact mm1 | exact mm2 | exact mm3 | exact mm4 | exact mm5 | exact mm6 | exact mm7 | exact mm8)).read (hL.own (E := encS) (base := w.heap.size) (e := 9) (by first | exact mm0 | exact mm1 | exact mm2 | exact mm3 | exact mm4 | exact mm5 | exact mm6 | exact mm7 | exact mm8)).read) (Nat.le_trans HFL.out (by decide)) (by simp); (with_reducible refine hq.mono ?_); rintro e w3 ⟨u, rfl, hL3⟩; have hL := hL.takeRow hL3; clear hL3 hq)
    | (go_at_call 23; (with_reducible refine (story_stamp hd.id _ hib hin (ht.below hL.below)).mono ?_); rintro e w3 ⟨rfl, hb3⟩; have hL := hL.call hb3; clear hb3)
    | (go_at_call 48; have hq := join_b _ _ _ _ (hL.own (E := encS) (by first | exact mm0 | exact mm1 | exact mm2 | exact mm3 | exact mm4 | exact mm5 | exact mm6 | exact mm7 | exact mm8)) (by rw [← HJD.out]; exact Nat.le_trans hJ (by decide)) (Nat.le_trans HFL.out (by decide)); rw [← HJD.out] at hq; (with_reducible refine hq.mono ?_); rintro e w3 ⟨rfl, hb3⟩; have hL := hL.call hb3; clear hb3 hq)
    | ((with_reducible refine gCat rfl rfl ?_); refine ev_cat rfl rfl rfl rfl (by simp only [ByteArray.size_append, ByteArray.size_mk']; simp; omega) ?_)
    | ((with_reducible refine gAlloc rfl rfl ?_); (refine ev_allocL rfl hL rfl (by first | exact CellsC.of | exact cells_one (by assumption) (by assumption) | exact cells_agg _ rfl) ?_; clear hL; intro gq wq hL)) | ((with_reducible refine gBox rfl rfl ?_); (refine ev_boxL rfl hL rfl rfl (by first | exact CellsC.of | exact cells_one (by assumption) (by assumption) | exact cells_agg _ rfl) ?_; clear hL; intro gq wq hL)) | ((with_reducible refine gLoad rfl rfl ?_); (first | (refine ev_load1L rfl hL rfl rfl HasV.mem (by rfl) ?_) | (refine ev_loadAllL rfl hL rfl rfl HasV.mem (by rfl) ?_) | (refine ev_loadL rfl hL rfl rfl HasV.mem SegC.seg ?_))) | ((with_reducible refine gStore rfl rfl ?_); (first | (refine ev_storeC rfl hL rfl rfl rfl (by first | exact CellsC.of | exact cells_one (by assumption) (by assumption) | exact cells_agg _ rfl) (by rfl) ?_) | (refine ev_storeAllC rfl hL rfl rfl rfl (by first | exact CellsC.of | exact cells_one (by assumption) (by assumption) | exact cells_agg _ rfl) (by rfl) (by rfl) ?_)); clear hL; intro wq hL) | ((with_reducible refine gLoadG rfl rfl ?_ ?_); (exact wanted_some rfl rfl rfl (by with_reducible rfl)); (first | (refine ev_load1G (wanted_some rfl rfl rfl rfl) hL rfl rfl HasV.mem (by rfl) ?_) | (refine ev_loadAllG (wanted_some rfl rfl rfl rfl) hL rfl rfl HasV.mem (by rfl) ?_) | (refine ev_loadG_ (wanted_some rfl rfl rfl rfl) hL rfl rfl HasV.mem SegC.seg ?_))))
  go_ret
  exact ⟨ret_s HE.out.symm, hL.below⟩
theorem story_inode001 (hd : IHd) (p x : Sl) (ps : List Pce) (xs : List Xat) (w : World) (hp : encPc.R w p.val ps) (hx : encXt.R w x.val xs) (hw : (InoD.mk hd ps xs).wf 100000000) (hpl : ps.length ≤ 1000) (hxl : xs.length ≤ 1000) (ht : Tb w) (hk : ¬ hd.kind = 1 ∧ ¬ hd.kind = 2 ∧ ¬ hd.kind = 3) (h1 : decide (hd.attr.at_ = Mk.zero) = false) (h2 : decide (hd.size.at_ = Mk.zero) = true) :
    Calls Tryd.prog 25 #[.agg (Ino.mk hd p x).cells.toArray] w fun e w' => e = .returned (.string (InoD.mk hd ps xs).line) ∧ Below w.heap.size w w' := by
  have hL := (Loc.nil w NoM).rowNil encS w.heap.size 9
  obtain ⟨hib, hin⟩ := hw.hd.id
  have hszn : I64 hd.size.n := hw.hd.n
  have HPS := Lib.hid (fun q hq => (hw.ps q hq).idx)
  have HXS := Lib.hid (fun q hq => (hw.xs q hq).name)
  have n1 := stamp_nz hd.attr.at_
  have n2 := stamp_nz hd.size.at_
  rw [h1] at n1
  rw [h2] at n2
  simp only [Bool.not_true, Bool.not_false] at n1 n2
  have hs1 := hd.id.text_size hib hin
  have hs2 : (itoaB hd.size.n).size ≤ 30 := hszn.size
  obtain ⟨SW, hSW⟩ : ∃ SW, SW = (⟨#[115, 105, 122, 101, 58]⟩ : ByteArray) ++ itoaB hd.size.n := ⟨_, rfl⟩
  have hSs : SW.size ≤ 1000000000 := by rw [hSW]; simp only [ByteArray.size_append, ByteArray.size_mk']; simp; omega
  have hws : hd.ws = [⟨#[97, 116, 116, 114]⟩] := by
    unfold IHd.ws kindWs
    rw [← hSW]
    simp only [decide_eq_true_eq, decide_eq_false_iff_not] at h1 h2
    simp [h1, h2, hk]
  have t1 : (hd.kind == 1) = false := by simpa using hk.1
  have t2 : (hd.kind == 2) = false := by simpa using hk.2.1
  have t3 : (hd.kind == 3) = false := by simpa using hk.2.2
  have hwsz : ∀ y ∈ ([⟨#[97, 116, 116, 114]⟩] : List ByteArray), y.size ≤ 1000000000 := by
    intro y hy
    simp only [List.mem_cons, List.not_mem_nil, or_false] at hy
    rcases hy with rfl <;> first | exact hSs | (show _ ≤ (1000000000 : Nat); decide)
  have HW : Hid (∀ y ∈ ([[⟨#[97, 116, 116, 114]⟩], ps.map Pce.word, xs.map Xat.word] : List (List ByteArray)).flatten, y.size ≤ 1000000000) := Lib.hid (by
    intro y hy
    simp only [List.flatten_cons, List.flatten_nil, List.append_nil, List.mem_append, List.mem_map] at hy
    rcases hy with hy | ⟨q, hq, rfl⟩ | ⟨q, hq, rfl⟩
    · exact hwsz y hy
    · exact word_pc q (HPS.out q hq)
    · exact word_xt q (Nat.le_trans (HXS.out q hq) (by decide)))
  have hfl : ([[⟨#[97, 116, 116, 114]⟩], ps.map Pce.word, xs.map Xat.word] : List (List ByteArray)).flatten.length ≤ 2003 := by simp; omega
  have HFL := Lib.hid hfl
  have hJ : (joinB ([[⟨#[97, 116, 116, 114]⟩], ps.map Pce.word, xs.map Xat.word] : List (List ByteArray)).flatten).size ≤ 10000000000000 := by
    have := joinB_le 1000000000 _ HW.out
    have h4 := Nat.mul_le_mul_right (1000000000 + 1) hfl
    omega
  have HE := Lib.hid (show InoD.line (InoD.mk hd ps xs) = ⟨#[105, 110, 111, 100, 101, 32]⟩ ++ hd.id.text ++ ⟨#[32]⟩ ++ joinB ([[⟨#[97, 116, 116, 114]⟩], ps.map Pce.word, xs.map Xat.word] : List (List ByteArray)).flatten from by unfold InoD.line InoD.ws; rw [hws]; simp)
  obtain ⟨J, hJD⟩ : ∃ J, J = joinB ([[⟨#[97, 116, 116, 114]⟩], ps.map Pce.word, xs.map Xat.word] : List (List ByteArray)).flatten := ⟨_, rfl⟩
  rw [← hJD] at hJ HE
  have HJD := Lib.hid hJD
  clear hJD
  have HSW := Lib.hid hSW
  have HPR := Lib.hid hp
  have HXR := Lib.hid hx
  clear hws h1 h2 hk hw hSW hwsz hfl hp hx
  unfold Ino.cells
  go_enter Tryd.func25, Tryd.ntmps25
  go_wp2_with (first
    | ((with_reducible refine gate (N := 1) rfl ?_); (refine ev_boxL rfl hL rfl rfl (by first | exact CellsC.of | exact cells_one (by assumption) (by assumption) | exact cells_agg _ rfl) ?_; clear hL; intro g1 w1 hL))
    | ((with_reducible refine gate (N := 27) rfl ?_); refine ev_litL (cs := [.string ⟨#[97, 116, 116, 114]⟩]) rfl hL rfl rfl rfl (by kernel_rfl) ?_; clear hL; intro gq wq hL)
    | (go_at_call 24; have hq := itoa_c hd.size.n hszn.1 hszn.2 _ (ht.below hL.below); (with_reducible refine hq.mono ?_); rintro e w3 ⟨rfl, hb3⟩; have hL := hL.call hb3; clear hb3 hq)
    | (((with_reducible refine gCat rfl rfl ?_); refine ev_cat rfl rfl rfl rfl (by simp only [ByteArray.size_append, ByteArray.size_mk']; simp; omega) ?_); rw [← HSW.out])
    | ((with_reducible refine gAlloc rfl rfl ?_); (refine ev_allocL rfl hL rfl (by first | exact CellsC.of | exact cells_one (by assumption) (by assumption) | exact cells_agg _ rfl) ?_; clear hL; intro gq wq hL)) | ((with_reducible refine gBox rfl rfl ?_); (refine ev_boxL rfl hL rfl rfl (by first | exact CellsC.of | exact cells_one (by assumption) (by assumption) | exact cells_agg _ rfl) ?_; clear hL; intro gq wq hL)) | ((with_reducible refine gLoad rfl rfl ?_); (first | (refine ev_load1L rfl hL rfl rfl HasV.mem (by rfl) ?_) | (refine ev_loadAllL rfl hL rfl rfl HasV.mem (by rfl) ?_) | (refine ev_loadL rfl hL rfl rfl HasV.mem SegC.seg ?_))) | ((with_reducible refine gStore rfl rfl ?_); (first | (refine ev_storeC rfl hL rfl rfl rfl (by first | exact CellsC.of | exact cells_one (by assumption) (by assumption) | exact cells_agg _ rfl) (by rfl) ?_) | (refine ev_storeAllC rfl hL rfl rfl rfl (by first | exact CellsC.of | exact cells_one (by assumption) (by assumption) | exact cells_agg _ rfl) (by rfl) (by rfl) ?_)); clear hL; intro wq hL) | ((with_reducible refine gLoadG rfl rfl ?_ ?_); (exact wanted_some rfl rfl rfl (by with_reducible rfl)); (first | (refine ev_load1G (wanted_some rfl rfl rfl rfl) hL rfl rfl HasV.mem (by rfl) ?_) | (refine ev_loadAllG (wanted_some rfl rfl rfl rfl) hL rfl rfl HasV.mem (by rfl) ?_) | (refine ev_loadG_ (wanted_some rfl rfl rfl rfl) hL rfl rfl HasV.mem SegC.seg ?_)))
    | (at_builtin; refine ev_app1M (E := encS) (⟨#[97, 116, 116, 114]⟩) 1 [⟨#[97, 116, 116, 114]⟩] rfl hL rfl rfl rfl (by first | exact mm0 | exact mm1 | exact mm2 | exact mm3 | exact mm4 | exact mm5 | exact mm6 | exact mm7 | exact mm8) rfl rfl rfl (by first | exact fun _ => ss0 | exact fun _ => ss1 | exact fun _ => ss2 | exact fun _ => ss3 | exact fun _ => ss4 | exact fun _ => ss5 | exact fun _ => ss6) rfl rfl (by decide) hL.size ?_; clear hL; intro ao' c' wq hL))
  refine region_any (by kernel_rfl) hL ?_
  intro w5 hL5 hb5 hz5
  clear hL
  have hL := hL5
  clear hL5 hb5 hz5
  refine wpAny_takeN (i := 0) (by repeat (first | exact .zero _ _ | with_reducible apply Nth.succ)) (by kernel_rfl) (by kernel_rfl) (by kernel_rfl) (by exact fun _ _ _ h => h) (v := .slice ao' 1 c') (.inl ⟨by rfl, fun w => by simp [execOp, Instr.fieldAt, go_sem]⟩) ?_
  refine wpAny_takeN (i := 1) (by repeat (first | exact .zero _ _ | with_reducible apply Nth.succ)) (by kernel_rfl) (by kernel_rfl) (by kernel_rfl) (by exact fun _ _ _ h => h) (v := .pointer (some ⟨g1, 11, none⟩)) (.inl ⟨by rfl, fun w => by simp [execOp, Instr.fieldAt, go_sem]⟩) ?_
  refine wpAny_takeN (i := 4) (by repeat (first | exact .zero _ _ | with_reducible apply Nth.succ)) (by kernel_rfl) (by kernel_rfl) (by kernel_rfl) (by exact fun _ _ _ h => h) (v := .pointer (some ⟨g1, 12, none⟩)) (.inl ⟨by rfl, fun w => by simp [execOp, Instr.fieldAt, go_sem]⟩) ?_
  simp only [Act.put, List.setIfInBounds_toArray, List.set_cons_succ, List.set_cons_zero]
  have HL5 := Lib.hid hL
  refine wpAny_two (i1 := 2) (j1 := 3) (i2 := 5) (j2 := 6) (s1 := 43) (p1 := 44) (q1 := 45) (s2 := 46) (p2 := 47) (q2 := 48) (g := g1) (o1 := 11) (o2 := 12) (it1 := fun v => row encS w.heap.size 9 v (ps.map Pce.word)) (it2 := fun v => row encS w.heap.size 9 v (xs.map Xat.word))
    (Nth.get (by repeat (first | exact .zero _ _ | with_reducible apply Nth.succ))) (Nth.get (by repeat (first | exact .zero _ _ | with_reducible apply Nth.succ))) (Nth.get (by repeat (first | exact .zero _ _ | with_reducible apply Nth.succ))) (Nth.get (by repeat (first | exact .zero _ _ | with_reducible apply Nth.succ))) (wd_free (by rfl)) (wd_free (by rfl)) (wd_free (by rfl)) (wd_free (by rfl)) (by rfl) (by rfl) (by rfl) (by rfl) (by kernel_rfl) (by kernel_rfl) (by kernel_rfl) (by kernel_rfl) (by kernel_rfl) (by kernel_rfl)
    (by decide) (by decide) ⟨by simp, by simp⟩ (by rfl) (by rfl) (by infer_instance) (by infer_instance) (by rfl) (by rfl) hL (by first | exact mm0 | exact mm1 | exact mm2 | exact mm3 | exact mm4 | exact mm5 | exact mm6 | exact mm7 | exact mm8) (by rfl) (by rfl)
    (enters_op Tryd.func46 (by kernel_rfl) (by kernel_rfl) (by rfl)) (enters_op Tryd.func47 (by kernel_rfl) (by kernel_rfl) (by rfl))
    (fun w' l' hL' hb' => gives_row hL'.size (story_pieces _ ps w' (HPR.out.below (bl_then HL5.out.below hb')) HPS.out (by omega) (ht.below (bl_then HL5.out.below hb'))))
    (fun w' l' hL' hb' => gives_row hL'.size (story_xattrs _ xs w' (HXR.out.below (bl_then HL5.out.below hb')) (fun q hq => Nat.le_trans (HXS.out q hq) (by decide)) (by omega))) ?_
  clear hL HL5
  intro r1 r2 w6 hL
  obtain ⟨ao1, c1, e1, -⟩ := R_elem (hL.own (E := encS) (v := r1) (xs := ps.map Pce.word) (base := w.heap.size) (e := 9) (.tail _ (.head _))).read
  subst e1
  obtain ⟨ao2, c2, e2, -⟩ := R_elem (hL.own (E := encS) (v := r2) (xs := xs.map Xat.word) (base := w.heap.size) (e := 9) (.head _)).read
  subst e2
  refine wpAny_drop 7 (by rfl) (by kernel_rfl) ?_
  simp only [List.drop_succ_cons, List.drop_zero, Act.put, List.setIfInBounds_toArray, List.set_cons_succ, List.set_cons_zero]
  obtain ⟨n1', hn1⟩ : ∃ n1', n1' = (ps.map Pce.word).length := ⟨_, rfl⟩
  obtain ⟨n2', hn2⟩ : ∃ n2', n2' = (xs.map Xat.word).length := ⟨_, rfl⟩
  rw [← hn1, ← hn2] at hL ⊢
  have HN1 := Lib.hid hn1
  have HN2 := Lib.hid hn2
  clear hn1 hn2
  go_wp2_with (first
    | ((with_reducible refine gate (N := 49) rfl ?_); refine ev_litL (cs := [.slice ao' 1 c', .slice ao1 n1' c1, .slice ao2 n2' c2]) rfl hL rfl rfl rfl (by kernel_rfl) ?_; clear hL; intro gq wq hL)
    | (go_at_call 45; have hq := ConcatS.concat (.slice (some ⟨gq, 0, none⟩) 3 3) [⟨ao', 1, c'⟩, ⟨ao1, n1', c1⟩, ⟨ao2, n2', c2⟩] [[⟨#[97, 116, 116, 114]⟩], ps.map Pce.word, xs.map Xat.word] _ (R_box (E := encSl) (t := 34) [⟨ao', 1, c'⟩, ⟨ao1, n1', c1⟩, ⟨ao2, n2', c2⟩] (hL.box (by first | exact mm0 | exact mm1 | exact mm2 | exact mm3 | exact mm4 | exact mm5 | exact mm6 | exact mm7 | exact mm8)) rfl (by simp)) rfl (three_ (hL.own (E := encS) (base := w.heap.size) (e := 9) (by first | exact mm0 | exact mm1 | exact mm2 | exact mm3 | exact mm4 | exact mm5 | exact mm6 | exact mm7 | exact mm8)).read (hL.own (E := encS) (base := w.heap.size) (e := 9) (by first | exact mm0 | exact mm1 | exact mm2 | exact mm3 | exact mm4 | exact mm5 | exact mm6 | exact mm7 | exact mm8)).read (hL.own (E := encS) (base := w.heap.size) (e := 9) (by first | exact mm0 | exact mm1 | exact mm2 | exact mm3 | exact mm4 | exact mm5 | exact mm6 | exact mm7 | exact mm8)).read) (Nat.le_trans HFL.out (by decide)) (by simp); (with_reducible refine hq.mono ?_); rintro e w3 ⟨u, rfl, hL3⟩; have hL := hL.takeRow hL3; clear hL3 hq)
    | (go_at_call 23; (with_reducible refine (story_stamp hd.id _ hib hin (ht.below hL.below)).mono ?_); rintro e w3 ⟨rfl, hb3⟩; have hL := hL.call hb3; clear hb3)
    | (go_at_call 48; have hq := join_b _ _ _ _ (hL.own (E := encS) (by first | exact mm0 | exact mm1 | exact mm2 | exact mm3 | exact mm4 | exact mm5 | exact mm6 | exact mm7 | exact mm8)) (by rw [← HJD.out]; exact Nat.le_trans hJ (by decide)) (Nat.le_trans HFL.out (by decide)); rw [← HJD.out] at hq; (with_reducible refine hq.mono ?_); rintro e w3 ⟨rfl, hb3⟩; have hL := hL.call hb3; clear hb3 hq)
    | ((with_reducible refine gCat rfl rfl ?_); refine ev_cat rfl rfl rfl rfl (by simp only [ByteArray.size_append, ByteArray.size_mk']; simp; omega) ?_)
    | ((with_reducible refine gAlloc rfl rfl ?_); (refine ev_allocL rfl hL rfl (by first | exact CellsC.of | exact cells_one (by assumption) (by assumption) | exact cells_agg _ rfl) ?_; clear hL; intro gq wq hL)) | ((with_reducible refine gBox rfl rfl ?_); (refine ev_boxL rfl hL rfl rfl (by first | exact CellsC.of | exact cells_one (by assumption) (by assumption) | exact cells_agg _ rfl) ?_; clear hL; intro gq wq hL)) | ((with_reducible refine gLoad rfl rfl ?_); (first | (refine ev_load1L rfl hL rfl rfl HasV.mem (by rfl) ?_) | (refine ev_loadAllL rfl hL rfl rfl HasV.mem (by rfl) ?_) | (refine ev_loadL rfl hL rfl rfl HasV.mem SegC.seg ?_))) | ((with_reducible refine gStore rfl rfl ?_); (first | (refine ev_storeC rfl hL rfl rfl rfl (by first | exact CellsC.of | exact cells_one (by assumption) (by assumption) | exact cells_agg _ rfl) (by rfl) ?_) | (refine ev_storeAllC rfl hL rfl rfl rfl (by first | exact CellsC.of | exact cells_one (by assumption) (by assumption) | exact cells_agg _ rfl) (by rfl) (by rfl) ?_)); clear hL; intro wq hL) | ((with_reducible refine gLoadG rfl rfl ?_ ?_); (exact wanted_some rfl rfl rfl (by with_reducible rfl)); (first | (refine ev_load1G (wanted_some rfl rfl rfl rfl) hL rfl rfl HasV.mem (by rfl) ?_) | (refine ev_loadAllG (wanted_some rfl rfl rfl rfl) hL rfl rfl HasV.mem (by rfl) ?_) | (refine ev_loadG_ (wanted_some rfl rfl rfl rfl) hL rfl rfl HasV.mem SegC.seg ?_))))
  go_ret
  exact ⟨ret_s HE.out.symm, hL.below⟩
theorem story_inode000 (hd : IHd) (p x : Sl) (ps : List Pce) (xs : List Xat) (w : World) (hp : encPc.R w p.val ps) (hx : encXt.R w x.val xs) (hw : (InoD.mk hd ps xs).wf 100000000) (hpl : ps.length ≤ 1000) (hxl : xs.length ≤ 1000) (ht : Tb w) (hk : ¬ hd.kind = 1 ∧ ¬ hd.kind = 2 ∧ ¬ hd.kind = 3) (h1 : decide (hd.attr.at_ = Mk.zero) = false) (h2 : decide (hd.size.at_ = Mk.zero) = false) :
    Calls Tryd.prog 25 #[.agg (Ino.mk hd p x).cells.toArray] w fun e w' => e = .returned (.string (InoD.mk hd ps xs).line) ∧ Below w.heap.size w w' := by
  have hL := (Loc.nil w NoM).rowNil encS w.heap.size 9
  obtain ⟨hib, hin⟩ := hw.hd.id
  have hszn : I64 hd.size.n := hw.hd.n
  have HPS := Lib.hid (fun q hq => (hw.ps q hq).idx)
  have HXS := Lib.hid (fun q hq => (hw.xs q hq).name)
  have n1 := stamp_nz hd.attr.at_
  have n2 := stamp_nz hd.size.at_
  rw [h1] at n1
  rw [h2] at n2
  simp only [Bool.not_true, Bool.not_false] at n1 n2
  have hs1 := hd.id.text_size hib hin
  have hs2 : (itoaB hd.size.n).size ≤ 30 := hszn.size
  obtain ⟨SW, hSW⟩ : ∃ SW, SW = (⟨#[115, 105, 122, 101, 58]⟩ : ByteArray) ++ itoaB hd.size.n := ⟨_, rfl⟩
  have hSs : SW.size ≤ 1000000000 := by rw [hSW]; simp only [ByteArray.size_append, ByteArray.size_mk']; simp; omega
  have hws : hd.ws = [⟨#[97, 116, 116, 114]⟩, SW] := by
    unfold IHd.ws kindWs
    rw [← hSW]
    simp only [decide_eq_true_eq, decide_eq_false_iff_not] at h1 h2
    simp [h1, h2, hk]
  have t1 : (hd.kind == 1) = false := by simpa using hk.1
  have t2 : (hd.kind == 2) = false := by simpa using hk.2.1
  have t3 : (hd.kind == 3) = false := by simpa using hk.2.2
  have hwsz : ∀ y ∈ ([⟨#[97, 116, 116, 114]⟩, SW] : List ByteArray), y.size ≤ 1000000000 := by
    intro y hy
    simp only [List.mem_cons, List.not_mem_nil, or_false] at hy
    rcases hy with rfl | rfl <;> first | exact hSs | (show _ ≤ (1000000000 : Nat); decide)
  have HW : Hid (∀ y ∈ ([[⟨#[97, 116, 116, 114]⟩, SW], ps.map Pce.word, xs.map Xat.word] : List (List ByteArray)).flatten, y.size ≤ 1000000000) := Lib.hid (by
    intro y hy
    simp only [List.flatten_cons, List.flatten_nil, List.append_nil, List.mem_append, List.mem_map] at hy
    rcases hy with hy | ⟨q, hq, rfl⟩ | ⟨q, hq, rfl⟩
    · exact hwsz y hy
    · exact word_pc q (HPS.out q hq)
    · exact word_xt q (Nat.le_trans (HXS.out q hq) (by decide)))
  have hfl : ([[⟨#[97, 116, 116, 114]⟩, SW], ps.map Pce.word, xs.map Xat.word] : List (List ByteArray)).flatten.length ≤ 2003 := by simp; omega
  have HFL := Lib.hid hfl
  have hJ : (joinB ([[⟨#[97, 116, 116, 114]⟩, SW], ps.map Pce.word, xs.map Xat.word] : List (List ByteArray)).flatten).size ≤ 10000000000000 := by
    have := joinB_le 1000000000 _ HW.out
    have h4 := Nat.mul_le_mul_right (1000000000 + 1) hfl
    omega
  have HE := Lib.hid (show InoD.line (InoD.mk hd ps xs) = ⟨#[105, 110, 111, 100, 101, 32]⟩ ++ hd.id.text ++ ⟨#[32]⟩ ++ joinB ([[⟨#[97, 116, 116, 114]⟩, SW], ps.map Pce.word, xs.map Xat.word] : List (List ByteArray)).flatten from by unfold InoD.line InoD.ws; rw [hws]; simp)
  obtain ⟨J, hJD⟩ : ∃ J, J = joinB ([[⟨#[97, 116, 116, 114]⟩, SW], ps.map Pce.word, xs.map Xat.word] : List (List ByteArray)).flatten := ⟨_, rfl⟩
  rw [← hJD] at hJ HE
  have HJD := Lib.hid hJD
  clear hJD
  have HSW := Lib.hid hSW
  have HPR := Lib.hid hp
  have HXR := Lib.hid hx
  clear hws h1 h2 hk hw hSW hwsz hfl hp hx
  unfold Ino.cells
  go_enter Tryd.func25, Tryd.ntmps25
  go_wp2_with (first
    | ((with_reducible refine gate (N := 1) rfl ?_); (refine ev_boxL rfl hL rfl rfl (by first | exact CellsC.of | exact cells_one (by assumption) (by assumption) | exact cells_agg _ rfl) ?_; clear hL; intro g1 w1 hL))
    | ((with_reducible refine gate (N := 27) rfl ?_); refine ev_litL (cs := [.string ⟨#[97, 116, 116, 114]⟩]) rfl hL rfl rfl rfl (by kernel_rfl) ?_; clear hL; intro gq wq hL)
    | ((with_reducible refine gate (N := 40) rfl ?_); refine ev_litL (cs := [.string SW]) rfl hL rfl rfl rfl (by kernel_rfl) ?_; clear hL; intro gq wq hL)
    | (go_at_call 24; have hq := itoa_c hd.size.n hszn.1 hszn.2 _ (ht.below hL.below); (with_reducible refine hq.mono ?_); rintro e w3 ⟨rfl, hb3⟩; have hL := hL.call hb3; clear hb3 hq)
    | (((with_reducible refine gCat rfl rfl ?_); refine ev_cat rfl rfl rfl rfl (by simp only [ByteArray.size_append, ByteArray.size_mk']; simp; omega) ?_); rw [← HSW.out])
    | ((with_reducible refine gAlloc rfl rfl ?_); (refine ev_allocL rfl hL rfl (by first | exact CellsC.of | exact cells_one (by assumption) (by assumption) | exact cells_agg _ rfl) ?_; clear hL; intro gq wq hL)) | ((with_reducible refine gBox rfl rfl ?_); (refine ev_boxL rfl hL rfl rfl (by first | exact CellsC.of | exact cells_one (by assumption) (by assumption) | exact cells_agg _ rfl) ?_; clear hL; intro gq wq hL)) | ((with_reducible refine gLoad rfl rfl ?_); (first | (refine ev_load1L rfl hL rfl rfl HasV.mem (by rfl) ?_) | (refine ev_loadAllL rfl hL rfl rfl HasV.mem (by rfl) ?_) | (refine ev_loadL rfl hL rfl rfl HasV.mem SegC.seg ?_))) | ((with_reducible refine gStore rfl rfl ?_); (first | (refine ev_storeC rfl hL rfl rfl rfl (by first | exact CellsC.of | exact cells_one (by assumption) (by assumption) | exact cells_agg _ rfl) (by rfl) ?_) | (refine ev_storeAllC rfl hL rfl rfl rfl (by first | exact CellsC.of | exact cells_one (by assumption) (by assumption) | exact cells_agg _ rfl) (by rfl) (by rfl) ?_)); clear hL; intro wq hL) | ((with_reducible refine gLoadG rfl rfl ?_ ?_); (exact wanted_some rfl rfl rfl (by with_reducible rfl)); (first | (refine ev_load1G (wanted_some rfl rfl rfl rfl) hL rfl rfl HasV.mem (by rfl) ?_) | (refine ev_loadAllG (wanted_some rfl rfl rfl rfl) hL rfl rfl HasV.mem (by rfl) ?_) | (refine ev_loadG_ (wanted_some rfl rfl rfl rfl) hL rfl rfl HasV.mem SegC.seg ?_)))
    | (at_builtin; refine ev_app1M (E := encS) (⟨#[97, 116, 116, 114]⟩) 1 [⟨#[97, 116, 116, 114]⟩] rfl hL rfl rfl rfl (by first | exact mm0 | exact mm1 | exact mm2 | exact mm3 | exact mm4 | exact mm5 | exact mm6 | exact mm7 | exact mm8) rfl rfl rfl (by first | exact fun _ => ss0 | exact fun _ => ss1 | exact fun _ => ss2 | exact fun _ => ss3 | exact fun _ => ss4 | exact fun _ => ss5 | exact fun _ => ss6) rfl rfl (by decide) hL.size ?_; clear hL; intro ao' c' wq hL)
    | (at_builtin; refine ev_app1M (E := encS) (SW) 2 [⟨#[97, 116, 116, 114]⟩, SW] rfl hL rfl rfl rfl (by first | exact mm0 | exact mm1 | exact mm2 | exact mm3 | exact mm4 | exact mm5 | exact mm6 | exact mm7 | exact mm8) rfl rfl rfl (by first | exact fun _ => ss0 | exact fun _ => ss1 | exact fun _ => ss2 | exact fun _ => ss3 | exact fun _ => ss4 | exact fun _ => ss5 | exact fun _ => ss6) rfl rfl (by decide) hL.size ?_; clear hL; intro ao' c' wq hL))
  refine region_any (by kernel_rfl) hL ?_
  intro w5 hL5 hb5 hz5
  clear hL
  have hL := hL5
  clear hL5 hb5 hz5
  refine wpAny_takeN (i := 0) (by repeat (first | exact .zero _ _ | with_reducible apply Nth.succ)) (by kernel_rfl) (by kernel_rfl) (by kernel_rfl) (by exact fun _ _ _ h => h) (v := .slice ao' 2 c') (.inl ⟨by rfl, fun w => by simp [execOp, Instr.fieldAt, go_sem]⟩) ?_
  refine wpAny_takeN (i := 1) (by repeat (first | exact .zero _ _ | with_reducible apply Nth.succ)) (by kernel_rfl) (by kernel_rfl) (by kernel_rfl) (by exact fun _ _ _ h => h) (v := .pointer (some ⟨g1, 11, none⟩)) (.inl ⟨by rfl, fun w => by simp [execOp, Instr.fieldAt, go_sem]⟩) ?_
  refine wpAny_takeN (i := 4) (by repeat (first | exact .zero _ _ | with_reducible apply Nth.succ)) (by kernel_rfl) (by kernel_rfl) (by kernel_rfl) (by exact fun _ _ _ h => h) (v := .pointer (some ⟨g1, 12, none⟩)) (.inl ⟨by rfl, fun w => by simp [execOp, Instr.fieldAt, go_sem]⟩) ?_
  simp only [Act.put, List.setIfInBounds_toArray, List.set_cons_succ, List.set_cons_zero]
  have HL5 := Lib.hid hL
  refine wpAny_two (i1 := 2) (j1 := 3) (i2 := 5) (j2 := 6) (s1 := 43) (p1 := 44) (q1 := 45) (s2 := 46) (p2 := 47) (q2 := 48) (g := g1) (o1 := 11) (o2 := 12) (it1 := fun v => row encS w.heap.size 9 v (ps.map Pce.word)) (it2 := fun v => row encS w.heap.size 9 v (xs.map Xat.word))
    (Nth.get (by repeat (first | exact .zero _ _ | with_reducible apply Nth.succ))) (Nth.get (by repeat (first | exact .zero _ _ | with_reducible apply Nth.succ))) (Nth.get (by repeat (first | exact .zero _ _ | with_reducible apply Nth.succ))) (Nth.get (by repeat (first | exact .zero _ _ | with_reducible apply Nth.succ))) (wd_free (by rfl)) (wd_free (by rfl)) (wd_free (by rfl)) (wd_free (by rfl)) (by rfl) (by rfl) (by rfl) (by rfl) (by kernel_rfl) (by kernel_rfl) (by kernel_rfl) (by kernel_rfl) (by kernel_rfl) (by kernel_rfl)
    (by decide) (by decide) ⟨by simp, by simp⟩ (by rfl) (by rfl) (by infer_instance) (by infer_instance) (by rfl) (by rfl) hL (by first | exact mm0 | exact mm1 | exact mm2 | exact mm3 | exact mm4 | exact mm5 | exact mm6 | exact mm7 | exact mm8) (by rfl) (by rfl)
    (enters_op Tryd.func46 (by kernel_rfl) (by kernel_rfl) (by rfl)) (enters_op Tryd.func47 (by kernel_rfl) (by kernel_rfl) (by rfl))
    (fun w' l' hL' hb' => gives_row hL'.size (story_pieces _ ps w' (HPR.out.below (bl_then HL5.out.below hb')) HPS.out (by omega) (ht.below (bl_then HL5.out.below hb'))))
    (fun w' l' hL' hb' => gives_row hL'.size (story_xattrs _ xs w' (HXR.out.below (bl_then HL5.out.below hb')) (fun q hq => Nat.le_trans (HXS.out q hq) (by decide)) (by omega))) ?_
  clear hL HL5
  intro r1 r2 w6 hL
  obtain ⟨ao1, c1, e1, -⟩ := R_elem (hL.own (E := encS) (v := r1) (xs := ps.map Pce.word) (base := w.heap.size) (e := 9) (.tail _ (.head _))).read
  subst e1
  obtain ⟨ao2, c2, e2, -⟩ := R_elem (hL.own (E := encS) (v := r2) (xs := xs.map Xat.word) (base := w.heap.size) (e := 9) (.head _)).read
  subst e2
  refine wpAny_drop 7 (by rfl) (by kernel_rfl) ?_
  simp only [List.drop_succ_cons, List.drop_zero, Act.put, List.setIfInBounds_toArray, List.set_cons_succ, List.set_cons_zero]
  obtain ⟨n1', hn1⟩ : ∃ n1', n1' = (ps.map Pce.word).length := ⟨_, rfl⟩
  obtain ⟨n2', hn2⟩ : ∃ n2', n2' = (xs.map Xat.word).length := ⟨_, rfl⟩
  rw [← hn1, ← hn2] at hL ⊢
  have HN1 := Lib.hid hn1
  have HN2 := Lib.hid hn2
  clear hn1 hn2
  go_wp2_with (first
    | ((with_reducible refine gate (N := 49) rfl ?_); refine ev_litL (cs := [.slice ao' 2 c', .slice ao1 n1' c1, .slice ao2 n2' c2]) rfl hL rfl rfl rfl (by kernel_rfl) ?_; clear hL; intro gq wq hL)
    | (go_at_call 45; have hq := ConcatS.concat (.slice (some ⟨gq, 0, none⟩) 3 3) [⟨ao', 2, c'⟩, ⟨ao1, n1', c1⟩, ⟨ao2, n2', c2⟩] [[⟨#[97, 116, 116, 114]⟩, SW], ps.map Pce.word, xs.map Xat.word] _ (R_box (E := encSl) (t := 34) [⟨ao', 2, c'⟩, ⟨ao1, n1', c1⟩, ⟨ao2, n2', c2⟩] (hL.box (by first | exact mm0 | exact mm1 | exact mm2 | exact mm3 | exact mm4 | exact mm5 | exact mm6 | exact mm7 | exact mm8)) rfl (by simp)) rfl (three_ (hL.own (E := encS) (base := w.heap.size) (e := 9) (by first | exact mm0 | exact mm1 | exact mm2 | exact mm3 | exact mm4 | exact mm5 | exact mm6 | exact mm7 | exact mm8)).read (hL.own (E := encS) (base := w.heap.size) (e := 9) (by first | exact mm0 | exact mm1 | exact mm2 | exact mm3 | exact mm4 | exact mm5 | exact mm6 | exact mm7 | exact mm8)).read (hL.own (E := encS) (base := w.heap.size) (e := 9) (by first | exact mm0 | exact mm1 | exact mm2 | exact mm3 | exact mm4 | exact mm5 | exact mm6 | exact mm7 | exact mm8)).read) (Nat.le_trans HFL.out (by decide)) (by simp); (with_reducible refine hq.mono ?_); rintro e w3 ⟨u, rfl, hL3⟩; have hL := hL.takeRow hL3; clear hL3 hq)
    | (go_at_call 23; (with_reducible refine (story_stamp hd.id _ hib hin (ht.below hL.below)).mono ?_); rintro e w3 ⟨rfl, hb3⟩; have hL := hL.call hb3; clear hb3)
    | (go_at_call 48; have hq := join_b _ _ _ _ (hL.own (E := encS) (by first | exact mm0 | exact mm1 | exact mm2 | exact mm3 | exact mm4 | exact mm5 | exact mm6 | exact mm7 | exact mm8)) (by rw [← HJD.out]; exact Nat.le_trans hJ (by decide)) (Nat.le_trans HFL.out (by decide)); rw [← HJD.out] at hq; (with_reducible refine hq.mono ?_); rintro e w3 ⟨rfl, hb3⟩; have hL := hL.call hb3; clear hb3 hq)
    | ((with_reducible refine gCat rfl rfl ?_); refine ev_cat rfl rfl rfl rfl (by simp only [ByteArray.size_append, ByteArray.size_mk']; simp; omega) ?_)
    | ((with_reducible refine gAlloc rfl rfl ?_); (refine ev_allocL rfl hL rfl (by first | exact CellsC.of | exact cells_one (by assumption) (by assumption) | exact cells_agg _ rfl) ?_; clear hL; intro gq wq hL)) | ((with_reducible refine gBox rfl rfl ?_); (refine ev_boxL rfl hL rfl rfl (by first | exact CellsC.of | exact cells_one (by assumption) (by assumption) | exact cells_agg _ rfl) ?_; clear hL; intro gq wq hL)) | ((with_reducible refine gLoad rfl rfl ?_); (first | (refine ev_load1L rfl hL rfl rfl HasV.mem (by rfl) ?_) | (refine ev_loadAllL rfl hL rfl rfl HasV.mem (by rfl) ?_) | (refine ev_loadL rfl hL rfl rfl HasV.mem SegC.seg ?_))) | ((with_reducible refine gStore rfl rfl ?_); (first | (refine ev_storeC rfl hL rfl rfl rfl (by first | exact CellsC.of | exact cells_one (by assumption) (by assumption) | exact cells_agg _ rfl) (by rfl) ?_) | (refine ev_storeAllC rfl hL rfl rfl rfl (by first | exact CellsC.of | exact cells_one (by assumption) (by assumption) | exact cells_agg _ rfl) (by rfl) (by rfl) ?_)); clear hL; intro wq hL) | ((with_reducible refine gLoadG rfl rfl ?_ ?_); (exact wanted_some rfl rfl rfl (by with_reducible rfl)); (first | (refine ev_load1G (wanted_some rfl rfl rfl rfl) hL rfl rfl HasV.mem (by rfl) ?_) | (refine ev_loadAllG (wanted_some rfl rfl rfl rfl) hL rfl rfl HasV.mem (by rfl) ?_) | (refine ev_loadG_ (wanted_some rfl rfl rfl rfl) hL rfl rfl HasV.mem SegC.seg ?_))))
  go_ret
  exact ⟨ret_s HE.out.symm, hL.below⟩
theorem story_inode (i : Ino) (d : InoD) (w : World) (hi : i.Ok w d) (hw : d.wf 100000000) (hpl : d.ps.length ≤ 1000) (hxl : d.xs.length ≤ 1000) (ht : Tb w) :
    Calls Tryd.prog 25 #[.agg i.cells.toArray] w fun e w' => e = .returned (.string d.line) ∧ Below w.heap.size w w' := by
  obtain ⟨hd, p, x⟩ := i
  obtain ⟨hd2, ps, xs⟩ := d
  obtain ⟨e, hp, hx⟩ := hi
  replace e : hd = hd2 := e
  subst e
  by_cases k1 : hd.kind = 1
  · cases h1 : decide (hd.attr.at_ = Mk.zero) <;> cases h2 : decide (hd.size.at_ = Mk.zero)
    · exact story_inode100 hd p x ps xs w hp hx hw hpl hxl ht k1 h1 h2
    · exact story_inode101 hd p x ps xs w hp hx hw hpl hxl ht k1 h1 h2
    · exact story_inode110 hd p x ps xs w hp hx hw hpl hxl ht k1 h1 h2
    · exact story_inode111 hd p x ps xs w hp hx hw hpl hxl ht k1 h1 h2
  by_cases k2 : hd.kind = 2
  · cases h1 : decide (hd.attr.at_ = Mk.zero) <;> cases h2 : decide (hd.size.at_ = Mk.zero)
    · exact story_inode200 hd p x ps xs w hp hx hw hpl hxl ht k2 h1 h2
    · exact story_inode201 hd p x ps xs w hp hx hw hpl hxl ht k2 h1 h2
    · exact story_inode210 hd p x ps xs w hp hx hw hpl hxl ht k2 h1 h2
    · exact story_inode211 hd p x ps xs w hp hx hw hpl hxl ht k2 h1 h2
  by_cases k3 : hd.kind = 3
  · cases h1 : decide (hd.attr.at_ = Mk.zero) <;> cases h2 : decide (hd.size.at_ = Mk.zero)
    · exact story_inode300 hd p x ps xs w hp hx hw hpl hxl ht k3 h1 h2
    · exact story_inode301 hd p x ps xs w hp hx hw hpl hxl ht k3 h1 h2
    · exact story_inode310 hd p x ps xs w hp hx hw hpl hxl ht k3 h1 h2
    · exact story_inode311 hd p x ps xs w hp hx hw hpl hxl ht k3 h1 h2
  · cases h1 : decide (hd.attr.at_ = Mk.zero) <;> cases h2 : decide (hd.size.at_ = Mk.zero)
    · exact story_inode000 hd p x ps xs w hp hx hw hpl hxl ht ⟨k1, k2, k3⟩ h1 h2
    · exact story_inode001 hd p x ps xs w hp hx hw hpl hxl ht ⟨k1, k2, k3⟩ h1 h2
    · exact story_inode010 hd p x ps xs w hp hx hw hpl hxl ht ⟨k1, k2, k3⟩ h1 h2
    · exact story_inode011 hd p x ps xs w hp hx hw hpl hxl ht ⟨k1, k2, k3⟩ h1 h2
end Go.Proofs.YtebpacmhdkgfeaaDoor
