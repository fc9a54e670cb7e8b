/- Texts laid together: MrgP, MrgX, Lst, JoIn, MrgN, MrgK, JoSt, Awk11a. -/
import Derived.Test.YtebpacmhdkgfeaaGreatJm7
import Derived.Test.YtebpacmhdkgfeaaGreatJm8
import Derived.Test.YtebpacmhdkgfeaaGreatJm9
import Derived.Test.YtebpacmhdkgfeaaGreatJm10
set_option linter.unusedSimpArgs false
set_option linter.unusedVariables false
namespace Go.Proofs.YtebpacmhdkgfeaaGreat.MrgP
open Go.RowKit
set_option maxHeartbeats 4000000
theorem stableNil (w : World) (fv : Value) : Calls Tryz.prog 201 #[.slice none 0 0, .int .i64 0, fv] w fun e w' => e = .returned (.tuple #[]) ∧ w' = w := by
 have t1 : decide ((20 : Int) ≤ 0) = false := by decide
 have t2 : decide ((20 : Int) < 0) = false := by decide
 go_enter Tryz.func201, Tryz.ntmps201
 go_wp2
 go_loopw [7, 8] (fun a b wr => a = .int .i64 0 ∧ b = .int .i64 20 ∧ wr = w) (fun _ _ _ => 0)
 case atStart => exact ⟨rfl, rfl, rfl⟩
 case round =>
  obtain ⟨rfl, rfl, rfl⟩ := hrel
  go_wp2_with (go_at_call 213; (with_reducible refine (SortP.insertionNil _ fv).mono ?_); rintro e w3 ⟨rfl, rfl⟩)
  go_loopw [6] (fun a wr => a = .int .i64 20 ∧ wr = w3) (fun _ _ => 0)
  case atStart => exact ⟨rfl, rfl⟩
  case round =>
   obtain ⟨rfl, rfl⟩ := hrel
   go_wp2
   go_end0
   exact ⟨rfl, rfl⟩
theorem sortNil (w : World) (fv : Value) : Calls Tryz.prog 166 #[.slice none 0 0, fv] w fun e w' => e = .returned (.tuple #[]) ∧ w' = w := by
 go_enter Tryz.func166, Tryz.ntmps166
 go_wp2_with (go_at_call 201; (with_reducible refine (stableNil _ fv).mono ?_); rintro e w3 ⟨rfl, rfl⟩)
 go_end0
 exact ⟨rfl, rfl⟩
abbrev cf (x y : Pce) : Int := icmp x.idx y.idx
theorem cmpOk (w : World) (g : Nat) : SortP.CmpOk encPc 92 #[] cf w g := fun x y w' _ => join_listed_1 x y w'
theorem sorted (w : World) (base g n c : Nat) (xs : List Pce) (h : SortP.Own encPc w base g n c xs) (hn : n = xs.length) (hmax : n ≤ 1000000000) :
  Calls Tryz.prog 166 #[.slice (some ⟨g, 0, none⟩) n c, .func (.func 92) #[] #[]] w fun e w' => e = .returned (.tuple #[]) ∧ ∃ L, Stab.Of Pce.lt xs L ∧ Loc w (· = g) w' [SortP.it encPc base g n c L] :=
 SortP.sortStable encPc _ #[] cf (fun args w => enters Tryz.func92 (by kernel_rfl) (by kernel_rfl) args w) Pce.ord w base g n c xs (cmpOk w g) h hn hmax
theorem key_ext {W : World} {e : Ext W} (x y : Pce) (r : Int) (h : cf x y = r) : Calls Tryz.prog 92 #[.agg (encPc.cells x).toArray, .agg (encPc.cells y).toArray] e.w fun en w'' => en = .returned (.int .i64 r) ∧ ∃ z : Ext W, w'' = z.w :=
 h ▸ calls_ext (join_listed_1 x y e.w)
theorem one_ext {W : World} {e : Ext W} (x y z : Pce) (h : Pce.top x y = z) : Calls Tryz.prog 93 #[.agg (encPc.cells x).toArray, .agg (encPc.cells y).toArray] e.w fun en w'' => en = .returned (.agg (encPc.cells z).toArray) ∧ ∃ z : Ext W, w'' = z.w :=
 h ▸ calls_ext ((join_listed_2 x y e.w).mono fun _ _ ⟨⟨c, e1, e2⟩, hb⟩ => by subst e1; exact ⟨e2, hb⟩)
set_option maxRecDepth 20000 in
theorem merged (v1 v2 : Value) (xs ys : List Pce) (w : World) (h1 : encPc.R w v1 xs) (h2 : encPc.R w v2 ys) (hn : xs.length + ys.length ≤ 100000000) :
  Calls Tryz.prog 91 #[v1, v2, .func (.func 92) #[] #[], .func (.func 93) #[] #[]] w fun e w' => ∃ u, e = .returned u ∧ Loc w NoM w' [row encPc w.heap.size 61 u (listedD (xs ++ ys))] := by
 have hL := Loc.nil w NoM
 obtain ⟨a1, c1, rfl, -⟩ := R_elem h1
 obtain ⟨a2, c2, rfl, -⟩ := R_elem h2
 have H1 := kD h1
 have H2 := kD h2
 clear h1 h2
 go_enter Tryz.func91, Tryz.ntmps91
 go_wp2_with (first
  | ((with_reducible refine gate (N := 16) rfl ?_); refine lM (cs := [.slice a1 xs.length c1, .slice a2 ys.length c2]) rfl hL rfl rfl rfl (by kernel_rfl) ?_; clear hL; intro g1 wq hL)
  | (go_at_call 84; have hq := ConcatPc.concat (.slice (some ⟨g1, 0, none⟩) 2 2) [⟨a1, xs.length, c1⟩, ⟨a2, ys.length, c2⟩] [xs, ys] _ (R_box (E := encSl) (t := 55) [⟨a1, xs.length, c1⟩, ⟨a2, ys.length, c2⟩] (hL.box mx) rfl (by simp)) rfl (two_rows (H1.out.below hL.below) (H2.out.below hL.below)) (by simp; omega) (by simp); (with_reducible refine hq.mono ?_); rintro e w1 ⟨u, rfl, hL1⟩; replace hL := (hL.takeRow hL1).sub (.cons_cons _ (List.nil_sublist _)); clear hq hL1; refine stop ?_))
 unfold Stop
 obtain ⟨zs, hzs⟩ : ∃ zs, zs = [xs, ys].flatten := ⟨_, rfl⟩
 rw [← hzs] at hL
 have HZ : Hid (zs = xs ++ ys) := kD (by rw [hzs]; simp)
 have hln : zs.length ≤ 100000000 := by rw [HZ.out]; simpa using hn
 clear H1 H2 hn hzs
 rcases own_casesG hL with ⟨rfl, rfl⟩ | ⟨g, c, rfl, hc1, hc2, hg⟩
 ·replace hL := (hL.sub (List.nil_sublist _)).rowNil' encPc w.heap.size 61
  go_wp2_with (first
   | (go_at_call 166; (with_reducible refine (sortNil _ _).mono ?_); rintro e w3 ⟨rfl, rfl⟩))
  go_loopw [9, 23] (fun s i wr => s = .slice none 0 0 ∧ i = .int .i64 0 ∧ Loc w NoM wr [row encPc w.heap.size 61 (.slice none 0 0) []]) (fun _ _ _ => 0)
  case atStart => exact ⟨rfl, rfl, hL⟩
  case round =>
   clear hL
   obtain ⟨rfl, rfl, hL⟩ := hrel
   go_wp2
   go_ret
   refine ⟨_, rfl, ?_⟩
   rw [← HZ.out]
   exact hL
 ·have hs := kD (sorted w1 w.heap.size g zs.length c zs (hL.own (E := encPc) (.head _)) rfl (by omega))
  have HL := kD hL
  clear hL
  go_wp2_with (first
   | (go_at_call 166; (with_reducible refine hs.out.mono ?_); rintro e w3 ⟨rfl, L, hO, hL3⟩; have HOF := kD hO; have hL := HL.out.thenRowG hL3 hg; clear hL3 hs HL hO))
  replace hL := hL.rowNil' encPc w.heap.size 61
  have HN : Hid (L.length = zs.length) := kD HOF.out.len
  generalize zs.length = n at *
  go_loopw [9, 23] (fun s i wr => ∃ (k : Nat) (vs : Value) (out : List Pce), k ≤ n ∧ i = .int .i64 k ∧ s = vs ∧ Hid (Stab.Folds Pce.lt _root_.id Pce.top (L.take k) out ∧ out.length ≤ k) ∧ Loc w NoM wr [row encPc w.heap.size 61 vs out, row encPc w.heap.size 61 (.slice (some ⟨g, 0, none⟩) n c) L]) (fun _ i _ => n - (intOf i).toNat)
  case atStart => exact ⟨0, _, [], by omega, rfl, rfl, kD ⟨.nil _ _, by simp⟩, hL⟩
  case round =>
   clear hL
   obtain ⟨k, vs, out, hk, rfl, rfl, HF, hL⟩ := hrel
   by_cases hlt : k < n
   ·have t0 : decide ((k : Int) < (n : Int)) = true := (by first | (simp; done) | (simp; omega))
    have hkl : k < L.length := by have := HN.out; omega
    obtain ⟨x, hx⟩ : ∃ x, L[k]? = some x := ⟨_, List.getElem?_eq_getElem hkl⟩
    have hz : wr.rangeAt g (0 + k * 4) (encPc.cells x) := by
     have := row_range (hL.own (E := encPc) (.tail _ (.head _))) hx
     rwa [show k * encPc.sz = 0 + k * 4 from by show k * 4 = _; omega] at this
    have HX := kD hx
    have HTS := kD (Stab.take_snoc' hx)
    clear hx hkl
    obtain ⟨ao, co, rfl, -⟩ := R_elem (hL.own (E := encPc) (.head _)).read
    rcases Stab.nil_or_snoc out with rfl | ⟨out', p, rfl⟩
    ·-- the first
     have HF2 : Hid (Stab.Folds Pce.lt _root_.id Pce.top (L.take (k + 1)) [x] ∧ [x].length ≤ k + 1) := kD (by
      rw [HTS.out]
      have h0 : L.take k = [] := by
       cases h : L.take k with
       | nil => rfl
       | cons a t => obtain ⟨p, hp, -⟩ := HF.out.1.has Pce.ord (show a ∈ L.take k by rw [h]; exact .head _); cases hp
      rw [h0]
      exact ⟨(Stab.Folds.nil _root_.id Pce.top).insNew (k1 := []) (k2 := []) Pce.ord Pce.keeps (fun _ h => by cases h) (fun _ h => by cases h), by simp⟩)
     clear HF HTS
     go_wp2_with (first
      | ((with_reducible refine qF rfl rfl ?_); refine lL rfl rfl rfl rfl hlt ?_)
      | ((with_reducible refine gate (N := 26) rfl ?_); refine lK rfl rfl rfl hz (by rfl) ?_)
      | ((with_reducible refine gate (N := 12) rfl ?_); (refine lI rfl hL rfl cy ?_; clear hL; intro g12 w12 hL)) | ((with_reducible refine qC rfl rfl ?_); (refine lG rfl hL rfl rfl rfl cy (by rfl) (by rfl) ?_); clear hL; intro wq hL))
     (try simp only [Act.put, List.setIfInBounds_toArray, List.set_cons_succ, List.set_cons_zero])
     refine wp_region_ext (by kernel_rfl) (by kernel_rfl) ?_
     repeat (first | (go_big_quiet_want; (first | refine qH hL rfl rfl vM (by rfl) ?_ | refine qG hL rfl rfl vM (by rfl) ?_ | refine qI hL rfl rfl vM SegC.seg ?_); go_big_quiet_on; simp only [Act.put, List.setIfInBounds_toArray, List.set_cons_succ, List.set_cons_zero]) | go_big_quiet_step (fail))
     refine wpQuiet_nil ?_
     rintro _ ⟨⟨wC, hbC⟩, rfl⟩
     replace hL := hL.call hbC
     clear hbC
     go_wp2_with (first
      | ((with_reducible refine gate (N := 56) rfl ?_); refine lM (cs := encPc.cells x) rfl hL rfl rfl rfl (by kernel_rfl) ?_; clear hL; intro gL wq hL)
      | (at_builtin; refine ev_app1L (E := encPc) (base := w.heap.size) (xs := []) x rfl hL rfl rfl rfl mx (fun v' => .there _ (.there _ (.here _))) rfl rfl rfl (by simp) hL.size ?_; clear hL; intro ao' c' wq hL)
      | ((with_reducible refine qB rfl rfl ?_); (refine lA rfl hL rfl rfl vM (by rfl) ?_)))
     go_roundw
     case rel => exact ⟨k + 1, _, [x], by omega, by go_num, rfl, HF2, hL.sub (by repeat (first | exact List.nil_sublist _ | apply List.Sublist.cons_cons | apply List.Sublist.cons))⟩
     case measure => simp [intOf]; omega
    ·have hlen : ((out' ++ [p]).length : Nat) = out'.length + 1 := by simp
     have hm := HF.out.2
     rw [hlen] at hm hL
     have HP : Hid ((out' ++ [p])[out'.length]? = some p) := kD (by simp)
     rcases own_casesG hL with ⟨e1, e2⟩ | ⟨go, c3, e1, -, -, hgo⟩
     ·simp at e2
     injection e1 with e1 e2 e3
     subst e1 e3
     clear e2 hlen
     have hin : out'.length < out'.length + 1 := by omega
     have hsub : ((out'.length + 1 : Nat) : Int) - 1 = (out'.length : Nat) := by omega
     have tg : decide (((out'.length + 1 : Nat) : Int) > 0) = true := (by first | (simp; done) | (simp; omega))
     have hFx := HF.out.1
     have hm0 : (0 : Int) ≤ (out'.length : Int) := by omega
     have hm1 : (out'.length : Int) ≤ 100000000 := by omega
     have hm2 : (out'.length : Int) + 1 ≤ 100000001 := by omega
     by_cases hb : cf p x = 0
     ·have he : Stab.eqv Pce.lt p x = true := by
       exact Pce.eqv_iff.2 (icmp_0.1 hb)
      have HF2 : Hid (Stab.Folds Pce.lt _root_.id Pce.top (L.take (k + 1)) (out' ++ [Pce.top p x]) ∧ (out' ++ [Pce.top p x]).length ≤ k + 1) := kD ⟨by rw [HTS.out]; exact hFx.runOld Pce.ord Pce.keeps he, by simp; omega⟩
      have HS : Hid ((out' ++ [p]).set out'.length (Pce.top p x) = out' ++ [Pce.top p x]) := kD (by simp)
      have hlp : out'.length < (out' ++ [p]).length := by simp
      obtain ⟨q, hq⟩ : ∃ q, Pce.top p x = q := ⟨_, rfl⟩
      rw [hq] at HF2 HS
      have HQ := kD hq
      have HB := kD hb
      clear HF HTS hFx he hb hq hm hsub tg
      go_wp2_with (first
       | ((with_reducible refine qF rfl rfl ?_); refine lL rfl rfl rfl rfl hlt ?_)
       | ((with_reducible refine gate (N := 26) rfl ?_); refine lK rfl rfl rfl hz (by rfl) ?_)
       | ((with_reducible refine gate (N := 12) rfl ?_); (refine lI rfl hL rfl cy ?_; clear hL; intro g12 w12 hL)) | ((with_reducible refine qC rfl rfl ?_); (refine lG rfl hL rfl rfl rfl cy (by rfl) (by rfl) ?_); clear hL; intro wq hL))
      (try simp only [Act.put, List.setIfInBounds_toArray, List.set_cons_succ, List.set_cons_zero])
      refine wp_region_ext (by kernel_rfl) (by kernel_rfl) ?_
      repeat (first
       | (go_big_quiet_want; (first | refine qH hL rfl rfl vM (by rfl) ?_ | refine qG hL rfl rfl vM (by rfl) ?_ | refine qI hL rfl rfl vM SegC.seg ?_); go_big_quiet_on; simp only [Act.put, List.setIfInBounds_toArray, List.set_cons_succ, List.set_cons_zero])
       | (go_big_quiet_want; (first | refine qK (E := encPc) (i := out'.length) rfl (by rfl) (by rfl) hin ?_ | refine qJ (E := encPc) hL mx rfl (by rfl) HP.out ?_); go_big_quiet_on; simp only [Act.put, List.setIfInBounds_toArray, List.set_cons_succ, List.set_cons_zero])
       | go_big_quiet_step (first | (go_at_call 92; exact key_ext p x 0 HB.out)))
      refine wpQuiet_nil ?_
      rintro _ ⟨⟨wC, hbC⟩, rfl⟩
      replace hL := hL.call hbC
      clear hbC
      go_wp2_with fail
      (try simp only [Act.put, List.setIfInBounds_toArray, List.set_cons_succ, List.set_cons_zero])
      refine region_qtail 12 (by kernel_rfl) hL (by kernel_rfl) ?_
      clear hL
      intro w8 hL
      simp only [List.take_succ_cons, List.take_zero, List.drop_succ_cons, List.drop_zero]
      repeat (first
       | (go_big_quiet_want; (first | refine qH hL rfl rfl vM (by rfl) ?_ | refine qG hL rfl rfl vM (by rfl) ?_ | refine qI hL rfl rfl vM SegC.seg ?_); go_big_quiet_on; simp only [Act.put, List.setIfInBounds_toArray, List.set_cons_succ, List.set_cons_zero])
       | (go_big_quiet_want; (first | refine qK (E := encPc) (i := out'.length) rfl (by rfl) (by rfl) hin ?_ | refine qJ (E := encPc) hL mx rfl (by rfl) HP.out ?_); go_big_quiet_on; simp only [Act.put, List.setIfInBounds_toArray, List.set_cons_succ, List.set_cons_zero])
       | go_big_quiet_step (first | (go_at_call 93; exact one_ext p x q HQ.out)))
      refine wpQuiet_nil ?_
      rintro _ ⟨⟨w9, hb9⟩, rfl⟩
      replace hL := hL.call hb9
      clear hb9
      go_wp2_with (first
       | ((with_reducible refine qC rfl rfl ?_); refine ev_setRow (E := encPc) (i := out'.length) q rfl hL rfl rfl rfl rfl (cells_agg _ rfl) hlp (.there _ (.here _)) ?_; clear hL; intro wq hL))
      rw [HS.out] at hL
      go_roundw
      case rel => exact ⟨k + 1, _, out' ++ [q], by omega, by go_num, rfl, HF2, hL.sub (by repeat (first | exact List.nil_sublist _ | apply List.Sublist.cons_cons | apply List.Sublist.cons))⟩
      case measure => simp [intOf]; omega
     ·have he : Stab.eqv Pce.lt p x = false := by
       cases h : Stab.eqv Pce.lt p x
       ·rfl
       ·exact absurd (icmp_0.2 (Pce.eqv_iff.1 h)) hb
      have HF2 : Hid (Stab.Folds Pce.lt _root_.id Pce.top (L.take (k + 1)) (out' ++ [p] ++ [x]) ∧ (out' ++ [p] ++ [x]).length ≤ k + 1) := kD ⟨by
       rw [HTS.out]
       have hsr := HOF.out.sorted.sublist (List.take_sublist (k + 1) L)
       rw [HTS.out] at hsr
       exact hFx.runNew Pce.ord Pce.keeps (fun y hy => (List.pairwise_append.1 hsr).2.2 y hy x (.head _)) he, by simp; omega⟩
      have tz : (cf p x == 0) = false := by simpa using hb
      obtain ⟨r, hr⟩ : ∃ r, cf p x = r := ⟨_, rfl⟩
      rw [hr] at tz
      have HB := kD hr
      clear HF HTS hFx he hb hr hm hsub tg
      go_wp2_with (first
       | ((with_reducible refine qF rfl rfl ?_); refine lL rfl rfl rfl rfl hlt ?_)
       | ((with_reducible refine gate (N := 26) rfl ?_); refine lK rfl rfl rfl hz (by rfl) ?_)
       | ((with_reducible refine gate (N := 12) rfl ?_); (refine lI rfl hL rfl cy ?_; clear hL; intro g12 w12 hL)) | ((with_reducible refine qC rfl rfl ?_); (refine lG rfl hL rfl rfl rfl cy (by rfl) (by rfl) ?_); clear hL; intro wq hL))
      (try simp only [Act.put, List.setIfInBounds_toArray, List.set_cons_succ, List.set_cons_zero])
      refine wp_region_ext (by kernel_rfl) (by kernel_rfl) ?_
      repeat (first
       | (go_big_quiet_want; (first | refine qH hL rfl rfl vM (by rfl) ?_ | refine qG hL rfl rfl vM (by rfl) ?_ | refine qI hL rfl rfl vM SegC.seg ?_); go_big_quiet_on; simp only [Act.put, List.setIfInBounds_toArray, List.set_cons_succ, List.set_cons_zero])
       | (go_big_quiet_want; (first | refine qK (E := encPc) (i := out'.length) rfl (by rfl) (by rfl) hin ?_ | refine qJ (E := encPc) hL mx rfl (by rfl) HP.out ?_); go_big_quiet_on; simp only [Act.put, List.setIfInBounds_toArray, List.set_cons_succ, List.set_cons_zero])
       | go_big_quiet_step (first | (go_at_call 92; exact key_ext p x r HB.out)))
      refine wpQuiet_nil ?_
      rintro _ ⟨⟨wC, hbC⟩, rfl⟩
      replace hL := hL.call hbC
      clear hbC
      go_wp2_with (first
       | ((with_reducible refine gate (N := 56) rfl ?_); refine lM (cs := encPc.cells x) rfl hL rfl rfl rfl (by kernel_rfl) ?_; clear hL; intro gL wq hL)
       | (at_builtin; refine ev_app1L (E := encPc) (base := w.heap.size) (xs := out' ++ [p]) x rfl hL rfl rfl rfl mx (fun v' => .there _ (.there _ (.here _))) rfl rfl rfl (by simp; omega) hL.size ?_; clear hL; intro ao' c' wq hL)
       | ((with_reducible refine qB rfl rfl ?_); (refine lA rfl hL rfl rfl vM (by rfl) ?_)))
      go_roundw
      case rel => exact ⟨k + 1, _, out' ++ [p] ++ [x], by omega, by go_num, rfl, HF2, by simp only [List.length_append, List.length_cons, List.length_nil, Nat.zero_add] at hL; exact hL.sub (by repeat (first | exact List.nil_sublist _ | apply List.Sublist.cons_cons | apply List.Sublist.cons))⟩
      case measure => simp [intOf]; omega
   ·obtain rfl : k = n := by omega
    have HR : Hid (out = listedD zs) := kD (by
     have h1 := HF.out.1
     rw [← HN.out, List.take_length] at h1
     exact (h1.of HOF.out).eq Pce.ord Pce.keeps)
    rw [HR.out, HZ.out] at hL
    have t0 : decide ((k : Int) < (k : Int)) = false := (by first | (simp; done) | (simp; omega))
    go_wp2
    go_ret
    exact ⟨_, rfl, hL.sub (.cons_cons _ (List.nil_sublist _))⟩
end Go.Proofs.YtebpacmhdkgfeaaGreat.MrgP

namespace Go.Proofs.YtebpacmhdkgfeaaGreat.MrgX
open Go.RowKit
set_option maxHeartbeats 4000000
theorem stableNil (w : World) (fv : Value) : Calls Tryz.prog 202 #[.slice none 0 0, .int .i64 0, fv] w fun e w' => e = .returned (.tuple #[]) ∧ w' = w := by
 have t1 : decide ((20 : Int) ≤ 0) = false := by decide
 have t2 : decide ((20 : Int) < 0) = false := by decide
 go_enter Tryz.func202, Tryz.ntmps202
 go_wp2
 go_loopw [7, 8] (fun a b wr => a = .int .i64 0 ∧ b = .int .i64 20 ∧ wr = w) (fun _ _ _ => 0)
 case atStart => exact ⟨rfl, rfl, rfl⟩
 case round =>
  obtain ⟨rfl, rfl, rfl⟩ := hrel
  go_wp2_with (go_at_call 215; (with_reducible refine (SortX.insertionNil _ fv).mono ?_); rintro e w3 ⟨rfl, rfl⟩)
  go_loopw [6] (fun a wr => a = .int .i64 20 ∧ wr = w3) (fun _ _ => 0)
  case atStart => exact ⟨rfl, rfl⟩
  case round =>
   obtain ⟨rfl, rfl⟩ := hrel
   go_wp2
   go_end0
   exact ⟨rfl, rfl⟩
theorem sortNil (w : World) (fv : Value) : Calls Tryz.prog 167 #[.slice none 0 0, fv] w fun e w' => e = .returned (.tuple #[]) ∧ w' = w := by
 go_enter Tryz.func167, Tryz.ntmps167
 go_wp2_with (go_at_call 202; (with_reducible refine (stableNil _ fv).mono ?_); rintro e w3 ⟨rfl, rfl⟩)
 go_end0
 exact ⟨rfl, rfl⟩
abbrev cf (x y : Xat) : Int := scmp x.name y.name
theorem cmpOk (w : World) (g : Nat) : SortX.CmpOk encXt 97 #[] cf w g := fun x y w' _ => join_named_1 x y w'
theorem sorted (w : World) (base g n c : Nat) (xs : List Xat) (h : SortX.Own encXt w base g n c xs) (hn : n = xs.length) (hmax : n ≤ 1000000000) :
  Calls Tryz.prog 167 #[.slice (some ⟨g, 0, none⟩) n c, .func (.func 97) #[] #[]] w fun e w' => e = .returned (.tuple #[]) ∧ ∃ L, Stab.Of Xat.lt xs L ∧ Loc w (· = g) w' [SortX.it encXt base g n c L] :=
 SortX.sortStable encXt _ #[] cf (fun args w => enters Tryz.func97 (by kernel_rfl) (by kernel_rfl) args w) Xat.ord w base g n c xs (cmpOk w g) h hn hmax
theorem key_ext {W : World} {e : Ext W} (x y : Xat) (r : Int) (h : cf x y = r) : Calls Tryz.prog 97 #[.agg (encXt.cells x).toArray, .agg (encXt.cells y).toArray] e.w fun en w'' => en = .returned (.int .i64 r) ∧ ∃ z : Ext W, w'' = z.w :=
 h ▸ calls_ext (join_named_1 x y e.w)
theorem one_ext {W : World} {e : Ext W} (x y z : Xat) (h : Xat.top x y = z) : Calls Tryz.prog 99 #[.agg (encXt.cells x).toArray, .agg (encXt.cells y).toArray] e.w fun en w'' => en = .returned (.agg (encXt.cells z).toArray) ∧ ∃ z : Ext W, w'' = z.w :=
 h ▸ calls_ext ((join_named_2 x y e.w).mono fun _ _ ⟨⟨c, e1, e2⟩, hb⟩ => by subst e1; exact ⟨e2, hb⟩)
set_option maxRecDepth 20000 in
theorem merged (v1 v2 : Value) (xs ys : List Xat) (w : World) (h1 : encXt.R w v1 xs) (h2 : encXt.R w v2 ys) (hn : xs.length + ys.length ≤ 100000000) :
  Calls Tryz.prog 96 #[v1, v2, .func (.func 97) #[] #[], .func (.func 99) #[] #[]] w fun e w' => ∃ u, e = .returned u ∧ Loc w NoM w' [row encXt w.heap.size 64 u (namedD (xs ++ ys))] := by
 have hL := Loc.nil w NoM
 obtain ⟨a1, c1, rfl, -⟩ := R_elem h1
 obtain ⟨a2, c2, rfl, -⟩ := R_elem h2
 have H1 := kD h1
 have H2 := kD h2
 clear h1 h2
 go_enter Tryz.func96, Tryz.ntmps96
 go_wp2_with (first
  | ((with_reducible refine gate (N := 16) rfl ?_); refine lM (cs := [.slice a1 xs.length c1, .slice a2 ys.length c2]) rfl hL rfl rfl rfl (by kernel_rfl) ?_; clear hL; intro g1 wq hL)
  | (go_at_call 85; have hq := ConcatXt.concat (.slice (some ⟨g1, 0, none⟩) 2 2) [⟨a1, xs.length, c1⟩, ⟨a2, ys.length, c2⟩] [xs, ys] _ (R_box (E := encSl) (t := 56) [⟨a1, xs.length, c1⟩, ⟨a2, ys.length, c2⟩] (hL.box mx) rfl (by simp)) rfl (two_rows (H1.out.below hL.below) (H2.out.below hL.below)) (by simp; omega) (by simp); (with_reducible refine hq.mono ?_); rintro e w1 ⟨u, rfl, hL1⟩; replace hL := (hL.takeRow hL1).sub (.cons_cons _ (List.nil_sublist _)); clear hq hL1; refine stop ?_))
 unfold Stop
 obtain ⟨zs, hzs⟩ : ∃ zs, zs = [xs, ys].flatten := ⟨_, rfl⟩
 rw [← hzs] at hL
 have HZ : Hid (zs = xs ++ ys) := kD (by rw [hzs]; simp)
 have hln : zs.length ≤ 100000000 := by rw [HZ.out]; simpa using hn
 clear H1 H2 hn hzs
 rcases own_casesG hL with ⟨rfl, rfl⟩ | ⟨g, c, rfl, hc1, hc2, hg⟩
 ·replace hL := (hL.sub (List.nil_sublist _)).rowNil' encXt w.heap.size 64
  go_wp2_with (first
   | (go_at_call 167; (with_reducible refine (sortNil _ _).mono ?_); rintro e w3 ⟨rfl, rfl⟩))
  go_loopw [9, 23] (fun s i wr => s = .slice none 0 0 ∧ i = .int .i64 0 ∧ Loc w NoM wr [row encXt w.heap.size 64 (.slice none 0 0) []]) (fun _ _ _ => 0)
  case atStart => exact ⟨rfl, rfl, hL⟩
  case round =>
   clear hL
   obtain ⟨rfl, rfl, hL⟩ := hrel
   go_wp2
   go_ret
   refine ⟨_, rfl, ?_⟩
   rw [← HZ.out]
   exact hL
 ·have hs := kD (sorted w1 w.heap.size g zs.length c zs (hL.own (E := encXt) (.head _)) rfl (by omega))
  have HL := kD hL
  clear hL
  go_wp2_with (first
   | (go_at_call 167; (with_reducible refine hs.out.mono ?_); rintro e w3 ⟨rfl, L, hO, hL3⟩; have HOF := kD hO; have hL := HL.out.thenRowG hL3 hg; clear hL3 hs HL hO))
  replace hL := hL.rowNil' encXt w.heap.size 64
  have HN : Hid (L.length = zs.length) := kD HOF.out.len
  generalize zs.length = n at *
  go_loopw [9, 23] (fun s i wr => ∃ (k : Nat) (vs : Value) (out : List Xat), k ≤ n ∧ i = .int .i64 k ∧ s = vs ∧ Hid (Stab.Folds Xat.lt _root_.id Xat.top (L.take k) out ∧ out.length ≤ k) ∧ Loc w NoM wr [row encXt w.heap.size 64 vs out, row encXt w.heap.size 64 (.slice (some ⟨g, 0, none⟩) n c) L]) (fun _ i _ => n - (intOf i).toNat)
  case atStart => exact ⟨0, _, [], by omega, rfl, rfl, kD ⟨.nil _ _, by simp⟩, hL⟩
  case round =>
   clear hL
   obtain ⟨k, vs, out, hk, rfl, rfl, HF, hL⟩ := hrel
   by_cases hlt : k < n
   ·have t0 : decide ((k : Int) < (n : Int)) = true := (by first | (simp; done) | (simp; omega))
    have hkl : k < L.length := by have := HN.out; omega
    obtain ⟨x, hx⟩ : ∃ x, L[k]? = some x := ⟨_, List.getElem?_eq_getElem hkl⟩
    have hz : wr.rangeAt g (0 + k * 5) (encXt.cells x) := by
     have := row_range (hL.own (E := encXt) (.tail _ (.head _))) hx
     rwa [show k * encXt.sz = 0 + k * 5 from by show k * 5 = _; omega] at this
    have HX := kD hx
    have HTS := kD (Stab.take_snoc' hx)
    clear hx hkl
    obtain ⟨ao, co, rfl, -⟩ := R_elem (hL.own (E := encXt) (.head _)).read
    rcases Stab.nil_or_snoc out with rfl | ⟨out', p, rfl⟩
    ·-- the first
     have HF2 : Hid (Stab.Folds Xat.lt _root_.id Xat.top (L.take (k + 1)) [x] ∧ [x].length ≤ k + 1) := kD (by
      rw [HTS.out]
      have h0 : L.take k = [] := by
       cases h : L.take k with
       | nil => rfl
       | cons a t => obtain ⟨p, hp, -⟩ := HF.out.1.has Xat.ord (show a ∈ L.take k by rw [h]; exact .head _); cases hp
      rw [h0]
      exact ⟨(Stab.Folds.nil _root_.id Xat.top).insNew (k1 := []) (k2 := []) Xat.ord Xat.keeps (fun _ h => by cases h) (fun _ h => by cases h), by simp⟩)
     clear HF HTS
     go_wp2_with (first
      | ((with_reducible refine qF rfl rfl ?_); refine lL rfl rfl rfl rfl hlt ?_)
      | ((with_reducible refine gate (N := 26) rfl ?_); refine lK rfl rfl rfl hz (by rfl) ?_)
      | ((with_reducible refine gate (N := 12) rfl ?_); (refine lI rfl hL rfl cy ?_; clear hL; intro g12 w12 hL)) | ((with_reducible refine qC rfl rfl ?_); (refine lG rfl hL rfl rfl rfl cy (by rfl) (by rfl) ?_); clear hL; intro wq hL))
     (try simp only [Act.put, List.setIfInBounds_toArray, List.set_cons_succ, List.set_cons_zero])
     refine wp_region_ext (by kernel_rfl) (by kernel_rfl) ?_
     repeat (first | (go_big_quiet_want; (first | refine qH hL rfl rfl vM (by rfl) ?_ | refine qG hL rfl rfl vM (by rfl) ?_ | refine qI hL rfl rfl vM SegC.seg ?_); go_big_quiet_on; simp only [Act.put, List.setIfInBounds_toArray, List.set_cons_succ, List.set_cons_zero]) | go_big_quiet_step (fail))
     refine wpQuiet_nil ?_
     rintro _ ⟨⟨wC, hbC⟩, rfl⟩
     replace hL := hL.call hbC
     clear hbC
     go_wp2_with (first
      | ((with_reducible refine gate (N := 56) rfl ?_); refine lM (cs := encXt.cells x) rfl hL rfl rfl rfl (by kernel_rfl) ?_; clear hL; intro gL wq hL)
      | (at_builtin; refine ev_app1L (E := encXt) (base := w.heap.size) (xs := []) x rfl hL rfl rfl rfl mx (fun v' => .there _ (.there _ (.here _))) rfl rfl rfl (by simp) hL.size ?_; clear hL; intro ao' c' wq hL)
      | ((with_reducible refine qB rfl rfl ?_); (refine lA rfl hL rfl rfl vM (by rfl) ?_)))
     go_roundw
     case rel => exact ⟨k + 1, _, [x], by omega, by go_num, rfl, HF2, hL.sub (by repeat (first | exact List.nil_sublist _ | apply List.Sublist.cons_cons | apply List.Sublist.cons))⟩
     case measure => simp [intOf]; omega
    ·have hlen : ((out' ++ [p]).length : Nat) = out'.length + 1 := by simp
     have hm := HF.out.2
     rw [hlen] at hm hL
     have HP : Hid ((out' ++ [p])[out'.length]? = some p) := kD (by simp)
     rcases own_casesG hL with ⟨e1, e2⟩ | ⟨go, c3, e1, -, -, hgo⟩
     ·simp at e2
     injection e1 with e1 e2 e3
     subst e1 e3
     clear e2 hlen
     have hin : out'.length < out'.length + 1 := by omega
     have hsub : ((out'.length + 1 : Nat) : Int) - 1 = (out'.length : Nat) := by omega
     have tg : decide (((out'.length + 1 : Nat) : Int) > 0) = true := (by first | (simp; done) | (simp; omega))
     have hFx := HF.out.1
     have hm0 : (0 : Int) ≤ (out'.length : Int) := by omega
     have hm1 : (out'.length : Int) ≤ 100000000 := by omega
     have hm2 : (out'.length : Int) + 1 ≤ 100000001 := by omega
     by_cases hb : cf p x = 0
     ·have he : Stab.eqv Xat.lt p x = true := by
       exact Xat.eqv_iff.2 (scmp_0.1 hb)
      have HF2 : Hid (Stab.Folds Xat.lt _root_.id Xat.top (L.take (k + 1)) (out' ++ [Xat.top p x]) ∧ (out' ++ [Xat.top p x]).length ≤ k + 1) := kD ⟨by rw [HTS.out]; exact hFx.runOld Xat.ord Xat.keeps he, by simp; omega⟩
      have HS : Hid ((out' ++ [p]).set out'.length (Xat.top p x) = out' ++ [Xat.top p x]) := kD (by simp)
      have hlp : out'.length < (out' ++ [p]).length := by simp
      obtain ⟨q, hq⟩ : ∃ q, Xat.top p x = q := ⟨_, rfl⟩
      rw [hq] at HF2 HS
      have HQ := kD hq
      have HB := kD hb
      clear HF HTS hFx he hb hq hm hsub tg
      go_wp2_with (first
       | ((with_reducible refine qF rfl rfl ?_); refine lL rfl rfl rfl rfl hlt ?_)
       | ((with_reducible refine gate (N := 26) rfl ?_); refine lK rfl rfl rfl hz (by rfl) ?_)
       | ((with_reducible refine gate (N := 12) rfl ?_); (refine lI rfl hL rfl cy ?_; clear hL; intro g12 w12 hL)) | ((with_reducible refine qC rfl rfl ?_); (refine lG rfl hL rfl rfl rfl cy (by rfl) (by rfl) ?_); clear hL; intro wq hL))
      (try simp only [Act.put, List.setIfInBounds_toArray, List.set_cons_succ, List.set_cons_zero])
      refine wp_region_ext (by kernel_rfl) (by kernel_rfl) ?_
      repeat (first
       | (go_big_quiet_want; (first | refine qH hL rfl rfl vM (by rfl) ?_ | refine qG hL rfl rfl vM (by rfl) ?_ | refine qI hL rfl rfl vM SegC.seg ?_); go_big_quiet_on; simp only [Act.put, List.setIfInBounds_toArray, List.set_cons_succ, List.set_cons_zero])
       | (go_big_quiet_want; (first | refine qK (E := encXt) (i := out'.length) rfl (by rfl) (by rfl) hin ?_ | refine qJ (E := encXt) hL mx rfl (by rfl) HP.out ?_); go_big_quiet_on; simp only [Act.put, List.setIfInBounds_toArray, List.set_cons_succ, List.set_cons_zero])
       | go_big_quiet_step (first | (go_at_call 97; exact key_ext p x 0 HB.out)))
      refine wpQuiet_nil ?_
      rintro _ ⟨⟨wC, hbC⟩, rfl⟩
      replace hL := hL.call hbC
      clear hbC
      go_wp2_with fail
      (try simp only [Act.put, List.setIfInBounds_toArray, List.set_cons_succ, List.set_cons_zero])
      refine region_qtail 12 (by kernel_rfl) hL (by kernel_rfl) ?_
      clear hL
      intro w8 hL
      simp only [List.take_succ_cons, List.take_zero, List.drop_succ_cons, List.drop_zero]
      repeat (first
       | (go_big_quiet_want; (first | refine qH hL rfl rfl vM (by rfl) ?_ | refine qG hL rfl rfl vM (by rfl) ?_ | refine qI hL rfl rfl vM SegC.seg ?_); go_big_quiet_on; simp only [Act.put, List.setIfInBounds_toArray, List.set_cons_succ, List.set_cons_zero])
       | (go_big_quiet_want; (first | refine qK (E := encXt) (i := out'.length) rfl (by rfl) (by rfl) hin ?_ | refine qJ (E := encXt) hL mx rfl (by rfl) HP.out ?_); go_big_quiet_on; simp only [Act.put, List.setIfInBounds_toArray, List.set_cons_succ, List.set_cons_zero])
       | go_big_quiet_step (first | (go_at_call 99; exact one_ext p x q HQ.out)))
      refine wpQuiet_nil ?_
      rintro _ ⟨⟨w9, hb9⟩, rfl⟩
      replace hL := hL.call hb9
      clear hb9
      go_wp2_with (first
       | ((with_reducible refine qC rfl rfl ?_); refine ev_setRow (E := encXt) (i := out'.length) q rfl hL rfl rfl rfl rfl (cells_agg _ rfl) hlp (.there _ (.here _)) ?_; clear hL; intro wq hL))
      rw [HS.out] at hL
      go_roundw
      case rel => exact ⟨k + 1, _, out' ++ [q], by omega, by go_num, rfl, HF2, hL.sub (by repeat (first | exact List.nil_sublist _ | apply List.Sublist.cons_cons | apply List.Sublist.cons))⟩
      case measure => simp [intOf]; omega
     ·have he : Stab.eqv Xat.lt p x = false := by
       cases h : Stab.eqv Xat.lt p x
       ·rfl
       ·exact absurd (scmp_0.2 (Xat.eqv_iff.1 h)) hb
      have HF2 : Hid (Stab.Folds Xat.lt _root_.id Xat.top (L.take (k + 1)) (out' ++ [p] ++ [x]) ∧ (out' ++ [p] ++ [x]).length ≤ k + 1) := kD ⟨by
       rw [HTS.out]
       have hsr := HOF.out.sorted.sublist (List.take_sublist (k + 1) L)
       rw [HTS.out] at hsr
       exact hFx.runNew Xat.ord Xat.keeps (fun y hy => (List.pairwise_append.1 hsr).2.2 y hy x (.head _)) he, by simp; omega⟩
      have tz : (cf p x == 0) = false := by simpa using hb
      obtain ⟨r, hr⟩ : ∃ r, cf p x = r := ⟨_, rfl⟩
      rw [hr] at tz
      have HB := kD hr
      clear HF HTS hFx he hb hr hm hsub tg
      go_wp2_with (first
       | ((with_reducible refine qF rfl rfl ?_); refine lL rfl rfl rfl rfl hlt ?_)
       | ((with_reducible refine gate (N := 26) rfl ?_); refine lK rfl rfl rfl hz (by rfl) ?_)
       | ((with_reducible refine gate (N := 12) rfl ?_); (refine lI rfl hL rfl cy ?_; clear hL; intro g12 w12 hL)) | ((with_reducible refine qC rfl rfl ?_); (refine lG rfl hL rfl rfl rfl cy (by rfl) (by rfl) ?_); clear hL; intro wq hL))
      (try simp only [Act.put, List.setIfInBounds_toArray, List.set_cons_succ, List.set_cons_zero])
      refine wp_region_ext (by kernel_rfl) (by kernel_rfl) ?_
      repeat (first
       | (go_big_quiet_want; (first | refine qH hL rfl rfl vM (by rfl) ?_ | refine qG hL rfl rfl vM (by rfl) ?_ | refine qI hL rfl rfl vM SegC.seg ?_); go_big_quiet_on; simp only [Act.put, List.setIfInBounds_toArray, List.set_cons_succ, List.set_cons_zero])
       | (go_big_quiet_want; (first | refine qK (E := encXt) (i := out'.length) rfl (by rfl) (by rfl) hin ?_ | refine qJ (E := encXt) hL mx rfl (by rfl) HP.out ?_); go_big_quiet_on; simp only [Act.put, List.setIfInBounds_toArray, List.set_cons_succ, List.set_cons_zero])
       | go_big_quiet_step (first | (go_at_call 97; exact key_ext p x r HB.out)))
      refine wpQuiet_nil ?_
      rintro _ ⟨⟨wC, hbC⟩, rfl⟩
      replace hL := hL.call hbC
      clear hbC
      go_wp2_with (first
       | ((with_reducible refine gate (N := 56) rfl ?_); refine lM (cs := encXt.cells x) rfl hL rfl rfl rfl (by kernel_rfl) ?_; clear hL; intro gL wq hL)
       | (at_builtin; refine ev_app1L (E := encXt) (base := w.heap.size) (xs := out' ++ [p]) x rfl hL rfl rfl rfl mx (fun v' => .there _ (.there _ (.here _))) rfl rfl rfl (by simp; omega) hL.size ?_; clear hL; intro ao' c' wq hL)
       | ((with_reducible refine qB rfl rfl ?_); (refine lA rfl hL rfl rfl vM (by rfl) ?_)))
      go_roundw
      case rel => exact ⟨k + 1, _, out' ++ [p] ++ [x], by omega, by go_num, rfl, HF2, by simp only [List.length_append, List.length_cons, List.length_nil, Nat.zero_add] at hL; exact hL.sub (by repeat (first | exact List.nil_sublist _ | apply List.Sublist.cons_cons | apply List.Sublist.cons))⟩
      case measure => simp [intOf]; omega
   ·obtain rfl : k = n := by omega
    have HR : Hid (out = namedD zs) := kD (by
     have h1 := HF.out.1
     rw [← HN.out, List.take_length] at h1
     exact (h1.of HOF.out).eq Xat.ord Xat.keeps)
    rw [HR.out, HZ.out] at hL
    have t0 : decide ((k : Int) < (k : Int)) = false := (by first | (simp; done) | (simp; omega))
    go_wp2
    go_ret
    exact ⟨_, rfl, hL.sub (.cons_cons _ (List.nil_sublist _))⟩
end Go.Proofs.YtebpacmhdkgfeaaGreat.MrgX

namespace Go.Proofs.YtebpacmhdkgfeaaGreat
open Go.RowKit
set_option maxHeartbeats 2000000
theorem join_listed (v : Value) (xs : List Pce) (w : World) (h : encPc.R w v xs) (hn : xs.length ≤ 100000000) :
  Calls Tryz.prog 36 #[v] w fun e w' => ∃ u, e = .returned u ∧ Loc w NoM w' [row encPc w.heap.size 61 u (listedD xs)] := by
 have hq := kD (MrgP.merged v (.slice none 0 0) xs [] w h (R_none _ _) (by simpa using hn))
 rw [List.append_nil] at hq
 go_enter Tryz.func36, Tryz.ntmps36
 go_wp2_with (go_at_call 91; (with_reducible refine hq.out.mono ?_); rintro e w1 ⟨u, rfl, hL⟩)
 go_ret
 exact ⟨_, rfl, hL⟩
theorem join_named (v : Value) (xs : List Xat) (w : World) (h : encXt.R w v xs) (hn : xs.length ≤ 100000000) :
  Calls Tryz.prog 37 #[v] w fun e w' => ∃ u, e = .returned u ∧ Loc w NoM w' [row encXt w.heap.size 64 u (namedD xs)] := by
 have hq := kD (MrgX.merged v (.slice none 0 0) xs [] w h (R_none _ _) (by simpa using hn))
 rw [List.append_nil] at hq
 go_enter Tryz.func37, Tryz.ntmps37
 go_wp2_with (go_at_call 96; (with_reducible refine hq.out.mono ?_); rintro e w1 ⟨u, rfl, hL⟩)
 go_ret
 exact ⟨_, rfl, hL⟩
end Go.Proofs.YtebpacmhdkgfeaaGreat

namespace Go.Proofs.YtebpacmhdkgfeaaGreat
open Go.RowKit
set_option maxHeartbeats 4000000
set_option maxRecDepth 20000
theorem join_inode (a b : Ino) (da db : InoD) (w : World) (hoa : a.Ok w da) (hob : b.Ok w db) (hp : da.ps.length + db.ps.length ≤ 100000000) (hx : da.xs.length + db.xs.length ≤ 100000000) :
  Calls Tryz.prog 32 #[.agg (Ino.cells a).toArray, .agg (Ino.cells b).toArray] w fun e w' => ∃ c : Ino, e = .returned (.agg (Ino.cells c).toArray) ∧ c.hd = (da.one db).hd ∧
   Loc w NoM w' [row encPc w.heap.size 61 c.p.val (da.one db).ps, row encXt w.heap.size 64 c.x.val (da.one db).xs] := by
 have hL := Loc.nil w NoM
 obtain ⟨ha, ⟨a1, n1, c1⟩, ⟨a2, n2, c2⟩⟩ := a
 obtain ⟨hb, ⟨b1, m1, e1⟩, ⟨b2, m2, e2⟩⟩ := b
 obtain ⟨ha', pa, xa⟩ := da
 obtain ⟨hb', pb, xb⟩ := db
 obtain ⟨h1, HPA, HXA⟩ := hoa
 obtain ⟨h2, HPB, HXB⟩ := hob
 simp only at h1 h2 HPA HXA HPB HXB hp hx
 subst h1 h2
 have HPA := kD HPA; have HPB := kD HPB; have HXA := kD HXA; have HXB := kD HXB
 have hga := kD (fun wx => greater_Atr ha.attr hb.attr wx)
 have hgs := kD (fun wx => greater_Siz ha.size hb.size wx)
 have HO : Hid (∀ (k : Int) (t : ByteArray) (at_ : Atr) (sz : Siz), k = imax ha.kind hb.kind → t = smax ha.text hb.text → at_ = ha.attr.top hb.attr → sz = ha.size.top hb.size → (⟨ha.id, k, t, at_, sz⟩ : IHd) = (InoD.one ⟨ha, pa, xa⟩ ⟨hb, pb, xb⟩).hd) := kD (by rintro k t at_ sz rfl rfl rfl rfl; rfl)
 have HPP : Hid ((InoD.one ⟨ha, pa, xa⟩ ⟨hb, pb, xb⟩).ps = listedD (pa ++ pb)) := kD rfl
 have HXX : Hid ((InoD.one ⟨ha, pa, xa⟩ ⟨hb, pb, xb⟩).xs = namedD (xa ++ xb)) := kD rfl
 generalize InoD.one ⟨ha, pa, xa⟩ ⟨hb, pb, xb⟩ = d at *
 unfold Ino.cells
 simp only
 go_enter Tryz.func32, Tryz.ntmps32
 go_wp2_with (first
  | ((with_reducible refine gate (N := 2) rfl ?_); (refine lJ rfl hL rfl rfl cy ?_; clear hL; intro g2 w2 hL)) | ((with_reducible refine gate (N := 3) rfl ?_); (refine lJ rfl hL rfl rfl cy ?_; clear hL; intro g3 w3 hL)) | ((with_reducible refine gate (N := 4) rfl ?_); (refine lI rfl hL rfl cy ?_; clear hL; intro g4 w4 hL)))
 refine region_held (fun wx => Box wx g3 ([.int .i64 hb.id.boot, .int .i64 hb.id.n, .int .i64 hb.kind, .string hb.text, .int .i64 hb.attr.at_.boot, .int .i64 hb.attr.at_.n, .int .i64 hb.attr.mode, .int .u64 hb.attr.time, .int .i64 hb.size.at_.boot, .int .i64 hb.size.at_.n, .int .i64 hb.size.n, .slice b1 m1 e1, .slice b2 m2 e2] : List Value).toArray 58) (by kernel_rfl) hL ?_
 clear hL
 intro w10 hL
 refine tK (i := 0) (y := y_pure (v := .pointer (some ⟨g2, 2, none⟩)) (by rfl) (fun w => by simp [execOp, Instr.fieldAt, go_sem])) (s := hL.box vM) (z := ?_)
 (try simp only [Act.put, zs, zt, zu])
 refine tK (i := 2) (y := y_pure (v := .pointer (some ⟨g3, 2, none⟩)) (by rfl) (fun w => by simp [execOp, Instr.fieldAt, go_sem])) (s := hL.box vM) (z := ?_)
 (try simp only [Act.put, zs, zt, zu])
 refine tK (i := 3) (y := y_loadCell (fun _ h => h) (by rfl) (by rfl) (by rfl) (by infer_instance) (by rfl)) (s := hL.box vM) (z := ?_)
 (try simp only [Act.put, zs, zt, zu])
 refine tK (i := 5) (y := y_pure (v := .pointer (some ⟨g2, 3, none⟩)) (by rfl) (fun w => by simp [execOp, Instr.fieldAt, go_sem])) (s := hL.box vM) (z := ?_)
 (try simp only [Act.put, zs, zt, zu])
 refine tK (i := 7) (y := y_pure (v := .pointer (some ⟨g3, 3, none⟩)) (by rfl) (fun w => by simp [execOp, Instr.fieldAt, go_sem])) (s := hL.box vM) (z := ?_)
 (try simp only [Act.put, zs, zt, zu])
 refine tK (i := 8) (y := y_loadCell (fun _ h => h) (by rfl) (by rfl) (by rfl) (by infer_instance) (by rfl)) (s := hL.box vM) (z := ?_)
 (try simp only [Act.put, zs, zt, zu])
 apply heldEither (i := 1) (j := 6) (by kernel_rfl)
 case hi =>
  intro hG
  refine wpOp_runW (v := .int .i64 ha.kind) (Nth.get nx) (by rfl) (run_loadCellB (hL.box (g := g2) vM) (by rfl) (by rfl) (by infer_instance) (by rfl)) ?_
  refine ⟨(hL.box vM), ?_⟩
  (try simp only [Act.put, zs, zt, zu])
  refine tK (i := 4) (y := Yields.yieldsIf (y_maxI ha.kind hb.kind rfl rfl (by rfl) (by rfl))) (s := hL.box vM) (z := ?_)
  (try simp only [Act.put, zs, zt, zu])
  refine heldOne (i := 6) (by kernel_rfl) ?_
  refine wpOp_runW (v := .string ha.text) (Nth.get nx) (by rfl) (run_loadCellB (hL.box (g := g2) vM) (by rfl) (by rfl) (by infer_instance) (by rfl)) ?_
  refine ⟨(hL.box vM), ?_⟩
  (try simp only [Act.put, zs, zt, zu])
  refine tK (i := 9) (y := Yields.yieldsIf (y_maxS ha.text hb.text rfl rfl (by rfl) (by rfl))) (s := hL.box vM) (z := ?_)
  (try simp only [Act.put, zs, zt, zu])
  exact hG
 case hj =>
  intro hG
  refine wpOp_runW (v := .string ha.text) (Nth.get nx) (by rfl) (run_loadCellB (hL.box (g := g2) vM) (by rfl) (by rfl) (by infer_instance) (by rfl)) ?_
  refine ⟨(hL.box vM), ?_⟩
  (try simp only [Act.put, zs, zt, zu])
  refine tK (i := 9) (y := Yields.yieldsIf (y_maxS ha.text hb.text rfl rfl (by rfl) (by rfl))) (s := hL.box vM) (z := ?_)
  (try simp only [Act.put, zs, zt, zu])
  refine heldOne (i := 1) (by kernel_rfl) ?_
  refine wpOp_runW (v := .int .i64 ha.kind) (Nth.get nx) (by rfl) (run_loadCellB (hL.box (g := g2) vM) (by rfl) (by rfl) (by infer_instance) (by rfl)) ?_
  refine ⟨(hL.box vM), ?_⟩
  (try simp only [Act.put, zs, zt, zu])
  refine tK (i := 4) (y := Yields.yieldsIf (y_maxI ha.kind hb.kind rfl rfl (by rfl) (by rfl))) (s := hL.box vM) (z := ?_)
  (try simp only [Act.put, zs, zt, zu])
  exact hG
 refine tK (i := 10) (y := y_pure (v := .pointer (some ⟨g2, 2, none⟩)) (by rfl) (fun w => by simp [execOp, Instr.fieldAt, go_sem])) (s := hL.box vM) (z := ?_)
 (try simp only [Act.put, zs, zt, zu])
 refine heldStore (i := 11) nx (by kernel_rfl) rfl hL rfl (by rfl) (by rfl) cy (by rfl) ?_
 clear hL; intro w12 hL
 refine ⟨(hL.box vM), ?_⟩
 (try simp only [Act.put, zs, zt, zu])
 refine tK (i := 12) (y := y_pure (v := .pointer (some ⟨g2, 3, none⟩)) (by rfl) (fun w => by simp [execOp, Instr.fieldAt, go_sem])) (s := hL.box vM) (z := ?_)
 (try simp only [Act.put, zs, zt, zu])
 refine heldStore (i := 13) nx (by kernel_rfl) rfl hL rfl (by rfl) (by rfl) cy (by rfl) ?_
 clear hL; intro w13 hL
 refine ⟨(hL.box vM), ?_⟩
 (try simp only [Act.put, zs, zt, zu])
 refine wpAnyH_done (by kernel_rfl) ?_ _
 obtain ⟨K, hK⟩ : ∃ k, k = imax ha.kind hb.kind := ⟨_, rfl⟩
 obtain ⟨T, hT⟩ : ∃ t, t = smax ha.text hb.text := ⟨_, rfl⟩
 rw [← hK, ← hT] at hL
 have HK := kD hK
 have HT := kD hT
 clear hK hT
 go_wp2_with (first
  | (go_at_call 80; (with_reducible refine (hga.out _).mono ?_); rintro e w14 ⟨⟨ca, eca, rfl⟩, hb14⟩; have HCA := kD eca; clear eca; have hL := hL.call hb14; clear hb14)
  | (go_at_call 82; (with_reducible refine (hgs.out _).mono ?_); rintro e w15 ⟨⟨cs, ecs, rfl⟩, hb15⟩; have HCS := kD ecs; clear ecs; have hL := hL.call hb15; clear hb15)
  | ((with_reducible refine gate (N := 33) rfl ?_); refine lM (cs := [.slice a1 n1 c1, .slice b1 m1 e1]) rfl hL rfl rfl rfl (by kernel_rfl) ?_; clear hL; intro g33 wq hL)
  | ((with_reducible refine gate (N := 41) rfl ?_); refine lM (cs := [.slice a2 n2 c2, .slice b2 m2 e2]) rfl hL rfl rfl rfl (by kernel_rfl) ?_; clear hL; intro g41 wq hL)
  | (go_at_call 84; have hq := ConcatPc.concat (.slice (some ⟨g33, 0, none⟩) 2 2) [⟨a1, n1, c1⟩, ⟨b1, m1, e1⟩] [pa, pb] _ (R_box (E := encSl) (t := 55) [⟨a1, n1, c1⟩, ⟨b1, m1, e1⟩] (hL.box vM) rfl (by simp)) rfl (two_rows (HPA.out.below hL.below) (HPB.out.below hL.below)) (by simp; omega) (by simp); (with_reducible refine hq.mono ?_); rintro e w16 ⟨u16, rfl, hL16⟩; replace hL := hL.takeRow hL16; clear hq hL16)
  | (go_at_call 36; have hq := join_listed u16 _ _ (hL.own (E := encPc) (base := w.heap.size) (e := 61) (xs := [pa, pb].flatten) (.head _)).read (by simp; omega); (with_reducible refine hq.mono ?_); rintro e w17 ⟨u17, rfl, hL17⟩; replace hL := hL.takeRow hL17; clear hq hL17; obtain ⟨x17, l17, rfl, -⟩ := R_elem (hL.own (E := encPc) (.head _)).read)
  | (go_at_call 85; have hq := ConcatXt.concat (.slice (some ⟨g41, 0, none⟩) 2 2) [⟨a2, n2, c2⟩, ⟨b2, m2, e2⟩] [xa, xb] _ (R_box (E := encSl) (t := 56) [⟨a2, n2, c2⟩, ⟨b2, m2, e2⟩] (hL.box vM) rfl (by simp)) rfl (two_rows (HXA.out.below hL.below) (HXB.out.below hL.below)) (by simp; omega) (by simp); (with_reducible refine hq.mono ?_); rintro e w18 ⟨u18, rfl, hL18⟩; replace hL := hL.takeRow hL18; clear hq hL18)
  | (go_at_call 37; have hq := join_named u18 _ _ (hL.own (E := encXt) (base := w.heap.size) (e := 64) (xs := [xa, xb].flatten) (.head _)).read (by simp; omega); (with_reducible refine hq.mono ?_); rintro e w19 ⟨u19, rfl, hL19⟩; replace hL := hL.takeRow hL19; clear hq hL19; obtain ⟨x19, l19, rfl, -⟩ := R_elem (hL.own (E := encXt) (.head _)).read)
  | ((with_reducible refine qB rfl rfl ?_); (first | (refine lC rfl hL rfl rfl vM (by rfl) ?_) | (refine lA rfl hL rfl rfl vM (by rfl) ?_) | (refine lF rfl hL rfl rfl vM SegC.seg ?_))) | ((with_reducible refine qC rfl rfl ?_); (refine lH rfl hL rfl rfl rfl cy (by rfl) ?_); clear hL; intro wq hL))
 have hF : Loc w NoM _ [row encXt w.heap.size 64 (.slice x19 (namedD [xa, xb].flatten).length l19) (namedD [xa, xb].flatten), row encPc w.heap.size 61 (.slice x17 (listedD [pa, pb].flatten).length l17) (listedD [pa, pb].flatten)] := hL.sub (by repeat (first | exact List.nil_sublist _ | apply List.Sublist.cons_cons | apply List.Sublist.cons))
 replace hF := hF.comm
 rw [show [pa, pb].flatten = pa ++ pb by simp, show [xa, xb].flatten = xa ++ xb by simp] at hF
 refine bodyPost_ret (res_cell rfl hL _ rfl vM (by rfl)) rfl ⟨⟨⟨ha.id, K, T, ca, cs⟩, ⟨x17, (listedD (pa ++ pb)).length, l17⟩, ⟨x19, (namedD (xa ++ xb)).length, l19⟩⟩, rfl, HO.out K T ca cs HK.out HT.out HCA.out HCS.out, ?_⟩
 rw [HPP.out, HXX.out]
 exact hF
end Go.Proofs.YtebpacmhdkgfeaaGreat

namespace Go.Proofs.YtebpacmhdkgfeaaGreat.MrgN
open Go.RowKit
set_option maxHeartbeats 4000000
theorem stableNil (w : World) (fv : Value) : Calls Tryz.prog 159 #[.slice none 0 0, .int .i64 0, fv] w fun e w' => e = .returned (.tuple #[]) ∧ w' = w := by
 have t1 : decide ((20 : Int) ≤ 0) = false := by decide
 have t2 : decide ((20 : Int) < 0) = false := by decide
 go_enter Tryz.func159, Tryz.ntmps159
 go_wp2
 go_loopw [7, 8] (fun a b wr => a = .int .i64 0 ∧ b = .int .i64 20 ∧ wr = w) (fun _ _ _ => 0)
 case atStart => exact ⟨rfl, rfl, rfl⟩
 case round =>
  obtain ⟨rfl, rfl, rfl⟩ := hrel
  go_wp2_with (go_at_call 196; (with_reducible refine (SortN.insertionNil _ fv).mono ?_); rintro e w3 ⟨rfl, rfl⟩)
  go_loopw [6] (fun a wr => a = .int .i64 20 ∧ wr = w3) (fun _ _ => 0)
  case atStart => exact ⟨rfl, rfl⟩
  case round =>
   obtain ⟨rfl, rfl⟩ := hrel
   go_wp2
   go_end0
   exact ⟨rfl, rfl⟩
theorem sortNil (w : World) (fv : Value) : Calls Tryz.prog 77 #[.slice none 0 0, fv] w fun e w' => e = .returned (.tuple #[]) ∧ w' = w := by
 go_enter Tryz.func77, Tryz.ntmps77
 go_wp2_with (go_at_call 159; (with_reducible refine (stableNil _ fv).mono ?_); rintro e w3 ⟨rfl, rfl⟩)
 go_end0
 exact ⟨rfl, rfl⟩
abbrev cf (x y : Nd) : Int := x.s.hd.id.cmps y.s.hd.id
theorem cmpOk (w : World) (g : Nat) : SortN.CmpOk encN 30 #[] cf w g := fun x y w' _ => join_States_1 x y w'
theorem ord : Stab.Ord (SortN.ltf cf) := ord_of (r := Mk.lss) (fun n : Nd => n.s.hd.id) (fun x y => by show decide _ = true ↔ _; rw [decide_eq_true_eq, Mk.cmps_lt]) Mk.lss_irr Mk.lss_tri (fun _ _ _ h k => Mk.lss_trans h k)
theorem sorted (w : World) (base g n c : Nat) (xs : List Nd) (h : SortN.Own encN w base g n c xs) (hn : n = xs.length) (hmax : n ≤ 1000000000) :
  Calls Tryz.prog 77 #[.slice (some ⟨g, 0, none⟩) n c, .func (.func 30) #[] #[]] w fun e w' => e = .returned (.tuple #[]) ∧ ∃ L, Stab.Of (SortN.ltf cf) xs L ∧ Loc w (· = g) w' [SortN.it encN base g n c L] :=
 SortN.sortStable encN _ #[] cf (fun args w => enters Tryz.func30 (by kernel_rfl) (by kernel_rfl) args w) ord w base g n c xs (cmpOk w g) h hn hmax
theorem of_map {zs L : List Nd} (h : Stab.Of (SortN.ltf cf) zs L) (hz : ∀ n ∈ zs, n.s.hd = n.d.hd) (z : InoD) : (L.map (·.d)).filter (Stab.eqv InoD.lt z) = (zs.map (·.d)).filter (Stab.eqv InoD.lt z) := by
 have key : ∀ l : List Nd, (∀ n ∈ l, n.s.hd = n.d.hd) → (l.map (·.d)).filter (Stab.eqv InoD.lt z) = (l.filter (Stab.eqv (SortN.ltf cf) ⟨⟨z.hd, ⟨none, 0, 0⟩, ⟨none, 0, 0⟩⟩, z⟩)).map (·.d) := fun l hl => by
  rw [List.filter_map]
  congr 1
  refine List.filter_congr fun n hn => ?_
  unfold Stab.eqv SortN.ltf InoD.lt cf
  simp only [Function.comp, hl n hn]
 rw [key L fun n hn => hz n (h.mem.1 hn), key zs hz, h.cls]
theorem key_ext {W : World} {e : Ext W} (x y : Nd) (r : Int) (h : cf x y = r) : Calls Tryz.prog 30 #[.agg (encN.cells x).toArray, .agg (encN.cells y).toArray] e.w fun en w'' => en = .returned (.int .i64 r) ∧ ∃ z : Ext W, w'' = z.w :=
 h ▸ calls_ext (join_States_1 x y e.w)
set_option maxRecDepth 20000 in
theorem merged (v1 v2 : Value) (xs ys : List Nd) (w : World) (h1 : encN.R w v1 xs) (h2 : encN.R w v2 ys) (w0 : World) (hb0 : Below w0.heap.size w0 w) (hO : ∀ n ∈ xs ++ ys, n.s.Ok w0 n.d) (B : Nat) (hB : ∀ n ∈ xs ++ ys, n.d.ps.length ≤ B ∧ n.d.xs.length ≤ B) (hn : xs.length + ys.length ≤ 1000000) (hBn : B * (xs.length + ys.length) ≤ 100000000) :
  Calls Tryz.prog 29 #[v1, v2, .func (.func 30) #[] #[], .func (.func 32) #[] #[]] w fun e w' => ∃ u, e = .returned u ∧ ∃ F L, L.map (·.d) = nodesD ((xs ++ ys).map (·.d)) ∧ (∀ n ∈ L, n.d.ps.length ≤ B * (xs.length + ys.length) ∧ n.d.xs.length ≤ B * (xs.length + ys.length)) ∧ Loc w NoM w' [row encN w.heap.size 58 u L, nest w0 F L] := by
 have hL := Loc.nil w NoM
 obtain ⟨a1, c1, rfl, -⟩ := R_elem h1
 obtain ⟨a2, c2, rfl, -⟩ := R_elem h2
 have H1 := kD h1
 have H2 := kD h2
 clear h1 h2
 go_enter Tryz.func29, Tryz.ntmps29
 go_wp2_with (first
  | ((with_reducible refine gate (N := 16) rfl ?_); refine lM (cs := [.slice a1 xs.length c1, .slice a2 ys.length c2]) rfl hL rfl rfl rfl (by kernel_rfl) ?_; clear hL; intro g1 wq hL)
  | (go_at_call 76; have hq := ConcatN.concat (.slice (some ⟨g1, 0, none⟩) 2 2) [⟨a1, xs.length, c1⟩, ⟨a2, ys.length, c2⟩] [xs, ys] _ (R_box (E := encSl) (t := 24) [⟨a1, xs.length, c1⟩, ⟨a2, ys.length, c2⟩] (hL.box mx) rfl (by simp)) rfl (two_rows (H1.out.below hL.below) (H2.out.below hL.below)) (by simp; omega) (by simp); (with_reducible refine hq.mono ?_); rintro e w1 ⟨u, rfl, hL1⟩; replace hL := (hL.takeRow hL1).sub (.cons_cons _ (List.nil_sublist _)); clear hq hL1; refine stop ?_))
 unfold Stop
 obtain ⟨zs, hzs⟩ : ∃ zs, zs = [xs, ys].flatten := ⟨_, rfl⟩
 rw [← hzs] at hL
 have HZ : Hid (zs = xs ++ ys) := kD (by rw [hzs]; simp)
 have hln : zs.length ≤ 1000000 := by rw [HZ.out]; simpa using hn
 have hll : zs.length = xs.length + ys.length := by rw [HZ.out]; simp
 rw [← hll] at hBn
 have HLL := kD hll
 have HOK : Hid (∀ n ∈ zs, n.s.Ok w0 n.d) := kD (by rw [HZ.out]; exact hO)
 have HBB : Hid (∀ n ∈ zs, n.d.ps.length ≤ B ∧ n.d.xs.length ≤ B) := kD (by rw [HZ.out]; exact hB)
 have HBN := kD hBn
 clear H1 H2 hn hzs hO hB hll hBn
 rcases own_casesG hL with ⟨rfl, rfl⟩ | ⟨g, c, rfl, hc1, hc2, hg⟩
 ·replace hL := (hL.sub (List.nil_sublist _)).rowNil' encN w.heap.size 58
  go_wp2_with (first
   | (go_at_call 77; (with_reducible refine (sortNil _ _).mono ?_); rintro e w3 ⟨rfl, rfl⟩))
  go_loopw [9, 23] (fun s i wr => s = .slice none 0 0 ∧ i = .int .i64 0 ∧ Loc w NoM wr [row encN w.heap.size 58 (.slice none 0 0) []]) (fun _ _ _ => 0)
  case atStart => exact ⟨rfl, rfl, hL⟩
  case round =>
   clear hL
   obtain ⟨rfl, rfl, hL⟩ := hrel
   go_wp2
   go_ret
   refine ⟨_, rfl, fun _ => False, [], ?_, by simp, ?_⟩
   ·rw [← HZ.out]; rfl
   ·exact (hL.nestOld (w00 := w0) (L := []) (by simp)).comm
 ·have hs := kD (sorted w1 w.heap.size g zs.length c zs (hL.own (E := encN) (.head _)) rfl (by omega))
  have HL := kD hL
  clear hL
  go_wp2_with (first
   | (go_at_call 77; (with_reducible refine hs.out.mono ?_); rintro e w3 ⟨rfl, L, hO, hL3⟩; have HOF := kD hO; have hL := HL.out.thenRowG hL3 hg; clear hL3 hs HL hO))
  replace hL := hL.rowNil' encN w.heap.size 58
  replace hL := (hL.nestOld (w00 := w0) (L := []) (by simp)).perm (List.perm_append_comm (l₁ := [_]) (l₂ := [_, _]))
  have HOL : Hid (∀ n ∈ L, n.s.Ok w0 n.d ∧ n.d.ps.length ≤ B ∧ n.d.xs.length ≤ B) := kD fun n hn => ⟨HOK.out n (HOF.out.mem.1 hn), HBB.out n (HOF.out.mem.1 hn)⟩
  have HCL : Hid (∀ z, (L.map (·.d)).filter (Stab.eqv InoD.lt z) = (zs.map (·.d)).filter (Stab.eqv InoD.lt z)) := kD (of_map HOF.out fun n hn => (HOK.out n hn).hd)
  have HN : Hid (L.length = zs.length) := kD HOF.out.len
  generalize zs.length = n at *
  go_loopw [9, 23] (fun s i wr => ∃ (k : Nat) (vs : Value) (out : List Nd) (F : Nat → Prop), k ≤ n ∧ i = .int .i64 k ∧ s = vs ∧ Hid (Stab.Folds InoD.lt id InoD.one ((L.take k).map (·.d)) (out.map (·.d)) ∧ out.length ≤ k ∧ ∀ n ∈ out, n.d.ps.length ≤ B * k ∧ n.d.xs.length ≤ B * k) ∧ Loc w NoM wr [row encN w.heap.size 58 vs out, row encN w.heap.size 58 (.slice (some ⟨g, 0, none⟩) n c) L, nest w0 F out]) (fun _ i _ => n - (intOf i).toNat)
  case atStart => exact ⟨0, _, [], _, by omega, rfl, rfl, kD ⟨.nil _ _, by simp, by simp⟩, hL⟩
  case round =>
   clear hL
   obtain ⟨k, vs, out, F, hk, rfl, rfl, HF, hL⟩ := hrel
   by_cases hlt : k < n
   ·have t0 : decide ((k : Int) < (n : Int)) = true := (by first | (simp; done) | (simp; omega))
    have hkl : k < L.length := by have := HN.out; omega
    obtain ⟨x, hx⟩ : ∃ x, L[k]? = some x := ⟨_, List.getElem?_eq_getElem hkl⟩
    have hz : wr.rangeAt g (0 + k * 13) (encN.cells x) := by
     have := row_range (hL.own (E := encN) (.tail _ (.head _))) hx
     rwa [show k * encN.sz = 0 + k * 13 from by show k * 13 = _; omega] at this
    have HX := kD hx
    have HTS := kD (Stab.take_snoc' hx)
    have HXM := kD (HOL.out x (List.mem_of_getElem? hx))
    have hBk : B * (k + 1) = B * k + B := Nat.mul_succ B k
    have HBK : Hid (B * (k + 1) = B * k + B ∧ B * k ≤ 100000000 ∧ B * (k + 1) ≤ 100000000) := kD ⟨hBk, Nat.le_trans (Nat.mul_le_mul_left B hk) HBN.out, Nat.le_trans (Nat.mul_le_mul_left B hlt) HBN.out⟩
    clear hBk
    clear hx hkl
    obtain ⟨ao, co, rfl, -⟩ := R_elem (hL.own (E := encN) (.head _)).read
    rcases Stab.nil_or_snoc out with rfl | ⟨out', p, rfl⟩
    ·-- the first
     have HF2 : Hid (Stab.Folds InoD.lt id InoD.one ((L.take (k + 1)).map (·.d)) ([x].map (·.d)) ∧ [x].length ≤ k + 1 ∧ ∀ n ∈ [x], n.d.ps.length ≤ B * (k + 1) ∧ n.d.xs.length ≤ B * (k + 1)) := kD (by
      rw [HTS.out]
      have h0 : L.take k = [] := by
       cases h : L.take k with
       | nil => rfl
       | cons a t => obtain ⟨p, hp, -⟩ := HF.out.1.has InoD.ord (show a.d ∈ (L.take k).map (·.d) from List.mem_map.2 ⟨a, by rw [h]; exact .head _, rfl⟩); cases hp
      rw [h0]
      refine ⟨(Stab.Folds.nil id InoD.one).insNew (x := x.d) (k1 := []) (k2 := []) InoD.ord InoD.keeps (fun _ h => by cases h) (fun _ h => by cases h), by simp, fun n hn => ?_⟩
      rw [List.mem_singleton.1 hn]
      have h1 := HXM.out.2; have h2 := HBK.out.1
      omega)
     clear HF HTS
     go_wp2_with (first
      | ((with_reducible refine qF rfl rfl ?_); refine lL rfl rfl rfl rfl hlt ?_)
      | ((with_reducible refine gate (N := 26) rfl ?_); refine lK rfl rfl rfl hz (by rfl) ?_)
      | ((with_reducible refine gate (N := 12) rfl ?_); (refine lI rfl hL rfl cy ?_; clear hL; intro g12 w12 hL)) | ((with_reducible refine qC rfl rfl ?_); (refine lG rfl hL rfl rfl rfl cy (by rfl) (by rfl) ?_); clear hL; intro wq hL))
     (try simp only [Act.put, List.setIfInBounds_toArray, List.set_cons_succ, List.set_cons_zero])
     refine wp_region_ext (by kernel_rfl) (by kernel_rfl) ?_
     repeat (first | (go_big_quiet_want; (first | refine qH hL rfl rfl vM (by rfl) ?_ | refine qG hL rfl rfl vM (by rfl) ?_ | refine qI hL rfl rfl vM SegC.seg ?_); go_big_quiet_on; simp only [Act.put, List.setIfInBounds_toArray, List.set_cons_succ, List.set_cons_zero]) | go_big_quiet_step (fail))
     refine wpQuiet_nil ?_
     rintro _ ⟨⟨wC, hbC⟩, rfl⟩
     replace hL := hL.call hbC
     clear hbC
     go_wp2_with (first
      | ((with_reducible refine gate (N := 56) rfl ?_); refine lM (cs := encN.cells x) rfl hL rfl rfl rfl (by kernel_rfl) ?_; clear hL; intro gL wq hL)
      | (at_builtin; refine ev_app1L (E := encN) (base := w.heap.size) (xs := []) x rfl hL rfl rfl rfl mx (fun v' => .there _ (.there _ (.here _))) rfl rfl rfl (by simp) hL.size ?_; clear hL; intro ao' c' wq hL)
      | ((with_reducible refine qB rfl rfl ?_); (refine lA rfl hL rfl rfl vM (by rfl) ?_)))
     go_roundw
     case rel => exact ⟨k + 1, _, [x], F, by omega, by go_num, rfl, HF2, (hL.sub (.cons _ (.cons _ (.refl _)))).nestSubAt (.there _ (.there _ (.here _))) (fun n hn => .inr (by rw [List.mem_singleton.1 hn]; exact HXM.out.1))⟩
     case measure => simp [intOf]; omega
    ·have hlen : ((out' ++ [p]).length : Nat) = out'.length + 1 := by simp
     have hm := HF.out.2.1
     have HPO := kD (hL.nested hb0 (.tail _ (.tail _ (.head _))) p (by simp))
     have HPB := kD (HF.out.2.2 p (by simp))
     rw [hlen] at hm hL
     have HP : Hid ((out' ++ [p])[out'.length]? = some p) := kD (by simp)
     rcases own_casesG hL with ⟨e1, e2⟩ | ⟨go, c3, e1, -, -, hgo⟩
     ·simp at e2
     injection e1 with e1 e2 e3
     subst e1 e3
     clear e2 hlen
     have hin : out'.length < out'.length + 1 := by omega
     have hsub : ((out'.length + 1 : Nat) : Int) - 1 = (out'.length : Nat) := by omega
     have tg : decide (((out'.length + 1 : Nat) : Int) > 0) = true := (by first | (simp; done) | (simp; omega))
     have hFx := HF.out.1
     have hm0 : (0 : Int) ≤ (out'.length : Int) := by omega
     have hm1 : (out'.length : Int) ≤ 100000000 := by omega
     have hm2 : (out'.length : Int) + 1 ≤ 100000001 := by omega
     by_cases hb : cf p x = 0
     ·have he : Stab.eqv InoD.lt p.d x.d = true := by
       have h1 : p.s.hd.id = x.s.hd.id := Mk.cmps_0.1 hb
       rw [HPO.out.hd, HXM.out.1.hd] at h1
       exact InoD.eqv_iff.2 h1
      have HF2 : Hid (∀ c : Ino, Stab.Folds InoD.lt id InoD.one ((L.take (k + 1)).map (·.d)) ((out' ++ [(⟨c, p.d.one x.d⟩ : Nd)]).map (·.d)) ∧ (out' ++ [(⟨c, p.d.one x.d⟩ : Nd)]).length ≤ k + 1 ∧ ∀ n ∈ out' ++ [(⟨c, p.d.one x.d⟩ : Nd)], n.d.ps.length ≤ B * (k + 1) ∧ n.d.xs.length ≤ B * (k + 1)) := kD (fun c => ⟨by
       rw [HTS.out, List.map_append, List.map_append]
       rw [List.map_append] at hFx
       exact hFx.runOld InoD.ord InoD.keeps he, by simp; omega, fun n hn => by
       have h1 := HXM.out.2; have h2 := HBK.out.1; have h3 := HPB.out
       rcases List.mem_append.1 hn with hn | hn
       ·have h4 := HF.out.2.2 n (List.mem_append.2 (.inl hn))
        omega
       ·rw [List.mem_singleton.1 hn]
        have h5 := listed_len (p.d.ps ++ x.d.ps); have h6 := named_len (p.d.xs ++ x.d.xs)
        rw [List.length_append] at h5 h6
        exact ⟨by show (listedD _).length ≤ _; omega, by show (namedD _).length ≤ _; omega⟩⟩)
      have HS : Hid (∀ q : Nd, (out' ++ [p]).set out'.length q = out' ++ [q]) := kD (by intro q; simp)
      have hlp : out'.length < (out' ++ [p]).length := by simp
      have HB := kD hb
      have HPL : Hid (p.d.ps.length + x.d.ps.length ≤ 100000000 ∧ p.d.xs.length + x.d.xs.length ≤ 100000000) := kD (by
       have h1 := HXM.out.2; have h2 := HBK.out; have h3 := HPB.out
       omega)
      clear HF HTS hFx he hb hm hsub tg
      go_wp2_with (first
       | ((with_reducible refine qF rfl rfl ?_); refine lL rfl rfl rfl rfl hlt ?_)
       | ((with_reducible refine gate (N := 26) rfl ?_); refine lK rfl rfl rfl hz (by rfl) ?_)
       | ((with_reducible refine gate (N := 12) rfl ?_); (refine lI rfl hL rfl cy ?_; clear hL; intro g12 w12 hL)) | ((with_reducible refine qC rfl rfl ?_); (refine lG rfl hL rfl rfl rfl cy (by rfl) (by rfl) ?_); clear hL; intro wq hL))
      (try simp only [Act.put, List.setIfInBounds_toArray, List.set_cons_succ, List.set_cons_zero])
      refine wp_region_ext (by kernel_rfl) (by kernel_rfl) ?_
      repeat (first
       | (go_big_quiet_want; (first | refine qH hL rfl rfl vM (by rfl) ?_ | refine qG hL rfl rfl vM (by rfl) ?_ | refine qI hL rfl rfl vM SegC.seg ?_); go_big_quiet_on; simp only [Act.put, List.setIfInBounds_toArray, List.set_cons_succ, List.set_cons_zero])
       | (go_big_quiet_want; (first | refine qK (E := encN) (i := out'.length) rfl (by rfl) (by rfl) hin ?_ | refine qJ (E := encN) hL mx rfl (by rfl) HP.out ?_); go_big_quiet_on; simp only [Act.put, List.setIfInBounds_toArray, List.set_cons_succ, List.set_cons_zero])
       | go_big_quiet_step (first | (go_at_call 30; exact key_ext p x 0 HB.out)))
      refine wpQuiet_nil ?_
      rintro _ ⟨⟨wC, hbC⟩, rfl⟩
      replace hL := hL.call hbC
      clear hbC
      go_wp2_with fail
      (try simp only [Act.put, List.setIfInBounds_toArray, List.set_cons_succ, List.set_cons_zero])
      refine region_held (fun wx => Box wx g12 (encN.cells x).toArray 58) (by kernel_rfl) hL ?_
      clear hL
      intro w8 hL
      refine tK (i := 0) (y := y_moveG (.slice (some ⟨go, 0, none⟩) (out'.length + 1) co) (by rfl) rfl (by rfl)) (s := hL.box vM) (z := ?_)
      (try simp only [Act.put, List.setIfInBounds_toArray, List.set_cons_succ, List.set_cons_zero])
      refine tK (i := 1) (y := y_moveG (.int .i64 ((out'.length + 1 : Nat) : Int)) (by rfl) rfl (by rfl)) (s := hL.box vM) (z := ?_)
      (try simp only [Act.put, List.setIfInBounds_toArray, List.set_cons_succ, List.set_cons_zero])
      refine tK (i := 2) (y := Yields.yieldsIf (y_sub (out'.length + 1) 1 rfl rfl (by rfl) (by rfl) (by omega) (by omega))) (s := hL.box vM) (z := ?_)
      (try simp only [Act.put, List.setIfInBounds_toArray, List.set_cons_succ, List.set_cons_zero])
      refine tK (i := 3) (y := y_moveG (.func (.func 32) #[] #[]) (by rfl) rfl (by rfl)) (s := hL.box vM) (z := ?_)
      (try simp only [Act.put, List.setIfInBounds_toArray, List.set_cons_succ, List.set_cons_zero])
      refine tK (i := 4) (y := y_moveG (.slice (some ⟨go, 0, none⟩) (out'.length + 1) co) (by rfl) rfl (by rfl)) (s := hL.box vM) (z := ?_)
      (try simp only [Act.put, List.setIfInBounds_toArray, List.set_cons_succ, List.set_cons_zero])
      refine tK (i := 5) (y := y_moveG (.int .i64 ((out'.length + 1 : Nat) : Int)) (by rfl) rfl (by rfl)) (s := hL.box vM) (z := ?_)
      (try simp only [Act.put, List.setIfInBounds_toArray, List.set_cons_succ, List.set_cons_zero])
      refine tK (i := 6) (y := Yields.yieldsIf (y_sub (out'.length + 1) 1 rfl rfl (by rfl) (by rfl) (by omega) (by omega))) (s := hL.box vM) (z := ?_)
      (try simp only [Act.put, List.setIfInBounds_toArray, List.set_cons_succ, List.set_cons_zero])
      refine tK (i := 7) (y := Yields.yieldsIf (y_index encN out'.length rfl rfl (by rfl) (by rfl) hin)) (s := hL.box vM) (z := ?_)
      (try simp only [Act.put, List.setIfInBounds_toArray, List.set_cons_succ, List.set_cons_zero])
      refine tK (i := 9) (y := y_loadAll (fun _ h => h) (by rfl) (by rfl) (by rfl) (by infer_instance) (by infer_instance) (by rfl)) (s := hL.box vM) (z := ?_)
      (try simp only [Act.put, List.setIfInBounds_toArray, List.set_cons_succ, List.set_cons_zero])
      refine heldOne (i := 8) (by kernel_rfl) ?_
      refine wpOp_runW (v := .agg (encN.cells p).toArray) (Nth.get nx) (by rfl) (run_loadRow (E := encN) (hL.own (base := w.heap.size) (e := 58) (v := .slice (some ⟨go, 0, none⟩) (out'.length + 1) co) (xs := out' ++ [p]) (.tail _ (.head _))) (by rfl) (by rfl) HP.out) ?_
      refine ⟨hL.box vM, ?_⟩
      (try simp only [Act.put, List.setIfInBounds_toArray, List.set_cons_succ, List.set_cons_zero])
      refine heldOne (i := 10) (by kernel_rfl) ?_
      refine heldCall (Nth.get nx) (by rfl) (enter2T Tryz.func32 (by kernel_rfl) (by kernel_rfl) (by rfl) (by rfl) (by rfl) (by rfl)) (join_inode p.s x.s p.d x.d _ (hL.nested hb0 (.tail _ (.tail _ (.tail _ (.head _)))) p (by simp)) ((HXM.out.1.below hb0).below hL.below) HPL.out.1 HPL.out.2) ?_
      rintro e w9 ⟨cq, rfl, hcq, hL9⟩
      replace hL := hL.takeAll hL9
      replace hL := hL.perm (List.perm_append_comm (l₁ := [_, _]) (l₂ := [_, _, _, _]))
      replace hL := hL.perm ((List.perm_append_comm (l₁ := [_, _, _]) (l₂ := [_, _, _])))
      replace hL := hL.perm (show List.Perm [_, _, _, _, _, _] [_, _, _, _, _, _] from (List.Perm.swap _ _ _).trans (((List.Perm.swap _ _ _).cons _)))
      obtain ⟨F2, hL⟩ := hL.nestNew hcq
      replace hL := hL.perm (List.perm_append_comm (l₁ := [_]) (l₂ := [_, _, _]))
      simp only [List.cons_append, List.nil_append] at hL
      refine ⟨_, rfl, hL.box vM, ?_⟩
      (try simp only [Act.put, List.setIfInBounds_toArray, List.set_cons_succ, List.set_cons_zero])
      refine tK (i := 11) (y := Yields.yieldsIf (y_index encN out'.length rfl rfl (by rfl) (by rfl) hin)) (s := hL.box vM) (z := ?_)
      (try simp only [Act.put, List.setIfInBounds_toArray, List.set_cons_succ, List.set_cons_zero])
      refine heldStoreRow (E := encN) (i := 12) (k := out'.length) (y := ⟨cq, p.d.one x.d⟩) nx (by kernel_rfl) rfl hL (.there _ (.here _)) rfl (by rfl) (by rfl) hlp ?_
      clear hL; intro w10 hL
      refine ⟨hL.box vM, ?_⟩
      (try simp only [Act.put, List.setIfInBounds_toArray, List.set_cons_succ, List.set_cons_zero])
      refine wpAnyH_done (by kernel_rfl) ?_ _
      go_wp2_with fail
      rw [HS.out] at hL
      replace hL := (hL.sub (.cons _ (.refl _))).nestSubAt (L' := out' ++ [(⟨cq, p.d.one x.d⟩ : Nd)]) (.there _ (.there _ (.here _))) (fun n hn => .inl (by
       rcases List.mem_append.1 hn with hn | hn
       ·exact .tail _ (List.mem_append.2 (.inl hn))
       ·rw [List.mem_singleton.1 hn]; exact .head _))
      go_roundw
      case rel => exact ⟨k + 1, _, out' ++ [⟨cq, p.d.one x.d⟩], F2, by omega, by go_num, rfl, kD (HF2.out cq), hL⟩
      case measure => simp [intOf]; omega
     ·have he : Stab.eqv InoD.lt p.d x.d = false := by
       cases h : Stab.eqv InoD.lt p.d x.d
       ·rfl
       ·have h1 := InoD.eqv_iff.1 h
        rw [← HPO.out.hd, ← HXM.out.1.hd] at h1
        exact absurd (Mk.cmps_0.2 h1) hb
      have HF2 : Hid (Stab.Folds InoD.lt id InoD.one ((L.take (k + 1)).map (·.d)) ((out' ++ [p] ++ [x]).map (·.d)) ∧ (out' ++ [p] ++ [x]).length ≤ k + 1 ∧ ∀ n ∈ out' ++ [p] ++ [x], n.d.ps.length ≤ B * (k + 1) ∧ n.d.xs.length ≤ B * (k + 1)) := kD ⟨by
       rw [HTS.out, List.map_append, List.map_append]
       rw [List.map_append] at hFx ⊢
       have hsr := HOF.out.sorted.sublist (List.take_sublist (k + 1) L)
       rw [HTS.out] at hsr
       refine hFx.runNew InoD.ord InoD.keeps (fun y hy => ?_) he
       obtain ⟨m, hm, rfl⟩ := List.mem_map.1 hy
       have h1 := (List.pairwise_append.1 hsr).2.2 m hm x (.head _)
       have h2 := (HOL.out m (List.mem_of_mem_take hm)).1.hd
       unfold SortN.ltf cf at h1
       rw [h2, HXM.out.1.hd] at h1
       exact h1, by simp; omega, fun n hn => by
       have h1 := HXM.out.2; have h2 := HBK.out.1
       rcases List.mem_append.1 hn with hn | hn
       ·have h4 := HF.out.2.2 n hn
        omega
       ·rw [List.mem_singleton.1 hn]; omega⟩
      have tz : (cf p x == 0) = false := by simpa using hb
      obtain ⟨r, hr⟩ : ∃ r, cf p x = r := ⟨_, rfl⟩
      rw [hr] at tz
      have HB := kD hr
      clear HF HTS hFx he hb hr hm hsub tg
      go_wp2_with (first
       | ((with_reducible refine qF rfl rfl ?_); refine lL rfl rfl rfl rfl hlt ?_)
       | ((with_reducible refine gate (N := 26) rfl ?_); refine lK rfl rfl rfl hz (by rfl) ?_)
       | ((with_reducible refine gate (N := 12) rfl ?_); (refine lI rfl hL rfl cy ?_; clear hL; intro g12 w12 hL)) | ((with_reducible refine qC rfl rfl ?_); (refine lG rfl hL rfl rfl rfl cy (by rfl) (by rfl) ?_); clear hL; intro wq hL))
      (try simp only [Act.put, List.setIfInBounds_toArray, List.set_cons_succ, List.set_cons_zero])
      refine wp_region_ext (by kernel_rfl) (by kernel_rfl) ?_
      repeat (first
       | (go_big_quiet_want; (first | refine qH hL rfl rfl vM (by rfl) ?_ | refine qG hL rfl rfl vM (by rfl) ?_ | refine qI hL rfl rfl vM SegC.seg ?_); go_big_quiet_on; simp only [Act.put, List.setIfInBounds_toArray, List.set_cons_succ, List.set_cons_zero])
       | (go_big_quiet_want; (first | refine qK (E := encN) (i := out'.length) rfl (by rfl) (by rfl) hin ?_ | refine qJ (E := encN) hL mx rfl (by rfl) HP.out ?_); go_big_quiet_on; simp only [Act.put, List.setIfInBounds_toArray, List.set_cons_succ, List.set_cons_zero])
       | go_big_quiet_step (first | (go_at_call 30; exact key_ext p x r HB.out)))
      refine wpQuiet_nil ?_
      rintro _ ⟨⟨wC, hbC⟩, rfl⟩
      replace hL := hL.call hbC
      clear hbC
      go_wp2_with (first
       | ((with_reducible refine gate (N := 56) rfl ?_); refine lM (cs := encN.cells x) rfl hL rfl rfl rfl (by kernel_rfl) ?_; clear hL; intro gL wq hL)
       | (at_builtin; refine ev_app1L (E := encN) (base := w.heap.size) (xs := out' ++ [p]) x rfl hL rfl rfl rfl mx (fun v' => .there _ (.there _ (.here _))) rfl rfl rfl (by simp; omega) hL.size ?_; clear hL; intro ao' c' wq hL)
       | ((with_reducible refine qB rfl rfl ?_); (refine lA rfl hL rfl rfl vM (by rfl) ?_)))
      go_roundw
      case rel => exact ⟨k + 1, _, out' ++ [p] ++ [x], F, by omega, by go_num, rfl, HF2, by simp only [List.length_append, List.length_cons, List.length_nil, Nat.zero_add] at hL; exact (hL.sub (.cons _ (.cons _ (.refl _)))).nestSubAt (.there _ (.there _ (.here _))) (fun n hn => (List.mem_append.1 hn).elim .inl fun hn => .inr (by rw [List.mem_singleton.1 hn]; exact HXM.out.1))⟩
      case measure => simp [intOf]; omega
   ·obtain rfl : k = n := by omega
    have HR : Hid (out.map (·.d) = nodesD ((xs ++ ys).map (·.d))) := kD (by
     have h1 := HF.out.1
     rw [← HN.out, List.take_length] at h1
     rw [← HZ.out]
     exact Stab.Folds.eq InoD.ord InoD.keeps ⟨h1.strict, fun z => by rw [h1.cls z, HCL.out z]⟩)
    have HE := kD HF.out.2.2
    have t0 : decide ((k : Int) < (k : Int)) = false := (by first | (simp; done) | (simp; omega))
    go_wp2
    go_ret
    exact ⟨_, rfl, F, out, by have h9 := HR.out; rw [List.map_append] at h9; exact h9, by rw [← HLL.out]; exact HE.out, hL.sub (.cons_cons _ (.cons _ (.refl _)))⟩
end Go.Proofs.YtebpacmhdkgfeaaGreat.MrgN

namespace Go.Proofs.YtebpacmhdkgfeaaGreat.MrgK
open Go.RowKit
set_option maxHeartbeats 4000000
theorem stableNil (w : World) (fv : Value) : Calls Tryz.prog 165 #[.slice none 0 0, .int .i64 0, fv] w fun e w' => e = .returned (.tuple #[]) ∧ w' = w := by
 have t1 : decide ((20 : Int) ≤ 0) = false := by decide
 have t2 : decide ((20 : Int) < 0) = false := by decide
 go_enter Tryz.func165, Tryz.ntmps165
 go_wp2
 go_loopw [7, 8] (fun a b wr => a = .int .i64 0 ∧ b = .int .i64 20 ∧ wr = w) (fun _ _ _ => 0)
 case atStart => exact ⟨rfl, rfl, rfl⟩
 case round =>
  obtain ⟨rfl, rfl, rfl⟩ := hrel
  go_wp2_with (go_at_call 199; (with_reducible refine (SortK.insertionNil _ fv).mono ?_); rintro e w3 ⟨rfl, rfl⟩)
  go_loopw [6] (fun a wr => a = .int .i64 20 ∧ wr = w3) (fun _ _ => 0)
  case atStart => exact ⟨rfl, rfl⟩
  case round =>
   obtain ⟨rfl, rfl⟩ := hrel
   go_wp2
   go_end0
   exact ⟨rfl, rfl⟩
theorem sortNil (w : World) (fv : Value) : Calls Tryz.prog 87 #[.slice none 0 0, fv] w fun e w' => e = .returned (.tuple #[]) ∧ w' = w := by
 go_enter Tryz.func87, Tryz.ntmps87
 go_wp2_with (go_at_call 165; (with_reducible refine (stableNil _ fv).mono ?_); rintro e w3 ⟨rfl, rfl⟩)
 go_end0
 exact ⟨rfl, rfl⟩
abbrev cf (x y : Lnk) : Int := x.id.cmps y.id
theorem cmpOk (w : World) (g : Nat) : SortK.CmpOk encK 34 #[] cf w g := fun x y w' _ => join_States_2 x y w'
theorem sorted (w : World) (base g n c : Nat) (xs : List Lnk) (h : SortK.Own encK w base g n c xs) (hn : n = xs.length) (hmax : n ≤ 1000000000) :
  Calls Tryz.prog 87 #[.slice (some ⟨g, 0, none⟩) n c, .func (.func 34) #[] #[]] w fun e w' => e = .returned (.tuple #[]) ∧ ∃ L, Stab.Of Lnk.lt xs L ∧ Loc w (· = g) w' [SortK.it encK base g n c L] :=
 SortK.sortStable encK _ #[] cf (fun args w => enters Tryz.func34 (by kernel_rfl) (by kernel_rfl) args w) Lnk.ord w base g n c xs (cmpOk w g) h hn hmax
theorem key_ext {W : World} {e : Ext W} (x y : Lnk) (r : Int) (h : cf x y = r) : Calls Tryz.prog 34 #[.agg (encK.cells x).toArray, .agg (encK.cells y).toArray] e.w fun en w'' => en = .returned (.int .i64 r) ∧ ∃ z : Ext W, w'' = z.w :=
 h ▸ calls_ext (join_States_2 x y e.w)
theorem one_ext {W : World} {e : Ext W} (x y z : Lnk) (h : Lnk.one x y = z) : Calls Tryz.prog 35 #[.agg (encK.cells x).toArray, .agg (encK.cells y).toArray] e.w fun en w'' => en = .returned (.agg (encK.cells z).toArray) ∧ ∃ z : Ext W, w'' = z.w :=
 h ▸ calls_ext ((join_link x y e.w).mono fun _ _ ⟨⟨c, e1, e2⟩, hb⟩ => by subst e1; exact ⟨e2, hb⟩)
set_option maxRecDepth 20000 in
theorem merged (v1 v2 : Value) (xs ys : List Lnk) (w : World) (h1 : encK.R w v1 xs) (h2 : encK.R w v2 ys) (hn : xs.length + ys.length ≤ 100000000) :
  Calls Tryz.prog 33 #[v1, v2, .func (.func 34) #[] #[], .func (.func 35) #[] #[]] w fun e w' => ∃ u, e = .returned u ∧ Loc w NoM w' [row encK w.heap.size 46 u (linksD (xs ++ ys))] := by
 have hL := Loc.nil w NoM
 obtain ⟨a1, c1, rfl, -⟩ := R_elem h1
 obtain ⟨a2, c2, rfl, -⟩ := R_elem h2
 have H1 := kD h1
 have H2 := kD h2
 clear h1 h2
 go_enter Tryz.func33, Tryz.ntmps33
 go_wp2_with (first
  | ((with_reducible refine gate (N := 16) rfl ?_); refine lM (cs := [.slice a1 xs.length c1, .slice a2 ys.length c2]) rfl hL rfl rfl rfl (by kernel_rfl) ?_; clear hL; intro g1 wq hL)
  | (go_at_call 86; have hq := ConcatK.concat (.slice (some ⟨g1, 0, none⟩) 2 2) [⟨a1, xs.length, c1⟩, ⟨a2, ys.length, c2⟩] [xs, ys] _ (R_box (E := encSl) (t := 25) [⟨a1, xs.length, c1⟩, ⟨a2, ys.length, c2⟩] (hL.box mx) rfl (by simp)) rfl (two_rows (H1.out.below hL.below) (H2.out.below hL.below)) (by simp; omega) (by simp); (with_reducible refine hq.mono ?_); rintro e w1 ⟨u, rfl, hL1⟩; replace hL := (hL.takeRow hL1).sub (.cons_cons _ (List.nil_sublist _)); clear hq hL1; refine stop ?_))
 unfold Stop
 obtain ⟨zs, hzs⟩ : ∃ zs, zs = [xs, ys].flatten := ⟨_, rfl⟩
 rw [← hzs] at hL
 have HZ : Hid (zs = xs ++ ys) := kD (by rw [hzs]; simp)
 have hln : zs.length ≤ 100000000 := by rw [HZ.out]; simpa using hn
 clear H1 H2 hn hzs
 rcases own_casesG hL with ⟨rfl, rfl⟩ | ⟨g, c, rfl, hc1, hc2, hg⟩
 ·replace hL := (hL.sub (List.nil_sublist _)).rowNil' encK w.heap.size 46
  go_wp2_with (first
   | (go_at_call 87; (with_reducible refine (sortNil _ _).mono ?_); rintro e w3 ⟨rfl, rfl⟩))
  go_loopw [9, 23] (fun s i wr => s = .slice none 0 0 ∧ i = .int .i64 0 ∧ Loc w NoM wr [row encK w.heap.size 46 (.slice none 0 0) []]) (fun _ _ _ => 0)
  case atStart => exact ⟨rfl, rfl, hL⟩
  case round =>
   clear hL
   obtain ⟨rfl, rfl, hL⟩ := hrel
   go_wp2
   go_ret
   refine ⟨_, rfl, ?_⟩
   rw [← HZ.out]
   exact hL
 ·have hs := kD (sorted w1 w.heap.size g zs.length c zs (hL.own (E := encK) (.head _)) rfl (by omega))
  have HL := kD hL
  clear hL
  go_wp2_with (first
   | (go_at_call 87; (with_reducible refine hs.out.mono ?_); rintro e w3 ⟨rfl, L, hO, hL3⟩; have HOF := kD hO; have hL := HL.out.thenRowG hL3 hg; clear hL3 hs HL hO))
  replace hL := hL.rowNil' encK w.heap.size 46
  have HN : Hid (L.length = zs.length) := kD HOF.out.len
  generalize zs.length = n at *
  go_loopw [9, 23] (fun s i wr => ∃ (k : Nat) (vs : Value) (out : List Lnk), k ≤ n ∧ i = .int .i64 k ∧ s = vs ∧ Hid (Stab.Folds Lnk.lt _root_.id Lnk.one (L.take k) out ∧ out.length ≤ k) ∧ Loc w NoM wr [row encK w.heap.size 46 vs out, row encK w.heap.size 46 (.slice (some ⟨g, 0, none⟩) n c) L]) (fun _ i _ => n - (intOf i).toNat)
  case atStart => exact ⟨0, _, [], by omega, rfl, rfl, kD ⟨.nil _ _, by simp⟩, hL⟩
  case round =>
   clear hL
   obtain ⟨k, vs, out, hk, rfl, rfl, HF, hL⟩ := hrel
   by_cases hlt : k < n
   ·have t0 : decide ((k : Int) < (n : Int)) = true := (by first | (simp; done) | (simp; omega))
    have hkl : k < L.length := by have := HN.out; omega
    obtain ⟨x, hx⟩ : ∃ x, L[k]? = some x := ⟨_, List.getElem?_eq_getElem hkl⟩
    have hz : wr.rangeAt g (0 + k * 25) (encK.cells x) := by
     have := row_range (hL.own (E := encK) (.tail _ (.head _))) hx
     rwa [show k * encK.sz = 0 + k * 25 from by show k * 25 = _; omega] at this
    have HX := kD hx
    have HTS := kD (Stab.take_snoc' hx)
    clear hx hkl
    obtain ⟨ao, co, rfl, -⟩ := R_elem (hL.own (E := encK) (.head _)).read
    rcases Stab.nil_or_snoc out with rfl | ⟨out', p, rfl⟩
    ·-- the first
     have HF2 : Hid (Stab.Folds Lnk.lt _root_.id Lnk.one (L.take (k + 1)) [x] ∧ [x].length ≤ k + 1) := kD (by
      rw [HTS.out]
      have h0 : L.take k = [] := by
       cases h : L.take k with
       | nil => rfl
       | cons a t => obtain ⟨p, hp, -⟩ := HF.out.1.has Lnk.ord (show a ∈ L.take k by rw [h]; exact .head _); cases hp
      rw [h0]
      exact ⟨(Stab.Folds.nil _root_.id Lnk.one).insNew (k1 := []) (k2 := []) Lnk.ord Lnk.keeps (fun _ h => by cases h) (fun _ h => by cases h), by simp⟩)
     clear HF HTS
     go_wp2_with (first
      | ((with_reducible refine qF rfl rfl ?_); refine lL rfl rfl rfl rfl hlt ?_)
      | ((with_reducible refine gate (N := 26) rfl ?_); refine lK rfl rfl rfl hz (by rfl) ?_)
      | ((with_reducible refine gate (N := 12) rfl ?_); (refine lI rfl hL rfl cy ?_; clear hL; intro g12 w12 hL)) | ((with_reducible refine qC rfl rfl ?_); (refine lG rfl hL rfl rfl rfl cy (by rfl) (by rfl) ?_); clear hL; intro wq hL))
     (try simp only [Act.put, List.setIfInBounds_toArray, List.set_cons_succ, List.set_cons_zero])
     refine wp_region_ext (by kernel_rfl) (by kernel_rfl) ?_
     repeat (first | (go_big_quiet_want; (first | refine qH hL rfl rfl vM (by rfl) ?_ | refine qG hL rfl rfl vM (by rfl) ?_ | refine qI hL rfl rfl vM SegC.seg ?_); go_big_quiet_on; simp only [Act.put, List.setIfInBounds_toArray, List.set_cons_succ, List.set_cons_zero]) | go_big_quiet_step (fail))
     refine wpQuiet_nil ?_
     rintro _ ⟨⟨wC, hbC⟩, rfl⟩
     replace hL := hL.call hbC
     clear hbC
     go_wp2_with (first
      | ((with_reducible refine gate (N := 56) rfl ?_); refine lM (cs := encK.cells x) rfl hL rfl rfl rfl (by kernel_rfl) ?_; clear hL; intro gL wq hL)
      | (at_builtin; refine ev_app1L (E := encK) (base := w.heap.size) (xs := []) x rfl hL rfl rfl rfl mx (fun v' => .there _ (.there _ (.here _))) rfl rfl rfl (by simp) hL.size ?_; clear hL; intro ao' c' wq hL)
      | ((with_reducible refine qB rfl rfl ?_); (refine lA rfl hL rfl rfl vM (by rfl) ?_)))
     go_roundw
     case rel => exact ⟨k + 1, _, [x], by omega, by go_num, rfl, HF2, hL.sub (by repeat (first | exact List.nil_sublist _ | apply List.Sublist.cons_cons | apply List.Sublist.cons))⟩
     case measure => simp [intOf]; omega
    ·have hlen : ((out' ++ [p]).length : Nat) = out'.length + 1 := by simp
     have hm := HF.out.2
     rw [hlen] at hm hL
     have HP : Hid ((out' ++ [p])[out'.length]? = some p) := kD (by simp)
     rcases own_casesG hL with ⟨e1, e2⟩ | ⟨go, c3, e1, -, -, hgo⟩
     ·simp at e2
     injection e1 with e1 e2 e3
     subst e1 e3
     clear e2 hlen
     have hin : out'.length < out'.length + 1 := by omega
     have hsub : ((out'.length + 1 : Nat) : Int) - 1 = (out'.length : Nat) := by omega
     have tg : decide (((out'.length + 1 : Nat) : Int) > 0) = true := (by first | (simp; done) | (simp; omega))
     have hFx := HF.out.1
     have hm0 : (0 : Int) ≤ (out'.length : Int) := by omega
     have hm1 : (out'.length : Int) ≤ 100000000 := by omega
     have hm2 : (out'.length : Int) + 1 ≤ 100000001 := by omega
     by_cases hb : cf p x = 0
     ·have he : Stab.eqv Lnk.lt p x = true := by
       exact Lnk.eqv_iff.2 (Mk.cmps_0.1 hb)
      have HF2 : Hid (Stab.Folds Lnk.lt _root_.id Lnk.one (L.take (k + 1)) (out' ++ [Lnk.one p x]) ∧ (out' ++ [Lnk.one p x]).length ≤ k + 1) := kD ⟨by rw [HTS.out]; exact hFx.runOld Lnk.ord Lnk.keeps he, by simp; omega⟩
      have HS : Hid ((out' ++ [p]).set out'.length (Lnk.one p x) = out' ++ [Lnk.one p x]) := kD (by simp)
      have hlp : out'.length < (out' ++ [p]).length := by simp
      obtain ⟨q, hq⟩ : ∃ q, Lnk.one p x = q := ⟨_, rfl⟩
      rw [hq] at HF2 HS
      have HQ := kD hq
      have HB := kD hb
      clear HF HTS hFx he hb hq hm hsub tg
      go_wp2_with (first
       | ((with_reducible refine qF rfl rfl ?_); refine lL rfl rfl rfl rfl hlt ?_)
       | ((with_reducible refine gate (N := 26) rfl ?_); refine lK rfl rfl rfl hz (by rfl) ?_)
       | ((with_reducible refine gate (N := 12) rfl ?_); (refine lI rfl hL rfl cy ?_; clear hL; intro g12 w12 hL)) | ((with_reducible refine qC rfl rfl ?_); (refine lG rfl hL rfl rfl rfl cy (by rfl) (by rfl) ?_); clear hL; intro wq hL))
      (try simp only [Act.put, List.setIfInBounds_toArray, List.set_cons_succ, List.set_cons_zero])
      refine wp_region_ext (by kernel_rfl) (by kernel_rfl) ?_
      repeat (first
       | (go_big_quiet_want; (first | refine qH hL rfl rfl vM (by rfl) ?_ | refine qG hL rfl rfl vM (by rfl) ?_ | refine qI hL rfl rfl vM SegC.seg ?_); go_big_quiet_on; simp only [Act.put, List.setIfInBounds_toArray, List.set_cons_succ, List.set_cons_zero])
       | (go_big_quiet_want; (first | refine qK (E := encK) (i := out'.length) rfl (by rfl) (by rfl) hin ?_ | refine qJ (E := encK) hL mx rfl (by rfl) HP.out ?_); go_big_quiet_on; simp only [Act.put, List.setIfInBounds_toArray, List.set_cons_succ, List.set_cons_zero])
       | go_big_quiet_step (first | (go_at_call 34; exact key_ext p x 0 HB.out)))
      refine wpQuiet_nil ?_
      rintro _ ⟨⟨wC, hbC⟩, rfl⟩
      replace hL := hL.call hbC
      clear hbC
      go_wp2_with fail
      (try simp only [Act.put, List.setIfInBounds_toArray, List.set_cons_succ, List.set_cons_zero])
      refine region_qtail 12 (by kernel_rfl) hL (by kernel_rfl) ?_
      clear hL
      intro w8 hL
      simp only [List.take_succ_cons, List.take_zero, List.drop_succ_cons, List.drop_zero]
      repeat (first
       | (go_big_quiet_want; (first | refine qH hL rfl rfl vM (by rfl) ?_ | refine qG hL rfl rfl vM (by rfl) ?_ | refine qI hL rfl rfl vM SegC.seg ?_); go_big_quiet_on; simp only [Act.put, List.setIfInBounds_toArray, List.set_cons_succ, List.set_cons_zero])
       | (go_big_quiet_want; (first | refine qK (E := encK) (i := out'.length) rfl (by rfl) (by rfl) hin ?_ | refine qJ (E := encK) hL mx rfl (by rfl) HP.out ?_); go_big_quiet_on; simp only [Act.put, List.setIfInBounds_toArray, List.set_cons_succ, List.set_cons_zero])
       | go_big_quiet_step (first | (go_at_call 35; exact one_ext p x q HQ.out)))
      refine wpQuiet_nil ?_
      rintro _ ⟨⟨w9, hb9⟩, rfl⟩
      replace hL := hL.call hb9
      clear hb9
      go_wp2_with (first
       | ((with_reducible refine qC rfl rfl ?_); refine ev_setRow (E := encK) (i := out'.length) q rfl hL rfl rfl rfl rfl (cells_agg _ rfl) hlp (.there _ (.here _)) ?_; clear hL; intro wq hL))
      rw [HS.out] at hL
      go_roundw
      case rel => exact ⟨k + 1, _, out' ++ [q], by omega, by go_num, rfl, HF2, hL.sub (by repeat (first | exact List.nil_sublist _ | apply List.Sublist.cons_cons | apply List.Sublist.cons))⟩
      case measure => simp [intOf]; omega
     ·have he : Stab.eqv Lnk.lt p x = false := by
       cases h : Stab.eqv Lnk.lt p x
       ·rfl
       ·exact absurd (Mk.cmps_0.2 (Lnk.eqv_iff.1 h)) hb
      have HF2 : Hid (Stab.Folds Lnk.lt _root_.id Lnk.one (L.take (k + 1)) (out' ++ [p] ++ [x]) ∧ (out' ++ [p] ++ [x]).length ≤ k + 1) := kD ⟨by
       rw [HTS.out]
       have hsr := HOF.out.sorted.sublist (List.take_sublist (k + 1) L)
       rw [HTS.out] at hsr
       exact hFx.runNew Lnk.ord Lnk.keeps (fun y hy => (List.pairwise_append.1 hsr).2.2 y hy x (.head _)) he, by simp; omega⟩
      have tz : (cf p x == 0) = false := by simpa using hb
      obtain ⟨r, hr⟩ : ∃ r, cf p x = r := ⟨_, rfl⟩
      rw [hr] at tz
      have HB := kD hr
      clear HF HTS hFx he hb hr hm hsub tg
      go_wp2_with (first
       | ((with_reducible refine qF rfl rfl ?_); refine lL rfl rfl rfl rfl hlt ?_)
       | ((with_reducible refine gate (N := 26) rfl ?_); refine lK rfl rfl rfl hz (by rfl) ?_)
       | ((with_reducible refine gate (N := 12) rfl ?_); (refine lI rfl hL rfl cy ?_; clear hL; intro g12 w12 hL)) | ((with_reducible refine qC rfl rfl ?_); (refine lG rfl hL rfl rfl rfl cy (by rfl) (by rfl) ?_); clear hL; intro wq hL))
      (try simp only [Act.put, List.setIfInBounds_toArray, List.set_cons_succ, List.set_cons_zero])
      refine wp_region_ext (by kernel_rfl) (by kernel_rfl) ?_
      repeat (first
       | (go_big_quiet_want; (first | refine qH hL rfl rfl vM (by rfl) ?_ | refine qG hL rfl rfl vM (by rfl) ?_ | refine qI hL rfl rfl vM SegC.seg ?_); go_big_quiet_on; simp only [Act.put, List.setIfInBounds_toArray, List.set_cons_succ, List.set_cons_zero])
       | (go_big_quiet_want; (first | refine qK (E := encK) (i := out'.length) rfl (by rfl) (by rfl) hin ?_ | refine qJ (E := encK) hL mx rfl (by rfl) HP.out ?_); go_big_quiet_on; simp only [Act.put, List.setIfInBounds_toArray, List.set_cons_succ, List.set_cons_zero])
       | go_big_quiet_step (first | (go_at_call 34; exact key_ext p x r HB.out)))
      refine wpQuiet_nil ?_
      rintro _ ⟨⟨wC, hbC⟩, rfl⟩
      replace hL := hL.call hbC
      clear hbC
      go_wp2_with (first
       | ((with_reducible refine gate (N := 56) rfl ?_); refine lM (cs := encK.cells x) rfl hL rfl rfl rfl (by kernel_rfl) ?_; clear hL; intro gL wq hL)
       | (at_builtin; refine ev_app1L (E := encK) (base := w.heap.size) (xs := out' ++ [p]) x rfl hL rfl rfl rfl mx (fun v' => .there _ (.there _ (.here _))) rfl rfl rfl (by simp; omega) hL.size ?_; clear hL; intro ao' c' wq hL)
       | ((with_reducible refine qB rfl rfl ?_); (refine lA rfl hL rfl rfl vM (by rfl) ?_)))
      go_roundw
      case rel => exact ⟨k + 1, _, out' ++ [p] ++ [x], by omega, by go_num, rfl, HF2, by simp only [List.length_append, List.length_cons, List.length_nil, Nat.zero_add] at hL; exact hL.sub (by repeat (first | exact List.nil_sublist _ | apply List.Sublist.cons_cons | apply List.Sublist.cons))⟩
      case measure => simp [intOf]; omega
   ·obtain rfl : k = n := by omega
    have HR : Hid (out = linksD zs) := kD (by
     have h1 := HF.out.1
     rw [← HN.out, List.take_length] at h1
     exact (h1.of HOF.out).eq Lnk.ord Lnk.keeps)
    rw [HR.out, HZ.out] at hL
    have t0 : decide ((k : Int) < (k : Int)) = false := (by first | (simp; done) | (simp; omega))
    go_wp2
    go_ret
    exact ⟨_, rfl, hL.sub (.cons_cons _ (List.nil_sublist _))⟩
end Go.Proofs.YtebpacmhdkgfeaaGreat.MrgK

namespace Go.Proofs.YtebpacmhdkgfeaaGreat
open Go.RowKit
set_option maxHeartbeats 8000000
set_option maxRecDepth 20000
theorem norm_step {D E : List InoD} {k : Nat} {x : InoD} (h : E = (D.take k).map InoD.norm ++ D.drop k) (hk : k < D.length) (hx : E[k]? = some x) : E.set k x.norm = (D.take (k + 1)).map InoD.norm ++ D.drop (k + 1) := by
 have hl : ((D.take k).map InoD.norm).length = k := by simp; omega
 have hd : D.drop k = D[k] :: D.drop (k + 1) := List.drop_eq_getElem_cons hk
 have e1 : x = D[k] := by
  rw [h, List.getElem?_append_right (by omega), hl, hd, Nat.sub_self] at hx
  simp only [List.getElem?_cons_zero, Option.some.injEq] at hx
  exact hx.symm
 rw [h, List.set_append_right _ _ (by omega), hl, hd, e1, ← List.take_append_getElem hk, Nat.sub_self]
 simp only [List.set_cons_zero, List.map_append, List.map_cons, List.map_nil, List.append_assoc, List.singleton_append]
theorem join_States0 (s t : Sta) (ds dt : StaD) (w00 w : World) (hb00 : Below w00.heap.size w00 w) (hs : s.Ok w00 ds) (ht : t.Ok w00 dt) (B : Nat) (hB : ∀ n ∈ ds.nodes ++ dt.nodes, n.ps.length ≤ B ∧ n.xs.length ≤ B) (hn : ds.nodes.length + dt.nodes.length ≤ 1000000) (hBn : B * (ds.nodes.length + dt.nodes.length) ≤ 100000000) (hl : ds.links.length + dt.links.length ≤ 100000000) :
  Calls Tryz.prog 10 #[.agg (Sta.cells s).toArray, .agg (Sta.cells t).toArray] w fun e w' => ∃ r : Sta, e = .returned (.agg (Sta.cells r).toArray) ∧ r.seen = (ds.join dt).seen ∧ ∃ F L, L.map (·.d) = (ds.join dt).nodes ∧ (∀ n ∈ L, n.d.ps.length ≤ B * (ds.nodes.length + dt.nodes.length) ∧ n.d.xs.length ≤ B * (ds.nodes.length + dt.nodes.length)) ∧
   Loc w NoM w' [row encN w.heap.size 58 r.nodes.val L, row encK w.heap.size 46 r.links.val (ds.join dt).links, nest w00 F L] := by
 have hL := Loc.nil w NoM
 obtain ⟨sv, ⟨a1, n1, c1⟩, ⟨a2, n2, c2⟩⟩ := s
 obtain ⟨tv, ⟨b1, m1, e1⟩, ⟨b2, m2, e2⟩⟩ := t
 obtain ⟨sv', dn, dl⟩ := ds
 obtain ⟨tv', en, el⟩ := dt
 obtain ⟨h1, ⟨ns, hns, hno, hnd⟩, hlk⟩ := hs
 obtain ⟨h2, ⟨ms, hms, hmo, hmd⟩, hmk⟩ := ht
 simp only at h1 h2 hnd hmd hns hms hlk hmk hB hn hBn hl
 subst h1 h2 hnd hmd
 have H1 := kD hns; have H2 := kD hms; have H3 := kD hlk; have H4 := kD hmk
 have HLEN : Hid (ns.length + ms.length = (ns.map (·.d)).length + (ms.map (·.d)).length) := kD (by simp)
 have HNO : Hid (∀ n ∈ ns ++ ms, n.s.Ok w00 n.d) := kD fun n hn => (List.mem_append.1 hn).elim (hno n) (hmo n)
 have HBO : Hid (∀ n ∈ ns ++ ms, n.d.ps.length ≤ B ∧ n.d.xs.length ≤ B) := kD fun n hn => hB n.d ((List.mem_append.1 hn).elim (fun h => List.mem_append.2 (.inl (List.mem_map.2 ⟨n, h, rfl⟩))) fun h => List.mem_append.2 (.inr (List.mem_map.2 ⟨n, h, rfl⟩)))
 rw [← HLEN.out] at hn hBn
 have HSJ : Hid ((StaD.join ⟨sv, ns.map (·.d), dl⟩ ⟨tv, ms.map (·.d), el⟩).seen = sv.join tv) := kD rfl
 have HNJ : Hid ((StaD.join ⟨sv, ns.map (·.d), dl⟩ ⟨tv, ms.map (·.d), el⟩).nodes = (nodesD ((ns ++ ms).map (·.d))).map InoD.norm) := kD (by rw [List.map_append]; rfl)
 have HLJ : Hid ((StaD.join ⟨sv, ns.map (·.d), dl⟩ ⟨tv, ms.map (·.d), el⟩).links = linksD (dl ++ el)) := kD rfl
 rw [← HLEN.out]
 generalize StaD.join ⟨sv, ns.map (·.d), dl⟩ ⟨tv, ms.map (·.d), el⟩ = dj at *
 have hvj := kD (fun wx => vec_join sv tv wx)
 have HBN : Hid (B * (ns.length + ms.length) ≤ 100000000) := kD hBn
 clear hns hms hno hmo hlk hmk hB hBn HLEN
 unfold Sta.cells
 simp only
 go_enter Tryz.func10, Tryz.ntmps10
 go_wp2_with (first
  | ((with_reducible refine gate (N := 2) rfl ?_); (refine lJ rfl hL rfl rfl cy ?_; clear hL; intro g2 w2 hL)) | ((with_reducible refine gate (N := 3) rfl ?_); (refine lJ rfl hL rfl rfl cy ?_; clear hL; intro g3 w3 hL)) | ((with_reducible refine gate (N := 4) rfl ?_); (refine lI rfl hL rfl cy ?_; clear hL; intro g4 w4 hL)) | ((with_reducible refine gate (N := 5) rfl ?_); (refine lI rfl hL rfl cy ?_; clear hL; intro g5 w5 hL))
  | (go_at_call 28; (with_reducible refine (hvj.out _).mono ?_); rintro e w8 ⟨⟨sj, esj, rfl⟩, hb8⟩; have HSE := kD esj; clear esj; have hL := hL.call hb8; clear hb8)
  | (go_at_call 29; have hq := MrgN.merged (.slice a1 n1 c1) (.slice b1 m1 e1) ns ms _ ((H1.out.below hb00).below hL.below) ((H2.out.below hb00).below hL.below) w00 (hb00.trans (hL.below.mono hb00.size)) HNO.out B HBO.out hn HBN.out; (with_reducible refine hq.mono ?_); rintro e w9 ⟨u9, rfl, F, L, hLd, hLb, hL9⟩; replace hL := hL.takeAll (hL9.weakRow hL.size); simp only [List.cons_append, List.nil_append] at hL; have HLD := kD hLd; have HLB := kD hLb; clear hq hL9 hLd hLb; obtain ⟨ao, c, rfl, -⟩ := R_elem (hL.own (E := encN) (.head _)).read)
  | (go_at_call 33; have hq := MrgK.merged (.slice a2 n2 c2) (.slice b2 m2 e2) dl el _ ((H3.out.below hb00).below hL.below) ((H4.out.below hb00).below hL.below) hl; (with_reducible refine hq.mono ?_); rintro e w10 ⟨u10, rfl, hL10⟩; replace hL := hL.takeRow hL10; clear hq hL10; obtain ⟨lo, lc, rfl, -⟩ := R_elem (hL.own (E := encK) (.head _)).read)
  | ((with_reducible refine qB rfl rfl ?_); (first | (refine lC rfl hL rfl rfl vM (by rfl) ?_) | (refine lF rfl hL rfl rfl vM SegC.seg ?_))) | ((with_reducible refine qC rfl rfl ?_); (refine lH rfl hL rfl rfl rfl cy (by rfl) ?_); clear hL; intro wq hL))
 replace hL := hL.sub (l' := [row encK w.heap.size 46 (.slice lo (linksD (dl ++ el)).length lc) (linksD (dl ++ el)), row encN w.heap.size 58 (.slice ao L.length c) L, nest w00 F L, var g5 [.int .i64 sj.a0, .int .i64 sj.a1, .int .i64 sj.a2, .int .i64 sj.a3, .int .i64 sj.a4, .int .i64 sj.a5, .int .i64 sj.a6, .int .i64 sj.a7, .slice ao L.length c, .slice lo (linksD (dl ++ el)).length lc] 27, var g4 [.int .i64 0, .int .i64 0, .int .i64 0, .int .i64 0, .int .i64 0, .int .i64 0, .int .i64 0, .int .i64 0, .slice none 0 0, .slice none 0 0] 27]) (by repeat (first | exact List.nil_sublist _ | apply List.Sublist.cons_cons | apply List.Sublist.cons))
 go_loopw [29] (fun iv wr => ∃ (k : Nat) (L' : List Nd) (F' : Nat → Prop), k ≤ L.length ∧ iv = .int .i64 k ∧ Hid (L'.map (·.d) = ((L.map (·.d)).take k).map InoD.norm ++ (L.map (·.d)).drop k ∧ ∀ n ∈ L', n.d.ps.length ≤ B * (ns.length + ms.length) ∧ n.d.xs.length ≤ B * (ns.length + ms.length)) ∧
  Loc w NoM wr [row encK w.heap.size 46 (.slice lo (linksD (dl ++ el)).length lc) (linksD (dl ++ el)), row encN w.heap.size 58 (.slice ao L.length c) L', nest w00 F' L', var g5 [.int .i64 sj.a0, .int .i64 sj.a1, .int .i64 sj.a2, .int .i64 sj.a3, .int .i64 sj.a4, .int .i64 sj.a5, .int .i64 sj.a6, .int .i64 sj.a7, .slice ao L.length c, .slice lo (linksD (dl ++ el)).length lc] 27, var g4 [.int .i64 0, .int .i64 0, .int .i64 0, .int .i64 0, .int .i64 0, .int .i64 0, .int .i64 0, .int .i64 0, .slice none 0 0, .slice none 0 0] 27]) (fun iv _ => L.length - (intOf iv).toNat)
 case atStart => exact ⟨0, L, F, by omega, rfl, kD ⟨by simp, HLB.out⟩, hL⟩
 case round =>
  clear hL
  obtain ⟨k, L', F', hk, rfl, HF, hL⟩ := hrel
  have HLL : Hid (L'.length = L.length) := kD (by have := congrArg List.length HF.out.1; simp at this; omega)
  by_cases hlt : k < L.length
  ·have t0 : decide ((k : Int) < (L.length : Int)) = true := (by first | (simp; done) | (simp; omega))
   have hkl : k < L'.length := by have := HLL.out; omega
   have hmx := R_max (hL.own (E := encN) (.tail _ (.head _))).read
   have hk1 : (k : Int) + 1 ≤ 9223372036854775807 := by omega
   have hk0 : (0 : Int) ≤ (k : Int) := by omega
   clear hmx
   obtain ⟨x, hx⟩ : ∃ x, L'[k]? = some x := ⟨_, List.getElem?_eq_getElem hkl⟩
   rcases own_casesM hL (.tail _ (.head _)) with ⟨u1, u2⟩ | ⟨go, c3, u1, -, -, hgo⟩
   ·rw [u2] at hkl; exact absurd hkl (by simp)
   injection u1 with u1 u2 u3
   subst u1 u3
   clear u2
   have hz : wr.rangeAt go (0 + k * 13) (Ino.cells x.s) := by
    have := row_range (hL.own (E := encN) (.tail _ (.head _))) (y := x) (i := k) hx
    rwa [show k * encN.sz = 0 + k * 13 from by show k * 13 = _; omega] at this
   have HX := kD hx
   have HXM := kD (List.mem_of_getElem? hx)
   have HXB := kD (show x.d.ps.length ≤ 100000000 ∧ x.d.xs.length ≤ 100000000 from by
    have h1 := HF.out.2 x HXM.out; have h2 := HBN.out; omega)
   have HLK : Hid (k < L'.length) := kD hkl
   clear hx hkl
   unfold Ino.cells at hz
   go_wp2_with (first
    | ((with_reducible refine qF rfl rfl ?_); refine lL rfl rfl rfl rfl hlt ?_)
    | ((with_reducible refine gate (N := 33) rfl ?_); refine lK rfl rfl rfl hz (by rfl) ?_)
    | ((with_reducible refine gate (N := 7) rfl ?_); (refine lI rfl hL rfl cy ?_; clear hL; intro g7 w7 hL)) | ((with_reducible refine qC rfl rfl ?_); (refine lH rfl hL rfl rfl rfl cy (by rfl) ?_); clear hL; intro wq hL))
   (try simp only [Act.put, zs, zt, zu])
   refine region_held (fun wx => Box wx g5 ([.int .i64 sj.a0, .int .i64 sj.a1, .int .i64 sj.a2, .int .i64 sj.a3, .int .i64 sj.a4, .int .i64 sj.a5, .int .i64 sj.a6, .int .i64 sj.a7, .slice (some ⟨go, 0, none⟩) L.length c, .slice lo (linksD (dl ++ el)).length lc] : List Value).toArray 27 ∧ Box wx g7 ([.int .i64 x.s.hd.id.boot, .int .i64 x.s.hd.id.n, .int .i64 x.s.hd.kind, .string x.s.hd.text, .int .i64 x.s.hd.attr.at_.boot, .int .i64 x.s.hd.attr.at_.n, .int .i64 x.s.hd.attr.mode, .int .u64 x.s.hd.attr.time, .int .i64 x.s.hd.size.at_.boot, .int .i64 x.s.hd.size.at_.n, .int .i64 x.s.hd.size.n, .slice x.s.p.a x.s.p.n x.s.p.c, .slice x.s.x.a x.s.x.n x.s.x.c] : List Value).toArray 58) (by kernel_rfl) hL ?_
   clear hL
   intro w8 hL
   refine tK (i := 0) (y := y_pure (v := .pointer (some ⟨g5, 8, none⟩)) (by rfl) (fun w => by simp [execOp, Instr.fieldAt, go_sem])) (s := ⟨hL.box vM, hL.box vM⟩) (z := ?_)
   (try simp only [Act.put, zs, zt, zu])
   refine tK (i := 1) (y := y_loadCell (fun _ h => h.1) (by rfl) (by rfl) (by rfl) (by infer_instance) (by rfl)) (s := ⟨hL.box vM, hL.box vM⟩) (z := ?_)
   (try simp only [Act.put, zs, zt, zu])
   refine tK (i := 2) (y := y_moveG (.int .i64 (k : Int)) (by rfl) rfl (by rfl)) (s := ⟨hL.box vM, hL.box vM⟩) (z := ?_)
   (try simp only [Act.put, zs, zt, zu])
   refine tK (i := 3) (y := y_pure (v := .pointer (some ⟨g5, 8, none⟩)) (by rfl) (fun w => by simp [execOp, Instr.fieldAt, go_sem])) (s := ⟨hL.box vM, hL.box vM⟩) (z := ?_)
   (try simp only [Act.put, zs, zt, zu])
   refine tK (i := 4) (y := y_loadCell (fun _ h => h.1) (by rfl) (by rfl) (by rfl) (by infer_instance) (by rfl)) (s := ⟨hL.box vM, hL.box vM⟩) (z := ?_)
   (try simp only [Act.put, zs, zt, zu])
   refine tK (i := 5) (y := y_moveG (.int .i64 (k : Int)) (by rfl) rfl (by rfl)) (s := ⟨hL.box vM, hL.box vM⟩) (z := ?_)
   (try simp only [Act.put, zs, zt, zu])
   refine tK (i := 6) (y := y_pure (v := .pointer (some ⟨g7, 11, none⟩)) (by rfl) (fun w => by simp [execOp, Instr.fieldAt, go_sem])) (s := ⟨hL.box vM, hL.box vM⟩) (z := ?_)
   (try simp only [Act.put, zs, zt, zu])
   refine tK (i := 7) (y := y_loadCell (fun _ h => h.2) (by rfl) (by rfl) (by rfl) (by infer_instance) (by rfl)) (s := ⟨hL.box vM, hL.box vM⟩) (z := ?_)
   (try simp only [Act.put, zs, zt, zu])
   refine tK (i := 9) (y := y_pure (v := .pointer (some ⟨g7, 12, none⟩)) (by rfl) (fun w => by simp [execOp, Instr.fieldAt, go_sem])) (s := ⟨hL.box vM, hL.box vM⟩) (z := ?_)
   (try simp only [Act.put, zs, zt, zu])
   refine tK (i := 10) (y := y_loadCell (fun _ h => h.2) (by rfl) (by rfl) (by rfl) (by infer_instance) (by rfl)) (s := ⟨hL.box vM, hL.box vM⟩) (z := ?_)
   (try simp only [Act.put, zs, zt, zu])
   refine heldOne (i := 8) (by kernel_rfl) ?_
   refine heldCall (Nth.get nx) (by rfl) (enter1 Tryz.func36 (by kernel_rfl) (by kernel_rfl) (by rfl) (by rfl)) (join_listed (.slice x.s.p.a x.s.p.n x.s.p.c) x.d.ps _ (hL.nested hb00 (.tail _ (.tail _ (.tail _ (.head _)))) x HXM.out).ps (by have := HXB.out.1; omega)) ?_
   rintro e w9 ⟨u9, rfl, hL9⟩
   replace hL := hL.takeRow hL9
   clear hL9
   refine ⟨_, rfl, ⟨hL.box vM, hL.box vM⟩, ?_⟩
   (try simp only [Act.put, zs, zt, zu])
   obtain ⟨xp, cp, rfl, -⟩ := R_elem (hL.own (E := encPc) (.head _)).read
   refine heldOne (i := 11) (by kernel_rfl) ?_
   refine heldCall (Nth.get nx) (by rfl) (enter1 Tryz.func37 (by kernel_rfl) (by kernel_rfl) (by rfl) (by rfl)) (join_named (.slice x.s.x.a x.s.x.n x.s.x.c) x.d.xs _ (hL.nested hb00 (.tail _ (.tail _ (.tail _ (.tail _ (.head _))))) x HXM.out).xs (by have := HXB.out.2; omega)) ?_
   rintro e w11 ⟨u11, rfl, hL9⟩
   replace hL := hL.takeRow hL9
   clear hL9
   refine ⟨_, rfl, ⟨hL.box vM, hL.box vM⟩, ?_⟩
   (try simp only [Act.put, zs, zt, zu])
   obtain ⟨xx, cx, rfl, -⟩ := R_elem (hL.own (E := encXt) (.head _)).read
   refine tK (i := 12) (y := Yields.yieldsIf (y_index encN k rfl rfl (by rfl) (by rfl) hlt)) (s := ⟨hL.box vM, hL.box vM⟩) (z := ?_)
   (try simp only [Act.put, zs, zt, zu])
   refine tK (i := 13) (y := y_pure (v := .pointer (some ⟨go, k * encN.sz + 11, none⟩)) (by rfl) (fun w => by simp [execOp, Instr.fieldAt, go_sem])) (s := ⟨hL.box vM, hL.box vM⟩) (z := ?_)
   (try simp only [Act.put, zs, zt, zu])
   refine heldStorePart (E := encN) (i := 14) (k := k) (j := 11) (z := x) (y := ⟨⟨x.s.hd, ⟨xp, (listedD x.d.ps).length, cp⟩, x.s.x⟩, ⟨x.d.hd, listedD x.d.ps, x.d.xs⟩⟩) nx (by kernel_rfl) rfl hL (.there _ (.there _ (.there _ (.there _ (.here _))))) (by rfl) (by rfl) (by rfl) (cells_slice _ _ _) HX.out (by decide) rfl ?_
   clear hL; intro w14 hL
   refine ⟨⟨hL.box vM, hL.box vM⟩, ?_⟩
   (try simp only [Act.put, zs, zt, zu])
   refine tK (i := 15) (y := Yields.yieldsIf (y_index encN k rfl rfl (by rfl) (by rfl) hlt)) (s := ⟨hL.box vM, hL.box vM⟩) (z := ?_)
   (try simp only [Act.put, zs, zt, zu])
   refine tK (i := 16) (y := y_pure (v := .pointer (some ⟨go, k * encN.sz + 12, none⟩)) (by rfl) (fun w => by simp [execOp, Instr.fieldAt, go_sem])) (s := ⟨hL.box vM, hL.box vM⟩) (z := ?_)
   (try simp only [Act.put, zs, zt, zu])
   refine heldStorePart (E := encN) (i := 17) (k := k) (j := 12) (z := ⟨⟨x.s.hd, ⟨xp, (listedD x.d.ps).length, cp⟩, x.s.x⟩, ⟨x.d.hd, listedD x.d.ps, x.d.xs⟩⟩) (y := ⟨⟨x.s.hd, ⟨xp, (listedD x.d.ps).length, cp⟩, ⟨xx, (namedD x.d.xs).length, cx⟩⟩, x.d.norm⟩) nx (by kernel_rfl) rfl hL (.there _ (.there _ (.there _ (.there _ (.here _))))) (by rfl) (by rfl) (by rfl) (cells_slice _ _ _) (by rw [List.getElem?_set_self HLK.out]) (by decide) rfl ?_
   clear hL; intro w17 hL
   refine ⟨⟨hL.box vM, hL.box vM⟩, ?_⟩
   (try simp only [Act.put, zs, zt, zu])
   refine wpAnyH_done (by kernel_rfl) ?_ _
   simp only [List.set_set] at hL
   obtain ⟨y, hy⟩ : ∃ y : Nd, y = ⟨⟨x.s.hd, ⟨xp, (listedD x.d.ps).length, cp⟩, ⟨xx, (namedD x.d.xs).length, cx⟩⟩, x.d.norm⟩ := ⟨_, rfl⟩
   rw [← hy] at hL
   have hnx := hL.nested hb00 (.tail _ (.tail _ (.tail _ (.tail _ (.tail _ (.head _)))))) x HXM.out
   replace hL := hL.perm (List.perm_middle (l₁ := [_, _, _, _, _]) (l₂ := [_, _]))
   replace hL := hL.perm (List.perm_middle (l₁ := [_]) (l₂ := [_, _, _, _, _, _]))
   replace hL := hL.perm (List.perm_middle (l₁ := [_, _]) (l₂ := [_, _, _, _, _]))
   simp only [List.cons_append, List.nil_append] at hL
   obtain ⟨F2, hL⟩ := Loc.nestNew (i := ⟨x.s.hd, ⟨xp, (listedD x.d.ps).length, cp⟩, ⟨xx, (namedD x.d.xs).length, cx⟩⟩) (d := x.d.norm) hL hnx.hd
   rw [← hy] at hL
   replace hL := hL.nestSubAt (L' := L'.set k y) (.here _) (fun n hn => .inl (by
    rcases List.mem_or_eq_of_mem_set hn with hn | hn
    ·exact .tail _ hn
    ·rw [hn]; exact .head _))
   replace hL := hL.perm (List.perm_middle (l₁ := [_, _, _]) (l₂ := [_, _])).symm
   replace hL := Loc.drop hL
   have HF2 : Hid ((L'.set k y).map (·.d) = ((L.map (·.d)).take (k + 1)).map InoD.norm ++ (L.map (·.d)).drop (k + 1) ∧ ∀ n ∈ L'.set k y, n.d.ps.length ≤ B * (ns.length + ms.length) ∧ n.d.xs.length ≤ B * (ns.length + ms.length)) := kD ⟨by
    rw [List.map_set, show y.d = x.d.norm by rw [hy]]
    exact norm_step HF.out.1 (by rw [List.length_map]; exact hlt) (by rw [List.getElem?_map, HX.out]; rfl), fun n hn => by
    rcases List.mem_or_eq_of_mem_set hn with hn | hn
    ·exact HF.out.2 n hn
    ·have h1 := HF.out.2 x HXM.out
     have h2 := listed_len x.d.ps; have h3 := named_len x.d.xs
     rw [hn, hy]
     exact ⟨Nat.le_trans h2 h1.1, Nat.le_trans h3 h1.2⟩⟩
   clear hy hnx
   go_wp2_with fail
   go_roundw
   case rel => exact ⟨k + 1, L'.set k y, F2, by omega, by go_num, HF2, hL⟩
   case measure => simp [intOf]; omega
  ·obtain rfl : k = L.length := by omega
   have t0 : decide ((L.length : Int) < (L.length : Int)) = false := (by first | (simp; done) | (simp; omega))
   have HR : Hid (L'.map (·.d) = dj.nodes) := kD (by
    rw [HF.out.1, HNJ.out, ← HLD.out, List.take_of_length_le (by rw [List.length_map]; omega), List.drop_of_length_le (by rw [List.length_map]; omega), List.append_nil])
   go_wp2_with (first | ((with_reducible refine qB rfl rfl ?_); (refine lA rfl hL rfl rfl vM (by rfl) ?_)) | ((with_reducible refine qC rfl rfl ?_); (refine lH rfl hL rfl rfl rfl cy (by rfl) ?_); clear hL; intro wq hL))
   have hF : Loc w NoM _ [row encK w.heap.size 46 (.slice lo (linksD (dl ++ el)).length lc) (linksD (dl ++ el)), row encN w.heap.size 58 (.slice ao L.length c) L', nest w00 F' L'] := hL.sub (by repeat (first | exact List.nil_sublist _ | apply List.Sublist.cons_cons | apply List.Sublist.cons))
   refine bodyPost_ret (res_cell rfl hL _ rfl vM (by rfl)) rfl ⟨⟨sj, ⟨ao, L.length, c⟩, ⟨lo, (linksD (dl ++ el)).length, lc⟩⟩, rfl, by rw [HSE.out, HSJ.out], F', L', HR.out, HF.out.2, ?_⟩
   rw [HLJ.out]
   exact hF.comm
theorem join_States (s t : Sta) (ds dt : StaD) (w : World) (hs : s.Ok w ds) (ht : t.Ok w dt) (B : Nat) (hB : ∀ n ∈ ds.nodes ++ dt.nodes, n.ps.length ≤ B ∧ n.xs.length ≤ B) (hn : ds.nodes.length + dt.nodes.length ≤ 1000000) (hBn : B * (ds.nodes.length + dt.nodes.length) ≤ 100000000) (hl : ds.links.length + dt.links.length ≤ 100000000) :
  Calls Tryz.prog 10 #[.agg (Sta.cells s).toArray, .agg (Sta.cells t).toArray] w fun e w' => ∃ r : Sta, e = .returned (.agg (Sta.cells r).toArray) ∧ r.seen = (ds.join dt).seen ∧ ∃ F L, L.map (·.d) = (ds.join dt).nodes ∧ (∀ n ∈ L, n.d.ps.length ≤ B * (ds.nodes.length + dt.nodes.length) ∧ n.d.xs.length ≤ B * (ds.nodes.length + dt.nodes.length)) ∧
   Loc w NoM w' [row encN w.heap.size 58 r.nodes.val L, row encK w.heap.size 46 r.links.val (ds.join dt).links, nest w F L] := join_States0 s t ds dt w w (.refl _ _) hs ht B hB hn hBn hl
end Go.Proofs.YtebpacmhdkgfeaaGreat

namespace Go.Proofs.YtebpacmhdkgfeaaGreat
open Go.RowKit
set_option maxHeartbeats 2000000
section
variable {P : Program} {ops : Array Oper} {rest : List Oper} {o : Oper} {a : Act} {Q : Exit → Act → World → Prop} {W : World}
theorem ev_loadRG {ty : TypeId} {x : Operand} {n g off : Nat} {cs : List Value} [ha : AggT P ty] [hn : SizeT P ty n] (hw : Region.wanted o (yielded ops a.tmps) = true) (ho : o.op = .load ty x) (hx : a.eval x = .pointer (some ⟨g, off, none⟩))
  (hr : W.rangeAt g off cs) (hs : cs.length = n) (h : wpList P ops Q rest (a.put o.dst (.agg cs.toArray)) W) : wpList P ops Q (o :: rest) a W := by
 obtain ⟨d, hu, hd⟩ := isRow_of ha.agg
 refine eventG hw (v := .agg cs.toArray) (w1 := W) ?_ h
 unfold execOp
 simp only [ho, hx, Instr.loadAt, Instr.sureAddr, Sem.run_bind, Sem.run_pure, Result.andThen_ok, run_loadVar_mid W g off ty cs d hr hu hd (by rw [hs]; exact hn.size)]
theorem ev_loadR1G {ty : TypeId} {x : Operand} {g off : Nat} {v : Value} [ha : OneT P ty] (hw : Region.wanted o (yielded ops a.tmps) = true) (ho : o.op = .load ty x) (hx : a.eval x = .pointer (some ⟨g, off, none⟩))
  (hr : W.rangeAt g off [v]) (h : wpList P ops Q rest (a.put o.dst v) W) : wpList P ops Q (o :: rest) a W := by
 have hc : W.cell? ⟨g, off, none⟩ = some v := by simpa using hr 0 v rfl
 refine eventG hw (v := v) (w1 := W) ?_ h
 unfold execOp
 simp only [ho, hx, Instr.loadAt, Instr.sureAddr, Sem.run_bind, Sem.run_pure, Result.andThen_ok, run_loadVar_cell ha W _ v hc]
theorem range_part {w : World} {g off j n : Nat} {cs vs : List Value} (h : w.rangeAt g off cs) (hs : Seg cs j n vs) : w.rangeAt g (off + j) vs := fun k v hv => by
 have h1 := h (j + k) v (hs.get k v hv)
 rwa [← Nat.add_assoc] at h1
end
theorem links_two {p q : Lnk} (h : p.id = q.id) : linksD [p, q] = [p.one q] := by
 have h1 : Stab.eqv Lnk.lt p q = true := Lnk.eqv_iff.2 h
 show Stab.rins Lnk.lt _root_.id Lnk.one q false (Stab.rins Lnk.lt _root_.id Lnk.one p false []) = _
 have h2 : Stab.rins Lnk.lt _root_.id Lnk.one p false [] = [p] := rfl
 rw [h2]
 unfold Stab.rins
 rw [if_pos h1]
 rfl
def xa : Mk := ⟨1, 0⟩
def xv1 : V8 := ⟨1, 0, 0, 0, 0, 0, 0, 0⟩
def xv2 : V8 := ⟨2, 0, 0, 0, 0, 0, 0, 0⟩
def xv12 : V8 := ⟨1, 2, 0, 0, 0, 0, 0, 0⟩
def xl0 : Lnk := ⟨xa, xa, xa, ⟨0, 0⟩, ⟨#[120]⟩, xv1, V8.zero⟩
def xl1 : Lnk := ⟨xa, ⟨0, 0⟩, ⟨0, 0⟩, ⟨0, 0⟩, ⟨#[]⟩, V8.zero, xv2⟩
def xl2 : Lnk := ⟨xa, ⟨0, 0⟩, ⟨0, 0⟩, ⟨0, 0⟩, ⟨#[]⟩, xv12, V8.zero⟩
def xl12 : Lnk := ⟨xa, ⟨0, 0⟩, ⟨0, 0⟩, ⟨0, 0⟩, ⟨#[]⟩, xv12, xv2⟩
def xboth : Lnk := ⟨xa, xa, xa, ⟨0, 0⟩, ⟨#[120]⟩, xv12, xv2⟩
def xdead : Lnk := ⟨xa, xa, xa, ⟨0, 0⟩, ⟨#[120]⟩, xv1, xv2⟩
theorem top12 : xl1.top xl2 = xl1 := by
 refine if_neg ?_
 rw [Lnk.cmps_lt]
 intro h
 rcases h with h | ⟨-, h | ⟨-, h⟩⟩
 ·exact absurd h (by unfold Mk.lss xl1 xl2; simp)
 ·exact absurd h (by unfold Mk.lss xl1 xl2; simp)
 ·have : slt xl1.name xl1.name = true := h
  rw [slt_irr] at this; cases this
theorem top_xl0 (l : Lnk) (h : l.at_ = ⟨0, 0⟩) : xl0.top l = xl0 := by
 refine if_neg ?_
 rw [Lnk.cmps_lt, h]
 intro h
 rcases h with h | ⟨h, -⟩
 ·exact absurd h (by unfold Mk.lss xl0 xa; simp)
 ·exact absurd h (by unfold xl0 xa; simp)
theorem one12 : xl1.one xl2 = xl12 := by
 unfold Lnk.one
 rw [top12]
 rfl
theorem one_both : xl0.one xl12 = xboth := by
 unfold Lnk.one
 rw [top_xl0 xl12 rfl]
 rfl
theorem one_dead : xl0.one xl1 = xdead := by
 unfold Lnk.one
 rw [top_xl0 xl1 rfl]
 rfl
theorem links12 : linksD [xl1, xl2] = [xl12] := (links_two (p := xl1) (q := xl2) rfl).trans (by rw [one12])
theorem links_both : linksD [xl0, xl12] = [xboth] := (links_two (p := xl0) (q := xl12) rfl).trans (by rw [one_both])
theorem links_dead : linksD [xl0, xl1] = [xdead] := (links_two (p := xl0) (q := xl1) rfl).trans (by rw [one_dead])
theorem seen12 : xv1.join (xv2.join xv12) = ⟨2, 2, 0, 0, 0, 0, 0, 0⟩ := by decide
theorem seen_dead : xv1.join xv2 = xv2 := by decide
theorem alive_both : (!xboth.alive.within xboth.dead) = true := by decide
theorem alive_dead : xdead.alive.within xdead.dead = true := by decide
theorem meet_dead : xv2.meet xv2 = xv2 := by decide
theorem key_dead : ∃ ly, keyOf Tryz.prog 44 (.agg #[.int .i64 xdead.node.boot, .int .i64 xdead.node.n]) = some ly := Option.isSome_iff_exists.1 (by kernel_rfl)
theorem ok_one {w : World} {g : Nat} {v : V8} {l : Lnk} {t : TypeId} (h : Box w g l.cells.toArray t) : Sta.Ok w ⟨v, ⟨none, 0, 0⟩, ⟨some ⟨g, 0, none⟩, 1, 1⟩⟩ ⟨v, [], [l]⟩ :=
 ⟨rfl, ⟨[], R_none _ _, fun _ h => (by cases h), rfl⟩, R_box (E := encK) (t := t) [l] h (by simp [Enc.all, encK]) (by simp)⟩
theorem st_two (s t : Sta) (ds dt : StaD) (w : World) (hs : s.Ok w ds) (ht : t.Ok w dt) (h0 : ds.nodes = []) (h1 : dt.nodes = []) (h2 : ds.links.length + dt.links.length ≤ 10) (v : V8) (hv : ds.seen.join dt.seen = v) (L : List Lnk) (hLk : linksD (ds.links ++ dt.links) = L) :
  Calls Tryz.prog 10 #[.agg (Sta.cells s).toArray, .agg (Sta.cells t).toArray] w fun e w' => ∃ r : Sta, e = .returned (.agg (Sta.cells r).toArray) ∧ r.seen = v ∧ Loc w NoM w' [row encK w.heap.size 46 r.links.val L, row encN w.heap.size 58 r.nodes.val []] :=
 (join_States s t ds dt w hs ht 0 (by rw [h0, h1]; simp) (by rw [h0, h1]; simp) (by omega) (by omega)).mono fun e w' ⟨r, he, hsn, F, LL, hd, _, hL⟩ => by
  have hnil : LL = [] := by
   have : LL.map (·.d) = [] := (by rw [hd]; show (nodesD (ds.nodes ++ dt.nodes)).map _ = []; rw [h0, h1]; rfl)
   simpa using this
  subst hnil
  refine ⟨r, he, hsn.trans hv, ?_⟩
  have h9 : (ds.join dt).links = L := hLk
  rw [h9] at hL
  exact (hL.comm).sub (.cons_cons _ (.cons_cons _ (List.nil_sublist _)))
theorem ok_res {w0 w : World} {M : Nat → Prop} {l : List Item} {r : Sta} {v : V8} {L : List Lnk} {b1 b2 : Nat} {t1 t2 : TypeId} (hL : Loc w0 M w l) (h1 : row encK b1 t1 r.links.val L ∈ l) (h2 : row encN b2 t2 r.nodes.val [] ∈ l) (hs : r.seen = v) : r.Ok w ⟨v, [], L⟩ :=
 ⟨hs, ⟨[], (hL.own h2).read, fun _ h => (by cases h), rfl⟩, (hL.own h1).read⟩
end Go.Proofs.YtebpacmhdkgfeaaGreat
