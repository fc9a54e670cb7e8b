/- Texts laid together: Sma, JoQ, JoR, FClo, Ref9, R01, R11a, R11k. -/
import Derived.Test.YtebpacmhdkgfeaaGreatJm3
set_option linter.unusedSimpArgs false
set_option linter.unusedVariables false
namespace Go.Proofs.YtebpacmhdkgfeaaGreat
open Go.RowKit
structure StaD.plain (d : StaD) : Prop where
 nodes : d.nodes.length ≤ 120
 links : d.links.length ≤ 120
 ps : ∀ n ∈ d.nodes, n.ps.length ≤ 120
 xs : ∀ n ∈ d.nodes, n.xs.length ≤ 120
set_option maxHeartbeats 4000000 in
theorem small_big (s : Sta) (d : StaD) (w : World) (hO : s.Ok w d) (h : 120 < d.nodes.length ∨ 120 < d.links.length) :
  Calls Tryz.prog 22 #[.agg s.cells.toArray] w fun e w' => e = .returned (.bool false) ∧ Below w.heap.size w w' := by
 have hL := Loc.nil w NoM
 obtain ⟨ns, hns, -, hds⟩ := hO.nodes
 obtain ⟨aon, cn, en, -⟩ := R_elem hns
 obtain ⟨aol, cl, el, -⟩ := R_elem hO.links
 have hnl : ns.length = d.nodes.length := by rw [← hds, List.length_map]
 rw [hnl] at en
 have en1 : s.nodes.a = aon ∧ s.nodes.n = d.nodes.length ∧ s.nodes.c = cn := by unfold Sl.val at en; injection en with a b c; exact ⟨a, b, c⟩
 have el1 : s.links.a = aol ∧ s.links.n = d.links.length ∧ s.links.c = cl := by unfold Sl.val at el; injection el with a b c; exact ⟨a, b, c⟩
 obtain ⟨r1, r2, r3⟩ := en1
 obtain ⟨r4, r5, r6⟩ := el1
 unfold Sta.cells
 rw [r1, r2, r3, r4, r5, r6]
 generalize d.nodes.length = n at *
 generalize d.links.length = m at *
 clear hO hns hds en el hnl r1 r2 r3 r4 r5 r6
 by_cases h1 : 120 < n
 ·have t1 : decide ((120 : Int) < (n : Int)) = true := (by first | (simp; done) | (simp; omega))
  go_enter Tryz.func22, Tryz.ntmps22
  go_wp2_with (first | ((with_reducible refine qE rfl rfl ?_); (refine lJ rfl hL rfl rfl cy ?_; clear hL; intro gq wq hL)) | ((with_reducible refine qB rfl rfl ?_); (refine lC rfl hL rfl rfl vM (by rfl) ?_)))
  go_ret
  exact ⟨rfl, hL.below⟩
 ·have h2 : 120 < m := by omega
  have t1 : decide ((120 : Int) < (n : Int)) = false := (by first | (simp; done) | (simp; omega))
  have t2 : decide ((120 : Int) < (m : Int)) = true := (by first | (simp; done) | (simp; omega))
  clear h
  go_enter Tryz.func22, Tryz.ntmps22
  go_wp2_with (first | ((with_reducible refine qE rfl rfl ?_); (refine lJ rfl hL rfl rfl cy ?_; clear hL; intro gq wq hL)) | ((with_reducible refine qB rfl rfl ?_); (refine lC rfl hL rfl rfl vM (by rfl) ?_)) | ((with_reducible refine qA rfl rfl ?_ ?_); (exact wz rfl rfl rfl (by with_reducible rfl)); (refine lD (wz rfl rfl rfl rfl) hL rfl rfl vM (by rfl) ?_)))
  go_ret
  exact ⟨rfl, hL.below⟩
set_option maxHeartbeats 8000000 in
theorem small_in (s : Sta) (d : StaD) (w : World) (hO : s.Ok w d) (hn0 : d.nodes.length ≤ 120) (hl0 : d.links.length ≤ 120) :
  Calls Tryz.prog 22 #[.agg s.cells.toArray] w fun e w' => (∃ b, e = .returned (.bool b) ∧ (b = true → d.plain)) ∧ Below w.heap.size w w' := by
 have hL := Loc.nil w NoM
 obtain ⟨ns, hns, hok, hds⟩ := hO.nodes
 obtain ⟨aon, cn, en, heln⟩ := R_elem hns
 obtain ⟨aol, cl, el, hell⟩ := R_elem hO.links
 have en1 : s.nodes.a = aon ∧ s.nodes.n = ns.length ∧ s.nodes.c = cn := by unfold Sl.val at en; injection en with a b c; exact ⟨a, b, c⟩
 have el1 : s.links.a = aol ∧ s.links.n = d.links.length ∧ s.links.c = cl := by unfold Sl.val at el; injection el with a b c; exact ⟨a, b, c⟩
 have HK := kD hok
 have HD : Hid ((∀ n ∈ ns, n.d.ps.length ≤ 120 ∧ n.d.xs.length ≤ 120) → d.plain) := kD (fun h => ⟨hn0, hl0, fun n hn => by
  rw [← hds] at hn; obtain ⟨q, hq, rfl⟩ := List.mem_map.1 hn; exact (h q hq).1, fun n hn => by
  rw [← hds] at hn; obtain ⟨q, hq, rfl⟩ := List.mem_map.1 hn; exact (h q hq).2⟩)
 have hn1 : ns.length ≤ 120 := by rw [← hds, List.length_map] at hn0; exact hn0
 obtain ⟨r1, r2, r3⟩ := en1
 obtain ⟨r4, r5, r6⟩ := el1
 unfold Sta.cells
 rw [r1, r2, r3, r4, r5, r6]
 clear hO hns en el r1 r2 r3 r4 r5 r6 hok hds hn0
 have t1 : decide ((120 : Int) < (ns.length : Int)) = false := (by first | (simp; done) | (simp; omega))
 have t2 : decide ((120 : Int) < (d.links.length : Int)) = false := (by first | (simp; done) | (simp; omega))
 generalize d.links = ls at *
 go_enter Tryz.func22, Tryz.ntmps22
 go_wp2_with (first | ((with_reducible refine gate (N := 1) rfl ?_); (refine lJ rfl hL rfl rfl cy ?_; clear hL; intro g1 w1 hL)) | ((with_reducible refine qB rfl rfl ?_); (refine lC rfl hL rfl rfl vM (by rfl) ?_)) | ((with_reducible refine qA rfl rfl ?_ ?_); (exact wz rfl rfl rfl (by with_reducible rfl)); (refine lD (wz rfl rfl rfl rfl) hL rfl rfl vM (by rfl) ?_)))
 clear t1 t2
 have HP : Hid (∀ n ∈ ns.take 0, n.d.ps.length ≤ 120 ∧ n.d.xs.length ≤ 120) := kD (by simp)
 go_loopw [3, 25] (fun sv i wr => ∃ (k : Nat) (m : Int), k ≤ ns.length ∧ i = .int .i64 k ∧ sv = .int .i64 m ∧ 0 ≤ m ∧ m ≤ 16384 ∧ Hid (∀ n ∈ ns.take k, n.d.ps.length ≤ 120 ∧ n.d.xs.length ≤ 120) ∧ Loc w NoM wr [var g1 [.int .i64 s.seen.a0, .int .i64 s.seen.a1, .int .i64 s.seen.a2, .int .i64 s.seen.a3, .int .i64 s.seen.a4, .int .i64 s.seen.a5, .int .i64 s.seen.a6, .int .i64 s.seen.a7, .slice aon ns.length cn, .slice aol ls.length cl] 27]) (fun _ i _ => ns.length - (intOf i).toNat)
 case atStart => exact ⟨0, 0, by omega, rfl, rfl, by omega, by omega, HP, hL⟩
 case round =>
  clear hL HP
  obtain ⟨k, m, hk, rfl, rfl, hm0, hm1, HP, hL⟩ := hrel
  by_cases hlt : k < ns.length
  ·obtain ⟨g, off, rfl, hr⟩ := heln k hlt
   have hrW : wr.rangeAt g (off + k * 13) (Ino.cells ns[k].s) := range_below hr hL.below
   clear hr
   have hoq : ns[k].s.Ok w ns[k].d := HK.out _ (List.getElem_mem hlt)
   have HP2 : Hid (ns[k].d.ps.length ≤ 120 → ns[k].d.xs.length ≤ 120 → ∀ n ∈ ns.take (k + 1), n.d.ps.length ≤ 120 ∧ n.d.xs.length ≤ 120) := kD (fun a b n hn => by
    rw [(List.take_append_getElem hlt).symm, List.mem_append, List.mem_singleton] at hn
    rcases hn with hn | rfl
    ·exact HP.out n hn
    ·exact ⟨a, b⟩)
   clear HP
   generalize ns[k] = q at *
   obtain ⟨aop, cp, ep, help⟩ := R_elem hoq.ps
   obtain ⟨aox, cx, ex, helx⟩ := R_elem hoq.xs
   obtain ⟨⟨hd, p, x⟩, ⟨hd2, ps, xs⟩⟩ := q
   simp only [Sl.val] at ep ex
   have ep1 : p.a = aop ∧ p.n = ps.length ∧ p.c = cp := by injection ep with a b c; exact ⟨a, b, c⟩
   have ex1 : x.a = aox ∧ x.n = xs.length ∧ x.c = cx := by injection ex with a b c; exact ⟨a, b, c⟩
   clear ep ex hoq
   simp only [Ino.cells] at hrW
   rw [ep1.1, ep1.2.1, ep1.2.2, ex1.1, ex1.2.1, ex1.2.2] at hrW
   clear ep1 ex1
   replace HP2 : Hid (ps.length ≤ 120 → xs.length ≤ 120 → ∀ n ∈ ns.take (k + 1), n.d.ps.length ≤ 120 ∧ n.d.xs.length ≤ 120) := HP2
   replace help : ∀ (i : Nat) (hi : i < ps.length), ∃ g off, aop = some ⟨g, off, none⟩ ∧ w.rangeAt g (off + i * 4) (Pce.cells ps[i]) := help
   replace helx : ∀ (i : Nat) (hi : i < xs.length), ∃ g off, aox = some ⟨g, off, none⟩ ∧ w.rangeAt g (off + i * 5) (Xat.cells xs[i]) := helx
   go_upto_region 7 with (first | ((with_reducible refine gate (N := 5) rfl ?_); (refine lI rfl hL rfl cy ?_; clear hL; intro g5 w5 hL)) | ((with_reducible refine qF rfl rfl ?_); refine lL rfl rfl rfl rfl hlt ?_) | ((with_reducible refine gate (N := 28) rfl ?_); refine lK rfl rfl rfl hrW (by rfl) ?_) | ((with_reducible refine qC rfl rfl ?_); (refine lH rfl hL rfl rfl rfl cy (by rfl) ?_); clear hL; intro wq hL))
   simp only [Act.put, zs, zt, zu]
   go_cut [3] (fun sv wx => ∃ m2 : Int, sv = .int .i64 m2 ∧ 0 ≤ m2 ∧ m2 ≤ 32768 ∧ wx = wq)
   case first =>
    go_wp2_with (first | ((with_reducible refine qB rfl rfl ?_); (refine lC rfl hL rfl rfl vM (by rfl) ?_)))
    all_goals go_meet
    all_goals exact ⟨_, rfl, by omega, by omega, rfl⟩
   case rest =>
   obtain ⟨m2, rfl, hm20, hm21, rfl⟩ := hcut
   by_cases c1 : 120 < ps.length
   ·have t1 : decide ((120 : Int) < (ps.length : Int)) = true := (by first | (simp; done) | (simp; omega))
    go_wp2_with (first | ((with_reducible refine qB rfl rfl ?_); (refine lC rfl hL rfl rfl vM (by rfl) ?_)))
    go_ret
    exact ⟨⟨false, rfl, by simp⟩, hL.below⟩
   by_cases c2 : 120 < xs.length
   ·have t1 : decide ((120 : Int) < (ps.length : Int)) = false := (by first | (simp; done) | (simp; omega))
    have t2 : decide ((120 : Int) < (xs.length : Int)) = true := (by first | (simp; done) | (simp; omega))
    go_wp2_with (first | ((with_reducible refine qB rfl rfl ?_); (refine lC rfl hL rfl rfl vM (by rfl) ?_)) | ((with_reducible refine qA rfl rfl ?_ ?_); (exact wz rfl rfl rfl (by with_reducible rfl)); (refine lD (wz rfl rfl rfl rfl) hL rfl rfl vM (by rfl) ?_)))
    go_ret
    exact ⟨⟨false, rfl, by simp⟩, hL.below⟩
   have HQ := kD (HP2.out (by omega) (by omega))
   have t1 : decide ((120 : Int) < (ps.length : Int)) = false := (by first | (simp; done) | (simp; omega))
   have t2 : decide ((120 : Int) < (xs.length : Int)) = false := (by first | (simp; done) | (simp; omega))
   clear HP2
   go_wp2_with (first | ((with_reducible refine qB rfl rfl ?_); (refine lC rfl hL rfl rfl vM (by rfl) ?_)) | ((with_reducible refine qA rfl rfl ?_ ?_); (exact wz rfl rfl rfl (by with_reducible rfl)); (refine lD (wz rfl rfl rfl rfl) hL rfl rfl vM (by rfl) ?_)))
   clear t1 t2 hrW
   go_loopw [3, 48] (fun sv i wr => ∃ (j : Nat) (m : Int), j ≤ ps.length ∧ i = .int .i64 j ∧ sv = .int .i64 m ∧ 0 ≤ m ∧ m ≤ 32768 + j * 16385 ∧ Loc w NoM wr [var g5 [.int .i64 hd.id.boot, .int .i64 hd.id.n, .int .i64 hd.kind, .string hd.text, .int .i64 hd.attr.at_.boot, .int .i64 hd.attr.at_.n, .int .i64 hd.attr.mode, .int .u64 hd.attr.time, .int .i64 hd.size.at_.boot, .int .i64 hd.size.at_.n, .int .i64 hd.size.n, .slice aop ps.length cp, .slice aox xs.length cx] 58, var g1 [.int .i64 s.seen.a0, .int .i64 s.seen.a1, .int .i64 s.seen.a2, .int .i64 s.seen.a3, .int .i64 s.seen.a4, .int .i64 s.seen.a5, .int .i64 s.seen.a6, .int .i64 s.seen.a7, .slice (some ⟨g, off, none⟩) ns.length cn, .slice aol ls.length cl] 27]) (fun _ i _ => ps.length - (intOf i).toNat)
   case atStart => exact ⟨0, m2, by omega, rfl, rfl, by omega, by omega, hL⟩
   case round =>
    clear hL
    obtain ⟨j, m, hj, rfl, rfl, hm0, hm1, hL⟩ := hrel
    by_cases hlj : j < ps.length
    ·obtain ⟨g2, off2, rfl, hr⟩ := help j hlj
     have hrW : World.rangeAt _ g2 (off2 + j * 4) (Pce.cells ps[j]) := range_below hr hL.below
     clear hr
     generalize ps[j] = q at *
     have hqs : 0 ≤ (q.data.size : Int) := by omega
     go_wp2_with (first
      | ((with_reducible refine qF rfl rfl ?_); refine lL rfl rfl rfl rfl hlj ?_) | ((with_reducible refine gate (N := 51) rfl ?_); refine lK rfl rfl rfl hrW (by rfl) ?_) | ((with_reducible refine qD rfl rfl ?_); (refine lI rfl hL rfl cy ?_; clear hL; intro gq wq hL)) | ((with_reducible refine qB rfl rfl ?_); (refine lC rfl hL rfl rfl vM (by rfl) ?_)) | ((with_reducible refine qC rfl rfl ?_); (refine lG rfl hL rfl rfl rfl cy (by rfl) (by rfl) ?_); clear hL; intro wq hL))
     all_goals (go_roundw; (case rel => exact ⟨j + 1, _, by omega, by go_num, rfl, by omega, by omega, hL.sub (by repeat (first | exact List.nil_sublist _ | with_reducible apply List.Sublist.cons_cons | with_reducible apply List.Sublist.cons))⟩); (case measure => simp [intOf]; omega))
    ·obtain rfl : j = ps.length := by omega
     go_wp2_with (first | ((with_reducible refine qB rfl rfl ?_); (refine lC rfl hL rfl rfl vM (by rfl) ?_)))
     go_loopw [3, 63] (fun sv i wr => ∃ (j : Nat) (m : Int), j ≤ xs.length ∧ i = .int .i64 j ∧ sv = .int .i64 m ∧ 0 ≤ m ∧ m ≤ 3000000 + j * 32769 ∧ Loc w NoM wr [var g1 [.int .i64 s.seen.a0, .int .i64 s.seen.a1, .int .i64 s.seen.a2, .int .i64 s.seen.a3, .int .i64 s.seen.a4, .int .i64 s.seen.a5, .int .i64 s.seen.a6, .int .i64 s.seen.a7, .slice (some ⟨g, off, none⟩) ns.length cn, .slice aol ls.length cl] 27]) (fun _ i _ => xs.length - (intOf i).toNat)
     case atStart => exact ⟨0, m, by omega, rfl, rfl, by omega, by omega, hL.sub (by repeat (first | exact List.nil_sublist _ | with_reducible apply List.Sublist.cons_cons | with_reducible apply List.Sublist.cons))⟩
     case round =>
      clear hL
      obtain ⟨j, m, hj, rfl, rfl, hm0, hm1, hL⟩ := hrel
      by_cases hlj : j < xs.length
      ·obtain ⟨g3, off3, rfl, hr⟩ := helx j hlj
       have hrW : World.rangeAt _ g3 (off3 + j * 5) (Xat.cells xs[j]) := range_below hr hL.below
       clear hr
       generalize xs[j] = q at *
       have hqs : 0 ≤ (q.name.size : Int) := by omega
       have hqs2 : 0 ≤ (q.val.size : Int) := by omega
       go_wp2_with (first
        | ((with_reducible refine qF rfl rfl ?_); refine lL rfl rfl rfl rfl hlj ?_) | ((with_reducible refine gate (N := 66) rfl ?_); refine lK rfl rfl rfl hrW (by rfl) ?_) | ((with_reducible refine qD rfl rfl ?_); (refine lI rfl hL rfl cy ?_; clear hL; intro gq wq hL)) | ((with_reducible refine qB rfl rfl ?_); (refine lC rfl hL rfl rfl vM (by rfl) ?_)) | ((with_reducible refine qC rfl rfl ?_); (refine lG rfl hL rfl rfl rfl cy (by rfl) (by rfl) ?_); clear hL; intro wq hL))
       all_goals (go_roundw; (case rel => exact ⟨j + 1, _, by omega, by go_num, rfl, by omega, by omega, hL.sub (by repeat (first | exact List.nil_sublist _ | with_reducible apply List.Sublist.cons_cons | with_reducible apply List.Sublist.cons))⟩); (case measure => simp [intOf]; omega))
      ·obtain rfl : j = xs.length := by omega
       by_cases c3 : 16384 < m
       ·have t3 : decide ((16384 : Int) < m) = true := (by first | (simp; done) | (simp; omega))
        go_wp2_with fail
        go_ret
        exact ⟨⟨false, rfl, by simp⟩, hL.below⟩
       ·have t3 : decide ((16384 : Int) < m) = false := (by first | (simp; done) | (simp; omega))
        go_wp2_with fail
        go_roundw
        case rel => exact ⟨k + 1, m, by omega, by go_num, rfl, by omega, by omega, HQ, hL⟩
        case measure => simp [intOf]; omega
  ·obtain rfl : k = ns.length := by omega
   have HA : Hid d.plain := kD (HD.out (by have := HP.out; rwa [List.take_length] at this))
   clear HD HP
   go_wp2_with (first | ((with_reducible refine qB rfl rfl ?_); (refine lC rfl hL rfl rfl vM (by rfl) ?_)))
   go_loopw [3, 86] (fun sv i wr => ∃ (j : Nat) (m : Int), j ≤ ls.length ∧ i = .int .i64 j ∧ sv = .int .i64 m ∧ 0 ≤ m ∧ m ≤ 16384 ∧ Loc w NoM wr []) (fun _ i _ => ls.length - (intOf i).toNat)
   case atStart => exact ⟨0, m, by omega, rfl, rfl, by omega, by omega, hL.sub (List.nil_sublist _)⟩
   case round =>
    clear hL
    obtain ⟨j, m, hj, rfl, rfl, hm0, hm1, hL⟩ := hrel
    by_cases hlj : j < ls.length
    ·obtain ⟨g3, off3, rfl, hr⟩ := hell j hlj
     have hrW : World.rangeAt _ g3 (off3 + j * 25) (Lnk.cells ls[j]) := range_below hr hL.below
     clear hr
     generalize ls[j] = q at *
     go_upto_region 26 with (first
      | ((with_reducible refine qF rfl rfl ?_); refine lL rfl rfl rfl rfl hlj ?_) | ((with_reducible refine gate (N := 89) rfl ?_); refine lK rfl rfl rfl hrW (by rfl) ?_) | ((with_reducible refine qD rfl rfl ?_); (refine lI rfl hL rfl cy ?_; clear hL; intro gq wq hL)) | ((with_reducible refine qC rfl rfl ?_); (refine lG rfl hL rfl rfl rfl cy (by rfl) (by rfl) ?_); clear hL; intro wq hL))
     simp only [Act.put, zs, zt, zu]
     go_cut [3] (fun sv wx => ∃ m2 : Int, sv = .int .i64 m2 ∧ 0 ≤ m2 ∧ m2 ≤ 32768 ∧ wx = wq)
     case first =>
      have hqs : 0 ≤ (q.name.size : Int) := by omega
      go_wp2_with (first | ((with_reducible refine qB rfl rfl ?_); (refine lC rfl hL rfl rfl vM (by rfl) ?_)))
      all_goals go_meet
      all_goals exact ⟨_, rfl, by omega, by omega, rfl⟩
     case rest =>
     obtain ⟨m3, rfl, hm30, hm31, rfl⟩ := hcut
     by_cases c3 : 16384 < m3
     ·have t3 : decide ((16384 : Int) < m3) = true := (by first | (simp; done) | (simp; omega))
      go_wp2_with fail
      go_ret
      exact ⟨⟨false, rfl, by simp⟩, hL.below⟩
     ·have t3 : decide ((16384 : Int) < m3) = false := (by first | (simp; done) | (simp; omega))
      go_wp2_with fail
      go_roundw
      case rel => first | exact ⟨j + 1, m3, by omega, by go_num, rfl, hm30, by omega, hL.sub (List.nil_sublist _)⟩ | ((repeat apply Exists.intro); exact ⟨⟨j + 1, m3, by omega, by go_num, rfl, hm30, by omega, hL.sub (List.nil_sublist _)⟩, rfl⟩)
      case measure => simp [intOf]; omega
    ·obtain rfl : j = ls.length := by omega
     go_wp2_with fail
     go_ret
     exact ⟨⟨true, rfl, fun _ => HA.out⟩, hL.below⟩
theorem plain_small (s : Sta) (d : StaD) (w : World) (hO : s.Ok w d) :
  Calls Tryz.prog 22 #[.agg s.cells.toArray] w fun e w' => (∃ b, e = .returned (.bool b) ∧ (b = true → d.plain)) ∧ Below w.heap.size w w' := by
 by_cases h1 : d.nodes.length ≤ 120
 ·by_cases h2 : d.links.length ≤ 120
  ·exact small_in s d w hO h1 h2
  ·exact (small_big s d w hO (.inr (by omega))).mono fun _ _ ⟨he, hb⟩ => ⟨⟨false, he, by simp⟩, hb⟩
 ·exact (small_big s d w hO (.inl (by omega))).mono fun _ _ ⟨he, hb⟩ => ⟨⟨false, he, by simp⟩, hb⟩
end Go.Proofs.YtebpacmhdkgfeaaGreat

namespace Go.Proofs.YtebpacmhdkgfeaaGreat
open Go.RowKit
theorem foldG_again {α : Type} (f : α → α → α) (A B : List α) : Stab.foldG id f (Stab.foldG id f A ++ B) = Stab.foldG id f (A ++ B) := by
 cases A with
 | nil => rfl
 | cons a t => simp [Stab.foldG]
theorem rfold_again {α : Type} {lt : α → α → Bool} {f : α → α → α} (ho : Stab.Ord lt) (hk : Stab.Keeps lt id f) (a b : List α) : Stab.rfold lt id f (Stab.rfold lt id f a ++ b) = Stab.rfold lt id f (a ++ b) := by
 refine (Stab.rfold_folds ho hk _).uniq ho ⟨(Stab.rfold_folds ho hk _).strict, fun z => ?_⟩
 rw [(Stab.rfold_folds ho hk _).cls z, List.filter_append, List.filter_append, (Stab.rfold_folds ho hk a).cls z, foldG_again]
theorem rfold_twice {α : Type} {lt : α → α → Bool} {f : α → α → α} (ho : Stab.Ord lt) (hk : Stab.Keeps lt id f) (hd : ∀ (p : α) (t : List α), (∀ x ∈ t, Stab.eqv lt p x = true) → (p :: t).foldl f (t.foldl f p) = t.foldl f p) (a : List α) : Stab.rfold lt id f (a ++ a) = Stab.rfold lt id f a := by
 refine (Stab.rfold_folds ho hk _).uniq ho ⟨(Stab.rfold_folds ho hk _).strict, fun z => ?_⟩
 rw [(Stab.rfold_folds ho hk _).cls z, List.filter_append]
 cases h : a.filter (Stab.eqv lt z) with
 | nil => rfl
 | cons p t =>
  have hz : ∀ x ∈ p :: t, Stab.eqv lt z x = true := fun x hx => by rw [← h] at hx; exact (List.mem_filter.1 hx).2
  have := hd p t fun x hx => Stab.eqv_trans ho (Stab.eqv_swap (hz p (.head _))) (hz x (.tail _ hx))
  simp only [Stab.foldG, List.cons_append, List.foldl_append, id]
  rw [this]
theorem foldl_low {α : Type} {f : α → α → α} (q : α) : ∀ l : List α, (∀ x ∈ l, f q x = q) → l.foldl f q = q
 | [], _ => rfl
 | x :: l, h => by rw [List.foldl_cons, h x (.head _)]; exact foldl_low q l fun y hy => h y (.tail _ hy)
theorem Pce.top_low {a b : Pce} (h : ¬ a.cmps b < 0) : a.top b = a := if_neg h
theorem Xat.top_low {a b : Xat} (h : ¬ a.cmps b < 0) : a.top b = a := if_neg h
theorem Pce.cmps_trans {a b c : Pce} (h : a.cmps b < 0) (k : b.cmps c < 0) : a.cmps c < 0 := by
 rw [Pce.cmps_lt] at *
 rcases h with h | ⟨h1, h2⟩ <;> rcases k with k | ⟨k1, k2⟩
 ·exact .inl (Mk.lss_trans h k)
 ·exact .inl (k1 ▸ h)
 ·exact .inl (h1 ▸ k)
 ·exact .inr ⟨h1.trans k1, slt_trans h2 k2⟩
theorem Xat.cmps_trans {a b c : Xat} (h : a.cmps b < 0) (k : b.cmps c < 0) : a.cmps c < 0 := by
 rw [Xat.cmps_lt] at *
 rcases h with h | ⟨h1, h2⟩ <;> rcases k with k | ⟨k1, k2⟩
 ·exact .inl (Mk.lss_trans h k)
 ·exact .inl (k1 ▸ h)
 ·exact .inl (h1 ▸ k)
 ·refine .inr ⟨h1.trans k1, ?_⟩
  rcases h2 with h2 | ⟨h2, h3⟩ <;> rcases k2 with k2 | ⟨k2, k3⟩
  ·exact .inl (by omega)
  ·exact .inl (by omega)
  ·exact .inl (by omega)
  ·exact .inr ⟨h2.trans k2, slt_trans h3 k3⟩
theorem Pce.cmps_irr (a : Pce) : ¬ a.cmps a < 0 := by
 rw [Pce.cmps_lt, slt_irr]
 have := Mk.lss_irr a.at_
 simp [this]
theorem Xat.cmps_irr (a : Xat) : ¬ a.cmps a < 0 := by
 rw [Xat.cmps_lt, slt_irr]
 have := Mk.lss_irr a.at_
 simp [this]
theorem Pce.top_dom (p : Pce) (t : List Pce) : ∀ x ∈ p :: t, ¬ (t.foldl Pce.top p).cmps x < 0 := fun x hx => by
 refine foldl_dom (f := Pce.top) (R := fun p x => ¬ p.cmps x < 0) (fun p y x h => ?_) (fun p y => ?_) t p x ?_
 ·unfold Pce.top
  split
  ·rename_i h1
   exact fun h2 => h (Pce.cmps_trans h1 h2)
  ·exact h
 ·unfold Pce.top
  split
  ·exact Pce.cmps_irr y
  ·assumption
 ·rcases List.mem_cons.1 hx with rfl | hx
  ·exact .inl (Pce.cmps_irr _)
  ·exact .inr hx
theorem Xat.top_dom (p : Xat) (t : List Xat) : ∀ x ∈ p :: t, ¬ (t.foldl Xat.top p).cmps x < 0 := fun x hx => by
 refine foldl_dom (f := Xat.top) (R := fun p x => ¬ p.cmps x < 0) (fun p y x h => ?_) (fun p y => ?_) t p x ?_
 ·unfold Xat.top
  split
  ·rename_i h1
   exact fun h2 => h (Xat.cmps_trans h1 h2)
  ·exact h
 ·unfold Xat.top
  split
  ·exact Xat.cmps_irr y
  ·assumption
 ·rcases List.mem_cons.1 hx with rfl | hx
  ·exact .inl (Xat.cmps_irr _)
  ·exact .inr hx
theorem listed_twice (a : List Pce) : listedD (a ++ a) = listedD a := rfold_twice Pce.ord Pce.keeps (fun p t _ => foldl_low _ _ fun x hx => Pce.top_low (Pce.top_dom p t x hx)) a
theorem named_twice (a : List Xat) : namedD (a ++ a) = namedD a := rfold_twice Xat.ord Xat.keeps (fun p t _ => foldl_low _ _ fun x hx => Xat.top_low (Xat.top_dom p t x hx)) a
theorem listed_again (a b : List Pce) : listedD (listedD a ++ b) = listedD (a ++ b) := rfold_again Pce.ord Pce.keeps a b
theorem named_again (a b : List Xat) : namedD (namedD a ++ b) = namedD (a ++ b) := rfold_again Xat.ord Xat.keeps a b
theorem listed_listed (a : List Pce) : listedD (listedD a) = listedD a := by have := listed_again a []; simpa using this
theorem named_named (a : List Xat) : namedD (namedD a) = namedD a := by have := named_again a []; simpa using this
theorem imax_self (a : Int) : imax a a = a := by unfold imax; split <;> rfl
theorem smax_self (a : ByteArray) : smax a a = a := by unfold smax; split <;> rfl
theorem Atr.top_self (a : Atr) : a.top a = a := by unfold Atr.top; split <;> rfl
theorem Siz.top_self (a : Siz) : a.top a = a := by unfold Siz.top; split <;> rfl
theorem InoD.one_self (a : InoD) : a.one a = a.norm := by
 unfold InoD.one InoD.norm
 rw [imax_self, smax_self, Atr.top_self, Siz.top_self, listed_twice, named_twice]
theorem InoD.norm_one (a b : InoD) : (a.one b).norm = a.one b := by
 unfold InoD.one InoD.norm
 simp only [listed_listed, named_named]
theorem InoD.one_norm (a b : InoD) : a.norm.one b = a.one b := by
 unfold InoD.one InoD.norm
 simp only [listed_again, named_again]
theorem InoD.norm_norm (a : InoD) : a.norm.norm = a.norm := by
 unfold InoD.norm
 simp only [listed_listed, named_named]
theorem foldl_norm : ∀ (t : List InoD) (a : InoD), t.foldl InoD.one a.norm = (t.foldl InoD.one a).norm
 | [], a => rfl
 | x :: t, a => by
  rw [List.foldl_cons, List.foldl_cons, InoD.one_norm, ← InoD.norm_one a x, foldl_norm t, InoD.norm_norm]
theorem InoD.keepsN : Stab.Keeps InoD.lt InoD.norm InoD.one := ⟨fun x => InoD.eqv_iff.2 rfl, fun p x h => InoD.eqv_iff.2 rfl⟩
theorem filter_norm (z : InoD) (l : List InoD) : (l.map InoD.norm).filter (Stab.eqv InoD.lt z) = (l.filter (Stab.eqv InoD.lt z)).map InoD.norm := by
 rw [List.filter_map]
 congr 1
theorem nodes_doc (l : List InoD) : Stab.rfold InoD.lt InoD.norm InoD.one l = (nodesD l).map InoD.norm := by
 refine (Stab.rfold_folds InoD.ord InoD.keepsN l).uniq InoD.ord ⟨?_, fun z => ?_⟩
 ·have h := (nodes_folds l).strict
  unfold Stab.Strict at *
  rw [List.pairwise_map]
  exact h
 ·rw [filter_norm, (nodes_folds l).cls z]
  cases l.filter (Stab.eqv InoD.lt z) with
  | nil => rfl
  | cons a t => simp [Stab.foldG, foldl_norm]
end Go.Proofs.YtebpacmhdkgfeaaGreat

namespace Go.Proofs.YtebpacmhdkgfeaaGreat
open Go.RowKit
theorem map_set {α κ : Type} (π : α → κ) {a a' : α} {t t' : List α} (hm : ∀ x, x ∈ a :: t ↔ x ∈ a' :: t') : ∀ y, y ∈ π a :: t.map π ↔ y ∈ π a' :: t'.map π := fun y => by
 have e1 : π a :: t.map π = (a :: t).map π := rfl
 have e2 : π a' :: t'.map π = (a' :: t').map π := rfl
 rw [e1, e2, List.mem_map, List.mem_map]
 exact ⟨fun ⟨x, h1, h2⟩ => ⟨x, (hm x).1 h1, h2⟩, fun ⟨x, h1, h2⟩ => ⟨x, (hm x).2 h1, h2⟩⟩
theorem Pce.tri {a b : Pce} (hi : a.idx = b.idx) (h : ¬ a.cmps b < 0) (k : ¬ b.cmps a < 0) : a = b := by
 rw [Pce.cmps_lt] at h k
 have h1 : a.at_ = b.at_ := by
  rcases Mk.lss_tri a.at_ b.at_ with h1 | h1 | h1
  ·exact absurd (.inl h1) h
  ·exact h1
  ·exact absurd (.inl h1) k
 have h2 : a.data = b.data := by
  rcases slt_cases a.data b.data with h2 | h2 | h2
  ·exact absurd (.inr ⟨h1, h2⟩) h
  ·exact h2
  ·exact absurd (.inr ⟨h1.symm, h2⟩) k
 obtain ⟨a1, a2, a3⟩ := a; obtain ⟨b1, b2, b3⟩ := b
 simp_all
theorem flag_inj {a b : Bool} (h : flagI a = flagI b) : a = b := by cases a <;> cases b <;> simp [flagI] at h ⊢
theorem Xat.tri {a b : Xat} (hi : a.name = b.name) (h : ¬ a.cmps b < 0) (k : ¬ b.cmps a < 0) : a = b := by
 rw [Xat.cmps_lt] at h k
 have h1 : a.at_ = b.at_ := by
  rcases Mk.lss_tri a.at_ b.at_ with h1 | h1 | h1
  ·exact absurd (.inl h1) h
  ·exact h1
  ·exact absurd (.inl h1) k
 have h2 : flagI a.gone = flagI b.gone := by
  rcases Int.lt_trichotomy (flagI a.gone) (flagI b.gone) with h2 | h2 | h2
  ·exact absurd (.inr ⟨h1, .inl h2⟩) h
  ·exact h2
  ·exact absurd (.inr ⟨h1.symm, .inl h2⟩) k
 have h3 : a.val = b.val := by
  rcases slt_cases a.val b.val with h3 | h3 | h3
  ·exact absurd (.inr ⟨h1, .inr ⟨h2, h3⟩⟩) h
  ·exact h3
  ·exact absurd (.inr ⟨h1.symm, .inr ⟨h2.symm, h3⟩⟩) k
 have h4 := flag_inj h2
 obtain ⟨a1, a2, a3, a4⟩ := a; obtain ⟨b1, b2, b3, b4⟩ := b
 simp_all
abbrev Place3 := Mk × Mk × ByteArray
def Place3.cm (a b : Place3) : Int := orL [a.1.cmps b.1, a.2.1.cmps b.2.1, scmp a.2.2 b.2.2]
def Place3.top (a b : Place3) : Place3 := if Place3.cm a b < 0 then b else a
def Lnk.place (l : Lnk) : Place3 := (l.at_, l.parent, l.name)
end Go.Proofs.YtebpacmhdkgfeaaGreat

namespace Go.Proofs.YtebpacmhdkgfeaaGreat
open Go.RowKit
set_option maxHeartbeats 8000000
set_option maxRecDepth 20000
def sta (w0 : World) (F : Nat → Prop) (s : Sta) (d : StaD) : Item := ⟨F, fun w => (∀ k, F k → k < w.heap.size) ∧ ∀ w', w.heap.size ≤ w'.heap.size → (∀ k, F k → w'.heap[k]? = w.heap[k]?) → (∀ k, k < w0.heap.size → w'.heap[k]? = w0.heap[k]?) → s.Ok w' d⟩
theorem sta_at {w0 w : World} {F : Nat → Prop} {s : Sta} {d : StaD} (h : (sta w0 F s d).p w) : (sta w0 F s d).At w :=
 ⟨h, fun k hk => h.1 k hk, fun w' hz hb => ⟨fun k hk => Nat.lt_of_lt_of_le (h.1 k hk) hz, fun w'' hz' hb' h0 => h.2 w'' (Nat.le_trans hz hz') (fun k hk => (hb' k hk).trans (hb k hk)) h0⟩⟩
namespace Loc
variable {w00 w0 w : World} {l : List Item} {F : Nat → Prop} {L : List Nd} {s : Sta} {d : StaD}
theorem staOk (h : Loc w0 NoM w l) (hb : Below w00.heap.size w00 w0) (hm : sta w00 F s d ∈ l) : s.Ok w d :=
 (h.get hm).2 w (Nat.le_refl _) (fun _ _ => rfl) fun k hk => (h.mod.block k (Nat.lt_of_lt_of_le hk hb.size) fun e => e).trans (hb.block k hk)
theorem staNew {e1 e2 : TypeId} {b1 b2 : Nat} (h : Loc w0 NoM w (row encN b1 e1 s.nodes.val L :: row encK b2 e2 s.links.val d.links :: nest w00 F L :: l)) (hh : s.seen = d.seen) (hd : L.map (·.d) = d.nodes) : ∃ F', Loc w0 NoM w (sta w00 F' s d :: l) := by
 have ha := h.apart
 have h1 := h.own (.head _)
 have h2 := h.own (.tail _ (.head _))
 have h3 := h.get (.tail _ (.tail _ (.head _)))
 refine ⟨fun k => F k ∨ s.nodes.val.ownBlock = some k ∨ s.links.val.ownBlock = some k, ?_⟩
 rw [List.pairwise_cons, List.pairwise_cons, List.pairwise_cons] at ha
 obtain ⟨a1, a2, a3, a4⟩ := ha
 refine ⟨h.mod, fun j hj => ?_, fun j hj k hk => ?_, List.pairwise_cons.2 ⟨fun j hj k hk => ?_, a4⟩⟩
 ·rcases List.mem_cons.1 hj with rfl | hj
  ·refine sta_at ⟨fun k hk => ?_, fun w' hz hb h0 => ?_⟩
   ·rcases hk with hk | hk | hk
    ·exact h3.1 k hk
    ·exact h1.lt k hk
    ·exact h2.lt k hk
   ·exact ⟨hh, ⟨L, (O_keep h1 hz fun k hk => hb k (.inr (.inl hk))).read, h3.2 w' hz (fun k hk => hb k (.inl hk)) h0, hd⟩, (O_keep h2 hz fun k hk => hb k (.inr (.inr hk))).read⟩
  ·exact h.at_ j (.tail _ (.tail _ (.tail _ hj)))
 ·rcases List.mem_cons.1 hj with rfl | hj
  ·rcases hk with hk | hk | hk
   ·exact h.new _ (.tail _ (.tail _ (.head _))) k hk
   ·exact h.new _ (.head _) k hk
   ·exact h.new _ (.tail _ (.head _)) k hk
  ·exact h.new j (.tail _ (.tail _ (.tail _ hj))) k hk
 ·rcases hk with hk | hk | hk
  ·exact a3 j hj k hk
  ·exact a1 j (.tail _ (.tail _ hj)) k hk
  ·exact a2 j (.tail _ hj) k hk
end Loc
theorem facts_clone (s : Sta) (ds : StaD) (w00 w : World) (hs : s.Ok w00 ds) (hb00 : Below w00.heap.size w00 w) (hB : ∀ n ∈ ds.nodes, n.ps.length ≤ 1000000000 ∧ n.xs.length ≤ 1000000000) (hn : ds.nodes.length ≤ 1000000000) (hl : ds.links.length ≤ 1000000000) :
  Calls Tryz.prog 9 #[.agg (Sta.cells s).toArray] w fun e w' => ∃ r : Sta, e = .returned (.agg (Sta.cells r).toArray) ∧ ∃ F, Loc w NoM w' [sta w00 F r ds] := by
 have hL := Loc.nil w NoM
 obtain ⟨sv, ⟨a1, n1, c1⟩, ⟨a2, n2, c2⟩⟩ := s
 obtain ⟨sv', dn, dl⟩ := ds
 obtain ⟨h1, ⟨ns, hns, hno, hnd⟩, hlk⟩ := hs
 simp only at h1 hnd hns hlk hB hn hl
 subst h1 hnd
 have H1 := kD hns; have H3 := kD hlk
 have HNO := kD hno
 have HBO : Hid (∀ n ∈ ns, n.d.ps.length ≤ 1000000000 ∧ n.d.xs.length ≤ 1000000000) := kD fun n hn => hB n.d (List.mem_map.2 ⟨n, hn, rfl⟩)
 rw [List.length_map] at hn
 clear hns hno hlk hB
 unfold Sta.cells
 simp only
 go_enter Tryz.func9, Tryz.ntmps9
 go_wp2_with (first
  | ((with_reducible refine gate (N := 1) rfl ?_); (refine lJ rfl hL rfl rfl cy ?_; clear hL; intro g1 w1 hL)) | ((with_reducible refine gate (N := 2) rfl ?_); (refine lI rfl hL rfl cy ?_; clear hL; intro g2 w2 hL))
  | (go_at_call 24; have hq := clone_links (.slice a2 n2 c2) dl _ ((H3.out.below hb00).below hL.below) hl; (with_reducible refine hq.mono ?_); rintro e w9 ⟨u9, rfl, hL9⟩; replace hL := hL.takeRow hL9; clear hq hL9; obtain ⟨lo, lc, rfl, -⟩ := R_elem (hL.own (E := encK) (.head _)).read)
  | (go_at_call 25; have hq := clone_nodes (.slice a1 n1 c1) ns _ ((H1.out.below hb00).below hL.below) hn; (with_reducible refine hq.mono ?_); rintro e w10 ⟨u10, rfl, hL10⟩; replace hL := hL.takeRow hL10; clear hq hL10; obtain ⟨ao, c, rfl, -⟩ := R_elem (hL.own (E := encN) (.head _)).read)
  | ((with_reducible refine qB rfl rfl ?_); (refine lC rfl hL rfl rfl vM (by rfl) ?_)) | ((with_reducible refine qC rfl rfl ?_); (refine lH rfl hL rfl rfl rfl cy (by rfl) ?_); clear hL; intro wq hL))
 replace hL := hL.comm
 replace hL := (hL.nestOld (w00 := w00) (L := ns) HNO.out).perm (List.perm_middle (l₁ := [_, _]) (l₂ := [_, _])).symm
 simp only [List.cons_append, List.nil_append] at hL
 go_loopw [16] (fun iv wr => ∃ (k : Nat) (L' : List Nd) (F' : Nat → Prop), k ≤ ns.length ∧ iv = .int .i64 k ∧ Hid (L'.map (·.d) = ns.map (·.d) ∧ ∀ n ∈ L', n.d.ps.length ≤ 1000000000 ∧ n.d.xs.length ≤ 1000000000) ∧ Loc w NoM wr [row encK w.heap.size 46 (.slice lo dl.length lc) dl, row encN w.heap.size 58 (.slice ao ns.length c) L', nest w00 F' L', var g2 [.int .i64 0, .int .i64 0, .int .i64 0, .int .i64 0, .int .i64 0, .int .i64 0, .int .i64 0, .int .i64 0, .slice none 0 0, .slice none 0 0] 27, var g1 [.int .i64 sv.a0, .int .i64 sv.a1, .int .i64 sv.a2, .int .i64 sv.a3, .int .i64 sv.a4, .int .i64 sv.a5, .int .i64 sv.a6, .int .i64 sv.a7, .slice ao ns.length c, .slice lo dl.length lc] 27]) (fun iv _ => ns.length - (intOf iv).toNat)
 case atStart => exact ⟨0, ns, _, by omega, rfl, kD ⟨rfl, HBO.out⟩, hL⟩
 case round =>
  clear hL
  obtain ⟨k, L', F', hk, rfl, HF, hL⟩ := hrel
  have HLL : Hid (L'.length = ns.length) := kD (by have := congrArg List.length HF.out.1; simpa using this)
  by_cases hlt : k < ns.length
  ·have t0 : decide ((k : Int) < (ns.length : Int)) = true := (by first | (simp; done) | (simp; omega))
   have hkl : k < L'.length := by have := HLL.out; omega
   have hk1 : (k : Int) + 1 ≤ 9223372036854775807 := by omega
   have hk0 : (0 : Int) ≤ (k : Int) := by omega
   obtain ⟨x, hx⟩ : ∃ x, L'[k]? = some x := ⟨_, List.getElem?_eq_getElem hkl⟩
   rcases own_casesM hL (.tail _ (.head _)) with ⟨u1, u2⟩ | ⟨go, c3, u1, -, -, hgo⟩
   ·rw [u2] at hkl; exact absurd hkl (by simp)
   injection u1 with u1 u2 u3
   subst u1 u3
   clear u2
   have hz : wr.rangeAt go (0 + k * 13) (Ino.cells x.s) := by
    have := row_range (hL.own (E := encN) (.tail _ (.head _))) (y := x) (i := k) hx
    rwa [show k * encN.sz = 0 + k * 13 from by show k * 13 = _; omega] at this
   have HX := kD hx
   have HXM := kD (List.mem_of_getElem? hx)
   have HXB := kD (HF.out.2 x HXM.out)
   have HLK : Hid (k < L'.length) := kD hkl
   clear hx hkl
   unfold Ino.cells at hz
   go_wp2_with (first
    | ((with_reducible refine qF rfl rfl ?_); refine lL rfl rfl rfl rfl hlt ?_)
    | ((with_reducible refine gate (N := 20) rfl ?_); refine lK rfl rfl rfl hz (by rfl) ?_)
    | ((with_reducible refine gate (N := 4) rfl ?_); (refine lI rfl hL rfl cy ?_; clear hL; intro g4 w4 hL)) | ((with_reducible refine qC rfl rfl ?_); (refine lH rfl hL rfl rfl rfl cy (by rfl) ?_); clear hL; intro wq hL))
   (try simp only [Act.put, zs, zt, zu])
   refine region_held (fun wx => Box wx g1 ([.int .i64 sv.a0, .int .i64 sv.a1, .int .i64 sv.a2, .int .i64 sv.a3, .int .i64 sv.a4, .int .i64 sv.a5, .int .i64 sv.a6, .int .i64 sv.a7, .slice (some ⟨go, 0, none⟩) ns.length c, .slice lo dl.length lc] : List Value).toArray 27 ∧ Box wx g4 ([.int .i64 x.s.hd.id.boot, .int .i64 x.s.hd.id.n, .int .i64 x.s.hd.kind, .string x.s.hd.text, .int .i64 x.s.hd.attr.at_.boot, .int .i64 x.s.hd.attr.at_.n, .int .i64 x.s.hd.attr.mode, .int .u64 x.s.hd.attr.time, .int .i64 x.s.hd.size.at_.boot, .int .i64 x.s.hd.size.at_.n, .int .i64 x.s.hd.size.n, .slice x.s.p.a x.s.p.n x.s.p.c, .slice x.s.x.a x.s.x.n x.s.x.c] : List Value).toArray 58) (by kernel_rfl) hL ?_
   clear hL
   intro w8 hL
   refine tK (i := 0) (y := y_pure (v := .pointer (some ⟨g1, 8, none⟩)) (by rfl) (fun w => by simp [execOp, Instr.fieldAt, go_sem])) (s := ⟨hL.box vM, hL.box vM⟩) (z := ?_)
   (try simp only [Act.put, zs, zt, zu])
   refine tK (i := 1) (y := y_loadCell (fun _ h => h.1) (by rfl) (by rfl) (by rfl) (by infer_instance) (by rfl)) (s := ⟨hL.box vM, hL.box vM⟩) (z := ?_)
   (try simp only [Act.put, zs, zt, zu])
   refine tK (i := 2) (y := y_moveG (.int .i64 (k : Int)) (by rfl) rfl (by rfl)) (s := ⟨hL.box vM, hL.box vM⟩) (z := ?_)
   (try simp only [Act.put, zs, zt, zu])
   refine tK (i := 3) (y := y_pure (v := .pointer (some ⟨g1, 8, none⟩)) (by rfl) (fun w => by simp [execOp, Instr.fieldAt, go_sem])) (s := ⟨hL.box vM, hL.box vM⟩) (z := ?_)
   (try simp only [Act.put, zs, zt, zu])
   refine tK (i := 4) (y := y_loadCell (fun _ h => h.1) (by rfl) (by rfl) (by rfl) (by infer_instance) (by rfl)) (s := ⟨hL.box vM, hL.box vM⟩) (z := ?_)
   (try simp only [Act.put, zs, zt, zu])
   refine tK (i := 5) (y := y_moveG (.int .i64 (k : Int)) (by rfl) rfl (by rfl)) (s := ⟨hL.box vM, hL.box vM⟩) (z := ?_)
   (try simp only [Act.put, zs, zt, zu])
   refine tK (i := 6) (y := y_pure (v := .pointer (some ⟨g4, 11, none⟩)) (by rfl) (fun w => by simp [execOp, Instr.fieldAt, go_sem])) (s := ⟨hL.box vM, hL.box vM⟩) (z := ?_)
   (try simp only [Act.put, zs, zt, zu])
   refine tK (i := 7) (y := y_loadCell (fun _ h => h.2) (by rfl) (by rfl) (by rfl) (by infer_instance) (by rfl)) (s := ⟨hL.box vM, hL.box vM⟩) (z := ?_)
   (try simp only [Act.put, zs, zt, zu])
   refine tK (i := 9) (y := y_pure (v := .pointer (some ⟨g4, 12, none⟩)) (by rfl) (fun w => by simp [execOp, Instr.fieldAt, go_sem])) (s := ⟨hL.box vM, hL.box vM⟩) (z := ?_)
   (try simp only [Act.put, zs, zt, zu])
   refine tK (i := 10) (y := y_loadCell (fun _ h => h.2) (by rfl) (by rfl) (by rfl) (by infer_instance) (by rfl)) (s := ⟨hL.box vM, hL.box vM⟩) (z := ?_)
   (try simp only [Act.put, zs, zt, zu])
   refine heldOne (i := 8) (by kernel_rfl) ?_
   refine heldCall (Nth.get nx) (by rfl) (enter1 Tryz.func26 (by kernel_rfl) (by kernel_rfl) (by rfl) (by rfl)) (clone_pieces (.slice x.s.p.a x.s.p.n x.s.p.c) x.d.ps _ (hL.nested hb00 (.tail _ (.tail _ (.tail _ (.head _)))) x HXM.out).ps (by have := HXB.out.1; omega)) ?_
   rintro e w9 ⟨u9, rfl, hL9⟩
   replace hL := hL.takeRow hL9
   clear hL9
   refine ⟨_, rfl, ⟨hL.box vM, hL.box vM⟩, ?_⟩
   (try simp only [Act.put, zs, zt, zu])
   obtain ⟨xp, cp, rfl, -⟩ := R_elem (hL.own (E := encPc) (.head _)).read
   refine heldOne (i := 11) (by kernel_rfl) ?_
   refine heldCall (Nth.get nx) (by rfl) (enter1 Tryz.func27 (by kernel_rfl) (by kernel_rfl) (by rfl) (by rfl)) (clone_xattrs (.slice x.s.x.a x.s.x.n x.s.x.c) x.d.xs _ (hL.nested hb00 (.tail _ (.tail _ (.tail _ (.tail _ (.head _))))) x HXM.out).xs (by have := HXB.out.2; omega)) ?_
   rintro e w11 ⟨u11, rfl, hL9⟩
   replace hL := hL.takeRow hL9
   clear hL9
   refine ⟨_, rfl, ⟨hL.box vM, hL.box vM⟩, ?_⟩
   (try simp only [Act.put, zs, zt, zu])
   obtain ⟨xx, cx, rfl, -⟩ := R_elem (hL.own (E := encXt) (.head _)).read
   refine tK (i := 12) (y := Yields.yieldsIf (y_index encN k rfl rfl (by rfl) (by rfl) hlt)) (s := ⟨hL.box vM, hL.box vM⟩) (z := ?_)
   (try simp only [Act.put, zs, zt, zu])
   refine tK (i := 13) (y := y_pure (v := .pointer (some ⟨go, k * encN.sz + 11, none⟩)) (by rfl) (fun w => by simp [execOp, Instr.fieldAt, go_sem])) (s := ⟨hL.box vM, hL.box vM⟩) (z := ?_)
   (try simp only [Act.put, zs, zt, zu])
   refine heldStorePart (E := encN) (i := 14) (k := k) (j := 11) (z := x) (y := ⟨⟨x.s.hd, ⟨xp, x.d.ps.length, cp⟩, x.s.x⟩, x.d⟩) nx (by kernel_rfl) rfl hL (.there _ (.there _ (.there _ (.there _ (.here _))))) (by rfl) (by rfl) (by rfl) (cells_slice _ _ _) HX.out (by decide) rfl ?_
   clear hL; intro w14 hL
   refine ⟨⟨hL.box vM, hL.box vM⟩, ?_⟩
   (try simp only [Act.put, zs, zt, zu])
   refine tK (i := 15) (y := Yields.yieldsIf (y_index encN k rfl rfl (by rfl) (by rfl) hlt)) (s := ⟨hL.box vM, hL.box vM⟩) (z := ?_)
   (try simp only [Act.put, zs, zt, zu])
   refine tK (i := 16) (y := y_pure (v := .pointer (some ⟨go, k * encN.sz + 12, none⟩)) (by rfl) (fun w => by simp [execOp, Instr.fieldAt, go_sem])) (s := ⟨hL.box vM, hL.box vM⟩) (z := ?_)
   (try simp only [Act.put, zs, zt, zu])
   refine heldStorePart (E := encN) (i := 17) (k := k) (j := 12) (z := ⟨⟨x.s.hd, ⟨xp, x.d.ps.length, cp⟩, x.s.x⟩, x.d⟩) (y := ⟨⟨x.s.hd, ⟨xp, x.d.ps.length, cp⟩, ⟨xx, x.d.xs.length, cx⟩⟩, x.d⟩) nx (by kernel_rfl) rfl hL (.there _ (.there _ (.there _ (.there _ (.here _))))) (by rfl) (by rfl) (by rfl) (cells_slice _ _ _) (by rw [List.getElem?_set_self HLK.out]) (by decide) rfl ?_
   clear hL; intro w17 hL
   refine ⟨⟨hL.box vM, hL.box vM⟩, ?_⟩
   (try simp only [Act.put, zs, zt, zu])
   refine wpAnyH_done (by kernel_rfl) ?_ _
   simp only [List.set_set] at hL
   obtain ⟨y, hy⟩ : ∃ y : Nd, y = ⟨⟨x.s.hd, ⟨xp, x.d.ps.length, cp⟩, ⟨xx, x.d.xs.length, cx⟩⟩, x.d⟩ := ⟨_, rfl⟩
   rw [← hy] at hL
   have hnx := hL.nested hb00 (.tail _ (.tail _ (.tail _ (.tail _ (.tail _ (.head _)))))) x HXM.out
   replace hL := hL.perm (List.perm_middle (l₁ := [_, _, _, _, _]) (l₂ := [_, _]))
   replace hL := hL.perm (List.perm_middle (l₁ := [_]) (l₂ := [_, _, _, _, _, _]))
   replace hL := hL.perm (List.perm_middle (l₁ := [_, _]) (l₂ := [_, _, _, _, _]))
   simp only [List.cons_append, List.nil_append] at hL
   obtain ⟨F2, hL⟩ := Loc.nestNew (i := ⟨x.s.hd, ⟨xp, x.d.ps.length, cp⟩, ⟨xx, x.d.xs.length, cx⟩⟩) (d := x.d) hL hnx.hd
   rw [← hy] at hL
   replace hL := hL.nestSubAt (L' := L'.set k y) (.here _) (fun n hn => .inl (by
    rcases List.mem_or_eq_of_mem_set hn with hn | hn
    ·exact .tail _ hn
    ·rw [hn]; exact .head _))
   replace hL := hL.perm (List.perm_middle (l₁ := [_, _, _]) (l₂ := [_, _])).symm
   replace hL := Loc.drop hL
   have HF2 : Hid ((L'.set k y).map (·.d) = ns.map (·.d) ∧ ∀ n ∈ L'.set k y, n.d.ps.length ≤ 1000000000 ∧ n.d.xs.length ≤ 1000000000) := kD ⟨by
    have h9 : L'.set k x = L' := by
     obtain ⟨hi, hxe⟩ := List.getElem?_eq_some_iff.1 HX.out
     rw [← hxe]; exact List.set_getElem_self _
    rw [List.map_set, show y.d = x.d by rw [hy], ← List.map_set, h9]
    exact HF.out.1, fun n hn => by
    rcases List.mem_or_eq_of_mem_set hn with hn | hn
    ·exact HF.out.2 n hn
    ·rw [hn, hy]; exact HXB.out⟩
   clear hy hnx
   go_wp2_with fail
   go_roundw
   case rel => exact ⟨k + 1, L'.set k y, F2, by omega, by go_num, HF2, hL⟩
   case measure => simp [intOf]; omega
  ·obtain rfl : k = ns.length := by omega
   have t0 : decide ((ns.length : Int) < (ns.length : Int)) = false := (by first | (simp; done) | (simp; omega))
   go_wp2_with (first | ((with_reducible refine qB rfl rfl ?_); (refine lA rfl hL rfl rfl vM (by rfl) ?_)) | ((with_reducible refine qC rfl rfl ?_); (refine lH rfl hL rfl rfl rfl cy (by rfl) ?_); clear hL; intro wq hL))
   have hF : Loc w NoM _ [row encK w.heap.size 46 (.slice lo dl.length lc) dl, row encN w.heap.size 58 (.slice ao ns.length c) L', nest w00 F' L'] := hL.sub (by repeat (first | exact List.nil_sublist _ | apply List.Sublist.cons_cons | apply List.Sublist.cons))
   obtain ⟨F9, hF9⟩ := Loc.staNew (s := ⟨sv, ⟨ao, ns.length, c⟩, ⟨lo, dl.length, lc⟩⟩) (d := ⟨sv, ns.map (·.d), dl⟩) hF.comm rfl HF.out.1
   exact bodyPost_ret (res_cell rfl hL _ rfl vM (by rfl)) rfl ⟨⟨sv, ⟨ao, ns.length, c⟩, ⟨lo, dl.length, lc⟩⟩, rfl, F9, hF9⟩
end Go.Proofs.YtebpacmhdkgfeaaGreat

namespace Go.Proofs.YtebpacmhdkgfeaaGreat
open Go.RowKit
set_option maxHeartbeats 4000000
set_option maxRecDepth 20000
def Mk.lssB (a b : Mk) : Bool := decide (a.boot < b.boot) || (decide (a.boot = b.boot) && decide (a.n < b.n))
theorem Mk.lssB_iff {a b : Mk} : a.lssB b = true ↔ a.lss b := by unfold Mk.lssB Mk.lss; simp
theorem Mk.lssB_not {a b : Mk} (h : ¬ a.lss b) : a.lssB b = false := by
 cases h1 : a.lssB b
 ·rfl
 ·exact absurd (Mk.lssB_iff.1 h1) h
theorem ref09_less (a b : Mk) (w : World) : Calls Tryz.prog 103 #[.agg #[.int .i64 a.boot, .int .i64 a.n], .agg #[.int .i64 b.boot, .int .i64 b.n]] w fun e w' => e = .returned (.bool (a.lssB b)) ∧ Below w.heap.size w w' := by
 have hL := Loc.nil w NoM
 unfold Mk.lssB
 obtain ⟨a1, a2⟩ := a
 obtain ⟨b1, b2⟩ := b
 simp only
 by_cases h1 : a1 < b1
 ·have t1 : decide (a1 < b1) = true := decide_eq_true h1
  rw [t1]
  simp only [Bool.true_or]
  clear h1
  go_enter Tryz.func103, Tryz.ntmps103
  go_wp2_with (first | ((with_reducible refine gate (N := 2) rfl ?_); (refine lJ rfl hL rfl rfl cy ?_; clear hL; intro g2 w2 hL)) | ((with_reducible refine gate (N := 3) rfl ?_); (refine lJ rfl hL rfl rfl cy ?_; clear hL; intro g3 w3 hL)) | ((with_reducible refine qB rfl rfl ?_); (refine lC rfl hL rfl rfl vM (by rfl) ?_)))
  go_ret
  exact ⟨rfl, hL.below⟩
 ·have t1 : decide (a1 < b1) = false := decide_eq_false h1
  rw [t1]
  simp only [Bool.false_or]
  by_cases h2 : a1 = b1
  ·subst h2
   simp only [decide_true, Bool.true_and]
   clear h1
   go_enter Tryz.func103, Tryz.ntmps103
   go_wp2_with (first | ((with_reducible refine gate (N := 2) rfl ?_); (refine lJ rfl hL rfl rfl cy ?_; clear hL; intro g2 w2 hL)) | ((with_reducible refine gate (N := 3) rfl ?_); (refine lJ rfl hL rfl rfl cy ?_; clear hL; intro g3 w3 hL)) | ((with_reducible refine qB rfl rfl ?_); (refine lC rfl hL rfl rfl vM (by rfl) ?_)) | ((with_reducible refine qA rfl rfl ?_ ?_); (exact wz rfl rfl rfl (by with_reducible rfl)); (refine lD (wz rfl rfl rfl rfl) hL rfl rfl vM (by rfl) ?_)))
   go_ret
   exact ⟨rfl, hL.below⟩
  ·have t2 : (a1 == b1) = false := by simpa using h2
   have t3 : decide (a1 = b1) = false := decide_eq_false h2
   rw [t3]
   simp only [Bool.false_and]
   clear h1 h2 t3
   go_enter Tryz.func103, Tryz.ntmps103
   go_wp2_with (first | ((with_reducible refine gate (N := 2) rfl ?_); (refine lJ rfl hL rfl rfl cy ?_; clear hL; intro g2 w2 hL)) | ((with_reducible refine gate (N := 3) rfl ?_); (refine lJ rfl hL rfl rfl cy ?_; clear hL; intro g3 w3 hL)) | ((with_reducible refine qB rfl rfl ?_); (refine lC rfl hL rfl rfl vM (by rfl) ?_)) | ((with_reducible refine qA rfl rfl ?_ ?_); (exact wz rfl rfl rfl (by with_reducible rfl)); (refine lD (wz rfl rfl rfl rfl) hL rfl rfl vM (by rfl) ?_)))
   go_ret
   exact ⟨rfl, hL.below⟩
end Go.Proofs.YtebpacmhdkgfeaaGreat

namespace Go.Proofs.YtebpacmhdkgfeaaGreat
open Go.RowKit
set_option maxHeartbeats 2000000
set_option maxRecDepth 20000
theorem slt_data (a b : ByteArray) : slt a b = Op.bytesLess a.data.toList b.data.toList := by
 unfold slt; rw [Lib.toList_data, Lib.toList_data]
theorem drop_at (a : ByteArray) (k : Nat) (h : k < a.size) : a.data.toList.drop k = a[k] :: a.data.toList.drop (k + 1) := by
 have h2 : k < a.data.toList.length := by simpa using h
 rw [List.drop_eq_getElem_cons h2]
 rfl
theorem drop_end (a : ByteArray) (k : Nat) (h : a.size ≤ k) : a.data.toList.drop k = [] := List.drop_eq_nil_of_le (by simpa using h)
theorem bl_cons (x y : UInt8) (xs ys : List UInt8) : Op.bytesLess (x :: xs) (y :: ys) = (decide (x < y) || (x == y && Op.bytesLess xs ys)) := rfl
theorem bl_nil (l : List UInt8) : Op.bytesLess l [] = false := by cases l <;> rfl
theorem str_at {P : Program} (t : TypeId) (hu : P.underlying t = some .string) (a : ByteArray) (k : Nat) (h : k < a.size) {v : UInt8} (hv : a[k] = v) : ∀ w, (Instr.index t (.string a) (.int .i64 (k : Int))).run P w = .ok (.int .u8 v.toNat) w := fun w => by
 have h0 : 0 ≤ (k : Int) ∧ (k : Int) < a.size := ⟨by omega, by omega⟩
 rw [run_index_string w t a .i64 k hu, dif_pos h0]
 simp only [Int.toNat_natCast, hv]
theorem ref01_less (a b : ByteArray) (w : World) (ha : a.size ≤ 9223372036854775807) (hb : b.size ≤ 9223372036854775807) : Calls Tryz.prog 170 #[.string a, .string b] w fun e w' => e = .returned (.bool (slt a b)) ∧ Below w.heap.size w w' := by
 have hL := Loc.nil w NoM
 rw [slt_data]
 go_enter Tryz.func170, Tryz.ntmps170
 go_wp2_with fail
 go_loopw [8] (fun i wr => ∃ k : Nat, k ≤ b.size ∧ k ≤ a.size ∧ i = .int .i64 k ∧ Hid (Op.bytesLess a.data.toList b.data.toList = Op.bytesLess (a.data.toList.drop k) (b.data.toList.drop k)) ∧ Loc w NoM wr []) (fun i _ => b.size - (intOf i).toNat)
 case atStart => exact ⟨0, by omega, by omega, rfl, kD rfl, hL⟩
 case round =>
  clear hL
  obtain ⟨k, hk, hka, rfl, HS, hL⟩ := hrel
  by_cases hlt : k < b.size
  ·by_cases hla : k < a.size
   ·have hA := HS.out
    rw [drop_at a k hla, drop_at b k hlt] at hA
    rw [bl_cons] at hA
    obtain ⟨x, hx⟩ : ∃ x, a[k] = x := ⟨_, rfl⟩
    obtain ⟨y, hy⟩ : ∃ y, b[k] = y := ⟨_, rfl⟩
    have hi1 := str_at (P := Tryz.prog) 9 Tryz.underlying9 a k hla hx
    have hi2 := str_at (P := Tryz.prog) 9 Tryz.underlying9 b k hlt hy
    rw [hx, hy] at hA
    have t0 : decide ((k : Int) ≥ (a.size : Int)) = false := (by first | (simp; done) | (simp; omega))
    have t0b : decide ((a.size : Int) ≤ (k : Int)) = false := (by first | (simp; done) | (simp; omega))
    have t0c : decide (a.size ≤ k) = false := (by first | (simp; done) | (simp; omega))
    clear hx hy
    by_cases h1 : x < y
    ·have HB := kD (show Op.bytesLess a.data.toList b.data.toList = true from by rw [hA]; simp [h1])
     have h1' : x.toNat < y.toNat := h1
     have t1 : decide ((x.toNat : Int) < (y.toNat : Int)) = true := (by first | (simp; done) | (simp; omega))
     have t1n : decide (x.toNat < y.toNat) = true := (by first | (simp; done) | (simp; omega))
     clear hA HS h1 h1'
     go_wp2_with fail
     ((try simp only [Act.put, zs, zt, zu]); refine wp_region_ext (by kernel_rfl) (by kernel_rfl) ?_; (repeat (first | (go_big_quiet_want; (first | refine qH hL rfl rfl vM (by rfl) ?_ | refine qG hL rfl rfl vM (by rfl) ?_ | refine qI hL rfl rfl vM SegC.seg ?_); go_big_quiet_on; simp only [Act.put, zs, zt, zu]) | go_big_quiet_step (fail))); refine wpQuiet_nil ?_; rintro _ ⟨⟨w2, hb2⟩, rfl⟩; have hL := (hL).call hb2; clear hb2)
     go_wp2_with fail
     go_ret
     exact ⟨by rw [HB.out]; rfl, hL.below⟩
    ·have h1' : ¬ x.toNat < y.toNat := h1
     have t1 : decide ((x.toNat : Int) < (y.toNat : Int)) = false := (by first | (simp; done) | (simp; omega))
     have t1n : decide (x.toNat < y.toNat) = false := (by first | (simp; done) | (simp; omega))
     by_cases h2 : y < x
     ·have h2' : y.toNat < x.toNat := h2
      have HB := kD (show Op.bytesLess a.data.toList b.data.toList = false from by
       rw [hA]
       have h3 : x ≠ y := fun e => by subst e; omega
       simp [h1, h3])
      have t2 : decide ((x.toNat : Int) > (y.toNat : Int)) = true := (by first | (simp; done) | (simp; omega))
      have t2n : decide (y.toNat < x.toNat) = true := (by first | (simp; done) | (simp; omega))
      clear hA HS h1 h1' h2 h2'
      go_wp2_with fail
      ((try simp only [Act.put, zs, zt, zu]); refine wp_region_ext (by kernel_rfl) (by kernel_rfl) ?_; (repeat (first | (go_big_quiet_want; (first | refine qH hL rfl rfl vM (by rfl) ?_ | refine qG hL rfl rfl vM (by rfl) ?_ | refine qI hL rfl rfl vM SegC.seg ?_); go_big_quiet_on; simp only [Act.put, zs, zt, zu]) | go_big_quiet_step (fail))); refine wpQuiet_nil ?_; rintro _ ⟨⟨w2, hb2⟩, rfl⟩; have hL := (hL).call hb2; clear hb2)
      go_wp2_with fail
      ((try simp only [Act.put, zs, zt, zu]); refine wp_region_ext (by kernel_rfl) (by kernel_rfl) ?_; (repeat (first | (go_big_quiet_want; (first | refine qH hL rfl rfl vM (by rfl) ?_ | refine qG hL rfl rfl vM (by rfl) ?_ | refine qI hL rfl rfl vM SegC.seg ?_); go_big_quiet_on; simp only [Act.put, zs, zt, zu]) | go_big_quiet_step (fail))); refine wpQuiet_nil ?_; rintro _ ⟨⟨w2, hb2⟩, rfl⟩; have hL := (hL).call hb2; clear hb2)
      go_wp2_with fail
      go_ret
      exact ⟨by rw [HB.out]; rfl, hL.below⟩
     ·have h2' : ¬ y.toNat < x.toNat := h2
      have HB := kD (show Op.bytesLess a.data.toList b.data.toList = Op.bytesLess (a.data.toList.drop (k + 1)) (b.data.toList.drop (k + 1)) from by
       rw [hA]
       have h3 : x = y := UInt8.toNat_inj.1 (by omega)
       simp [h1, h3])
      have t2 : decide ((x.toNat : Int) > (y.toNat : Int)) = false := (by first | (simp; done) | (simp; omega))
      have t2n : decide (y.toNat < x.toNat) = false := (by first | (simp; done) | (simp; omega))
      clear hA HS h1 h1' h2 h2'
      go_wp2_with fail
      ((try simp only [Act.put, zs, zt, zu]); refine wp_region_ext (by kernel_rfl) (by kernel_rfl) ?_; (repeat (first | (go_big_quiet_want; (first | refine qH hL rfl rfl vM (by rfl) ?_ | refine qG hL rfl rfl vM (by rfl) ?_ | refine qI hL rfl rfl vM SegC.seg ?_); go_big_quiet_on; simp only [Act.put, zs, zt, zu]) | go_big_quiet_step (fail))); refine wpQuiet_nil ?_; rintro _ ⟨⟨w2, hb2⟩, rfl⟩; have hL := (hL).call hb2; clear hb2)
      go_wp2_with fail
      ((try simp only [Act.put, zs, zt, zu]); refine wp_region_ext (by kernel_rfl) (by kernel_rfl) ?_; (repeat (first | (go_big_quiet_want; (first | refine qH hL rfl rfl vM (by rfl) ?_ | refine qG hL rfl rfl vM (by rfl) ?_ | refine qI hL rfl rfl vM SegC.seg ?_); go_big_quiet_on; simp only [Act.put, zs, zt, zu]) | go_big_quiet_step (fail))); refine wpQuiet_nil ?_; rintro _ ⟨⟨w2, hb2⟩, rfl⟩; have hL := (hL).call hb2; clear hb2)
      go_wp2_with fail
      go_roundw
      case rel => exact ⟨k + 1, by omega, by omega, by go_num, HB, hL⟩
      case measure => simp [intOf]; omega
   ·have HB := kD (show Op.bytesLess a.data.toList b.data.toList = true from by
     rw [HS.out, drop_end a k (by omega), drop_at b k hlt]
     rfl)
    have t0 : decide ((k : Int) ≥ (a.size : Int)) = true := (by first | (simp; done) | (simp; omega))
    have t0b : decide ((a.size : Int) ≤ (k : Int)) = true := (by first | (simp; done) | (simp; omega))
    have t0c : decide (a.size ≤ k) = true := (by first | (simp; done) | (simp; omega))
    clear HS
    go_wp2_with fail
    ((try simp only [Act.put, zs, zt, zu]); refine wp_region_ext (by kernel_rfl) (by kernel_rfl) ?_; (repeat (first | (go_big_quiet_want; (first | refine qH hL rfl rfl vM (by rfl) ?_ | refine qG hL rfl rfl vM (by rfl) ?_ | refine qI hL rfl rfl vM SegC.seg ?_); go_big_quiet_on; simp only [Act.put, zs, zt, zu]) | go_big_quiet_step (fail))); refine wpQuiet_nil ?_; rintro _ ⟨⟨w2, hb2⟩, rfl⟩; have hL := (hL).call hb2; clear hb2)
    go_wp2_with fail
    go_ret
    exact ⟨by rw [HB.out]; rfl, hL.below⟩
  ·obtain rfl : k = b.size := by omega
   have HB := kD (show Op.bytesLess a.data.toList b.data.toList = false from by
    rw [HS.out, drop_end b b.size (by omega)]
    exact bl_nil _)
   clear HS
   go_wp2_with fail
   go_ret
   exact ⟨by rw [HB.out]; rfl, hL.below⟩
end Go.Proofs.YtebpacmhdkgfeaaGreat

namespace Go.Proofs.YtebpacmhdkgfeaaGreat
open Go.RowKit
set_option maxHeartbeats 4000000
set_option maxRecDepth 20000
theorem stampE (a b : Mk) {r : Bool} (h : decide (a = b) = r) : ∀ w, (binOp .eql 44 (.agg #[.int .i64 a.boot, .int .i64 a.n]) (.agg #[.int .i64 b.boot, .int .i64 b.n])).run Tryz.prog w = .ok (.bool r) w := by
 have h0 : eqCells Tryz.prog 3 44 [.int .i64 a.boot, .int .i64 a.n] [.int .i64 b.boot, .int .i64 b.n] = some (a.boot == b.boot && (a.n == b.n && true)) := by kernel_rfl
 have e : (a.boot == b.boot && (a.n == b.n && true)) = decide (a = b) := by
  obtain ⟨a1, a2⟩ := a; obtain ⟨b1, b2⟩ := b
  rw [Bool.eq_iff_iff]; simp
 rw [e, h] at h0
 exact run_eql_cells 3 (by decide) (by kernel_rfl) h0
theorem Mk.lssB_true {a b : Mk} (h : a.lss b) : a.lssB b = true := Mk.lssB_iff.2 h
theorem ref09_later (a b : Mk) (w : World) : Calls Tryz.prog 175 #[.agg #[.int .i64 a.boot, .int .i64 a.n], .agg #[.int .i64 b.boot, .int .i64 b.n]] w fun e w' => (∃ c, c = a.top b ∧ e = .returned (.agg #[.int .i64 c.boot, .int .i64 c.n])) ∧ Below w.heap.size w w' := by
 have hL := Loc.nil w NoM
 by_cases h0 : a.lss b
 ·have ht : a.top b = b := if_pos (by rw [Mk.cmps_lt]; simp [h0, slt_irr, flagI, Mk.lss_irr])
  rw [ht]
  have HQ := kD (fun wx => ref09_less (a) (b) wx); rw [Mk.lssB_true h0] at HQ
  clear ht h0
  go_enter Tryz.func175, Tryz.ntmps175
  go_wp2_with (first
   | ((with_reducible refine gate (N := 2) rfl ?_); (refine lJ rfl hL rfl rfl cy ?_; clear hL; intro g2 w2 hL)) | ((with_reducible refine gate (N := 3) rfl ?_); (refine lJ rfl hL rfl rfl cy ?_; clear hL; intro g3 w3 hL))
   | (go_at_call 103; (with_reducible refine (HQ.out _).mono ?_); rintro e w5 ⟨rfl, hb5⟩; have hL := hL.call hb5; clear hb5)
   | ((with_reducible refine qD rfl rfl ?_); (refine lI rfl hL rfl cy ?_; clear hL; intro gq wq hL)) | ((with_reducible refine qB rfl rfl ?_); (refine lA rfl hL rfl rfl vM (by rfl) ?_)) | ((with_reducible refine qC rfl rfl ?_); (refine lH rfl hL rfl rfl rfl cy (by rfl) ?_); clear hL; intro wq hL))
  exact bodyPost_ret (res_cell rfl hL _ rfl vM (by rfl)) rfl ⟨⟨b, rfl, rfl⟩, hL.below⟩
 ·have ht : a.top b = a := if_neg (by rw [Mk.cmps_lt]; simp [h0, slt_irr, flagI, Mk.lss_irr])
  rw [ht]
  have HQ := kD (fun wx => ref09_less (a) (b) wx); rw [Mk.lssB_not h0] at HQ
  clear ht h0
  go_enter Tryz.func175, Tryz.ntmps175
  go_wp2_with (first
   | ((with_reducible refine gate (N := 2) rfl ?_); (refine lJ rfl hL rfl rfl cy ?_; clear hL; intro g2 w2 hL)) | ((with_reducible refine gate (N := 3) rfl ?_); (refine lJ rfl hL rfl rfl cy ?_; clear hL; intro g3 w3 hL))
   | (go_at_call 103; (with_reducible refine (HQ.out _).mono ?_); rintro e w5 ⟨rfl, hb5⟩; have hL := hL.call hb5; clear hb5)
   | ((with_reducible refine qD rfl rfl ?_); (refine lI rfl hL rfl cy ?_; clear hL; intro gq wq hL)) | ((with_reducible refine qB rfl rfl ?_); (refine lA rfl hL rfl rfl vM (by rfl) ?_)) | ((with_reducible refine qC rfl rfl ?_); (refine lH rfl hL rfl rfl rfl cy (by rfl) ?_); clear hL; intro wq hL))
  exact bodyPost_ret (res_cell rfl hL _ rfl vM (by rfl)) rfl ⟨⟨a, rfl, rfl⟩, hL.below⟩
theorem ref11_attr (a b : Atr) (w : World) : Calls Tryz.prog 171 #[.agg #[.int .i64 a.at_.boot, .int .i64 a.at_.n, .int .i64 a.mode, .int .u64 a.time], .agg #[.int .i64 b.at_.boot, .int .i64 b.at_.n, .int .i64 b.mode, .int .u64 b.time]] w fun e w' => (∃ c, c = a.top b ∧ e = .returned (.agg #[.int .i64 c.at_.boot, .int .i64 c.at_.n, .int .i64 c.mode, .int .u64 c.time])) ∧ Below w.heap.size w w' := by
 have hL := Loc.nil w NoM
 by_cases h0 : a.at_.lss b.at_
 ·have ht : a.top b = b := if_pos (by rw [Atr.cmps_lt]; simp [h0, slt_irr, flagI, Mk.lss_irr])
  rw [ht]
  have HQ := kD (fun wx => ref09_less (a.at_) (b.at_) wx); rw [Mk.lssB_true h0] at HQ
  clear ht h0
  go_enter Tryz.func171, Tryz.ntmps171
  go_wp2_with (first
   | ((with_reducible refine gate (N := 2) rfl ?_); (refine lJ rfl hL rfl rfl cy ?_; clear hL; intro g2 w2 hL)) | ((with_reducible refine gate (N := 3) rfl ?_); (refine lJ rfl hL rfl rfl cy ?_; clear hL; intro g3 w3 hL))
   | (go_at_call 103; (with_reducible refine (HQ.out _).mono ?_); rintro e w5 ⟨rfl, hb5⟩; have hL := hL.call hb5; clear hb5)
   | ((with_reducible refine qD rfl rfl ?_); (refine lI rfl hL rfl cy ?_; clear hL; intro gq wq hL)) | ((with_reducible refine qB rfl rfl ?_); (first | (refine lA rfl hL rfl rfl vM (by rfl) ?_) | (refine lF rfl hL rfl rfl vM SegC.seg ?_))) | ((with_reducible refine qC rfl rfl ?_); (refine lH rfl hL rfl rfl rfl cy (by rfl) ?_); clear hL; intro wq hL))
  exact bodyPost_ret (res_cell rfl hL _ rfl vM (by rfl)) rfl ⟨⟨b, rfl, rfl⟩, hL.below⟩
 ·by_cases h1 : a.at_ = b.at_
  ·by_cases h2 : a.mode < b.mode
   ·have ht : a.top b = b := if_pos (by rw [Atr.cmps_lt]; simp [h0, h1, h2, slt_irr, flagI, Mk.lss_irr])
    rw [ht]
    have HQ := kD (fun wx => ref09_less (a.at_) (b.at_) wx); rw [Mk.lssB_not h0] at HQ
    have q1 := stampE (a.at_) (b.at_) (decide_eq_true h1)
    have q2 : decide (a.mode < b.mode) = true := decide_eq_true h2
    clear ht h0 h1 h2
    go_enter Tryz.func171, Tryz.ntmps171
    go_wp2_with (first
     | ((with_reducible refine gate (N := 2) rfl ?_); (refine lJ rfl hL rfl rfl cy ?_; clear hL; intro g2 w2 hL)) | ((with_reducible refine gate (N := 3) rfl ?_); (refine lJ rfl hL rfl rfl cy ?_; clear hL; intro g3 w3 hL))
     | (go_at_call 103; (with_reducible refine (HQ.out _).mono ?_); rintro e w5 ⟨rfl, hb5⟩; have hL := hL.call hb5; clear hb5)
     | ((with_reducible refine qD rfl rfl ?_); (refine lI rfl hL rfl cy ?_; clear hL; intro gq wq hL)) | ((with_reducible refine qB rfl rfl ?_); (first | (refine lA rfl hL rfl rfl vM (by rfl) ?_) | (refine lF rfl hL rfl rfl vM SegC.seg ?_))) | ((with_reducible refine qC rfl rfl ?_); (refine lH rfl hL rfl rfl rfl cy (by rfl) ?_); clear hL; intro wq hL) | ((with_reducible refine qA rfl rfl ?_ ?_); (exact wz rfl rfl rfl (by with_reducible rfl)); (first | (refine lD (wz rfl rfl rfl rfl) hL rfl rfl vM (by rfl) ?_) | (refine lE (wz rfl rfl rfl rfl) hL rfl rfl vM SegC.seg ?_))))
    exact bodyPost_ret (res_cell rfl hL _ rfl vM (by rfl)) rfl ⟨⟨b, rfl, rfl⟩, hL.below⟩
   ·by_cases h3 : a.mode = b.mode
    ·by_cases h4 : a.time < b.time
     ·have ht : a.top b = b := if_pos (by rw [Atr.cmps_lt]; simp [h0, h1, h2, h3, h4, slt_irr, flagI, Mk.lss_irr])
      rw [ht]
      have HQ := kD (fun wx => ref09_less (a.at_) (b.at_) wx); rw [Mk.lssB_not h0] at HQ
      have q1 := stampE (a.at_) (b.at_) (decide_eq_true h1)
      have q2 : decide (a.mode < b.mode) = false := decide_eq_false h2
      have q3 : (a.mode == b.mode) = true := by simpa using h3
      have q4 : decide (a.time < b.time) = true := decide_eq_true h4
      clear ht h0 h1 h2 h3 h4
      go_enter Tryz.func171, Tryz.ntmps171
      go_wp2_with (first
       | ((with_reducible refine gate (N := 2) rfl ?_); (refine lJ rfl hL rfl rfl cy ?_; clear hL; intro g2 w2 hL)) | ((with_reducible refine gate (N := 3) rfl ?_); (refine lJ rfl hL rfl rfl cy ?_; clear hL; intro g3 w3 hL))
       | (go_at_call 103; (with_reducible refine (HQ.out _).mono ?_); rintro e w5 ⟨rfl, hb5⟩; have hL := hL.call hb5; clear hb5)
       | ((with_reducible refine qD rfl rfl ?_); (refine lI rfl hL rfl cy ?_; clear hL; intro gq wq hL)) | ((with_reducible refine qB rfl rfl ?_); (first | (refine lA rfl hL rfl rfl vM (by rfl) ?_) | (refine lF rfl hL rfl rfl vM SegC.seg ?_))) | ((with_reducible refine qC rfl rfl ?_); (refine lH rfl hL rfl rfl rfl cy (by rfl) ?_); clear hL; intro wq hL) | ((with_reducible refine qA rfl rfl ?_ ?_); (exact wz rfl rfl rfl (by with_reducible rfl)); (first | (refine lD (wz rfl rfl rfl rfl) hL rfl rfl vM (by rfl) ?_) | (refine lE (wz rfl rfl rfl rfl) hL rfl rfl vM SegC.seg ?_))))
      exact bodyPost_ret (res_cell rfl hL _ rfl vM (by rfl)) rfl ⟨⟨b, rfl, rfl⟩, hL.below⟩
     ·have ht : a.top b = a := if_neg (by rw [Atr.cmps_lt]; simp [h0, h1, h2, h3, h4, slt_irr, flagI, Mk.lss_irr])
      rw [ht]
      have HQ := kD (fun wx => ref09_less (a.at_) (b.at_) wx); rw [Mk.lssB_not h0] at HQ
      have q1 := stampE (a.at_) (b.at_) (decide_eq_true h1)
      have q2 : decide (a.mode < b.mode) = false := decide_eq_false h2
      have q3 : (a.mode == b.mode) = true := by simpa using h3
      have q4 : decide (a.time < b.time) = false := decide_eq_false h4
      clear ht h0 h1 h2 h3 h4
      go_enter Tryz.func171, Tryz.ntmps171
      go_wp2_with (first
       | ((with_reducible refine gate (N := 2) rfl ?_); (refine lJ rfl hL rfl rfl cy ?_; clear hL; intro g2 w2 hL)) | ((with_reducible refine gate (N := 3) rfl ?_); (refine lJ rfl hL rfl rfl cy ?_; clear hL; intro g3 w3 hL))
       | (go_at_call 103; (with_reducible refine (HQ.out _).mono ?_); rintro e w5 ⟨rfl, hb5⟩; have hL := hL.call hb5; clear hb5)
       | ((with_reducible refine qD rfl rfl ?_); (refine lI rfl hL rfl cy ?_; clear hL; intro gq wq hL)) | ((with_reducible refine qB rfl rfl ?_); (first | (refine lA rfl hL rfl rfl vM (by rfl) ?_) | (refine lF rfl hL rfl rfl vM SegC.seg ?_))) | ((with_reducible refine qC rfl rfl ?_); (refine lH rfl hL rfl rfl rfl cy (by rfl) ?_); clear hL; intro wq hL) | ((with_reducible refine qA rfl rfl ?_ ?_); (exact wz rfl rfl rfl (by with_reducible rfl)); (first | (refine lD (wz rfl rfl rfl rfl) hL rfl rfl vM (by rfl) ?_) | (refine lE (wz rfl rfl rfl rfl) hL rfl rfl vM SegC.seg ?_))))
      exact bodyPost_ret (res_cell rfl hL _ rfl vM (by rfl)) rfl ⟨⟨a, rfl, rfl⟩, hL.below⟩
    ·have ht : a.top b = a := if_neg (by rw [Atr.cmps_lt]; simp [h0, h1, h2, h3, slt_irr, flagI, Mk.lss_irr])
     rw [ht]
     have HQ := kD (fun wx => ref09_less (a.at_) (b.at_) wx); rw [Mk.lssB_not h0] at HQ
     have q1 := stampE (a.at_) (b.at_) (decide_eq_true h1)
     have q2 : decide (a.mode < b.mode) = false := decide_eq_false h2
     have q3 : (a.mode == b.mode) = false := by simpa using h3
     clear ht h0 h1 h2 h3
     go_enter Tryz.func171, Tryz.ntmps171
     go_wp2_with (first
      | ((with_reducible refine gate (N := 2) rfl ?_); (refine lJ rfl hL rfl rfl cy ?_; clear hL; intro g2 w2 hL)) | ((with_reducible refine gate (N := 3) rfl ?_); (refine lJ rfl hL rfl rfl cy ?_; clear hL; intro g3 w3 hL))
      | (go_at_call 103; (with_reducible refine (HQ.out _).mono ?_); rintro e w5 ⟨rfl, hb5⟩; have hL := hL.call hb5; clear hb5)
      | ((with_reducible refine qD rfl rfl ?_); (refine lI rfl hL rfl cy ?_; clear hL; intro gq wq hL)) | ((with_reducible refine qB rfl rfl ?_); (first | (refine lA rfl hL rfl rfl vM (by rfl) ?_) | (refine lF rfl hL rfl rfl vM SegC.seg ?_))) | ((with_reducible refine qC rfl rfl ?_); (refine lH rfl hL rfl rfl rfl cy (by rfl) ?_); clear hL; intro wq hL) | ((with_reducible refine qA rfl rfl ?_ ?_); (exact wz rfl rfl rfl (by with_reducible rfl)); (first | (refine lD (wz rfl rfl rfl rfl) hL rfl rfl vM (by rfl) ?_) | (refine lE (wz rfl rfl rfl rfl) hL rfl rfl vM SegC.seg ?_))))
     exact bodyPost_ret (res_cell rfl hL _ rfl vM (by rfl)) rfl ⟨⟨a, rfl, rfl⟩, hL.below⟩
  ·have ht : a.top b = a := if_neg (by rw [Atr.cmps_lt]; simp [h0, h1, slt_irr, flagI, Mk.lss_irr])
   rw [ht]
   have HQ := kD (fun wx => ref09_less (a.at_) (b.at_) wx); rw [Mk.lssB_not h0] at HQ
   have q1 := stampE (a.at_) (b.at_) (decide_eq_false h1)
   clear ht h0 h1
   go_enter Tryz.func171, Tryz.ntmps171
   go_wp2_with (first
    | ((with_reducible refine gate (N := 2) rfl ?_); (refine lJ rfl hL rfl rfl cy ?_; clear hL; intro g2 w2 hL)) | ((with_reducible refine gate (N := 3) rfl ?_); (refine lJ rfl hL rfl rfl cy ?_; clear hL; intro g3 w3 hL))
    | (go_at_call 103; (with_reducible refine (HQ.out _).mono ?_); rintro e w5 ⟨rfl, hb5⟩; have hL := hL.call hb5; clear hb5)
    | ((with_reducible refine qD rfl rfl ?_); (refine lI rfl hL rfl cy ?_; clear hL; intro gq wq hL)) | ((with_reducible refine qB rfl rfl ?_); (first | (refine lA rfl hL rfl rfl vM (by rfl) ?_) | (refine lF rfl hL rfl rfl vM SegC.seg ?_))) | ((with_reducible refine qC rfl rfl ?_); (refine lH rfl hL rfl rfl rfl cy (by rfl) ?_); clear hL; intro wq hL) | ((with_reducible refine qA rfl rfl ?_ ?_); (exact wz rfl rfl rfl (by with_reducible rfl)); (refine lE (wz rfl rfl rfl rfl) hL rfl rfl vM SegC.seg ?_)))
   exact bodyPost_ret (res_cell rfl hL _ rfl vM (by rfl)) rfl ⟨⟨a, rfl, rfl⟩, hL.below⟩
theorem ref11_size (a b : Siz) (w : World) : Calls Tryz.prog 172 #[.agg #[.int .i64 a.at_.boot, .int .i64 a.at_.n, .int .i64 a.n], .agg #[.int .i64 b.at_.boot, .int .i64 b.at_.n, .int .i64 b.n]] w fun e w' => (∃ c, c = a.top b ∧ e = .returned (.agg #[.int .i64 c.at_.boot, .int .i64 c.at_.n, .int .i64 c.n])) ∧ Below w.heap.size w w' := by
 have hL := Loc.nil w NoM
 by_cases h0 : a.at_.lss b.at_
 ·have ht : a.top b = b := if_pos (by rw [Siz.cmps_lt]; simp [h0, slt_irr, flagI, Mk.lss_irr])
  rw [ht]
  have HQ := kD (fun wx => ref09_less (a.at_) (b.at_) wx); rw [Mk.lssB_true h0] at HQ
  clear ht h0
  go_enter Tryz.func172, Tryz.ntmps172
  go_wp2_with (first
   | ((with_reducible refine gate (N := 2) rfl ?_); (refine lJ rfl hL rfl rfl cy ?_; clear hL; intro g2 w2 hL)) | ((with_reducible refine gate (N := 3) rfl ?_); (refine lJ rfl hL rfl rfl cy ?_; clear hL; intro g3 w3 hL))
   | (go_at_call 103; (with_reducible refine (HQ.out _).mono ?_); rintro e w5 ⟨rfl, hb5⟩; have hL := hL.call hb5; clear hb5)
   | ((with_reducible refine qD rfl rfl ?_); (refine lI rfl hL rfl cy ?_; clear hL; intro gq wq hL)) | ((with_reducible refine qB rfl rfl ?_); (first | (refine lA rfl hL rfl rfl vM (by rfl) ?_) | (refine lF rfl hL rfl rfl vM SegC.seg ?_))) | ((with_reducible refine qC rfl rfl ?_); (refine lH rfl hL rfl rfl rfl cy (by rfl) ?_); clear hL; intro wq hL))
  exact bodyPost_ret (res_cell rfl hL _ rfl vM (by rfl)) rfl ⟨⟨b, rfl, rfl⟩, hL.below⟩
 ·by_cases h1 : a.at_ = b.at_
  ·by_cases h2 : a.n < b.n
   ·have ht : a.top b = b := if_pos (by rw [Siz.cmps_lt]; simp [h0, h1, h2, slt_irr, flagI, Mk.lss_irr])
    rw [ht]
    have HQ := kD (fun wx => ref09_less (a.at_) (b.at_) wx); rw [Mk.lssB_not h0] at HQ
    have q1 := stampE (a.at_) (b.at_) (decide_eq_true h1)
    have q2 : decide (a.n < b.n) = true := decide_eq_true h2
    clear ht h0 h1 h2
    go_enter Tryz.func172, Tryz.ntmps172
    go_wp2_with (first
     | ((with_reducible refine gate (N := 2) rfl ?_); (refine lJ rfl hL rfl rfl cy ?_; clear hL; intro g2 w2 hL)) | ((with_reducible refine gate (N := 3) rfl ?_); (refine lJ rfl hL rfl rfl cy ?_; clear hL; intro g3 w3 hL))
     | (go_at_call 103; (with_reducible refine (HQ.out _).mono ?_); rintro e w5 ⟨rfl, hb5⟩; have hL := hL.call hb5; clear hb5)
     | ((with_reducible refine qD rfl rfl ?_); (refine lI rfl hL rfl cy ?_; clear hL; intro gq wq hL)) | ((with_reducible refine qB rfl rfl ?_); (first | (refine lA rfl hL rfl rfl vM (by rfl) ?_) | (refine lF rfl hL rfl rfl vM SegC.seg ?_))) | ((with_reducible refine qC rfl rfl ?_); (refine lH rfl hL rfl rfl rfl cy (by rfl) ?_); clear hL; intro wq hL) | ((with_reducible refine qA rfl rfl ?_ ?_); (exact wz rfl rfl rfl (by with_reducible rfl)); (first | (refine lD (wz rfl rfl rfl rfl) hL rfl rfl vM (by rfl) ?_) | (refine lE (wz rfl rfl rfl rfl) hL rfl rfl vM SegC.seg ?_))))
    exact bodyPost_ret (res_cell rfl hL _ rfl vM (by rfl)) rfl ⟨⟨b, rfl, rfl⟩, hL.below⟩
   ·have ht : a.top b = a := if_neg (by rw [Siz.cmps_lt]; simp [h0, h1, h2, slt_irr, flagI, Mk.lss_irr])
    rw [ht]
    have HQ := kD (fun wx => ref09_less (a.at_) (b.at_) wx); rw [Mk.lssB_not h0] at HQ
    have q1 := stampE (a.at_) (b.at_) (decide_eq_true h1)
    have q2 : decide (a.n < b.n) = false := decide_eq_false h2
    clear ht h0 h1 h2
    go_enter Tryz.func172, Tryz.ntmps172
    go_wp2_with (first
     | ((with_reducible refine gate (N := 2) rfl ?_); (refine lJ rfl hL rfl rfl cy ?_; clear hL; intro g2 w2 hL)) | ((with_reducible refine gate (N := 3) rfl ?_); (refine lJ rfl hL rfl rfl cy ?_; clear hL; intro g3 w3 hL))
     | (go_at_call 103; (with_reducible refine (HQ.out _).mono ?_); rintro e w5 ⟨rfl, hb5⟩; have hL := hL.call hb5; clear hb5)
     | ((with_reducible refine qD rfl rfl ?_); (refine lI rfl hL rfl cy ?_; clear hL; intro gq wq hL)) | ((with_reducible refine qB rfl rfl ?_); (first | (refine lA rfl hL rfl rfl vM (by rfl) ?_) | (refine lF rfl hL rfl rfl vM SegC.seg ?_))) | ((with_reducible refine qC rfl rfl ?_); (refine lH rfl hL rfl rfl rfl cy (by rfl) ?_); clear hL; intro wq hL) | ((with_reducible refine qA rfl rfl ?_ ?_); (exact wz rfl rfl rfl (by with_reducible rfl)); (first | (refine lD (wz rfl rfl rfl rfl) hL rfl rfl vM (by rfl) ?_) | (refine lE (wz rfl rfl rfl rfl) hL rfl rfl vM SegC.seg ?_))))
    exact bodyPost_ret (res_cell rfl hL _ rfl vM (by rfl)) rfl ⟨⟨a, rfl, rfl⟩, hL.below⟩
  ·have ht : a.top b = a := if_neg (by rw [Siz.cmps_lt]; simp [h0, h1, slt_irr, flagI, Mk.lss_irr])
   rw [ht]
   have HQ := kD (fun wx => ref09_less (a.at_) (b.at_) wx); rw [Mk.lssB_not h0] at HQ
   have q1 := stampE (a.at_) (b.at_) (decide_eq_false h1)
   clear ht h0 h1
   go_enter Tryz.func172, Tryz.ntmps172
   go_wp2_with (first
    | ((with_reducible refine gate (N := 2) rfl ?_); (refine lJ rfl hL rfl rfl cy ?_; clear hL; intro g2 w2 hL)) | ((with_reducible refine gate (N := 3) rfl ?_); (refine lJ rfl hL rfl rfl cy ?_; clear hL; intro g3 w3 hL))
    | (go_at_call 103; (with_reducible refine (HQ.out _).mono ?_); rintro e w5 ⟨rfl, hb5⟩; have hL := hL.call hb5; clear hb5)
    | ((with_reducible refine qD rfl rfl ?_); (refine lI rfl hL rfl cy ?_; clear hL; intro gq wq hL)) | ((with_reducible refine qB rfl rfl ?_); (first | (refine lA rfl hL rfl rfl vM (by rfl) ?_) | (refine lF rfl hL rfl rfl vM SegC.seg ?_))) | ((with_reducible refine qC rfl rfl ?_); (refine lH rfl hL rfl rfl rfl cy (by rfl) ?_); clear hL; intro wq hL) | ((with_reducible refine qA rfl rfl ?_ ?_); (exact wz rfl rfl rfl (by with_reducible rfl)); (refine lE (wz rfl rfl rfl rfl) hL rfl rfl vM SegC.seg ?_)))
   exact bodyPost_ret (res_cell rfl hL _ rfl vM (by rfl)) rfl ⟨⟨a, rfl, rfl⟩, hL.below⟩
theorem ref11_piece (a b : Pce) (w : World) (ha : a.data.size ≤ 9223372036854775807) (hb : b.data.size ≤ 9223372036854775807) : Calls Tryz.prog 203 #[.agg #[.int .i64 a.idx, .int .i64 a.at_.boot, .int .i64 a.at_.n, .string a.data], .agg #[.int .i64 b.idx, .int .i64 b.at_.boot, .int .i64 b.at_.n, .string b.data]] w fun e w' => (∃ c, c = a.top b ∧ e = .returned (.agg #[.int .i64 c.idx, .int .i64 c.at_.boot, .int .i64 c.at_.n, .string c.data])) ∧ Below w.heap.size w w' := by
 have hL := Loc.nil w NoM
 by_cases h0 : a.at_.lss b.at_
 ·have ht : a.top b = b := if_pos (by rw [Pce.cmps_lt]; simp [h0, slt_irr, flagI, Mk.lss_irr])
  rw [ht]
  have HQ := kD (fun wx => ref09_less (a.at_) (b.at_) wx); rw [Mk.lssB_true h0] at HQ
  clear ht h0
  go_enter Tryz.func203, Tryz.ntmps203
  go_wp2_with (first
   | ((with_reducible refine gate (N := 2) rfl ?_); (refine lJ rfl hL rfl rfl cy ?_; clear hL; intro g2 w2 hL)) | ((with_reducible refine gate (N := 3) rfl ?_); (refine lJ rfl hL rfl rfl cy ?_; clear hL; intro g3 w3 hL))
   | (go_at_call 103; (with_reducible refine (HQ.out _).mono ?_); rintro e w5 ⟨rfl, hb5⟩; have hL := hL.call hb5; clear hb5)
   | ((with_reducible refine qD rfl rfl ?_); (refine lI rfl hL rfl cy ?_; clear hL; intro gq wq hL)) | ((with_reducible refine qB rfl rfl ?_); (first | (refine lA rfl hL rfl rfl vM (by rfl) ?_) | (refine lF rfl hL rfl rfl vM SegC.seg ?_))) | ((with_reducible refine qC rfl rfl ?_); (refine lH rfl hL rfl rfl rfl cy (by rfl) ?_); clear hL; intro wq hL))
  exact bodyPost_ret (res_cell rfl hL _ rfl vM (by rfl)) rfl ⟨⟨b, rfl, rfl⟩, hL.below⟩
 ·by_cases h1 : a.at_ = b.at_
  ·by_cases h2 : slt a.data b.data = true
   ·have ht : a.top b = b := if_pos (by rw [Pce.cmps_lt]; simp [h0, h1, h2, slt_irr, flagI, Mk.lss_irr])
    rw [ht]
    have HQ := kD (fun wx => ref09_less (a.at_) (b.at_) wx); rw [Mk.lssB_not h0] at HQ
    have q1 := stampE (a.at_) (b.at_) (decide_eq_true h1)
    have HS := kD (fun wx => ref01_less (a.data) (b.data) wx ha hb); rw [show slt (a.data) (b.data) = true from h2] at HS
    clear ht h0 h1 h2
    go_enter Tryz.func203, Tryz.ntmps203
    go_wp2_with (first
     | ((with_reducible refine gate (N := 2) rfl ?_); (refine lJ rfl hL rfl rfl cy ?_; clear hL; intro g2 w2 hL)) | ((with_reducible refine gate (N := 3) rfl ?_); (refine lJ rfl hL rfl rfl cy ?_; clear hL; intro g3 w3 hL))
     | (go_at_call 103; (with_reducible refine (HQ.out _).mono ?_); rintro e w5 ⟨rfl, hb5⟩; have hL := hL.call hb5; clear hb5)
     | (go_at_call 170; (with_reducible refine (HS.out _).mono ?_); rintro e w5 ⟨rfl, hb5⟩; have hL := hL.call hb5; clear hb5)
     | ((with_reducible refine qD rfl rfl ?_); (refine lI rfl hL rfl cy ?_; clear hL; intro gq wq hL)) | ((with_reducible refine qB rfl rfl ?_); (first | (refine lA rfl hL rfl rfl vM (by rfl) ?_) | (refine lF rfl hL rfl rfl vM SegC.seg ?_))) | ((with_reducible refine qC rfl rfl ?_); (refine lH rfl hL rfl rfl rfl cy (by rfl) ?_); clear hL; intro wq hL) | ((with_reducible refine qA rfl rfl ?_ ?_); (exact wz rfl rfl rfl (by with_reducible rfl)); (first | (refine lD (wz rfl rfl rfl rfl) hL rfl rfl vM (by rfl) ?_) | (refine lE (wz rfl rfl rfl rfl) hL rfl rfl vM SegC.seg ?_))))
    exact bodyPost_ret (res_cell rfl hL _ rfl vM (by rfl)) rfl ⟨⟨b, rfl, rfl⟩, hL.below⟩
   ·have ht : a.top b = a := if_neg (by rw [Pce.cmps_lt]; simp [h0, h1, h2, slt_irr, flagI, Mk.lss_irr])
    rw [ht]
    have HQ := kD (fun wx => ref09_less (a.at_) (b.at_) wx); rw [Mk.lssB_not h0] at HQ
    have q1 := stampE (a.at_) (b.at_) (decide_eq_true h1)
    have HS := kD (fun wx => ref01_less (a.data) (b.data) wx ha hb); rw [show slt (a.data) (b.data) = false from Bool.eq_false_iff.2 h2] at HS
    clear ht h0 h1 h2
    go_enter Tryz.func203, Tryz.ntmps203
    go_wp2_with (first
     | ((with_reducible refine gate (N := 2) rfl ?_); (refine lJ rfl hL rfl rfl cy ?_; clear hL; intro g2 w2 hL)) | ((with_reducible refine gate (N := 3) rfl ?_); (refine lJ rfl hL rfl rfl cy ?_; clear hL; intro g3 w3 hL))
     | (go_at_call 103; (with_reducible refine (HQ.out _).mono ?_); rintro e w5 ⟨rfl, hb5⟩; have hL := hL.call hb5; clear hb5)
     | (go_at_call 170; (with_reducible refine (HS.out _).mono ?_); rintro e w5 ⟨rfl, hb5⟩; have hL := hL.call hb5; clear hb5)
     | ((with_reducible refine qD rfl rfl ?_); (refine lI rfl hL rfl cy ?_; clear hL; intro gq wq hL)) | ((with_reducible refine qB rfl rfl ?_); (first | (refine lA rfl hL rfl rfl vM (by rfl) ?_) | (refine lF rfl hL rfl rfl vM SegC.seg ?_))) | ((with_reducible refine qC rfl rfl ?_); (refine lH rfl hL rfl rfl rfl cy (by rfl) ?_); clear hL; intro wq hL) | ((with_reducible refine qA rfl rfl ?_ ?_); (exact wz rfl rfl rfl (by with_reducible rfl)); (first | (refine lD (wz rfl rfl rfl rfl) hL rfl rfl vM (by rfl) ?_) | (refine lE (wz rfl rfl rfl rfl) hL rfl rfl vM SegC.seg ?_))))
    exact bodyPost_ret (res_cell rfl hL _ rfl vM (by rfl)) rfl ⟨⟨a, rfl, rfl⟩, hL.below⟩
  ·have ht : a.top b = a := if_neg (by rw [Pce.cmps_lt]; simp [h0, h1, slt_irr, flagI, Mk.lss_irr])
   rw [ht]
   have HQ := kD (fun wx => ref09_less (a.at_) (b.at_) wx); rw [Mk.lssB_not h0] at HQ
   have q1 := stampE (a.at_) (b.at_) (decide_eq_false h1)
   clear ht h0 h1
   go_enter Tryz.func203, Tryz.ntmps203
   go_wp2_with (first
    | ((with_reducible refine gate (N := 2) rfl ?_); (refine lJ rfl hL rfl rfl cy ?_; clear hL; intro g2 w2 hL)) | ((with_reducible refine gate (N := 3) rfl ?_); (refine lJ rfl hL rfl rfl cy ?_; clear hL; intro g3 w3 hL))
    | (go_at_call 103; (with_reducible refine (HQ.out _).mono ?_); rintro e w5 ⟨rfl, hb5⟩; have hL := hL.call hb5; clear hb5)
    | ((with_reducible refine qD rfl rfl ?_); (refine lI rfl hL rfl cy ?_; clear hL; intro gq wq hL)) | ((with_reducible refine qB rfl rfl ?_); (first | (refine lA rfl hL rfl rfl vM (by rfl) ?_) | (refine lF rfl hL rfl rfl vM SegC.seg ?_))) | ((with_reducible refine qC rfl rfl ?_); (refine lH rfl hL rfl rfl rfl cy (by rfl) ?_); clear hL; intro wq hL) | ((with_reducible refine qA rfl rfl ?_ ?_); (exact wz rfl rfl rfl (by with_reducible rfl)); (refine lE (wz rfl rfl rfl rfl) hL rfl rfl vM SegC.seg ?_)))
   exact bodyPost_ret (res_cell rfl hL _ rfl vM (by rfl)) rfl ⟨⟨a, rfl, rfl⟩, hL.below⟩
theorem ref11_xattr (a b : Xat) (w : World) (ha : a.val.size ≤ 9223372036854775807) (hb : b.val.size ≤ 9223372036854775807) : Calls Tryz.prog 204 #[.agg #[.string a.name, .int .i64 a.at_.boot, .int .i64 a.at_.n, .string a.val, .bool a.gone], .agg #[.string b.name, .int .i64 b.at_.boot, .int .i64 b.at_.n, .string b.val, .bool b.gone]] w fun e w' => (∃ c, c = a.top b ∧ e = .returned (.agg #[.string c.name, .int .i64 c.at_.boot, .int .i64 c.at_.n, .string c.val, .bool c.gone])) ∧ Below w.heap.size w w' := by
 have hL := Loc.nil w NoM
 obtain ⟨an, aa, av, ag⟩ := a
 obtain ⟨bn, ba, bv, bg⟩ := b
 simp only at ha hb
 simp only
 cases ag
 ·cases bg
  ·by_cases h0 : aa.lss ba
   ·have ht : Xat.top (Xat.mk an aa av false) (Xat.mk bn ba bv false) = (Xat.mk bn ba bv false) := if_pos (by rw [Xat.cmps_lt]; simp [h0, slt_irr, flagI, Mk.lss_irr])
    rw [ht]
    have HQ := kD (fun wx => ref09_less (aa) (ba) wx); rw [Mk.lssB_true h0] at HQ
    clear ht h0
    go_enter Tryz.func204, Tryz.ntmps204
    go_wp2_with (first
     | ((with_reducible refine gate (N := 2) rfl ?_); (refine lJ rfl hL rfl rfl cy ?_; clear hL; intro g2 w2 hL)) | ((with_reducible refine gate (N := 3) rfl ?_); (refine lJ rfl hL rfl rfl cy ?_; clear hL; intro g3 w3 hL))
     | (go_at_call 103; (with_reducible refine (HQ.out _).mono ?_); rintro e w5 ⟨rfl, hb5⟩; have hL := hL.call hb5; clear hb5)
     | ((with_reducible refine qD rfl rfl ?_); (refine lI rfl hL rfl cy ?_; clear hL; intro gq wq hL)) | ((with_reducible refine qB rfl rfl ?_); (first | (refine lA rfl hL rfl rfl vM (by rfl) ?_) | (refine lF rfl hL rfl rfl vM SegC.seg ?_))) | ((with_reducible refine qC rfl rfl ?_); (refine lH rfl hL rfl rfl rfl cy (by rfl) ?_); clear hL; intro wq hL))
    exact bodyPost_ret (res_cell rfl hL _ rfl vM (by rfl)) rfl ⟨⟨_, rfl, rfl⟩, hL.below⟩
   ·by_cases h1 : aa = ba
    ·by_cases h2 : slt av bv = true
     ·have ht : Xat.top (Xat.mk an aa av false) (Xat.mk bn ba bv false) = (Xat.mk bn ba bv false) := if_pos (by rw [Xat.cmps_lt]; simp [h0, h1, h2, slt_irr, flagI, Mk.lss_irr])
      rw [ht]
      have HQ := kD (fun wx => ref09_less (aa) (ba) wx); rw [Mk.lssB_not h0] at HQ
      have q1 := stampE (aa) (ba) (decide_eq_true h1)
      have HS := kD (fun wx => ref01_less (av) (bv) wx ha hb); rw [show slt (av) (bv) = true from h2] at HS
      clear ht h0 h1 h2
      go_enter Tryz.func204, Tryz.ntmps204
      go_wp2_with (first
       | ((with_reducible refine gate (N := 2) rfl ?_); (refine lJ rfl hL rfl rfl cy ?_; clear hL; intro g2 w2 hL)) | ((with_reducible refine gate (N := 3) rfl ?_); (refine lJ rfl hL rfl rfl cy ?_; clear hL; intro g3 w3 hL))
       | (go_at_call 103; (with_reducible refine (HQ.out _).mono ?_); rintro e w5 ⟨rfl, hb5⟩; have hL := hL.call hb5; clear hb5)
       | (go_at_call 170; (with_reducible refine (HS.out _).mono ?_); rintro e w5 ⟨rfl, hb5⟩; have hL := hL.call hb5; clear hb5)
       | ((with_reducible refine qD rfl rfl ?_); (refine lI rfl hL rfl cy ?_; clear hL; intro gq wq hL)) | ((with_reducible refine qB rfl rfl ?_); (first | (refine lA rfl hL rfl rfl vM (by rfl) ?_) | (refine lF rfl hL rfl rfl vM SegC.seg ?_))) | ((with_reducible refine qC rfl rfl ?_); (refine lH rfl hL rfl rfl rfl cy (by rfl) ?_); clear hL; intro wq hL) | ((with_reducible refine qA rfl rfl ?_ ?_); (exact wz rfl rfl rfl (by with_reducible rfl)); (first | (refine lD (wz rfl rfl rfl rfl) hL rfl rfl vM (by rfl) ?_) | (refine lE (wz rfl rfl rfl rfl) hL rfl rfl vM SegC.seg ?_))))
      exact bodyPost_ret (res_cell rfl hL _ rfl vM (by rfl)) rfl ⟨⟨_, rfl, rfl⟩, hL.below⟩
     ·have ht : Xat.top (Xat.mk an aa av false) (Xat.mk bn ba bv false) = (Xat.mk an aa av false) := if_neg (by rw [Xat.cmps_lt]; simp [h0, h1, h2, slt_irr, flagI, Mk.lss_irr])
      rw [ht]
      have HQ := kD (fun wx => ref09_less (aa) (ba) wx); rw [Mk.lssB_not h0] at HQ
      have q1 := stampE (aa) (ba) (decide_eq_true h1)
      have HS := kD (fun wx => ref01_less (av) (bv) wx ha hb); rw [show slt (av) (bv) = false from Bool.eq_false_iff.2 h2] at HS
      clear ht h0 h1 h2
      go_enter Tryz.func204, Tryz.ntmps204
      go_wp2_with (first
       | ((with_reducible refine gate (N := 2) rfl ?_); (refine lJ rfl hL rfl rfl cy ?_; clear hL; intro g2 w2 hL)) | ((with_reducible refine gate (N := 3) rfl ?_); (refine lJ rfl hL rfl rfl cy ?_; clear hL; intro g3 w3 hL))
       | (go_at_call 103; (with_reducible refine (HQ.out _).mono ?_); rintro e w5 ⟨rfl, hb5⟩; have hL := hL.call hb5; clear hb5)
       | (go_at_call 170; (with_reducible refine (HS.out _).mono ?_); rintro e w5 ⟨rfl, hb5⟩; have hL := hL.call hb5; clear hb5)
       | ((with_reducible refine qD rfl rfl ?_); (refine lI rfl hL rfl cy ?_; clear hL; intro gq wq hL)) | ((with_reducible refine qB rfl rfl ?_); (first | (refine lA rfl hL rfl rfl vM (by rfl) ?_) | (refine lF rfl hL rfl rfl vM SegC.seg ?_))) | ((with_reducible refine qC rfl rfl ?_); (refine lH rfl hL rfl rfl rfl cy (by rfl) ?_); clear hL; intro wq hL) | ((with_reducible refine qA rfl rfl ?_ ?_); (exact wz rfl rfl rfl (by with_reducible rfl)); (first | (refine lD (wz rfl rfl rfl rfl) hL rfl rfl vM (by rfl) ?_) | (refine lE (wz rfl rfl rfl rfl) hL rfl rfl vM SegC.seg ?_))))
      exact bodyPost_ret (res_cell rfl hL _ rfl vM (by rfl)) rfl ⟨⟨_, rfl, rfl⟩, hL.below⟩
    ·have ht : Xat.top (Xat.mk an aa av false) (Xat.mk bn ba bv false) = (Xat.mk an aa av false) := if_neg (by rw [Xat.cmps_lt]; simp [h0, h1, slt_irr, flagI, Mk.lss_irr])
     rw [ht]
     have HQ := kD (fun wx => ref09_less (aa) (ba) wx); rw [Mk.lssB_not h0] at HQ
     have q1 := stampE (aa) (ba) (decide_eq_false h1)
     clear ht h0 h1
     go_enter Tryz.func204, Tryz.ntmps204
     go_wp2_with (first
      | ((with_reducible refine gate (N := 2) rfl ?_); (refine lJ rfl hL rfl rfl cy ?_; clear hL; intro g2 w2 hL)) | ((with_reducible refine gate (N := 3) rfl ?_); (refine lJ rfl hL rfl rfl cy ?_; clear hL; intro g3 w3 hL))
      | (go_at_call 103; (with_reducible refine (HQ.out _).mono ?_); rintro e w5 ⟨rfl, hb5⟩; have hL := hL.call hb5; clear hb5)
      | ((with_reducible refine qD rfl rfl ?_); (refine lI rfl hL rfl cy ?_; clear hL; intro gq wq hL)) | ((with_reducible refine qB rfl rfl ?_); (first | (refine lA rfl hL rfl rfl vM (by rfl) ?_) | (refine lF rfl hL rfl rfl vM SegC.seg ?_))) | ((with_reducible refine qC rfl rfl ?_); (refine lH rfl hL rfl rfl rfl cy (by rfl) ?_); clear hL; intro wq hL) | ((with_reducible refine qA rfl rfl ?_ ?_); (exact wz rfl rfl rfl (by with_reducible rfl)); (refine lE (wz rfl rfl rfl rfl) hL rfl rfl vM SegC.seg ?_)))
     exact bodyPost_ret (res_cell rfl hL _ rfl vM (by rfl)) rfl ⟨⟨_, rfl, rfl⟩, hL.below⟩
  ·by_cases h0 : aa.lss ba
   ·have ht : Xat.top (Xat.mk an aa av false) (Xat.mk bn ba bv true) = (Xat.mk bn ba bv true) := if_pos (by rw [Xat.cmps_lt]; simp [h0, slt_irr, flagI, Mk.lss_irr])
    rw [ht]
    have HQ := kD (fun wx => ref09_less (aa) (ba) wx); rw [Mk.lssB_true h0] at HQ
    clear ht h0
    go_enter Tryz.func204, Tryz.ntmps204
    go_wp2_with (first
     | ((with_reducible refine gate (N := 2) rfl ?_); (refine lJ rfl hL rfl rfl cy ?_; clear hL; intro g2 w2 hL)) | ((with_reducible refine gate (N := 3) rfl ?_); (refine lJ rfl hL rfl rfl cy ?_; clear hL; intro g3 w3 hL))
     | (go_at_call 103; (with_reducible refine (HQ.out _).mono ?_); rintro e w5 ⟨rfl, hb5⟩; have hL := hL.call hb5; clear hb5)
     | ((with_reducible refine qD rfl rfl ?_); (refine lI rfl hL rfl cy ?_; clear hL; intro gq wq hL)) | ((with_reducible refine qB rfl rfl ?_); (first | (refine lA rfl hL rfl rfl vM (by rfl) ?_) | (refine lF rfl hL rfl rfl vM SegC.seg ?_))) | ((with_reducible refine qC rfl rfl ?_); (refine lH rfl hL rfl rfl rfl cy (by rfl) ?_); clear hL; intro wq hL))
    exact bodyPost_ret (res_cell rfl hL _ rfl vM (by rfl)) rfl ⟨⟨_, rfl, rfl⟩, hL.below⟩
   ·by_cases h1 : aa = ba
    ·have ht : Xat.top (Xat.mk an aa av false) (Xat.mk bn ba bv true) = (Xat.mk bn ba bv true) := if_pos (by rw [Xat.cmps_lt]; simp [h0, h1, slt_irr, flagI, Mk.lss_irr])
     rw [ht]
     have HQ := kD (fun wx => ref09_less (aa) (ba) wx); rw [Mk.lssB_not h0] at HQ
     have q1 := stampE (aa) (ba) (decide_eq_true h1)
     clear ht h0 h1
     go_enter Tryz.func204, Tryz.ntmps204
     go_wp2_with (first
      | ((with_reducible refine gate (N := 2) rfl ?_); (refine lJ rfl hL rfl rfl cy ?_; clear hL; intro g2 w2 hL)) | ((with_reducible refine gate (N := 3) rfl ?_); (refine lJ rfl hL rfl rfl cy ?_; clear hL; intro g3 w3 hL))
      | (go_at_call 103; (with_reducible refine (HQ.out _).mono ?_); rintro e w5 ⟨rfl, hb5⟩; have hL := hL.call hb5; clear hb5)
      | ((with_reducible refine qD rfl rfl ?_); (refine lI rfl hL rfl cy ?_; clear hL; intro gq wq hL)) | ((with_reducible refine qB rfl rfl ?_); (first | (refine lA rfl hL rfl rfl vM (by rfl) ?_) | (refine lF rfl hL rfl rfl vM SegC.seg ?_))) | ((with_reducible refine qC rfl rfl ?_); (refine lH rfl hL rfl rfl rfl cy (by rfl) ?_); clear hL; intro wq hL) | ((with_reducible refine qA rfl rfl ?_ ?_); (exact wz rfl rfl rfl (by with_reducible rfl)); (first | (refine lD (wz rfl rfl rfl rfl) hL rfl rfl vM (by rfl) ?_) | (refine lE (wz rfl rfl rfl rfl) hL rfl rfl vM SegC.seg ?_))))
     exact bodyPost_ret (res_cell rfl hL _ rfl vM (by rfl)) rfl ⟨⟨_, rfl, rfl⟩, hL.below⟩
    ·have ht : Xat.top (Xat.mk an aa av false) (Xat.mk bn ba bv true) = (Xat.mk an aa av false) := if_neg (by rw [Xat.cmps_lt]; simp [h0, h1, slt_irr, flagI, Mk.lss_irr])
     rw [ht]
     have HQ := kD (fun wx => ref09_less (aa) (ba) wx); rw [Mk.lssB_not h0] at HQ
     have q1 := stampE (aa) (ba) (decide_eq_false h1)
     clear ht h0 h1
     go_enter Tryz.func204, Tryz.ntmps204
     go_wp2_with (first
      | ((with_reducible refine gate (N := 2) rfl ?_); (refine lJ rfl hL rfl rfl cy ?_; clear hL; intro g2 w2 hL)) | ((with_reducible refine gate (N := 3) rfl ?_); (refine lJ rfl hL rfl rfl cy ?_; clear hL; intro g3 w3 hL))
      | (go_at_call 103; (with_reducible refine (HQ.out _).mono ?_); rintro e w5 ⟨rfl, hb5⟩; have hL := hL.call hb5; clear hb5)
      | ((with_reducible refine qD rfl rfl ?_); (refine lI rfl hL rfl cy ?_; clear hL; intro gq wq hL)) | ((with_reducible refine qB rfl rfl ?_); (first | (refine lA rfl hL rfl rfl vM (by rfl) ?_) | (refine lF rfl hL rfl rfl vM SegC.seg ?_))) | ((with_reducible refine qC rfl rfl ?_); (refine lH rfl hL rfl rfl rfl cy (by rfl) ?_); clear hL; intro wq hL) | ((with_reducible refine qA rfl rfl ?_ ?_); (exact wz rfl rfl rfl (by with_reducible rfl)); (refine lE (wz rfl rfl rfl rfl) hL rfl rfl vM SegC.seg ?_)))
     exact bodyPost_ret (res_cell rfl hL _ rfl vM (by rfl)) rfl ⟨⟨_, rfl, rfl⟩, hL.below⟩
 ·cases bg
  ·by_cases h0 : aa.lss ba
   ·have ht : Xat.top (Xat.mk an aa av true) (Xat.mk bn ba bv false) = (Xat.mk bn ba bv false) := if_pos (by rw [Xat.cmps_lt]; simp [h0, slt_irr, flagI, Mk.lss_irr])
    rw [ht]
    have HQ := kD (fun wx => ref09_less (aa) (ba) wx); rw [Mk.lssB_true h0] at HQ
    clear ht h0
    go_enter Tryz.func204, Tryz.ntmps204
    go_wp2_with (first
     | ((with_reducible refine gate (N := 2) rfl ?_); (refine lJ rfl hL rfl rfl cy ?_; clear hL; intro g2 w2 hL)) | ((with_reducible refine gate (N := 3) rfl ?_); (refine lJ rfl hL rfl rfl cy ?_; clear hL; intro g3 w3 hL))
     | (go_at_call 103; (with_reducible refine (HQ.out _).mono ?_); rintro e w5 ⟨rfl, hb5⟩; have hL := hL.call hb5; clear hb5)
     | ((with_reducible refine qD rfl rfl ?_); (refine lI rfl hL rfl cy ?_; clear hL; intro gq wq hL)) | ((with_reducible refine qB rfl rfl ?_); (first | (refine lA rfl hL rfl rfl vM (by rfl) ?_) | (refine lF rfl hL rfl rfl vM SegC.seg ?_))) | ((with_reducible refine qC rfl rfl ?_); (refine lH rfl hL rfl rfl rfl cy (by rfl) ?_); clear hL; intro wq hL))
    exact bodyPost_ret (res_cell rfl hL _ rfl vM (by rfl)) rfl ⟨⟨_, rfl, rfl⟩, hL.below⟩
   ·by_cases h1 : aa = ba
    ·have ht : Xat.top (Xat.mk an aa av true) (Xat.mk bn ba bv false) = (Xat.mk an aa av true) := if_neg (by rw [Xat.cmps_lt]; simp [h0, h1, slt_irr, flagI, Mk.lss_irr])
     rw [ht]
     have HQ := kD (fun wx => ref09_less (aa) (ba) wx); rw [Mk.lssB_not h0] at HQ
     have q1 := stampE (aa) (ba) (decide_eq_true h1)
     clear ht h0 h1
     go_enter Tryz.func204, Tryz.ntmps204
     go_wp2_with (first
      | ((with_reducible refine gate (N := 2) rfl ?_); (refine lJ rfl hL rfl rfl cy ?_; clear hL; intro g2 w2 hL)) | ((with_reducible refine gate (N := 3) rfl ?_); (refine lJ rfl hL rfl rfl cy ?_; clear hL; intro g3 w3 hL))
      | (go_at_call 103; (with_reducible refine (HQ.out _).mono ?_); rintro e w5 ⟨rfl, hb5⟩; have hL := hL.call hb5; clear hb5)
      | ((with_reducible refine qD rfl rfl ?_); (refine lI rfl hL rfl cy ?_; clear hL; intro gq wq hL)) | ((with_reducible refine qB rfl rfl ?_); (first | (refine lA rfl hL rfl rfl vM (by rfl) ?_) | (refine lF rfl hL rfl rfl vM SegC.seg ?_))) | ((with_reducible refine qC rfl rfl ?_); (refine lH rfl hL rfl rfl rfl cy (by rfl) ?_); clear hL; intro wq hL) | ((with_reducible refine qA rfl rfl ?_ ?_); (exact wz rfl rfl rfl (by with_reducible rfl)); (first | (refine lD (wz rfl rfl rfl rfl) hL rfl rfl vM (by rfl) ?_) | (refine lE (wz rfl rfl rfl rfl) hL rfl rfl vM SegC.seg ?_))))
     exact bodyPost_ret (res_cell rfl hL _ rfl vM (by rfl)) rfl ⟨⟨_, rfl, rfl⟩, hL.below⟩
    ·have ht : Xat.top (Xat.mk an aa av true) (Xat.mk bn ba bv false) = (Xat.mk an aa av true) := if_neg (by rw [Xat.cmps_lt]; simp [h0, h1, slt_irr, flagI, Mk.lss_irr])
     rw [ht]
     have HQ := kD (fun wx => ref09_less (aa) (ba) wx); rw [Mk.lssB_not h0] at HQ
     have q1 := stampE (aa) (ba) (decide_eq_false h1)
     clear ht h0 h1
     go_enter Tryz.func204, Tryz.ntmps204
     go_wp2_with (first
      | ((with_reducible refine gate (N := 2) rfl ?_); (refine lJ rfl hL rfl rfl cy ?_; clear hL; intro g2 w2 hL)) | ((with_reducible refine gate (N := 3) rfl ?_); (refine lJ rfl hL rfl rfl cy ?_; clear hL; intro g3 w3 hL))
      | (go_at_call 103; (with_reducible refine (HQ.out _).mono ?_); rintro e w5 ⟨rfl, hb5⟩; have hL := hL.call hb5; clear hb5)
      | ((with_reducible refine qD rfl rfl ?_); (refine lI rfl hL rfl cy ?_; clear hL; intro gq wq hL)) | ((with_reducible refine qB rfl rfl ?_); (first | (refine lA rfl hL rfl rfl vM (by rfl) ?_) | (refine lF rfl hL rfl rfl vM SegC.seg ?_))) | ((with_reducible refine qC rfl rfl ?_); (refine lH rfl hL rfl rfl rfl cy (by rfl) ?_); clear hL; intro wq hL) | ((with_reducible refine qA rfl rfl ?_ ?_); (exact wz rfl rfl rfl (by with_reducible rfl)); (refine lE (wz rfl rfl rfl rfl) hL rfl rfl vM SegC.seg ?_)))
     exact bodyPost_ret (res_cell rfl hL _ rfl vM (by rfl)) rfl ⟨⟨_, rfl, rfl⟩, hL.below⟩
  ·by_cases h0 : aa.lss ba
   ·have ht : Xat.top (Xat.mk an aa av true) (Xat.mk bn ba bv true) = (Xat.mk bn ba bv true) := if_pos (by rw [Xat.cmps_lt]; simp [h0, slt_irr, flagI, Mk.lss_irr])
    rw [ht]
    have HQ := kD (fun wx => ref09_less (aa) (ba) wx); rw [Mk.lssB_true h0] at HQ
    clear ht h0
    go_enter Tryz.func204, Tryz.ntmps204
    go_wp2_with (first
     | ((with_reducible refine gate (N := 2) rfl ?_); (refine lJ rfl hL rfl rfl cy ?_; clear hL; intro g2 w2 hL)) | ((with_reducible refine gate (N := 3) rfl ?_); (refine lJ rfl hL rfl rfl cy ?_; clear hL; intro g3 w3 hL))
     | (go_at_call 103; (with_reducible refine (HQ.out _).mono ?_); rintro e w5 ⟨rfl, hb5⟩; have hL := hL.call hb5; clear hb5)
     | ((with_reducible refine qD rfl rfl ?_); (refine lI rfl hL rfl cy ?_; clear hL; intro gq wq hL)) | ((with_reducible refine qB rfl rfl ?_); (first | (refine lA rfl hL rfl rfl vM (by rfl) ?_) | (refine lF rfl hL rfl rfl vM SegC.seg ?_))) | ((with_reducible refine qC rfl rfl ?_); (refine lH rfl hL rfl rfl rfl cy (by rfl) ?_); clear hL; intro wq hL))
    exact bodyPost_ret (res_cell rfl hL _ rfl vM (by rfl)) rfl ⟨⟨_, rfl, rfl⟩, hL.below⟩
   ·by_cases h1 : aa = ba
    ·by_cases h2 : slt av bv = true
     ·have ht : Xat.top (Xat.mk an aa av true) (Xat.mk bn ba bv true) = (Xat.mk bn ba bv true) := if_pos (by rw [Xat.cmps_lt]; simp [h0, h1, h2, slt_irr, flagI, Mk.lss_irr])
      rw [ht]
      have HQ := kD (fun wx => ref09_less (aa) (ba) wx); rw [Mk.lssB_not h0] at HQ
      have q1 := stampE (aa) (ba) (decide_eq_true h1)
      have HS := kD (fun wx => ref01_less (av) (bv) wx ha hb); rw [show slt (av) (bv) = true from h2] at HS
      clear ht h0 h1 h2
      go_enter Tryz.func204, Tryz.ntmps204
      go_wp2_with (first
       | ((with_reducible refine gate (N := 2) rfl ?_); (refine lJ rfl hL rfl rfl cy ?_; clear hL; intro g2 w2 hL)) | ((with_reducible refine gate (N := 3) rfl ?_); (refine lJ rfl hL rfl rfl cy ?_; clear hL; intro g3 w3 hL))
       | (go_at_call 103; (with_reducible refine (HQ.out _).mono ?_); rintro e w5 ⟨rfl, hb5⟩; have hL := hL.call hb5; clear hb5)
       | (go_at_call 170; (with_reducible refine (HS.out _).mono ?_); rintro e w5 ⟨rfl, hb5⟩; have hL := hL.call hb5; clear hb5)
       | ((with_reducible refine qD rfl rfl ?_); (refine lI rfl hL rfl cy ?_; clear hL; intro gq wq hL)) | ((with_reducible refine qB rfl rfl ?_); (first | (refine lA rfl hL rfl rfl vM (by rfl) ?_) | (refine lF rfl hL rfl rfl vM SegC.seg ?_))) | ((with_reducible refine qC rfl rfl ?_); (refine lH rfl hL rfl rfl rfl cy (by rfl) ?_); clear hL; intro wq hL) | ((with_reducible refine qA rfl rfl ?_ ?_); (exact wz rfl rfl rfl (by with_reducible rfl)); (first | (refine lD (wz rfl rfl rfl rfl) hL rfl rfl vM (by rfl) ?_) | (refine lE (wz rfl rfl rfl rfl) hL rfl rfl vM SegC.seg ?_))))
      exact bodyPost_ret (res_cell rfl hL _ rfl vM (by rfl)) rfl ⟨⟨_, rfl, rfl⟩, hL.below⟩
     ·have ht : Xat.top (Xat.mk an aa av true) (Xat.mk bn ba bv true) = (Xat.mk an aa av true) := if_neg (by rw [Xat.cmps_lt]; simp [h0, h1, h2, slt_irr, flagI, Mk.lss_irr])
      rw [ht]
      have HQ := kD (fun wx => ref09_less (aa) (ba) wx); rw [Mk.lssB_not h0] at HQ
      have q1 := stampE (aa) (ba) (decide_eq_true h1)
      have HS := kD (fun wx => ref01_less (av) (bv) wx ha hb); rw [show slt (av) (bv) = false from Bool.eq_false_iff.2 h2] at HS
      clear ht h0 h1 h2
      go_enter Tryz.func204, Tryz.ntmps204
      go_wp2_with (first
       | ((with_reducible refine gate (N := 2) rfl ?_); (refine lJ rfl hL rfl rfl cy ?_; clear hL; intro g2 w2 hL)) | ((with_reducible refine gate (N := 3) rfl ?_); (refine lJ rfl hL rfl rfl cy ?_; clear hL; intro g3 w3 hL))
       | (go_at_call 103; (with_reducible refine (HQ.out _).mono ?_); rintro e w5 ⟨rfl, hb5⟩; have hL := hL.call hb5; clear hb5)
       | (go_at_call 170; (with_reducible refine (HS.out _).mono ?_); rintro e w5 ⟨rfl, hb5⟩; have hL := hL.call hb5; clear hb5)
       | ((with_reducible refine qD rfl rfl ?_); (refine lI rfl hL rfl cy ?_; clear hL; intro gq wq hL)) | ((with_reducible refine qB rfl rfl ?_); (first | (refine lA rfl hL rfl rfl vM (by rfl) ?_) | (refine lF rfl hL rfl rfl vM SegC.seg ?_))) | ((with_reducible refine qC rfl rfl ?_); (refine lH rfl hL rfl rfl rfl cy (by rfl) ?_); clear hL; intro wq hL) | ((with_reducible refine qA rfl rfl ?_ ?_); (exact wz rfl rfl rfl (by with_reducible rfl)); (first | (refine lD (wz rfl rfl rfl rfl) hL rfl rfl vM (by rfl) ?_) | (refine lE (wz rfl rfl rfl rfl) hL rfl rfl vM SegC.seg ?_))))
      exact bodyPost_ret (res_cell rfl hL _ rfl vM (by rfl)) rfl ⟨⟨_, rfl, rfl⟩, hL.below⟩
    ·have ht : Xat.top (Xat.mk an aa av true) (Xat.mk bn ba bv true) = (Xat.mk an aa av true) := if_neg (by rw [Xat.cmps_lt]; simp [h0, h1, slt_irr, flagI, Mk.lss_irr])
     rw [ht]
     have HQ := kD (fun wx => ref09_less (aa) (ba) wx); rw [Mk.lssB_not h0] at HQ
     have q1 := stampE (aa) (ba) (decide_eq_false h1)
     clear ht h0 h1
     go_enter Tryz.func204, Tryz.ntmps204
     go_wp2_with (first
      | ((with_reducible refine gate (N := 2) rfl ?_); (refine lJ rfl hL rfl rfl cy ?_; clear hL; intro g2 w2 hL)) | ((with_reducible refine gate (N := 3) rfl ?_); (refine lJ rfl hL rfl rfl cy ?_; clear hL; intro g3 w3 hL))
      | (go_at_call 103; (with_reducible refine (HQ.out _).mono ?_); rintro e w5 ⟨rfl, hb5⟩; have hL := hL.call hb5; clear hb5)
      | ((with_reducible refine qD rfl rfl ?_); (refine lI rfl hL rfl cy ?_; clear hL; intro gq wq hL)) | ((with_reducible refine qB rfl rfl ?_); (first | (refine lA rfl hL rfl rfl vM (by rfl) ?_) | (refine lF rfl hL rfl rfl vM SegC.seg ?_))) | ((with_reducible refine qC rfl rfl ?_); (refine lH rfl hL rfl rfl rfl cy (by rfl) ?_); clear hL; intro wq hL) | ((with_reducible refine qA rfl rfl ?_ ?_); (exact wz rfl rfl rfl (by with_reducible rfl)); (refine lE (wz rfl rfl rfl rfl) hL rfl rfl vM SegC.seg ?_)))
     exact bodyPost_ret (res_cell rfl hL _ rfl vM (by rfl)) rfl ⟨⟨_, rfl, rfl⟩, hL.below⟩
end Go.Proofs.YtebpacmhdkgfeaaGreat

namespace Go.Proofs.YtebpacmhdkgfeaaGreat
open Go.RowKit
set_option maxHeartbeats 16000000
set_option maxRecDepth 20000
theorem imax_pos {a b : Int} (h : a < b) : imax a b = b := if_pos h
theorem imax_neg {a b : Int} (h : ¬ a < b) : imax a b = a := if_neg h
theorem ref09_join (a b : V8) (w : World) : Calls Tryz.prog 39 #[.agg #[.int .i64 a.a0, .int .i64 a.a1, .int .i64 a.a2, .int .i64 a.a3, .int .i64 a.a4, .int .i64 a.a5, .int .i64 a.a6, .int .i64 a.a7], .agg #[.int .i64 b.a0, .int .i64 b.a1, .int .i64 b.a2, .int .i64 b.a3, .int .i64 b.a4, .int .i64 b.a5, .int .i64 b.a6, .int .i64 b.a7]] w fun e w' => (∃ c, c = a.join b ∧ e = .returned (.agg #[.int .i64 c.a0, .int .i64 c.a1, .int .i64 c.a2, .int .i64 c.a3, .int .i64 c.a4, .int .i64 c.a5, .int .i64 c.a6, .int .i64 c.a7])) ∧ Below w.heap.size w w' := by
 have hL := Loc.nil w NoM
 unfold V8.join
 obtain ⟨a0, a1, a2, a3, a4, a5, a6, a7⟩ := a
 obtain ⟨b0, b1, b2, b3, b4, b5, b6, b7⟩ := b
 simp only
 go_enter Tryz.func39, Tryz.ntmps39
 go_wp2_with (first | ((with_reducible refine gate (N := 2) rfl ?_); (refine lJ rfl hL rfl rfl cy ?_; clear hL; intro g2 w2 hL)) | ((with_reducible refine gate (N := 3) rfl ?_); (refine lJ rfl hL rfl rfl cy ?_; clear hL; intro g3 w3 hL)) | ((with_reducible refine gate (N := 4) rfl ?_); (refine lI rfl hL rfl cy ?_; clear hL; intro g4 w4 hL)))
 go_loopw [6] (fun i wr => (i = .int .i64 0 ∧ Loc w NoM wr [var g4 [.int .i64 0, .int .i64 0, .int .i64 0, .int .i64 0, .int .i64 0, .int .i64 0, .int .i64 0, .int .i64 0] 23, var g3 [.int .i64 b0, .int .i64 b1, .int .i64 b2, .int .i64 b3, .int .i64 b4, .int .i64 b5, .int .i64 b6, .int .i64 b7] 23, var g2 [.int .i64 a0, .int .i64 a1, .int .i64 a2, .int .i64 a3, .int .i64 a4, .int .i64 a5, .int .i64 a6, .int .i64 a7] 23]) ∨ (i = .int .i64 1 ∧ Loc w NoM wr [var g4 [.int .i64 0, .int .i64 0, .int .i64 0, .int .i64 0, .int .i64 0, .int .i64 0, .int .i64 0, .int .i64 0] 23, var g3 [.int .i64 b0, .int .i64 b1, .int .i64 b2, .int .i64 b3, .int .i64 b4, .int .i64 b5, .int .i64 b6, .int .i64 b7] 23, var g2 [.int .i64 (imax a0 b0), .int .i64 a1, .int .i64 a2, .int .i64 a3, .int .i64 a4, .int .i64 a5, .int .i64 a6, .int .i64 a7] 23]) ∨ (i = .int .i64 2 ∧ Loc w NoM wr [var g4 [.int .i64 0, .int .i64 0, .int .i64 0, .int .i64 0, .int .i64 0, .int .i64 0, .int .i64 0, .int .i64 0] 23, var g3 [.int .i64 b0, .int .i64 b1, .int .i64 b2, .int .i64 b3, .int .i64 b4, .int .i64 b5, .int .i64 b6, .int .i64 b7] 23, var g2 [.int .i64 (imax a0 b0), .int .i64 (imax a1 b1), .int .i64 a2, .int .i64 a3, .int .i64 a4, .int .i64 a5, .int .i64 a6, .int .i64 a7] 23]) ∨ (i = .int .i64 3 ∧ Loc w NoM wr [var g4 [.int .i64 0, .int .i64 0, .int .i64 0, .int .i64 0, .int .i64 0, .int .i64 0, .int .i64 0, .int .i64 0] 23, var g3 [.int .i64 b0, .int .i64 b1, .int .i64 b2, .int .i64 b3, .int .i64 b4, .int .i64 b5, .int .i64 b6, .int .i64 b7] 23, var g2 [.int .i64 (imax a0 b0), .int .i64 (imax a1 b1), .int .i64 (imax a2 b2), .int .i64 a3, .int .i64 a4, .int .i64 a5, .int .i64 a6, .int .i64 a7] 23]) ∨ (i = .int .i64 4 ∧ Loc w NoM wr [var g4 [.int .i64 0, .int .i64 0, .int .i64 0, .int .i64 0, .int .i64 0, .int .i64 0, .int .i64 0, .int .i64 0] 23, var g3 [.int .i64 b0, .int .i64 b1, .int .i64 b2, .int .i64 b3, .int .i64 b4, .int .i64 b5, .int .i64 b6, .int .i64 b7] 23, var g2 [.int .i64 (imax a0 b0), .int .i64 (imax a1 b1), .int .i64 (imax a2 b2), .int .i64 (imax a3 b3), .int .i64 a4, .int .i64 a5, .int .i64 a6, .int .i64 a7] 23]) ∨ (i = .int .i64 5 ∧ Loc w NoM wr [var g4 [.int .i64 0, .int .i64 0, .int .i64 0, .int .i64 0, .int .i64 0, .int .i64 0, .int .i64 0, .int .i64 0] 23, var g3 [.int .i64 b0, .int .i64 b1, .int .i64 b2, .int .i64 b3, .int .i64 b4, .int .i64 b5, .int .i64 b6, .int .i64 b7] 23, var g2 [.int .i64 (imax a0 b0), .int .i64 (imax a1 b1), .int .i64 (imax a2 b2), .int .i64 (imax a3 b3), .int .i64 (imax a4 b4), .int .i64 a5, .int .i64 a6, .int .i64 a7] 23]) ∨ (i = .int .i64 6 ∧ Loc w NoM wr [var g4 [.int .i64 0, .int .i64 0, .int .i64 0, .int .i64 0, .int .i64 0, .int .i64 0, .int .i64 0, .int .i64 0] 23, var g3 [.int .i64 b0, .int .i64 b1, .int .i64 b2, .int .i64 b3, .int .i64 b4, .int .i64 b5, .int .i64 b6, .int .i64 b7] 23, var g2 [.int .i64 (imax a0 b0), .int .i64 (imax a1 b1), .int .i64 (imax a2 b2), .int .i64 (imax a3 b3), .int .i64 (imax a4 b4), .int .i64 (imax a5 b5), .int .i64 a6, .int .i64 a7] 23]) ∨ (i = .int .i64 7 ∧ Loc w NoM wr [var g4 [.int .i64 0, .int .i64 0, .int .i64 0, .int .i64 0, .int .i64 0, .int .i64 0, .int .i64 0, .int .i64 0] 23, var g3 [.int .i64 b0, .int .i64 b1, .int .i64 b2, .int .i64 b3, .int .i64 b4, .int .i64 b5, .int .i64 b6, .int .i64 b7] 23, var g2 [.int .i64 (imax a0 b0), .int .i64 (imax a1 b1), .int .i64 (imax a2 b2), .int .i64 (imax a3 b3), .int .i64 (imax a4 b4), .int .i64 (imax a5 b5), .int .i64 (imax a6 b6), .int .i64 a7] 23]) ∨ (i = .int .i64 8 ∧ Loc w NoM wr [var g4 [.int .i64 0, .int .i64 0, .int .i64 0, .int .i64 0, .int .i64 0, .int .i64 0, .int .i64 0, .int .i64 0] 23, var g3 [.int .i64 b0, .int .i64 b1, .int .i64 b2, .int .i64 b3, .int .i64 b4, .int .i64 b5, .int .i64 b6, .int .i64 b7] 23, var g2 [.int .i64 (imax a0 b0), .int .i64 (imax a1 b1), .int .i64 (imax a2 b2), .int .i64 (imax a3 b3), .int .i64 (imax a4 b4), .int .i64 (imax a5 b5), .int .i64 (imax a6 b6), .int .i64 (imax a7 b7)] 23])) (fun i _ => 8 - (intOf i).toNat)
 case atStart => exact .inl ⟨rfl, hL⟩
 case round =>
  clear hL
  rcases hrel with ⟨rfl, hL⟩ | ⟨rfl, hL⟩ | ⟨rfl, hL⟩ | ⟨rfl, hL⟩ | ⟨rfl, hL⟩ | ⟨rfl, hL⟩ | ⟨rfl, hL⟩ | ⟨rfl, hL⟩ | ⟨rfl, hL⟩
  ·by_cases h0 : a0 < b0
   ·have t0 : decide (a0 < b0) = true := decide_eq_true h0
    have HI := kD (imax_pos h0)
    clear h0
    go_wp2_with fail
    ((try simp only [Act.put, zs, zt, zu]); refine wp_region_ext (by kernel_rfl) (by kernel_rfl) ?_; (repeat (first | (go_big_quiet_want; (first | refine qH hL rfl rfl vM (by rfl) ?_ | refine qG hL rfl rfl vM (by rfl) ?_ | refine qI hL rfl rfl vM SegC.seg ?_); go_big_quiet_on; simp only [Act.put, zs, zt, zu]) | go_big_quiet_step (fail))); refine wpQuiet_nil ?_; rintro _ ⟨⟨w2, hb2⟩, rfl⟩; have hL := (hL).call hb2; clear hb2)
    go_wp2_with (first | ((with_reducible refine qB rfl rfl ?_); (refine lC rfl hL rfl rfl vM (by rfl) ?_)) | ((with_reducible refine qC rfl rfl ?_); (refine lH rfl hL rfl rfl rfl cy (by rfl) ?_); clear hL; intro wq hL))
    go_roundw
    case rel => exact .inr (.inl ⟨by go_num, by rw [HI.out]; exact hL⟩)
    case measure => simp [intOf]
   ·have t0 : decide (a0 < b0) = false := decide_eq_false h0
    have HI := kD (imax_neg h0)
    clear h0
    go_wp2_with fail
    ((try simp only [Act.put, zs, zt, zu]); refine wp_region_ext (by kernel_rfl) (by kernel_rfl) ?_; (repeat (first | (go_big_quiet_want; (first | refine qH hL rfl rfl vM (by rfl) ?_ | refine qG hL rfl rfl vM (by rfl) ?_ | refine qI hL rfl rfl vM SegC.seg ?_); go_big_quiet_on; simp only [Act.put, zs, zt, zu]) | go_big_quiet_step (fail))); refine wpQuiet_nil ?_; rintro _ ⟨⟨w2, hb2⟩, rfl⟩; have hL := (hL).call hb2; clear hb2)
    go_wp2_with fail
    go_roundw
    case rel => exact .inr (.inl ⟨by go_num, by rw [HI.out]; exact hL⟩)
    case measure => simp [intOf]
  ·by_cases h0 : a1 < b1
   ·have t0 : decide (a1 < b1) = true := decide_eq_true h0
    have HI := kD (imax_pos h0)
    clear h0
    go_wp2_with fail
    ((try simp only [Act.put, zs, zt, zu]); refine wp_region_ext (by kernel_rfl) (by kernel_rfl) ?_; (repeat (first | (go_big_quiet_want; (first | refine qH hL rfl rfl vM (by rfl) ?_ | refine qG hL rfl rfl vM (by rfl) ?_ | refine qI hL rfl rfl vM SegC.seg ?_); go_big_quiet_on; simp only [Act.put, zs, zt, zu]) | go_big_quiet_step (fail))); refine wpQuiet_nil ?_; rintro _ ⟨⟨w2, hb2⟩, rfl⟩; have hL := (hL).call hb2; clear hb2)
    go_wp2_with (first | ((with_reducible refine qB rfl rfl ?_); (refine lC rfl hL rfl rfl vM (by rfl) ?_)) | ((with_reducible refine qC rfl rfl ?_); (refine lH rfl hL rfl rfl rfl cy (by rfl) ?_); clear hL; intro wq hL))
    go_roundw
    case rel => exact .inr (.inr (.inl ⟨by go_num, by rw [HI.out]; exact hL⟩))
    case measure => simp [intOf]
   ·have t0 : decide (a1 < b1) = false := decide_eq_false h0
    have HI := kD (imax_neg h0)
    clear h0
    go_wp2_with fail
    ((try simp only [Act.put, zs, zt, zu]); refine wp_region_ext (by kernel_rfl) (by kernel_rfl) ?_; (repeat (first | (go_big_quiet_want; (first | refine qH hL rfl rfl vM (by rfl) ?_ | refine qG hL rfl rfl vM (by rfl) ?_ | refine qI hL rfl rfl vM SegC.seg ?_); go_big_quiet_on; simp only [Act.put, zs, zt, zu]) | go_big_quiet_step (fail))); refine wpQuiet_nil ?_; rintro _ ⟨⟨w2, hb2⟩, rfl⟩; have hL := (hL).call hb2; clear hb2)
    go_wp2_with fail
    go_roundw
    case rel => exact .inr (.inr (.inl ⟨by go_num, by rw [HI.out]; exact hL⟩))
    case measure => simp [intOf]
  ·by_cases h0 : a2 < b2
   ·have t0 : decide (a2 < b2) = true := decide_eq_true h0
    have HI := kD (imax_pos h0)
    clear h0
    go_wp2_with fail
    ((try simp only [Act.put, zs, zt, zu]); refine wp_region_ext (by kernel_rfl) (by kernel_rfl) ?_; (repeat (first | (go_big_quiet_want; (first | refine qH hL rfl rfl vM (by rfl) ?_ | refine qG hL rfl rfl vM (by rfl) ?_ | refine qI hL rfl rfl vM SegC.seg ?_); go_big_quiet_on; simp only [Act.put, zs, zt, zu]) | go_big_quiet_step (fail))); refine wpQuiet_nil ?_; rintro _ ⟨⟨w2, hb2⟩, rfl⟩; have hL := (hL).call hb2; clear hb2)
    go_wp2_with (first | ((with_reducible refine qB rfl rfl ?_); (refine lC rfl hL rfl rfl vM (by rfl) ?_)) | ((with_reducible refine qC rfl rfl ?_); (refine lH rfl hL rfl rfl rfl cy (by rfl) ?_); clear hL; intro wq hL))
    go_roundw
    case rel => exact .inr (.inr (.inr (.inl ⟨by go_num, by rw [HI.out]; exact hL⟩)))
    case measure => simp [intOf]
   ·have t0 : decide (a2 < b2) = false := decide_eq_false h0
    have HI := kD (imax_neg h0)
    clear h0
    go_wp2_with fail
    ((try simp only [Act.put, zs, zt, zu]); refine wp_region_ext (by kernel_rfl) (by kernel_rfl) ?_; (repeat (first | (go_big_quiet_want; (first | refine qH hL rfl rfl vM (by rfl) ?_ | refine qG hL rfl rfl vM (by rfl) ?_ | refine qI hL rfl rfl vM SegC.seg ?_); go_big_quiet_on; simp only [Act.put, zs, zt, zu]) | go_big_quiet_step (fail))); refine wpQuiet_nil ?_; rintro _ ⟨⟨w2, hb2⟩, rfl⟩; have hL := (hL).call hb2; clear hb2)
    go_wp2_with fail
    go_roundw
    case rel => exact .inr (.inr (.inr (.inl ⟨by go_num, by rw [HI.out]; exact hL⟩)))
    case measure => simp [intOf]
  ·by_cases h0 : a3 < b3
   ·have t0 : decide (a3 < b3) = true := decide_eq_true h0
    have HI := kD (imax_pos h0)
    clear h0
    go_wp2_with fail
    ((try simp only [Act.put, zs, zt, zu]); refine wp_region_ext (by kernel_rfl) (by kernel_rfl) ?_; (repeat (first | (go_big_quiet_want; (first | refine qH hL rfl rfl vM (by rfl) ?_ | refine qG hL rfl rfl vM (by rfl) ?_ | refine qI hL rfl rfl vM SegC.seg ?_); go_big_quiet_on; simp only [Act.put, zs, zt, zu]) | go_big_quiet_step (fail))); refine wpQuiet_nil ?_; rintro _ ⟨⟨w2, hb2⟩, rfl⟩; have hL := (hL).call hb2; clear hb2)
    go_wp2_with (first | ((with_reducible refine qB rfl rfl ?_); (refine lC rfl hL rfl rfl vM (by rfl) ?_)) | ((with_reducible refine qC rfl rfl ?_); (refine lH rfl hL rfl rfl rfl cy (by rfl) ?_); clear hL; intro wq hL))
    go_roundw
    case rel => exact .inr (.inr (.inr (.inr (.inl ⟨by go_num, by rw [HI.out]; exact hL⟩))))
    case measure => simp [intOf]
   ·have t0 : decide (a3 < b3) = false := decide_eq_false h0
    have HI := kD (imax_neg h0)
    clear h0
    go_wp2_with fail
    ((try simp only [Act.put, zs, zt, zu]); refine wp_region_ext (by kernel_rfl) (by kernel_rfl) ?_; (repeat (first | (go_big_quiet_want; (first | refine qH hL rfl rfl vM (by rfl) ?_ | refine qG hL rfl rfl vM (by rfl) ?_ | refine qI hL rfl rfl vM SegC.seg ?_); go_big_quiet_on; simp only [Act.put, zs, zt, zu]) | go_big_quiet_step (fail))); refine wpQuiet_nil ?_; rintro _ ⟨⟨w2, hb2⟩, rfl⟩; have hL := (hL).call hb2; clear hb2)
    go_wp2_with fail
    go_roundw
    case rel => exact .inr (.inr (.inr (.inr (.inl ⟨by go_num, by rw [HI.out]; exact hL⟩))))
    case measure => simp [intOf]
  ·by_cases h0 : a4 < b4
   ·have t0 : decide (a4 < b4) = true := decide_eq_true h0
    have HI := kD (imax_pos h0)
    clear h0
    go_wp2_with fail
    ((try simp only [Act.put, zs, zt, zu]); refine wp_region_ext (by kernel_rfl) (by kernel_rfl) ?_; (repeat (first | (go_big_quiet_want; (first | refine qH hL rfl rfl vM (by rfl) ?_ | refine qG hL rfl rfl vM (by rfl) ?_ | refine qI hL rfl rfl vM SegC.seg ?_); go_big_quiet_on; simp only [Act.put, zs, zt, zu]) | go_big_quiet_step (fail))); refine wpQuiet_nil ?_; rintro _ ⟨⟨w2, hb2⟩, rfl⟩; have hL := (hL).call hb2; clear hb2)
    go_wp2_with (first | ((with_reducible refine qB rfl rfl ?_); (refine lC rfl hL rfl rfl vM (by rfl) ?_)) | ((with_reducible refine qC rfl rfl ?_); (refine lH rfl hL rfl rfl rfl cy (by rfl) ?_); clear hL; intro wq hL))
    go_roundw
    case rel => exact .inr (.inr (.inr (.inr (.inr (.inl ⟨by go_num, by rw [HI.out]; exact hL⟩)))))
    case measure => simp [intOf]
   ·have t0 : decide (a4 < b4) = false := decide_eq_false h0
    have HI := kD (imax_neg h0)
    clear h0
    go_wp2_with fail
    ((try simp only [Act.put, zs, zt, zu]); refine wp_region_ext (by kernel_rfl) (by kernel_rfl) ?_; (repeat (first | (go_big_quiet_want; (first | refine qH hL rfl rfl vM (by rfl) ?_ | refine qG hL rfl rfl vM (by rfl) ?_ | refine qI hL rfl rfl vM SegC.seg ?_); go_big_quiet_on; simp only [Act.put, zs, zt, zu]) | go_big_quiet_step (fail))); refine wpQuiet_nil ?_; rintro _ ⟨⟨w2, hb2⟩, rfl⟩; have hL := (hL).call hb2; clear hb2)
    go_wp2_with fail
    go_roundw
    case rel => exact .inr (.inr (.inr (.inr (.inr (.inl ⟨by go_num, by rw [HI.out]; exact hL⟩)))))
    case measure => simp [intOf]
  ·by_cases h0 : a5 < b5
   ·have t0 : decide (a5 < b5) = true := decide_eq_true h0
    have HI := kD (imax_pos h0)
    clear h0
    go_wp2_with fail
    ((try simp only [Act.put, zs, zt, zu]); refine wp_region_ext (by kernel_rfl) (by kernel_rfl) ?_; (repeat (first | (go_big_quiet_want; (first | refine qH hL rfl rfl vM (by rfl) ?_ | refine qG hL rfl rfl vM (by rfl) ?_ | refine qI hL rfl rfl vM SegC.seg ?_); go_big_quiet_on; simp only [Act.put, zs, zt, zu]) | go_big_quiet_step (fail))); refine wpQuiet_nil ?_; rintro _ ⟨⟨w2, hb2⟩, rfl⟩; have hL := (hL).call hb2; clear hb2)
    go_wp2_with (first | ((with_reducible refine qB rfl rfl ?_); (refine lC rfl hL rfl rfl vM (by rfl) ?_)) | ((with_reducible refine qC rfl rfl ?_); (refine lH rfl hL rfl rfl rfl cy (by rfl) ?_); clear hL; intro wq hL))
    go_roundw
    case rel => exact .inr (.inr (.inr (.inr (.inr (.inr (.inl ⟨by go_num, by rw [HI.out]; exact hL⟩))))))
    case measure => simp [intOf]
   ·have t0 : decide (a5 < b5) = false := decide_eq_false h0
    have HI := kD (imax_neg h0)
    clear h0
    go_wp2_with fail
    ((try simp only [Act.put, zs, zt, zu]); refine wp_region_ext (by kernel_rfl) (by kernel_rfl) ?_; (repeat (first | (go_big_quiet_want; (first | refine qH hL rfl rfl vM (by rfl) ?_ | refine qG hL rfl rfl vM (by rfl) ?_ | refine qI hL rfl rfl vM SegC.seg ?_); go_big_quiet_on; simp only [Act.put, zs, zt, zu]) | go_big_quiet_step (fail))); refine wpQuiet_nil ?_; rintro _ ⟨⟨w2, hb2⟩, rfl⟩; have hL := (hL).call hb2; clear hb2)
    go_wp2_with fail
    go_roundw
    case rel => exact .inr (.inr (.inr (.inr (.inr (.inr (.inl ⟨by go_num, by rw [HI.out]; exact hL⟩))))))
    case measure => simp [intOf]
  ·by_cases h0 : a6 < b6
   ·have t0 : decide (a6 < b6) = true := decide_eq_true h0
    have HI := kD (imax_pos h0)
    clear h0
    go_wp2_with fail
    ((try simp only [Act.put, zs, zt, zu]); refine wp_region_ext (by kernel_rfl) (by kernel_rfl) ?_; (repeat (first | (go_big_quiet_want; (first | refine qH hL rfl rfl vM (by rfl) ?_ | refine qG hL rfl rfl vM (by rfl) ?_ | refine qI hL rfl rfl vM SegC.seg ?_); go_big_quiet_on; simp only [Act.put, zs, zt, zu]) | go_big_quiet_step (fail))); refine wpQuiet_nil ?_; rintro _ ⟨⟨w2, hb2⟩, rfl⟩; have hL := (hL).call hb2; clear hb2)
    go_wp2_with (first | ((with_reducible refine qB rfl rfl ?_); (refine lC rfl hL rfl rfl vM (by rfl) ?_)) | ((with_reducible refine qC rfl rfl ?_); (refine lH rfl hL rfl rfl rfl cy (by rfl) ?_); clear hL; intro wq hL))
    go_roundw
    case rel => exact .inr (.inr (.inr (.inr (.inr (.inr (.inr (.inl ⟨by go_num, by rw [HI.out]; exact hL⟩)))))))
    case measure => simp [intOf]
   ·have t0 : decide (a6 < b6) = false := decide_eq_false h0
    have HI := kD (imax_neg h0)
    clear h0
    go_wp2_with fail
    ((try simp only [Act.put, zs, zt, zu]); refine wp_region_ext (by kernel_rfl) (by kernel_rfl) ?_; (repeat (first | (go_big_quiet_want; (first | refine qH hL rfl rfl vM (by rfl) ?_ | refine qG hL rfl rfl vM (by rfl) ?_ | refine qI hL rfl rfl vM SegC.seg ?_); go_big_quiet_on; simp only [Act.put, zs, zt, zu]) | go_big_quiet_step (fail))); refine wpQuiet_nil ?_; rintro _ ⟨⟨w2, hb2⟩, rfl⟩; have hL := (hL).call hb2; clear hb2)
    go_wp2_with fail
    go_roundw
    case rel => exact .inr (.inr (.inr (.inr (.inr (.inr (.inr (.inl ⟨by go_num, by rw [HI.out]; exact hL⟩)))))))
    case measure => simp [intOf]
  ·by_cases h0 : a7 < b7
   ·have t0 : decide (a7 < b7) = true := decide_eq_true h0
    have HI := kD (imax_pos h0)
    clear h0
    go_wp2_with fail
    ((try simp only [Act.put, zs, zt, zu]); refine wp_region_ext (by kernel_rfl) (by kernel_rfl) ?_; (repeat (first | (go_big_quiet_want; (first | refine qH hL rfl rfl vM (by rfl) ?_ | refine qG hL rfl rfl vM (by rfl) ?_ | refine qI hL rfl rfl vM SegC.seg ?_); go_big_quiet_on; simp only [Act.put, zs, zt, zu]) | go_big_quiet_step (fail))); refine wpQuiet_nil ?_; rintro _ ⟨⟨w2, hb2⟩, rfl⟩; have hL := (hL).call hb2; clear hb2)
    go_wp2_with (first | ((with_reducible refine qB rfl rfl ?_); (refine lC rfl hL rfl rfl vM (by rfl) ?_)) | ((with_reducible refine qC rfl rfl ?_); (refine lH rfl hL rfl rfl rfl cy (by rfl) ?_); clear hL; intro wq hL))
    go_roundw
    case rel => exact .inr (.inr (.inr (.inr (.inr (.inr (.inr (.inr (⟨by go_num, by rw [HI.out]; exact hL⟩))))))))
    case measure => simp [intOf]
   ·have t0 : decide (a7 < b7) = false := decide_eq_false h0
    have HI := kD (imax_neg h0)
    clear h0
    go_wp2_with fail
    ((try simp only [Act.put, zs, zt, zu]); refine wp_region_ext (by kernel_rfl) (by kernel_rfl) ?_; (repeat (first | (go_big_quiet_want; (first | refine qH hL rfl rfl vM (by rfl) ?_ | refine qG hL rfl rfl vM (by rfl) ?_ | refine qI hL rfl rfl vM SegC.seg ?_); go_big_quiet_on; simp only [Act.put, zs, zt, zu]) | go_big_quiet_step (fail))); refine wpQuiet_nil ?_; rintro _ ⟨⟨w2, hb2⟩, rfl⟩; have hL := (hL).call hb2; clear hb2)
    go_wp2_with fail
    go_roundw
    case rel => exact .inr (.inr (.inr (.inr (.inr (.inr (.inr (.inr (⟨by go_num, by rw [HI.out]; exact hL⟩))))))))
    case measure => simp [intOf]
  ·go_wp2_with (first | ((with_reducible refine qB rfl rfl ?_); (refine lA rfl hL rfl rfl vM (by rfl) ?_)) | ((with_reducible refine qC rfl rfl ?_); (refine lH rfl hL rfl rfl rfl cy (by rfl) ?_); clear hL; intro wq hL))
   exact bodyPost_ret (res_cell rfl hL _ rfl vM (by rfl)) rfl ⟨⟨_, rfl, rfl⟩, hL.below⟩
theorem ref11_link1 (a b : Lnk) (w : World) (ha : a.name.size ≤ 9223372036854775807) (hb : b.name.size ≤ 9223372036854775807) : Calls Tryz.prog 104 #[.agg #[.int .i64 a.id.boot, .int .i64 a.id.n, .int .i64 a.node.boot, .int .i64 a.node.n, .int .i64 a.at_.boot, .int .i64 a.at_.n, .int .i64 a.parent.boot, .int .i64 a.parent.n, .string a.name, .int .i64 a.alive.a0, .int .i64 a.alive.a1, .int .i64 a.alive.a2, .int .i64 a.alive.a3, .int .i64 a.alive.a4, .int .i64 a.alive.a5, .int .i64 a.alive.a6, .int .i64 a.alive.a7, .int .i64 a.dead.a0, .int .i64 a.dead.a1, .int .i64 a.dead.a2, .int .i64 a.dead.a3, .int .i64 a.dead.a4, .int .i64 a.dead.a5, .int .i64 a.dead.a6, .int .i64 a.dead.a7], .agg #[.int .i64 b.id.boot, .int .i64 b.id.n, .int .i64 b.node.boot, .int .i64 b.node.n, .int .i64 b.at_.boot, .int .i64 b.at_.n, .int .i64 b.parent.boot, .int .i64 b.parent.n, .string b.name, .int .i64 b.alive.a0, .int .i64 b.alive.a1, .int .i64 b.alive.a2, .int .i64 b.alive.a3, .int .i64 b.alive.a4, .int .i64 b.alive.a5, .int .i64 b.alive.a6, .int .i64 b.alive.a7, .int .i64 b.dead.a0, .int .i64 b.dead.a1, .int .i64 b.dead.a2, .int .i64 b.dead.a3, .int .i64 b.dead.a4, .int .i64 b.dead.a5, .int .i64 b.dead.a6, .int .i64 b.dead.a7]] w fun e w' => (∃ c, c = a.one b ∧ e = .returned (.agg #[.int .i64 c.id.boot, .int .i64 c.id.n, .int .i64 c.node.boot, .int .i64 c.node.n, .int .i64 c.at_.boot, .int .i64 c.at_.n, .int .i64 c.parent.boot, .int .i64 c.parent.n, .string c.name, .int .i64 c.alive.a0, .int .i64 c.alive.a1, .int .i64 c.alive.a2, .int .i64 c.alive.a3, .int .i64 c.alive.a4, .int .i64 c.alive.a5, .int .i64 c.alive.a6, .int .i64 c.alive.a7, .int .i64 c.dead.a0, .int .i64 c.dead.a1, .int .i64 c.dead.a2, .int .i64 c.dead.a3, .int .i64 c.dead.a4, .int .i64 c.dead.a5, .int .i64 c.dead.a6, .int .i64 c.dead.a7])) ∧ Below w.heap.size w w' := by
 have hL := Loc.nil w NoM
 have HM := kD (fun wx => ref09_later a.node b.node wx)
 have HA := kD (fun wx => ref09_join a.alive b.alive wx)
 have HD := kD (fun wx => ref09_join a.dead b.dead wx)
 have HR : Hid (∀ p nd al de, p = a.top b → nd = a.node.top b.node → al = a.alive.join b.alive → de = a.dead.join b.dead → (⟨a.id, nd, p.at_, p.parent, p.name, al, de⟩ : Lnk) = a.one b) := kD (by rintro p nd al de rfl rfl rfl rfl; rfl)
 by_cases h0 : a.at_.lss b.at_
 ·have ht : a.top b = b := if_pos (by rw [Lnk.cmps_lt]; simp [h0, slt_irr, Mk.lss_irr])
  have HT := kD ht.symm
  have HQ0 := kD (fun wx => ref09_less (a.at_) (b.at_) wx); rw [Mk.lssB_true h0] at HQ0
  clear ht h0
  go_enter Tryz.func104, Tryz.ntmps104
  go_wp2_with (first
   | ((with_reducible refine gate (N := 2) rfl ?_); (refine lJ rfl hL rfl rfl cy ?_; clear hL; intro g2 w2 hL)) | ((with_reducible refine gate (N := 3) rfl ?_); (refine lJ rfl hL rfl rfl cy ?_; clear hL; intro g3 w3 hL)) | ((with_reducible refine gate (N := 4) rfl ?_); (refine lI rfl hL rfl cy ?_; clear hL; intro g4 w4 hL)) | ((with_reducible refine gate (N := 5) rfl ?_); (refine lI rfl hL rfl cy ?_; clear hL; intro g5 w5 hL))
   | (go_at_call 103; (with_reducible refine (HQ0.out _).mono ?_); rintro e w5 ⟨rfl, hb5⟩; have hL := hL.call hb5; clear hb5)
   | (go_at_call 175; (with_reducible refine (HM.out _).mono ?_); rintro e w5 ⟨⟨nd, e1, rfl⟩, hb5⟩; have HE1 := kD e1; clear e1; have hL := hL.call hb5; clear hb5)
   | (go_at_call 39; (with_reducible refine (HA.out _).mono ?_); rintro e w5 ⟨⟨al, e2, rfl⟩, hb5⟩; have HE2 := kD e2; clear e2; have hL := hL.call hb5; clear hb5; clear HA)
   | (go_at_call 39; (with_reducible refine (HD.out _).mono ?_); rintro e w5 ⟨⟨de, e3, rfl⟩, hb5⟩; have HE3 := kD e3; clear e3; have hL := hL.call hb5; clear hb5)
   | ((with_reducible refine qB rfl rfl ?_); (first | (refine lC rfl hL rfl rfl vM (by rfl) ?_) | (refine lA rfl hL rfl rfl vM (by rfl) ?_) | (refine lF rfl hL rfl rfl vM SegC.seg ?_))) | ((with_reducible refine qC rfl rfl ?_); (refine lH rfl hL rfl rfl rfl cy (by rfl) ?_); clear hL; intro wq hL))
  exact bodyPost_ret (res_cell rfl hL _ rfl vM (by rfl)) rfl ⟨⟨⟨a.id, nd, b.at_, b.parent, b.name, al, de⟩, HR.out _ _ _ _ HT.out HE1.out HE2.out HE3.out, rfl⟩, hL.below⟩
 ·by_cases h1 : a.at_ = b.at_
  ·by_cases h2 : a.parent.lss b.parent
   ·have ht : a.top b = b := if_pos (by rw [Lnk.cmps_lt]; simp [h0, h1, h2, slt_irr, Mk.lss_irr])
    have HT := kD ht.symm
    have HQ0 := kD (fun wx => ref09_less (a.at_) (b.at_) wx); rw [Mk.lssB_not h0] at HQ0
    have q1 := stampE (a.at_) (b.at_) (decide_eq_true h1)
    have HQ2 := kD (fun wx => ref09_less (a.parent) (b.parent) wx); rw [Mk.lssB_true h2] at HQ2
    clear ht h0 h1 h2
    go_enter Tryz.func104, Tryz.ntmps104
    go_wp2_with (first
     | ((with_reducible refine gate (N := 2) rfl ?_); (refine lJ rfl hL rfl rfl cy ?_; clear hL; intro g2 w2 hL)) | ((with_reducible refine gate (N := 3) rfl ?_); (refine lJ rfl hL rfl rfl cy ?_; clear hL; intro g3 w3 hL)) | ((with_reducible refine gate (N := 4) rfl ?_); (refine lI rfl hL rfl cy ?_; clear hL; intro g4 w4 hL)) | ((with_reducible refine gate (N := 5) rfl ?_); (refine lI rfl hL rfl cy ?_; clear hL; intro g5 w5 hL))
     | (go_at_call 103; (with_reducible refine (HQ0.out _).mono ?_); rintro e w5 ⟨rfl, hb5⟩; have hL := hL.call hb5; clear hb5)
     | (go_at_call 103; (with_reducible refine (HQ2.out _).mono ?_); rintro e w5 ⟨rfl, hb5⟩; have hL := hL.call hb5; clear hb5)
     | (go_at_call 175; (with_reducible refine (HM.out _).mono ?_); rintro e w5 ⟨⟨nd, e1, rfl⟩, hb5⟩; have HE1 := kD e1; clear e1; have hL := hL.call hb5; clear hb5)
     | (go_at_call 39; (with_reducible refine (HA.out _).mono ?_); rintro e w5 ⟨⟨al, e2, rfl⟩, hb5⟩; have HE2 := kD e2; clear e2; have hL := hL.call hb5; clear hb5; clear HA)
     | (go_at_call 39; (with_reducible refine (HD.out _).mono ?_); rintro e w5 ⟨⟨de, e3, rfl⟩, hb5⟩; have HE3 := kD e3; clear e3; have hL := hL.call hb5; clear hb5)
     | ((with_reducible refine qB rfl rfl ?_); (first | (refine lC rfl hL rfl rfl vM (by rfl) ?_) | (refine lA rfl hL rfl rfl vM (by rfl) ?_) | (refine lF rfl hL rfl rfl vM SegC.seg ?_))) | ((with_reducible refine qC rfl rfl ?_); (refine lH rfl hL rfl rfl rfl cy (by rfl) ?_); clear hL; intro wq hL) | ((with_reducible refine qA rfl rfl ?_ ?_); (exact wz rfl rfl rfl (by with_reducible rfl)); (refine lE (wz rfl rfl rfl rfl) hL rfl rfl vM SegC.seg ?_)))
    exact bodyPost_ret (res_cell rfl hL _ rfl vM (by rfl)) rfl ⟨⟨⟨a.id, nd, b.at_, b.parent, b.name, al, de⟩, HR.out _ _ _ _ HT.out HE1.out HE2.out HE3.out, rfl⟩, hL.below⟩
   ·by_cases h3 : a.parent = b.parent
    ·by_cases h4 : slt a.name b.name = true
     ·have ht : a.top b = b := if_pos (by rw [Lnk.cmps_lt]; simp [h0, h1, h2, h3, h4, slt_irr, Mk.lss_irr])
      have HT := kD ht.symm
      have HQ0 := kD (fun wx => ref09_less (a.at_) (b.at_) wx); rw [Mk.lssB_not h0] at HQ0
      have q1 := stampE (a.at_) (b.at_) (decide_eq_true h1)
      have HQ2 := kD (fun wx => ref09_less (a.parent) (b.parent) wx); rw [Mk.lssB_not h2] at HQ2
      have q3 := stampE (a.parent) (b.parent) (decide_eq_true h3)
      have HS := kD (fun wx => ref01_less (a.name) (b.name) wx ha hb); rw [show slt (a.name) (b.name) = true from h4] at HS
      clear ht h0 h1 h2 h3 h4
      go_enter Tryz.func104, Tryz.ntmps104
      go_wp2_with (first
       | ((with_reducible refine gate (N := 2) rfl ?_); (refine lJ rfl hL rfl rfl cy ?_; clear hL; intro g2 w2 hL)) | ((with_reducible refine gate (N := 3) rfl ?_); (refine lJ rfl hL rfl rfl cy ?_; clear hL; intro g3 w3 hL)) | ((with_reducible refine gate (N := 4) rfl ?_); (refine lI rfl hL rfl cy ?_; clear hL; intro g4 w4 hL)) | ((with_reducible refine gate (N := 5) rfl ?_); (refine lI rfl hL rfl cy ?_; clear hL; intro g5 w5 hL))
       | (go_at_call 103; (with_reducible refine (HQ0.out _).mono ?_); rintro e w5 ⟨rfl, hb5⟩; have hL := hL.call hb5; clear hb5)
       | (go_at_call 103; (with_reducible refine (HQ2.out _).mono ?_); rintro e w5 ⟨rfl, hb5⟩; have hL := hL.call hb5; clear hb5)
       | (go_at_call 170; (with_reducible refine (HS.out _).mono ?_); rintro e w5 ⟨rfl, hb5⟩; have hL := hL.call hb5; clear hb5)
       | (go_at_call 175; (with_reducible refine (HM.out _).mono ?_); rintro e w5 ⟨⟨nd, e1, rfl⟩, hb5⟩; have HE1 := kD e1; clear e1; have hL := hL.call hb5; clear hb5)
       | (go_at_call 39; (with_reducible refine (HA.out _).mono ?_); rintro e w5 ⟨⟨al, e2, rfl⟩, hb5⟩; have HE2 := kD e2; clear e2; have hL := hL.call hb5; clear hb5; clear HA)
       | (go_at_call 39; (with_reducible refine (HD.out _).mono ?_); rintro e w5 ⟨⟨de, e3, rfl⟩, hb5⟩; have HE3 := kD e3; clear e3; have hL := hL.call hb5; clear hb5)
       | ((with_reducible refine qB rfl rfl ?_); (first | (refine lC rfl hL rfl rfl vM (by rfl) ?_) | (refine lA rfl hL rfl rfl vM (by rfl) ?_) | (refine lF rfl hL rfl rfl vM SegC.seg ?_))) | ((with_reducible refine qC rfl rfl ?_); (refine lH rfl hL rfl rfl rfl cy (by rfl) ?_); clear hL; intro wq hL) | ((with_reducible refine qA rfl rfl ?_ ?_); (exact wz rfl rfl rfl (by with_reducible rfl)); (first | (refine lD (wz rfl rfl rfl rfl) hL rfl rfl vM (by rfl) ?_) | (refine lE (wz rfl rfl rfl rfl) hL rfl rfl vM SegC.seg ?_))))
      exact bodyPost_ret (res_cell rfl hL _ rfl vM (by rfl)) rfl ⟨⟨⟨a.id, nd, b.at_, b.parent, b.name, al, de⟩, HR.out _ _ _ _ HT.out HE1.out HE2.out HE3.out, rfl⟩, hL.below⟩
     ·have ht : a.top b = a := if_neg (by rw [Lnk.cmps_lt]; simp [h0, h1, h2, h3, h4, slt_irr, Mk.lss_irr])
      have HT := kD ht.symm
      have HQ0 := kD (fun wx => ref09_less (a.at_) (b.at_) wx); rw [Mk.lssB_not h0] at HQ0
      have q1 := stampE (a.at_) (b.at_) (decide_eq_true h1)
      have HQ2 := kD (fun wx => ref09_less (a.parent) (b.parent) wx); rw [Mk.lssB_not h2] at HQ2
      have q3 := stampE (a.parent) (b.parent) (decide_eq_true h3)
      have HS := kD (fun wx => ref01_less (a.name) (b.name) wx ha hb); rw [show slt (a.name) (b.name) = false from Bool.eq_false_iff.2 h4] at HS
      clear ht h0 h1 h2 h3 h4
      go_enter Tryz.func104, Tryz.ntmps104
      go_wp2_with (first
       | ((with_reducible refine gate (N := 2) rfl ?_); (refine lJ rfl hL rfl rfl cy ?_; clear hL; intro g2 w2 hL)) | ((with_reducible refine gate (N := 3) rfl ?_); (refine lJ rfl hL rfl rfl cy ?_; clear hL; intro g3 w3 hL)) | ((with_reducible refine gate (N := 4) rfl ?_); (refine lI rfl hL rfl cy ?_; clear hL; intro g4 w4 hL)) | ((with_reducible refine gate (N := 5) rfl ?_); (refine lI rfl hL rfl cy ?_; clear hL; intro g5 w5 hL))
       | (go_at_call 103; (with_reducible refine (HQ0.out _).mono ?_); rintro e w5 ⟨rfl, hb5⟩; have hL := hL.call hb5; clear hb5)
       | (go_at_call 103; (with_reducible refine (HQ2.out _).mono ?_); rintro e w5 ⟨rfl, hb5⟩; have hL := hL.call hb5; clear hb5)
       | (go_at_call 170; (with_reducible refine (HS.out _).mono ?_); rintro e w5 ⟨rfl, hb5⟩; have hL := hL.call hb5; clear hb5)
       | (go_at_call 175; (with_reducible refine (HM.out _).mono ?_); rintro e w5 ⟨⟨nd, e1, rfl⟩, hb5⟩; have HE1 := kD e1; clear e1; have hL := hL.call hb5; clear hb5)
       | (go_at_call 39; (with_reducible refine (HA.out _).mono ?_); rintro e w5 ⟨⟨al, e2, rfl⟩, hb5⟩; have HE2 := kD e2; clear e2; have hL := hL.call hb5; clear hb5; clear HA)
       | (go_at_call 39; (with_reducible refine (HD.out _).mono ?_); rintro e w5 ⟨⟨de, e3, rfl⟩, hb5⟩; have HE3 := kD e3; clear e3; have hL := hL.call hb5; clear hb5)
       | ((with_reducible refine qB rfl rfl ?_); (first | (refine lA rfl hL rfl rfl vM (by rfl) ?_) | (refine lF rfl hL rfl rfl vM SegC.seg ?_))) | ((with_reducible refine qC rfl rfl ?_); (refine lH rfl hL rfl rfl rfl cy (by rfl) ?_); clear hL; intro wq hL) | ((with_reducible refine qA rfl rfl ?_ ?_); (exact wz rfl rfl rfl (by with_reducible rfl)); (first | (refine lD (wz rfl rfl rfl rfl) hL rfl rfl vM (by rfl) ?_) | (refine lE (wz rfl rfl rfl rfl) hL rfl rfl vM SegC.seg ?_))))
      exact bodyPost_ret (res_cell rfl hL _ rfl vM (by rfl)) rfl ⟨⟨⟨a.id, nd, a.at_, a.parent, a.name, al, de⟩, HR.out _ _ _ _ HT.out HE1.out HE2.out HE3.out, rfl⟩, hL.below⟩
    ·have ht : a.top b = a := if_neg (by rw [Lnk.cmps_lt]; simp [h0, h1, h2, h3, slt_irr, Mk.lss_irr])
     have HT := kD ht.symm
     have HQ0 := kD (fun wx => ref09_less (a.at_) (b.at_) wx); rw [Mk.lssB_not h0] at HQ0
     have q1 := stampE (a.at_) (b.at_) (decide_eq_true h1)
     have HQ2 := kD (fun wx => ref09_less (a.parent) (b.parent) wx); rw [Mk.lssB_not h2] at HQ2
     have q3 := stampE (a.parent) (b.parent) (decide_eq_false h3)
     clear ht h0 h1 h2 h3
     go_enter Tryz.func104, Tryz.ntmps104
     go_wp2_with (first
      | ((with_reducible refine gate (N := 2) rfl ?_); (refine lJ rfl hL rfl rfl cy ?_; clear hL; intro g2 w2 hL)) | ((with_reducible refine gate (N := 3) rfl ?_); (refine lJ rfl hL rfl rfl cy ?_; clear hL; intro g3 w3 hL)) | ((with_reducible refine gate (N := 4) rfl ?_); (refine lI rfl hL rfl cy ?_; clear hL; intro g4 w4 hL)) | ((with_reducible refine gate (N := 5) rfl ?_); (refine lI rfl hL rfl cy ?_; clear hL; intro g5 w5 hL))
      | (go_at_call 103; (with_reducible refine (HQ0.out _).mono ?_); rintro e w5 ⟨rfl, hb5⟩; have hL := hL.call hb5; clear hb5)
      | (go_at_call 103; (with_reducible refine (HQ2.out _).mono ?_); rintro e w5 ⟨rfl, hb5⟩; have hL := hL.call hb5; clear hb5)
      | (go_at_call 175; (with_reducible refine (HM.out _).mono ?_); rintro e w5 ⟨⟨nd, e1, rfl⟩, hb5⟩; have HE1 := kD e1; clear e1; have hL := hL.call hb5; clear hb5)
      | (go_at_call 39; (with_reducible refine (HA.out _).mono ?_); rintro e w5 ⟨⟨al, e2, rfl⟩, hb5⟩; have HE2 := kD e2; clear e2; have hL := hL.call hb5; clear hb5; clear HA)
      | (go_at_call 39; (with_reducible refine (HD.out _).mono ?_); rintro e w5 ⟨⟨de, e3, rfl⟩, hb5⟩; have HE3 := kD e3; clear e3; have hL := hL.call hb5; clear hb5)
      | ((with_reducible refine qB rfl rfl ?_); (first | (refine lA rfl hL rfl rfl vM (by rfl) ?_) | (refine lF rfl hL rfl rfl vM SegC.seg ?_))) | ((with_reducible refine qC rfl rfl ?_); (refine lH rfl hL rfl rfl rfl cy (by rfl) ?_); clear hL; intro wq hL) | ((with_reducible refine qA rfl rfl ?_ ?_); (exact wz rfl rfl rfl (by with_reducible rfl)); (refine lE (wz rfl rfl rfl rfl) hL rfl rfl vM SegC.seg ?_)))
     exact bodyPost_ret (res_cell rfl hL _ rfl vM (by rfl)) rfl ⟨⟨⟨a.id, nd, a.at_, a.parent, a.name, al, de⟩, HR.out _ _ _ _ HT.out HE1.out HE2.out HE3.out, rfl⟩, hL.below⟩
  ·have ht : a.top b = a := if_neg (by rw [Lnk.cmps_lt]; simp [h0, h1, slt_irr, Mk.lss_irr])
   have HT := kD ht.symm
   have HQ0 := kD (fun wx => ref09_less (a.at_) (b.at_) wx); rw [Mk.lssB_not h0] at HQ0
   have q1 := stampE (a.at_) (b.at_) (decide_eq_false h1)
   clear ht h0 h1
   go_enter Tryz.func104, Tryz.ntmps104
   go_wp2_with (first
    | ((with_reducible refine gate (N := 2) rfl ?_); (refine lJ rfl hL rfl rfl cy ?_; clear hL; intro g2 w2 hL)) | ((with_reducible refine gate (N := 3) rfl ?_); (refine lJ rfl hL rfl rfl cy ?_; clear hL; intro g3 w3 hL)) | ((with_reducible refine gate (N := 4) rfl ?_); (refine lI rfl hL rfl cy ?_; clear hL; intro g4 w4 hL)) | ((with_reducible refine gate (N := 5) rfl ?_); (refine lI rfl hL rfl cy ?_; clear hL; intro g5 w5 hL))
    | (go_at_call 103; (with_reducible refine (HQ0.out _).mono ?_); rintro e w5 ⟨rfl, hb5⟩; have hL := hL.call hb5; clear hb5)
    | (go_at_call 175; (with_reducible refine (HM.out _).mono ?_); rintro e w5 ⟨⟨nd, e1, rfl⟩, hb5⟩; have HE1 := kD e1; clear e1; have hL := hL.call hb5; clear hb5)
    | (go_at_call 39; (with_reducible refine (HA.out _).mono ?_); rintro e w5 ⟨⟨al, e2, rfl⟩, hb5⟩; have HE2 := kD e2; clear e2; have hL := hL.call hb5; clear hb5; clear HA)
    | (go_at_call 39; (with_reducible refine (HD.out _).mono ?_); rintro e w5 ⟨⟨de, e3, rfl⟩, hb5⟩; have HE3 := kD e3; clear e3; have hL := hL.call hb5; clear hb5)
    | ((with_reducible refine qB rfl rfl ?_); (first | (refine lA rfl hL rfl rfl vM (by rfl) ?_) | (refine lF rfl hL rfl rfl vM SegC.seg ?_))) | ((with_reducible refine qC rfl rfl ?_); (refine lH rfl hL rfl rfl rfl cy (by rfl) ?_); clear hL; intro wq hL) | ((with_reducible refine qA rfl rfl ?_ ?_); (exact wz rfl rfl rfl (by with_reducible rfl)); (refine lE (wz rfl rfl rfl rfl) hL rfl rfl vM SegC.seg ?_)))
   exact bodyPost_ret (res_cell rfl hL _ rfl vM (by rfl)) rfl ⟨⟨⟨a.id, nd, a.at_, a.parent, a.name, al, de⟩, HR.out _ _ _ _ HT.out HE1.out HE2.out HE3.out, rfl⟩, hL.below⟩
end Go.Proofs.YtebpacmhdkgfeaaGreat
