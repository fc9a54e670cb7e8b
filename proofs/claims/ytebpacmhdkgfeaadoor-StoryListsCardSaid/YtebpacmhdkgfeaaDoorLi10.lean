/- Texts laid together: Sma, Law29a, Law29o. -/
import Derived.Test.YtebpacmhdkgfeaaDoorLi9
/- crannogplain.Small: what it lets in. -/
namespace Go.Proofs.YtebpacmhdkgfeaaDoor
open Go.RowKit

/-- What crannogplain.Small lets in, as far as it is wanted. -/
structure StaD.plain (d : StaD) : Prop where
  nodes : d.nodes.length ≤ 120
  links : d.links.length ≤ 120
  ps : ∀ n ∈ d.nodes, n.ps.length ≤ 120
  xs : ∀ n ∈ d.nodes, n.xs.length ≤ 120
set_option maxHeartbeats 4000000 in
theorem small_big (s : Sta) (d : StaD) (w : World) (hO : s.Ok w d) (h : 120 < d.nodes.length ∨ 120 < d.links.length) :
    Calls Tryd.prog 22 #[.agg s.cells.toArray] w fun e w' => e = .returned (.bool false) ∧ Below w.heap.size w w' := by
  have hL := Loc.nil w NoM
  obtain ⟨ns, hns, -, hds⟩ := hO.nodes
  obtain ⟨aon, cn, en, -⟩ := R_elem hns
  obtain ⟨aol, cl, el, -⟩ := R_elem hO.links
  have hnl : ns.length = d.nodes.length := by rw [← hds, List.length_map]
  rw [hnl] at en
  have en1 : s.nodes.a = aon ∧ s.nodes.n = d.nodes.length ∧ s.nodes.c = cn := by unfold Sl.val at en; injection en with a b c; exact ⟨a, b, c⟩
  have el1 : s.links.a = aol ∧ s.links.n = d.links.length ∧ s.links.c = cl := by unfold Sl.val at el; injection el with a b c; exact ⟨a, b, c⟩
  obtain ⟨r1, r2, r3⟩ := en1
  obtain ⟨r4, r5, r6⟩ := el1
  unfold Sta.cells
  rw [r1, r2, r3, r4, r5, r6]
  generalize d.nodes.length = n at *
  generalize d.links.length = m at *
  clear hO hns hds en el hnl r1 r2 r3 r4 r5 r6
  by_cases h1 : 120 < n
  · have t1 : decide ((120 : Int) < (n : Int)) = true := (by first | (simp; done) | (simp; omega))
    go_enter Tryd.func22, Tryd.ntmps22
    go_wp2_with (first | ((with_reducible refine gAlloc rfl rfl ?_); (refine ev_allocL rfl hL rfl (by first | exact CellsC.of | exact cells_one (by assumption) (by assumption) | exact cells_agg _ rfl) ?_; clear hL; intro gq wq hL)) | ((with_reducible refine gBox rfl rfl ?_); (refine ev_boxL rfl hL rfl rfl (by first | exact CellsC.of | exact cells_one (by assumption) (by assumption) | exact cells_agg _ rfl) ?_; clear hL; intro gq wq hL)) | ((with_reducible refine gLoad rfl rfl ?_); (first | (refine ev_load1L rfl hL rfl rfl HasV.mem (by rfl) ?_) | (refine ev_loadAllL rfl hL rfl rfl HasV.mem (by rfl) ?_) | (refine ev_loadL rfl hL rfl rfl HasV.mem SegC.seg ?_))) | ((with_reducible refine gStore rfl rfl ?_); (first | (refine ev_storeC rfl hL rfl rfl rfl (by first | exact CellsC.of | exact cells_one (by assumption) (by assumption) | exact cells_agg _ rfl) (by rfl) ?_) | (refine ev_storeAllC rfl hL rfl rfl rfl (by first | exact CellsC.of | exact cells_one (by assumption) (by assumption) | exact cells_agg _ rfl) (by rfl) (by rfl) ?_)); clear hL; intro wq hL) | ((with_reducible refine gLoadG rfl rfl ?_ ?_); (exact wanted_some rfl rfl rfl (by with_reducible rfl)); (first | (refine ev_load1G (wanted_some rfl rfl rfl rfl) hL rfl rfl HasV.mem (by rfl) ?_) | (refine ev_loadAllG (wanted_some rfl rfl rfl rfl) hL rfl rfl HasV.mem (by rfl) ?_) | (refine ev_loadG_ (wanted_some rfl rfl rfl rfl) hL rfl rfl HasV.mem SegC.seg ?_))))
    go_ret
    exact ⟨rfl, hL.below⟩
  · have h2 : 120 < m := by omega
    have t1 : decide ((120 : Int) < (n : Int)) = false := (by first | (simp; done) | (simp; omega))
    have t2 : decide ((120 : Int) < (m : Int)) = true := (by first | (simp; done) | (simp; omega))
    clear h
    go_enter Tryd.func22, Tryd.ntmps22
    go_wp2_with (first | ((with_reducible refine gAlloc rfl rfl ?_); (refine ev_allocL rfl hL rfl (by first | exact CellsC.of | exact cells_one (by assumption) (by assumption) | exact cells_agg _ rfl) ?_; clear hL; intro gq wq hL)) | ((with_reducible refine gBox rfl rfl ?_); (refine ev_boxL rfl hL rfl rfl (by first | exact CellsC.of | exact cells_one (by assumption) (by assumption) | exact cells_agg _ rfl) ?_; clear hL; intro gq wq hL)) | ((with_reducible refine gLoad rfl rfl ?_); (first | (refine ev_load1L rfl hL rfl rfl HasV.mem (by rfl) ?_) | (refine ev_loadAllL rfl hL rfl rfl HasV.mem (by rfl) ?_) | (refine ev_loadL rfl hL rfl rfl HasV.mem SegC.seg ?_))) | ((with_reducible refine gStore rfl rfl ?_); (first | (refine ev_storeC rfl hL rfl rfl rfl (by first | exact CellsC.of | exact cells_one (by assumption) (by assumption) | exact cells_agg _ rfl) (by rfl) ?_) | (refine ev_storeAllC rfl hL rfl rfl rfl (by first | exact CellsC.of | exact cells_one (by assumption) (by assumption) | exact cells_agg _ rfl) (by rfl) (by rfl) ?_)); clear hL; intro wq hL) | ((with_reducible refine gLoadG rfl rfl ?_ ?_); (exact wanted_some rfl rfl rfl (by with_reducible rfl)); (first | (refine ev_load1G (wanted_some rfl rfl rfl rfl) hL rfl rfl HasV.mem (by rfl) ?_) | (refine ev_loadAllG (wanted_some rfl rfl rfl rfl) hL rfl rfl HasV.mem (by rfl) ?_) | (refine ev_loadG_ (wanted_some rfl rfl rfl rfl) hL rfl rfl HasV.mem SegC.seg ?_))))
    go_ret
    exact ⟨rfl, hL.below⟩
set_option maxHeartbeats 8000000 in
theorem small_in (s : Sta) (d : StaD) (w : World) (hO : s.Ok w d) (hn0 : d.nodes.length ≤ 120) (hl0 : d.links.length ≤ 120) :
    Calls Tryd.prog 22 #[.agg s.cells.toArray] w fun e w' => (∃ b, e = .returned (.bool b) ∧ (b = true → d.plain)) ∧ Below w.heap.size w w' := by
  have hL := Loc.nil w NoM
  obtain ⟨ns, hns, hok, hds⟩ := hO.nodes
  obtain ⟨aon, cn, en, heln⟩ := R_elem hns
  obtain ⟨aol, cl, el, hell⟩ := R_elem hO.links
  have en1 : s.nodes.a = aon ∧ s.nodes.n = ns.length ∧ s.nodes.c = cn := by unfold Sl.val at en; injection en with a b c; exact ⟨a, b, c⟩
  have el1 : s.links.a = aol ∧ s.links.n = d.links.length ∧ s.links.c = cl := by unfold Sl.val at el; injection el with a b c; exact ⟨a, b, c⟩
  have HK := Lib.hid hok
  have HD : Hid ((∀ n ∈ ns, n.d.ps.length ≤ 120 ∧ n.d.xs.length ≤ 120) → d.plain) := Lib.hid (fun h => ⟨hn0, hl0, fun n hn => by
    rw [← hds] at hn; obtain ⟨q, hq, rfl⟩ := List.mem_map.1 hn; exact (h q hq).1, fun n hn => by
    rw [← hds] at hn; obtain ⟨q, hq, rfl⟩ := List.mem_map.1 hn; exact (h q hq).2⟩)
  have hn1 : ns.length ≤ 120 := by rw [← hds, List.length_map] at hn0; exact hn0
  obtain ⟨r1, r2, r3⟩ := en1
  obtain ⟨r4, r5, r6⟩ := el1
  unfold Sta.cells
  rw [r1, r2, r3, r4, r5, r6]
  clear hO hns en el r1 r2 r3 r4 r5 r6 hok hds hn0
  have t1 : decide ((120 : Int) < (ns.length : Int)) = false := (by first | (simp; done) | (simp; omega))
  have t2 : decide ((120 : Int) < (d.links.length : Int)) = false := (by first | (simp; done) | (simp; omega))
  generalize d.links = ls at *
  go_enter Tryd.func22, Tryd.ntmps22
  go_wp2_with (first | ((with_reducible refine gate (N := 1) rfl ?_); (refine ev_boxL rfl hL rfl rfl (by first | exact CellsC.of | exact cells_one (by assumption) (by assumption) | exact cells_agg _ rfl) ?_; clear hL; intro g1 w1 hL)) | ((with_reducible refine gAlloc rfl rfl ?_); (refine ev_allocL rfl hL rfl (by first | exact CellsC.of | exact cells_one (by assumption) (by assumption) | exact cells_agg _ rfl) ?_; clear hL; intro gq wq hL)) | ((with_reducible refine gBox rfl rfl ?_); (refine ev_boxL rfl hL rfl rfl (by first | exact CellsC.of | exact cells_one (by assumption) (by assumption) | exact cells_agg _ rfl) ?_; clear hL; intro gq wq hL)) | ((with_reducible refine gLoad rfl rfl ?_); (first | (refine ev_load1L rfl hL rfl rfl HasV.mem (by rfl) ?_) | (refine ev_loadAllL rfl hL rfl rfl HasV.mem (by rfl) ?_) | (refine ev_loadL rfl hL rfl rfl HasV.mem SegC.seg ?_))) | ((with_reducible refine gStore rfl rfl ?_); (first | (refine ev_storeC rfl hL rfl rfl rfl (by first | exact CellsC.of | exact cells_one (by assumption) (by assumption) | exact cells_agg _ rfl) (by rfl) ?_) | (refine ev_storeAllC rfl hL rfl rfl rfl (by first | exact CellsC.of | exact cells_one (by assumption) (by assumption) | exact cells_agg _ rfl) (by rfl) (by rfl) ?_)); clear hL; intro wq hL) | ((with_reducible refine gLoadG rfl rfl ?_ ?_); (exact wanted_some rfl rfl rfl (by with_reducible rfl)); (first | (refine ev_load1G (wanted_some rfl rfl rfl rfl) hL rfl rfl HasV.mem (by rfl) ?_) | (refine ev_loadAllG (wanted_some rfl rfl rfl rfl) hL rfl rfl HasV.mem (by rfl) ?_) | (refine ev_loadG_ (wanted_some rfl rfl rfl rfl) hL rfl rfl HasV.mem SegC.seg ?_))))
  clear t1 t2
  have HP : Hid (∀ n ∈ ns.take 0, n.d.ps.length ≤ 120 ∧ n.d.xs.length ≤ 120) := Lib.hid (by simp)
  go_loopw [3, 25] (fun sv i wr => ∃ (k : Nat) (m : Int), k ≤ ns.length ∧ i = .int .i64 k ∧ sv = .int .i64 m ∧ 0 ≤ m ∧ m ≤ 16384 ∧ Hid (∀ n ∈ ns.take k, n.d.ps.length ≤ 120 ∧ n.d.xs.length ≤ 120) ∧ Loc w NoM wr [var g1 [.int .i64 s.seen.a0, .int .i64 s.seen.a1, .int .i64 s.seen.a2, .int .i64 s.seen.a3, .int .i64 s.seen.a4, .int .i64 s.seen.a5, .int .i64 s.seen.a6, .int .i64 s.seen.a7, .slice aon ns.length cn, .slice aol ls.length cl] 29]) (fun _ i _ => ns.length - (intOf i).toNat)
  case atStart => exact ⟨0, 0, by omega, rfl, rfl, by omega, by omega, HP, hL⟩
  case round =>
    clear hL HP
    obtain ⟨k, m, hk, rfl, rfl, hm0, hm1, HP, hL⟩ := hrel
    by_cases hlt : k < ns.length
    · obtain ⟨g, off, rfl, hr⟩ := heln k hlt
      have hrW : wr.rangeAt g (off + k * 13) (Ino.cells ns[k].s) := range_below hr hL.below
      clear hr
      have hoq : ns[k].s.Ok w ns[k].d := HK.out _ (List.getElem_mem hlt)
      have HP2 : Hid (ns[k].d.ps.length ≤ 120 → ns[k].d.xs.length ≤ 120 → ∀ n ∈ ns.take (k + 1), n.d.ps.length ≤ 120 ∧ n.d.xs.length ≤ 120) := Lib.hid (fun a b n hn => by
        rw [(List.take_append_getElem hlt).symm, List.mem_append, List.mem_singleton] at hn
        rcases hn with hn | rfl
        · exact HP.out n hn
        · exact ⟨a, b⟩)
      clear HP
      generalize ns[k] = q at *
      obtain ⟨aop, cp, ep, help⟩ := R_elem hoq.ps
      obtain ⟨aox, cx, ex, helx⟩ := R_elem hoq.xs
      obtain ⟨⟨hd, p, x⟩, ⟨hd2, ps, xs⟩⟩ := q
      simp only [Sl.val] at ep ex
      have ep1 : p.a = aop ∧ p.n = ps.length ∧ p.c = cp := by injection ep with a b c; exact ⟨a, b, c⟩
      have ex1 : x.a = aox ∧ x.n = xs.length ∧ x.c = cx := by injection ex with a b c; exact ⟨a, b, c⟩
      clear ep ex hoq
      simp only [Ino.cells] at hrW
      rw [ep1.1, ep1.2.1, ep1.2.2, ex1.1, ex1.2.1, ex1.2.2] at hrW
      clear ep1 ex1
      replace HP2 : Hid (ps.length ≤ 120 → xs.length ≤ 120 → ∀ n ∈ ns.take (k + 1), n.d.ps.length ≤ 120 ∧ n.d.xs.length ≤ 120) := HP2
      replace help : ∀ (i : Nat) (hi : i < ps.length), ∃ g off, aop = some ⟨g, off, none⟩ ∧ w.rangeAt g (off + i * 4) (Pce.cells ps[i]) := help
      replace helx : ∀ (i : Nat) (hi : i < xs.length), ∃ g off, aox = some ⟨g, off, none⟩ ∧ w.rangeAt g (off + i * 5) (Xat.cells xs[i]) := helx
      go_upto_region 7 with (first | ((with_reducible refine gate (N := 5) rfl ?_); (refine ev_allocL rfl hL rfl (by first | exact CellsC.of | exact cells_one (by assumption) (by assumption) | exact cells_agg _ rfl) ?_; clear hL; intro g5 w5 hL)) | ((with_reducible refine gIndex rfl rfl ?_); refine ev_indexL rfl rfl rfl rfl hlt ?_) | ((with_reducible refine gate (N := 28) rfl ?_); refine ev_loadR rfl rfl rfl hrW (by rfl) ?_) | ((with_reducible refine gAlloc rfl rfl ?_); (refine ev_allocL rfl hL rfl (by first | exact CellsC.of | exact cells_one (by assumption) (by assumption) | exact cells_agg _ rfl) ?_; clear hL; intro gq wq hL)) | ((with_reducible refine gBox rfl rfl ?_); (refine ev_boxL rfl hL rfl rfl (by first | exact CellsC.of | exact cells_one (by assumption) (by assumption) | exact cells_agg _ rfl) ?_; clear hL; intro gq wq hL)) | ((with_reducible refine gLoad rfl rfl ?_); (first | (refine ev_load1L rfl hL rfl rfl HasV.mem (by rfl) ?_) | (refine ev_loadAllL rfl hL rfl rfl HasV.mem (by rfl) ?_) | (refine ev_loadL rfl hL rfl rfl HasV.mem SegC.seg ?_))) | ((with_reducible refine gStore rfl rfl ?_); (first | (refine ev_storeC rfl hL rfl rfl rfl (by first | exact CellsC.of | exact cells_one (by assumption) (by assumption) | exact cells_agg _ rfl) (by rfl) ?_) | (refine ev_storeAllC rfl hL rfl rfl rfl (by first | exact CellsC.of | exact cells_one (by assumption) (by assumption) | exact cells_agg _ rfl) (by rfl) (by rfl) ?_)); clear hL; intro wq hL) | ((with_reducible refine gLoadG rfl rfl ?_ ?_); (exact wanted_some rfl rfl rfl (by with_reducible rfl)); (first | (refine ev_load1G (wanted_some rfl rfl rfl rfl) hL rfl rfl HasV.mem (by rfl) ?_) | (refine ev_loadAllG (wanted_some rfl rfl rfl rfl) hL rfl rfl HasV.mem (by rfl) ?_) | (refine ev_loadG_ (wanted_some rfl rfl rfl rfl) hL rfl rfl HasV.mem SegC.seg ?_))))
      simp only [Act.put, List.setIfInBounds_toArray, List.set_cons_succ, List.set_cons_zero]
      go_cut [3] (fun sv wx => ∃ m2 : Int, sv = .int .i64 m2 ∧ 0 ≤ m2 ∧ m2 ≤ 32768 ∧ wx = wq)
      case first =>
        go_wp2_with (first | ((with_reducible refine gAlloc rfl rfl ?_); (refine ev_allocL rfl hL rfl (by first | exact CellsC.of | exact cells_one (by assumption) (by assumption) | exact cells_agg _ rfl) ?_; clear hL; intro gq wq hL)) | ((with_reducible refine gBox rfl rfl ?_); (refine ev_boxL rfl hL rfl rfl (by first | exact CellsC.of | exact cells_one (by assumption) (by assumption) | exact cells_agg _ rfl) ?_; clear hL; intro gq wq hL)) | ((with_reducible refine gLoad rfl rfl ?_); (first | (refine ev_load1L rfl hL rfl rfl HasV.mem (by rfl) ?_) | (refine ev_loadAllL rfl hL rfl rfl HasV.mem (by rfl) ?_) | (refine ev_loadL rfl hL rfl rfl HasV.mem SegC.seg ?_))) | ((with_reducible refine gStore rfl rfl ?_); (first | (refine ev_storeC rfl hL rfl rfl rfl (by first | exact CellsC.of | exact cells_one (by assumption) (by assumption) | exact cells_agg _ rfl) (by rfl) ?_) | (refine ev_storeAllC rfl hL rfl rfl rfl (by first | exact CellsC.of | exact cells_one (by assumption) (by assumption) | exact cells_agg _ rfl) (by rfl) (by rfl) ?_)); clear hL; intro wq hL) | ((with_reducible refine gLoadG rfl rfl ?_ ?_); (exact wanted_some rfl rfl rfl (by with_reducible rfl)); (first | (refine ev_load1G (wanted_some rfl rfl rfl rfl) hL rfl rfl HasV.mem (by rfl) ?_) | (refine ev_loadAllG (wanted_some rfl rfl rfl rfl) hL rfl rfl HasV.mem (by rfl) ?_) | (refine ev_loadG_ (wanted_some rfl rfl rfl rfl) hL rfl rfl HasV.mem SegC.seg ?_))))
        all_goals go_meet
        all_goals exact ⟨_, rfl, by omega, by omega, rfl⟩
      case rest =>
      obtain ⟨m2, rfl, hm20, hm21, rfl⟩ := hcut
      by_cases c1 : 120 < ps.length
      · have t1 : decide ((120 : Int) < (ps.length : Int)) = true := (by first | (simp; done) | (simp; omega))
        go_wp2_with (first | ((with_reducible refine gAlloc rfl rfl ?_); (refine ev_allocL rfl hL rfl (by first | exact CellsC.of | exact cells_one (by assumption) (by assumption) | exact cells_agg _ rfl) ?_; clear hL; intro gq wq hL)) | ((with_reducible refine gBox rfl rfl ?_); (refine ev_boxL rfl hL rfl rfl (by first | exact CellsC.of | exact cells_one (by assumption) (by assumption) | exact cells_agg _ rfl) ?_; clear hL; intro gq wq hL)) | ((with_reducible refine gLoad rfl rfl ?_); (first | (refine ev_load1L rfl hL rfl rfl HasV.mem (by rfl) ?_) | (refine ev_loadAllL rfl hL rfl rfl HasV.mem (by rfl) ?_) | (refine ev_loadL rfl hL rfl rfl HasV.mem SegC.seg ?_))) | ((with_reducible refine gStore rfl rfl ?_); (first | (refine ev_storeC rfl hL rfl rfl rfl (by first | exact CellsC.of | exact cells_one (by assumption) (by assumption) | exact cells_agg _ rfl) (by rfl) ?_) | (refine ev_storeAllC rfl hL rfl rfl rfl (by first | exact CellsC.of | exact cells_one (by assumption) (by assumption) | exact cells_agg _ rfl) (by rfl) (by rfl) ?_)); clear hL; intro wq hL) | ((with_reducible refine gLoadG rfl rfl ?_ ?_); (exact wanted_some rfl rfl rfl (by with_reducible rfl)); (first | (refine ev_load1G (wanted_some rfl rfl rfl rfl) hL rfl rfl HasV.mem (by rfl) ?_) | (refine ev_loadAllG (wanted_some rfl rfl rfl rfl) hL rfl rfl HasV.mem (by rfl) ?_) | (refine ev_loadG_ (wanted_some rfl rfl rfl rfl) hL rfl rfl HasV.mem SegC.seg ?_))))
        go_ret
        exact ⟨⟨false, rfl, by simp⟩, hL.below⟩
      by_cases c2 : 120 < xs.length
      · have t1 : decide ((120 : Int) < (ps.length : Int)) = false := (by first | (simp; done) | (simp; omega))
        have t2 : decide ((120 : Int) < (xs.length : Int)) = true := (by first | (simp; done) | (simp; omega))
        go_wp2_with (first | ((with_reducible refine gAlloc rfl rfl ?_); (refine ev_allocL rfl hL rfl (by first | exact CellsC.of | exact cells_one (by assumption) (by assumption) | exact cells_agg _ rfl) ?_; clear hL; intro gq wq hL)) | ((with_reducible refine gBox rfl rfl ?_); (refine ev_boxL rfl hL rfl rfl (by first | exact CellsC.of | exact cells_one (by assumption) (by assumption) | exact cells_agg _ rfl) ?_; clear hL; intro gq wq hL)) | ((with_reducible refine gLoad rfl rfl ?_); (first | (refine ev_load1L rfl hL rfl rfl HasV.mem (by rfl) ?_) | (refine ev_loadAllL rfl hL rfl rfl HasV.mem (by rfl) ?_) | (refine ev_loadL rfl hL rfl rfl HasV.mem SegC.seg ?_))) | ((with_reducible refine gStore rfl rfl ?_); (first | (refine ev_storeC rfl hL rfl rfl rfl (by first | exact CellsC.of | exact cells_one (by assumption) (by assumption) | exact cells_agg _ rfl) (by rfl) ?_) | (refine ev_storeAllC rfl hL rfl rfl rfl (by first | exact CellsC.of | exact cells_one (by assumption) (by assumption) | exact cells_agg _ rfl) (by rfl) (by rfl) ?_)); clear hL; intro wq hL) | ((with_reducible refine gLoadG rfl rfl ?_ ?_); (exact wanted_some rfl rfl rfl (by with_reducible rfl)); (first | (refine ev_load1G (wanted_some rfl rfl rfl rfl) hL rfl rfl HasV.mem (by rfl) ?_) | (refine ev_loadAllG (wanted_some rfl rfl rfl rfl) hL rfl rfl HasV.mem (by rfl) ?_) | (refine ev_loadG_ (wanted_some rfl rfl rfl rfl) hL rfl rfl HasV.mem SegC.seg ?_))))
        go_ret
        exact ⟨⟨false, rfl, by simp⟩, hL.below⟩
      have HQ := Lib.hid (HP2.out (by omega) (by omega))
      have t1 : decide ((120 : Int) < (ps.length : Int)) = false := (by first | (simp; done) | (simp; omega))
      have t2 : decide ((120 : Int) < (xs.length : Int)) = false := (by first | (simp; done) | (simp; omega))
      clear HP2
      go_wp2_with (first | ((with_reducible refine gAlloc rfl rfl ?_); (refine ev_allocL rfl hL rfl (by first | exact CellsC.of | exact cells_one (by assumption) (by assumption) | exact cells_agg _ rfl) ?_; clear hL; intro gq wq hL)) | ((with_reducible refine gBox rfl rfl ?_); (refine ev_boxL rfl hL rfl rfl (by first | exact CellsC.of | exact cells_one (by assumption) (by assumption) | exact cells_agg _ rfl) ?_; clear hL; intro gq wq hL)) | ((with_reducible refine gLoad rfl rfl ?_); (first | (refine ev_load1L rfl hL rfl rfl HasV.mem (by rfl) ?_) | (refine ev_loadAllL rfl hL rfl rfl HasV.mem (by rfl) ?_) | (refine ev_loadL rfl hL rfl rfl HasV.mem SegC.seg ?_))) | ((with_reducible refine gStore rfl rfl ?_); (first | (refine ev_storeC rfl hL rfl rfl rfl (by first | exact CellsC.of | exact cells_one (by assumption) (by assumption) | exact cells_agg _ rfl) (by rfl) ?_) | (refine ev_storeAllC rfl hL rfl rfl rfl (by first | exact CellsC.of | exact cells_one (by assumption) (by assumption) | exact cells_agg _ rfl) (by rfl) (by rfl) ?_)); clear hL; intro wq hL) | ((with_reducible refine gLoadG rfl rfl ?_ ?_); (exact wanted_some rfl rfl rfl (by with_reducible rfl)); (first | (refine ev_load1G (wanted_some rfl rfl rfl rfl) hL rfl rfl HasV.mem (by rfl) ?_) | (refine ev_loadAllG (wanted_some rfl rfl rfl rfl) hL rfl rfl HasV.mem (by rfl) ?_) | (refine ev_loadG_ (wanted_some rfl rfl rfl rfl) hL rfl rfl HasV.mem SegC.seg ?_))))
      clear t1 t2 hrW
      go_loopw [3, 48] (fun sv i wr => ∃ (j : Nat) (m : Int), j ≤ ps.length ∧ i = .int .i64 j ∧ sv = .int .i64 m ∧ 0 ≤ m ∧ m ≤ 32768 + j * 16385 ∧ Loc w NoM wr [var g5 [.int .i64 hd.id.boot, .int .i64 hd.id.n, .int .i64 hd.kind, .string hd.text, .int .i64 hd.attr.at_.boot, .int .i64 hd.attr.at_.n, .int .i64 hd.attr.mode, .int .u64 hd.attr.time, .int .i64 hd.size.at_.boot, .int .i64 hd.size.at_.n, .int .i64 hd.size.n, .slice aop ps.length cp, .slice aox xs.length cx] 62, var g1 [.int .i64 s.seen.a0, .int .i64 s.seen.a1, .int .i64 s.seen.a2, .int .i64 s.seen.a3, .int .i64 s.seen.a4, .int .i64 s.seen.a5, .int .i64 s.seen.a6, .int .i64 s.seen.a7, .slice (some ⟨g, off, none⟩) ns.length cn, .slice aol ls.length cl] 29]) (fun _ i _ => ps.length - (intOf i).toNat)
      case atStart => exact ⟨0, m2, by omega, rfl, rfl, by omega, by omega, hL⟩
      case round =>
        clear hL
        obtain ⟨j, m, hj, rfl, rfl, hm0, hm1, hL⟩ := hrel
        by_cases hlj : j < ps.length
        · obtain ⟨g2, off2, rfl, hr⟩ := help j hlj
          have hrW : World.rangeAt _ g2 (off2 + j * 4) (Pce.cells ps[j]) := range_below hr hL.below
          clear hr
          generalize ps[j] = q at *
          have hqs : 0 ≤ (q.data.size : Int) := by omega
          go_wp2_with (first
            | ((with_reducible refine gIndex rfl rfl ?_); refine ev_indexL rfl rfl rfl rfl hlj ?_) | ((with_reducible refine gate (N := 51) rfl ?_); refine ev_loadR rfl rfl rfl hrW (by rfl) ?_) | ((with_reducible refine gAlloc rfl rfl ?_); (refine ev_allocL rfl hL rfl (by first | exact CellsC.of | exact cells_one (by assumption) (by assumption) | exact cells_agg _ rfl) ?_; clear hL; intro gq wq hL)) | ((with_reducible refine gBox rfl rfl ?_); (refine ev_boxL rfl hL rfl rfl (by first | exact CellsC.of | exact cells_one (by assumption) (by assumption) | exact cells_agg _ rfl) ?_; clear hL; intro gq wq hL)) | ((with_reducible refine gLoad rfl rfl ?_); (first | (refine ev_load1L rfl hL rfl rfl HasV.mem (by rfl) ?_) | (refine ev_loadAllL rfl hL rfl rfl HasV.mem (by rfl) ?_) | (refine ev_loadL rfl hL rfl rfl HasV.mem SegC.seg ?_))) | ((with_reducible refine gStore rfl rfl ?_); (first | (refine ev_storeC rfl hL rfl rfl rfl (by first | exact CellsC.of | exact cells_one (by assumption) (by assumption) | exact cells_agg _ rfl) (by rfl) ?_) | (refine ev_storeAllC rfl hL rfl rfl rfl (by first | exact CellsC.of | exact cells_one (by assumption) (by assumption) | exact cells_agg _ rfl) (by rfl) (by rfl) ?_)); clear hL; intro wq hL) | ((with_reducible refine gLoadG rfl rfl ?_ ?_); (exact wanted_some rfl rfl rfl (by with_reducible rfl)); (first | (refine ev_load1G (wanted_some rfl rfl rfl rfl) hL rfl rfl HasV.mem (by rfl) ?_) | (refine ev_loadAllG (wanted_some rfl rfl rfl rfl) hL rfl rfl HasV.mem (by rfl) ?_) | (refine ev_loadG_ (wanted_some rfl rfl rfl rfl) hL rfl rfl HasV.mem SegC.seg ?_))))
          all_goals (go_roundw; (case rel => exact ⟨j + 1, _, by omega, by go_num, rfl, by omega, by omega, hL.sub (by repeat (first | exact List.nil_sublist _ | with_reducible apply List.Sublist.cons_cons | with_reducible apply List.Sublist.cons))⟩); (case measure => simp [intOf]; omega))
        · obtain rfl : j = ps.length := by omega
          go_wp2_with (first | ((with_reducible refine gAlloc rfl rfl ?_); (refine ev_allocL rfl hL rfl (by first | exact CellsC.of | exact cells_one (by assumption) (by assumption) | exact cells_agg _ rfl) ?_; clear hL; intro gq wq hL)) | ((with_reducible refine gBox rfl rfl ?_); (refine ev_boxL rfl hL rfl rfl (by first | exact CellsC.of | exact cells_one (by assumption) (by assumption) | exact cells_agg _ rfl) ?_; clear hL; intro gq wq hL)) | ((with_reducible refine gLoad rfl rfl ?_); (first | (refine ev_load1L rfl hL rfl rfl HasV.mem (by rfl) ?_) | (refine ev_loadAllL rfl hL rfl rfl HasV.mem (by rfl) ?_) | (refine ev_loadL rfl hL rfl rfl HasV.mem SegC.seg ?_))) | ((with_reducible refine gStore rfl rfl ?_); (first | (refine ev_storeC rfl hL rfl rfl rfl (by first | exact CellsC.of | exact cells_one (by assumption) (by assumption) | exact cells_agg _ rfl) (by rfl) ?_) | (refine ev_storeAllC rfl hL rfl rfl rfl (by first | exact CellsC.of | exact cells_one (by assumption) (by assumption) | exact cells_agg _ rfl) (by rfl) (by rfl) ?_)); clear hL; intro wq hL) | ((with_reducible refine gLoadG rfl rfl ?_ ?_); (exact wanted_some rfl rfl rfl (by with_reducible rfl)); (first | (refine ev_load1G (wanted_some rfl rfl rfl rfl) hL rfl rfl HasV.mem (by rfl) ?_) | (refine ev_loadAllG (wanted_some rfl rfl rfl rfl) hL rfl rfl HasV.mem (by rfl) ?_) | (refine ev_loadG_ (wanted_some rfl rfl rfl rfl) hL rfl rfl HasV.mem SegC.seg ?_))))
          go_loopw [3, 63] (fun sv i wr => ∃ (j : Nat) (m : Int), j ≤ xs.length ∧ i = .int .i64 j ∧ sv = .int .i64 m ∧ 0 ≤ m ∧ m ≤ 3000000 + j * 32769 ∧ Loc w NoM wr [var g1 [.int .i64 s.seen.a0, .int .i64 s.seen.a1, .int .i64 s.seen.a2, .int .i64 s.seen.a3, .int .i64 s.seen.a4, .int .i64 s.seen.a5, .int .i64 s.seen.a6, .int .i64 s.seen.a7, .slice (some ⟨g, off, none⟩) ns.length cn, .slice aol ls.length cl] 29]) (fun _ i _ => xs.length - (intOf i).toNat)
          case atStart => exact ⟨0, m, by omega, rfl, rfl, by omega, by omega, hL.sub (by repeat (first | exact List.nil_sublist _ | with_reducible apply List.Sublist.cons_cons | with_reducible apply List.Sublist.cons))⟩
          case round =>
            clear hL
            obtain ⟨j, m, hj, rfl, rfl, hm0, hm1, hL⟩ := hrel
            by_cases hlj : j < xs.length
            · obtain ⟨g3, off3, rfl, hr⟩ := helx j hlj
              have hrW : World.rangeAt _ g3 (off3 + j * 5) (Xat.cells xs[j]) := range_below hr hL.below
              clear hr
              generalize xs[j] = q at *
              have hqs : 0 ≤ (q.name.size : Int) := by omega
              have hqs2 : 0 ≤ (q.val.size : Int) := by omega
              go_wp2_with (first
                | ((with_reducible refine gIndex rfl rfl ?_); refine ev_indexL rfl rfl rfl rfl hlj ?_) | ((with_reducible refine gate (N := 66) rfl ?_); refine ev_loadR rfl rfl rfl hrW (by rfl) ?_) | ((with_reducible refine gAlloc rfl rfl ?_); (refine ev_allocL rfl hL rfl (by first | exact CellsC.of | exact cells_one (by assumption) (by assumption) | exact cells_agg _ rfl) ?_; clear hL; intro gq wq hL)) | ((with_reducible refine gBox rfl rfl ?_); (refine ev_boxL rfl hL rfl rfl (by first | exact CellsC.of | exact cells_one (by assumption) (by assumption) | exact cells_agg _ rfl) ?_; clear hL; intro gq wq hL)) | ((with_reducible refine gLoad rfl rfl ?_); (first | (refine ev_load1L rfl hL rfl rfl HasV.mem (by rfl) ?_) | (refine ev_loadAllL rfl hL rfl rfl HasV.mem (by rfl) ?_) | (refine ev_loadL rfl hL rfl rfl HasV.mem SegC.seg ?_))) | ((with_reducible refine gStore rfl rfl ?_); (first | (refine ev_storeC rfl hL rfl rfl rfl (by first | exact CellsC.of | exact cells_one (by assumption) (by assumption) | exact cells_agg _ rfl) (by rfl) ?_) | (refine ev_storeAllC rfl hL rfl rfl rfl (by first | exact CellsC.of | exact cells_one (by assumption) (by assumption) | exact cells_agg _ rfl) (by rfl) (by rfl) ?_)); clear hL; intro wq hL) | ((with_reducible refine gLoadG rfl rfl ?_ ?_); (exact wanted_some rfl rfl rfl (by with_reducible rfl)); (first | (refine ev_load1G (wanted_some rfl rfl rfl rfl) hL rfl rfl HasV.mem (by rfl) ?_) | (refine ev_loadAllG (wanted_some rfl rfl rfl rfl) hL rfl rfl HasV.mem (by rfl) ?_) | (refine ev_loadG_ (wanted_some rfl rfl rfl rfl) hL rfl rfl HasV.mem SegC.seg ?_))))
              all_goals (go_roundw; (case rel => exact ⟨j + 1, _, by omega, by go_num, rfl, by omega, by omega, hL.sub (by repeat (first | exact List.nil_sublist _ | with_reducible apply List.Sublist.cons_cons | with_reducible apply List.Sublist.cons))⟩); (case measure => simp [intOf]; omega))
            · obtain rfl : j = xs.length := by omega
              by_cases c3 : 16384 < m
              · have t3 : decide ((16384 : Int) < m) = true := (by first | (simp; done) | (simp; omega))
                go_wp2_with (first | ((with_reducible refine gAlloc rfl rfl ?_); (refine ev_allocL rfl hL rfl (by first | exact CellsC.of | exact cells_one (by assumption) (by assumption) | exact cells_agg _ rfl) ?_; clear hL; intro gq wq hL)) | ((with_reducible refine gBox rfl rfl ?_); (refine ev_boxL rfl hL rfl rfl (by first | exact CellsC.of | exact cells_one (by assumption) (by assumption) | exact cells_agg _ rfl) ?_; clear hL; intro gq wq hL)) | ((with_reducible refine gLoad rfl rfl ?_); (first | (refine ev_load1L rfl hL rfl rfl HasV.mem (by rfl) ?_) | (refine ev_loadAllL rfl hL rfl rfl HasV.mem (by rfl) ?_) | (refine ev_loadL rfl hL rfl rfl HasV.mem SegC.seg ?_))) | ((with_reducible refine gStore rfl rfl ?_); (first | (refine ev_storeC rfl hL rfl rfl rfl (by first | exact CellsC.of | exact cells_one (by assumption) (by assumption) | exact cells_agg _ rfl) (by rfl) ?_) | (refine ev_storeAllC rfl hL rfl rfl rfl (by first | exact CellsC.of | exact cells_one (by assumption) (by assumption) | exact cells_agg _ rfl) (by rfl) (by rfl) ?_)); clear hL; intro wq hL) | ((with_reducible refine gLoadG rfl rfl ?_ ?_); (exact wanted_some rfl rfl rfl (by with_reducible rfl)); (first | (refine ev_load1G (wanted_some rfl rfl rfl rfl) hL rfl rfl HasV.mem (by rfl) ?_) | (refine ev_loadAllG (wanted_some rfl rfl rfl rfl) hL rfl rfl HasV.mem (by rfl) ?_) | (refine ev_loadG_ (wanted_some rfl rfl rfl rfl) hL rfl rfl HasV.mem SegC.seg ?_))))
                go_ret
                exact ⟨⟨false, rfl, by simp⟩, hL.below⟩
              · have t3 : decide ((16384 : Int) < m) = false := (by first | (simp; done) | (simp; omega))
                go_wp2_with (first | ((with_reducible refine gAlloc rfl rfl ?_); (refine ev_allocL rfl hL rfl (by first | exact CellsC.of | exact cells_one (by assumption) (by assumption) | exact cells_agg _ rfl) ?_; clear hL; intro gq wq hL)) | ((with_reducible refine gBox rfl rfl ?_); (refine ev_boxL rfl hL rfl rfl (by first | exact CellsC.of | exact cells_one (by assumption) (by assumption) | exact cells_agg _ rfl) ?_; clear hL; intro gq wq hL)) | ((with_reducible refine gLoad rfl rfl ?_); (first | (refine ev_load1L rfl hL rfl rfl HasV.mem (by rfl) ?_) | (refine ev_loadAllL rfl hL rfl rfl HasV.mem (by rfl) ?_) | (refine ev_loadL rfl hL rfl rfl HasV.mem SegC.seg ?_))) | ((with_reducible refine gStore rfl rfl ?_); (first | (refine ev_storeC rfl hL rfl rfl rfl (by first | exact CellsC.of | exact cells_one (by assumption) (by assumption) | exact cells_agg _ rfl) (by rfl) ?_) | (refine ev_storeAllC rfl hL rfl rfl rfl (by first | exact CellsC.of | exact cells_one (by assumption) (by assumption) | exact cells_agg _ rfl) (by rfl) (by rfl) ?_)); clear hL; intro wq hL) | ((with_reducible refine gLoadG rfl rfl ?_ ?_); (exact wanted_some rfl rfl rfl (by with_reducible rfl)); (first | (refine ev_load1G (wanted_some rfl rfl rfl rfl) hL rfl rfl HasV.mem (by rfl) ?_) | (refine ev_loadAllG (wanted_some rfl rfl rfl rfl) hL rfl rfl HasV.mem (by rfl) ?_) | (refine ev_loadG_ (wanted_some rfl rfl rfl rfl) hL rfl rfl HasV.mem SegC.seg ?_))))
                go_roundw
                case rel => exact ⟨k + 1, m, by omega, by go_num, rfl, by omega, by omega, HQ, hL⟩
                case measure => simp [intOf]; omega
    · obtain rfl : k = ns.length := by omega
      have HA : Hid d.plain := Lib.hid (HD.out (by have := HP.out; rwa [List.take_length] at this))
      clear HD HP
      go_wp2_with (first | ((with_reducible refine gAlloc rfl rfl ?_); (refine ev_allocL rfl hL rfl (by first | exact CellsC.of | exact cells_one (by assumption) (by assumption) | exact cells_agg _ rfl) ?_; clear hL; intro gq wq hL)) | ((with_reducible refine gBox rfl rfl ?_); (refine ev_boxL rfl hL rfl rfl (by first | exact CellsC.of | exact cells_one (by assumption) (by assumption) | exact cells_agg _ rfl) ?_; clear hL; intro gq wq hL)) | ((with_reducible refine gLoad rfl rfl ?_); (first | (refine ev_load1L rfl hL rfl rfl HasV.mem (by rfl) ?_) | (refine ev_loadAllL rfl hL rfl rfl HasV.mem (by rfl) ?_) | (refine ev_loadL rfl hL rfl rfl HasV.mem SegC.seg ?_))) | ((with_reducible refine gStore rfl rfl ?_); (first | (refine ev_storeC rfl hL rfl rfl rfl (by first | exact CellsC.of | exact cells_one (by assumption) (by assumption) | exact cells_agg _ rfl) (by rfl) ?_) | (refine ev_storeAllC rfl hL rfl rfl rfl (by first | exact CellsC.of | exact cells_one (by assumption) (by assumption) | exact cells_agg _ rfl) (by rfl) (by rfl) ?_)); clear hL; intro wq hL) | ((with_reducible refine gLoadG rfl rfl ?_ ?_); (exact wanted_some rfl rfl rfl (by with_reducible rfl)); (first | (refine ev_load1G (wanted_some rfl rfl rfl rfl) hL rfl rfl HasV.mem (by rfl) ?_) | (refine ev_loadAllG (wanted_some rfl rfl rfl rfl) hL rfl rfl HasV.mem (by rfl) ?_) | (refine ev_loadG_ (wanted_some rfl rfl rfl rfl) hL rfl rfl HasV.mem SegC.seg ?_))))
      go_loopw [3, 86] (fun sv i wr => ∃ (j : Nat) (m : Int), j ≤ ls.length ∧ i = .int .i64 j ∧ sv = .int .i64 m ∧ 0 ≤ m ∧ m ≤ 16384 ∧ Loc w NoM wr []) (fun _ i _ => ls.length - (intOf i).toNat)
      case atStart => exact ⟨0, m, by omega, rfl, rfl, by omega, by omega, hL.sub (List.nil_sublist _)⟩
      case round =>
        clear hL
        obtain ⟨j, m, hj, rfl, rfl, hm0, hm1, hL⟩ := hrel
        by_cases hlj : j < ls.length
        · obtain ⟨g3, off3, rfl, hr⟩ := hell j hlj
          have hrW : World.rangeAt _ g3 (off3 + j * 25) (Lnk.cells ls[j]) := range_below hr hL.below
          clear hr
          generalize ls[j] = q at *
          go_upto_region 26 with (first
            | ((with_reducible refine gIndex rfl rfl ?_); refine ev_indexL rfl rfl rfl rfl hlj ?_) | ((with_reducible refine gate (N := 89) rfl ?_); refine ev_loadR rfl rfl rfl hrW (by rfl) ?_) | ((with_reducible refine gAlloc rfl rfl ?_); (refine ev_allocL rfl hL rfl (by first | exact CellsC.of | exact cells_one (by assumption) (by assumption) | exact cells_agg _ rfl) ?_; clear hL; intro gq wq hL)) | ((with_reducible refine gBox rfl rfl ?_); (refine ev_boxL rfl hL rfl rfl (by first | exact CellsC.of | exact cells_one (by assumption) (by assumption) | exact cells_agg _ rfl) ?_; clear hL; intro gq wq hL)) | ((with_reducible refine gLoad rfl rfl ?_); (first | (refine ev_load1L rfl hL rfl rfl HasV.mem (by rfl) ?_) | (refine ev_loadAllL rfl hL rfl rfl HasV.mem (by rfl) ?_) | (refine ev_loadL rfl hL rfl rfl HasV.mem SegC.seg ?_))) | ((with_reducible refine gStore rfl rfl ?_); (first | (refine ev_storeC rfl hL rfl rfl rfl (by first | exact CellsC.of | exact cells_one (by assumption) (by assumption) | exact cells_agg _ rfl) (by rfl) ?_) | (refine ev_storeAllC rfl hL rfl rfl rfl (by first | exact CellsC.of | exact cells_one (by assumption) (by assumption) | exact cells_agg _ rfl) (by rfl) (by rfl) ?_)); clear hL; intro wq hL) | ((with_reducible refine gLoadG rfl rfl ?_ ?_); (exact wanted_some rfl rfl rfl (by with_reducible rfl)); (first | (refine ev_load1G (wanted_some rfl rfl rfl rfl) hL rfl rfl HasV.mem (by rfl) ?_) | (refine ev_loadAllG (wanted_some rfl rfl rfl rfl) hL rfl rfl HasV.mem (by rfl) ?_) | (refine ev_loadG_ (wanted_some rfl rfl rfl rfl) hL rfl rfl HasV.mem SegC.seg ?_))))
          simp only [Act.put, List.setIfInBounds_toArray, List.set_cons_succ, List.set_cons_zero]
          go_cut [3] (fun sv wx => ∃ m2 : Int, sv = .int .i64 m2 ∧ 0 ≤ m2 ∧ m2 ≤ 32768 ∧ wx = wq)
          case first =>
            have hqs : 0 ≤ (q.name.size : Int) := by omega
            go_wp2_with (first | ((with_reducible refine gAlloc rfl rfl ?_); (refine ev_allocL rfl hL rfl (by first | exact CellsC.of | exact cells_one (by assumption) (by assumption) | exact cells_agg _ rfl) ?_; clear hL; intro gq wq hL)) | ((with_reducible refine gBox rfl rfl ?_); (refine ev_boxL rfl hL rfl rfl (by first | exact CellsC.of | exact cells_one (by assumption) (by assumption) | exact cells_agg _ rfl) ?_; clear hL; intro gq wq hL)) | ((with_reducible refine gLoad rfl rfl ?_); (first | (refine ev_load1L rfl hL rfl rfl HasV.mem (by rfl) ?_) | (refine ev_loadAllL rfl hL rfl rfl HasV.mem (by rfl) ?_) | (refine ev_loadL rfl hL rfl rfl HasV.mem SegC.seg ?_))) | ((with_reducible refine gStore rfl rfl ?_); (first | (refine ev_storeC rfl hL rfl rfl rfl (by first | exact CellsC.of | exact cells_one (by assumption) (by assumption) | exact cells_agg _ rfl) (by rfl) ?_) | (refine ev_storeAllC rfl hL rfl rfl rfl (by first | exact CellsC.of | exact cells_one (by assumption) (by assumption) | exact cells_agg _ rfl) (by rfl) (by rfl) ?_)); clear hL; intro wq hL) | ((with_reducible refine gLoadG rfl rfl ?_ ?_); (exact wanted_some rfl rfl rfl (by with_reducible rfl)); (first | (refine ev_load1G (wanted_some rfl rfl rfl rfl) hL rfl rfl HasV.mem (by rfl) ?_) | (refine ev_loadAllG (wanted_some rfl rfl rfl rfl) hL rfl rfl HasV.mem (by rfl) ?_) | (refine ev_loadG_ (wanted_some rfl rfl rfl rfl) hL rfl rfl HasV.mem SegC.seg ?_))))
            all_goals go_meet
            all_goals exact ⟨_, rfl, by omega, by omega, rfl⟩
          case rest =>
          obtain ⟨m3, rfl, hm30, hm31, rfl⟩ := hcut
          by_cases c3 : 16384 < m3
          · have t3 : decide ((16384 : Int) < m3) = true := (by first | (simp; done) | (simp; omega))
            go_wp2_with (first | ((with_reducible refine gAlloc rfl rfl ?_); (refine ev_allocL rfl hL rfl (by first | exact CellsC.of | exact cells_one (by assumption) (by assumption) | exact cells_agg _ rfl) ?_; clear hL; intro gq wq hL)) | ((with_reducible refine gBox rfl rfl ?_); (refine ev_boxL rfl hL rfl rfl (by first | exact CellsC.of | exact cells_one (by assumption) (by assumption) | exact cells_agg _ rfl) ?_; clear hL; intro gq wq hL)) | ((with_reducible refine gLoad rfl rfl ?_); (first | (refine ev_load1L rfl hL rfl rfl HasV.mem (by rfl) ?_) | (refine ev_loadAllL rfl hL rfl rfl HasV.mem (by rfl) ?_) | (refine ev_loadL rfl hL rfl rfl HasV.mem SegC.seg ?_))) | ((with_reducible refine gStore rfl rfl ?_); (first | (refine ev_storeC rfl hL rfl rfl rfl (by first | exact CellsC.of | exact cells_one (by assumption) (by assumption) | exact cells_agg _ rfl) (by rfl) ?_) | (refine ev_storeAllC rfl hL rfl rfl rfl (by first | exact CellsC.of | exact cells_one (by assumption) (by assumption) | exact cells_agg _ rfl) (by rfl) (by rfl) ?_)); clear hL; intro wq hL) | ((with_reducible refine gLoadG rfl rfl ?_ ?_); (exact wanted_some rfl rfl rfl (by with_reducible rfl)); (first | (refine ev_load1G (wanted_some rfl rfl rfl rfl) hL rfl rfl HasV.mem (by rfl) ?_) | (refine ev_loadAllG (wanted_some rfl rfl rfl rfl) hL rfl rfl HasV.mem (by rfl) ?_) | (refine ev_loadG_ (wanted_some rfl rfl rfl rfl) hL rfl rfl HasV.mem SegC.seg ?_))))
            go_ret
            exact ⟨⟨false, rfl, by simp⟩, hL.below⟩
          · have t3 : decide ((16384 : Int) < m3) = false := (by first | (simp; done) | (simp; omega))
            go_wp2_with (first | ((with_reducible refine gAlloc rfl rfl ?_); (refine ev_allocL rfl hL rfl (by first | exact CellsC.of | exact cells_one (by assumption) (by assumption) | exact cells_agg _ rfl) ?_; clear hL; intro gq wq hL)) | ((with_reducible refine gBox rfl rfl ?_); (refine ev_boxL rfl hL rfl rfl (by first | exact CellsC.of | exact cells_one (by assumption) (by assumption) | exact cells_agg _ rfl) ?_; clear hL; intro gq wq hL)) | ((with_reducible refine gLoad rfl rfl ?_); (first | (refine ev_load1L rfl hL rfl rfl HasV.mem (by rfl) ?_) | (refine ev_loadAllL rfl hL rfl rfl HasV.mem (by rfl) ?_) | (refine ev_loadL rfl hL rfl rfl HasV.mem SegC.seg ?_))) | ((with_reducible refine gStore rfl rfl ?_); (first | (refine ev_storeC rfl hL rfl rfl rfl (by first | exact CellsC.of | exact cells_one (by assumption) (by assumption) | exact cells_agg _ rfl) (by rfl) ?_) | (refine ev_storeAllC rfl hL rfl rfl rfl (by first | exact CellsC.of | exact cells_one (by assumption) (by assumption) | exact cells_agg _ rfl) (by rfl) (by rfl) ?_)); clear hL; intro wq hL) | ((with_reducible refine gLoadG rfl rfl ?_ ?_); (exact wanted_some rfl rfl rfl (by with_reducible rfl)); (first | (refine ev_load1G (wanted_some rfl rfl rfl rfl) hL rfl rfl HasV.mem (by rfl) ?_) | (refine ev_loadAllG (wanted_some rfl rfl rfl rfl) hL rfl rfl HasV.mem (by rfl) ?_) | (refine ev_loadG_ (wanted_some rfl rfl rfl rfl) hL rfl rfl HasV.mem SegC.seg ?_))))
            go_roundw
            case rel => first | exact ⟨j + 1, m3, by omega, by go_num, rfl, hm30, by omega, hL.sub (List.nil_sublist _)⟩ | ((repeat apply Exists.intro); exact ⟨⟨j + 1, m3, by omega, by go_num, rfl, hm30, by omega, hL.sub (List.nil_sublist _)⟩, rfl⟩)
            case measure => simp [intOf]; omega
        · obtain rfl : j = ls.length := by omega
          go_wp2_with (first | ((with_reducible refine gAlloc rfl rfl ?_); (refine ev_allocL rfl hL rfl (by first | exact CellsC.of | exact cells_one (by assumption) (by assumption) | exact cells_agg _ rfl) ?_; clear hL; intro gq wq hL)) | ((with_reducible refine gBox rfl rfl ?_); (refine ev_boxL rfl hL rfl rfl (by first | exact CellsC.of | exact cells_one (by assumption) (by assumption) | exact cells_agg _ rfl) ?_; clear hL; intro gq wq hL)) | ((with_reducible refine gLoad rfl rfl ?_); (first | (refine ev_load1L rfl hL rfl rfl HasV.mem (by rfl) ?_) | (refine ev_loadAllL rfl hL rfl rfl HasV.mem (by rfl) ?_) | (refine ev_loadL rfl hL rfl rfl HasV.mem SegC.seg ?_))) | ((with_reducible refine gStore rfl rfl ?_); (first | (refine ev_storeC rfl hL rfl rfl rfl (by first | exact CellsC.of | exact cells_one (by assumption) (by assumption) | exact cells_agg _ rfl) (by rfl) ?_) | (refine ev_storeAllC rfl hL rfl rfl rfl (by first | exact CellsC.of | exact cells_one (by assumption) (by assumption) | exact cells_agg _ rfl) (by rfl) (by rfl) ?_)); clear hL; intro wq hL) | ((with_reducible refine gLoadG rfl rfl ?_ ?_); (exact wanted_some rfl rfl rfl (by with_reducible rfl)); (first | (refine ev_load1G (wanted_some rfl rfl rfl rfl) hL rfl rfl HasV.mem (by rfl) ?_) | (refine ev_loadAllG (wanted_some rfl rfl rfl rfl) hL rfl rfl HasV.mem (by rfl) ?_) | (refine ev_loadG_ (wanted_some rfl rfl rfl rfl) hL rfl rfl HasV.mem SegC.seg ?_))))
          go_ret
          exact ⟨⟨true, rfl, fun _ => HA.out⟩, hL.below⟩
theorem plain_small (s : Sta) (d : StaD) (w : World) (hO : s.Ok w d) :
    Calls Tryd.prog 22 #[.agg s.cells.toArray] w fun e w' => (∃ b, e = .returned (.bool b) ∧ (b = true → d.plain)) ∧ Below w.heap.size w w' := by
  by_cases h1 : d.nodes.length ≤ 120
  · by_cases h2 : d.links.length ≤ 120
    · exact small_in s d w hO h1 h2
    · exact (small_big s d w hO (.inr (by omega))).mono fun _ _ ⟨he, hb⟩ => ⟨⟨false, he, by simp⟩, hb⟩
  · exact (small_big s d w hO (.inl (by omega))).mono fun _ _ ⟨he, hb⟩ => ⟨⟨false, he, by simp⟩, hb⟩
end Go.Proofs.YtebpacmhdkgfeaaDoor

/- Chapter 29's law: what it lets in. -/
namespace Go.Proofs.YtebpacmhdkgfeaaDoor
open Go.RowKit

set_option maxHeartbeats 4000000 in
theorem law_small (v : Value) (ps : List Ep) (w : World) (h : encEp.R w v ps) (hO : ∀ p ∈ ps, p.e.sta.Ok w p.d) :
    Calls Tryd.prog 6 #[v] w fun e w' => (∃ b, e = .returned (.bool b) ∧ (b = true → ps.length ≤ 60 ∧ ∀ p ∈ ps, p.d.small)) ∧ Below w.heap.size w w' := by
  have hL := Loc.nil w NoM
  obtain ⟨ao, c, rfl, hel⟩ := R_elem h
  have HO := Lib.hid hO
  clear hO h
  by_cases hbig : 60 < ps.length
  · have t1 : decide ((60 : Int) < (ps.length : Int)) = true := (by first | (simp; done) | (simp; omega))
    go_enter Tryd.func6, Tryd.ntmps6
    go_wp2_with (first | ((with_reducible refine gAlloc rfl rfl ?_); (refine ev_allocL rfl hL rfl (by first | exact CellsC.of | exact cells_one (by assumption) (by assumption) | exact cells_agg _ rfl) ?_; clear hL; intro gq wq hL)) | ((with_reducible refine gBox rfl rfl ?_); (refine ev_boxL rfl hL rfl rfl (by first | exact CellsC.of | exact cells_one (by assumption) (by assumption) | exact cells_agg _ rfl) ?_; clear hL; intro gq wq hL)) | ((with_reducible refine gLoad rfl rfl ?_); (first | (refine ev_load1L rfl hL rfl rfl HasV.mem (by rfl) ?_) | (refine ev_loadAllL rfl hL rfl rfl HasV.mem (by rfl) ?_) | (refine ev_loadL rfl hL rfl rfl HasV.mem SegC.seg ?_))) | ((with_reducible refine gStore rfl rfl ?_); (first | (refine ev_storeC rfl hL rfl rfl rfl (by first | exact CellsC.of | exact cells_one (by assumption) (by assumption) | exact cells_agg _ rfl) (by rfl) ?_) | (refine ev_storeAllC rfl hL rfl rfl rfl (by first | exact CellsC.of | exact cells_one (by assumption) (by assumption) | exact cells_agg _ rfl) (by rfl) (by rfl) ?_)); clear hL; intro wq hL) | ((with_reducible refine gLoadG rfl rfl ?_ ?_); (exact wanted_some rfl rfl rfl (by with_reducible rfl)); (first | (refine ev_load1G (wanted_some rfl rfl rfl rfl) hL rfl rfl HasV.mem (by rfl) ?_) | (refine ev_loadAllG (wanted_some rfl rfl rfl rfl) hL rfl rfl HasV.mem (by rfl) ?_) | (refine ev_loadG_ (wanted_some rfl rfl rfl rfl) hL rfl rfl HasV.mem SegC.seg ?_))))
    go_ret
    exact ⟨⟨false, rfl, by simp⟩, hL.below⟩
  have t1 : decide ((60 : Int) < (ps.length : Int)) = false := (by first | (simp; done) | (simp; omega))
  go_enter Tryd.func6, Tryd.ntmps6
  go_wp2_with (first | ((with_reducible refine gAlloc rfl rfl ?_); (refine ev_allocL rfl hL rfl (by first | exact CellsC.of | exact cells_one (by assumption) (by assumption) | exact cells_agg _ rfl) ?_; clear hL; intro gq wq hL)) | ((with_reducible refine gBox rfl rfl ?_); (refine ev_boxL rfl hL rfl rfl (by first | exact CellsC.of | exact cells_one (by assumption) (by assumption) | exact cells_agg _ rfl) ?_; clear hL; intro gq wq hL)) | ((with_reducible refine gLoad rfl rfl ?_); (first | (refine ev_load1L rfl hL rfl rfl HasV.mem (by rfl) ?_) | (refine ev_loadAllL rfl hL rfl rfl HasV.mem (by rfl) ?_) | (refine ev_loadL rfl hL rfl rfl HasV.mem SegC.seg ?_))) | ((with_reducible refine gStore rfl rfl ?_); (first | (refine ev_storeC rfl hL rfl rfl rfl (by first | exact CellsC.of | exact cells_one (by assumption) (by assumption) | exact cells_agg _ rfl) (by rfl) ?_) | (refine ev_storeAllC rfl hL rfl rfl rfl (by first | exact CellsC.of | exact cells_one (by assumption) (by assumption) | exact cells_agg _ rfl) (by rfl) (by rfl) ?_)); clear hL; intro wq hL) | ((with_reducible refine gLoadG rfl rfl ?_ ?_); (exact wanted_some rfl rfl rfl (by with_reducible rfl)); (first | (refine ev_load1G (wanted_some rfl rfl rfl rfl) hL rfl rfl HasV.mem (by rfl) ?_) | (refine ev_loadAllG (wanted_some rfl rfl rfl rfl) hL rfl rfl HasV.mem (by rfl) ?_) | (refine ev_loadG_ (wanted_some rfl rfl rfl rfl) hL rfl rfl HasV.mem SegC.seg ?_))))
  clear t1
  have HN : Hid (∀ p ∈ ps.take 0, p.d.small) := Lib.hid (by simp)
  go_loopw [10] (fun i wr => ∃ k : Nat, k ≤ ps.length ∧ i = .int .i64 k ∧ Hid (∀ p ∈ ps.take k, p.d.small) ∧ Loc w NoM wr []) (fun i _ => ps.length - (intOf i).toNat)
  case atStart => exact ⟨0, by omega, rfl, HN, hL⟩
  case round =>
    clear hL HN
    obtain ⟨k, hk, rfl, HN, hL⟩ := hrel
    by_cases hlt : k < ps.length
    · obtain ⟨g, off, rfl, hr⟩ := hel k hlt
      have hrW : World.rangeAt _ g (off + k * 21) (Evt.cells ps[k].e) := range_below hr hL.below
      clear hr
      have hoq := HO.out _ (List.getElem_mem hlt)
      have HT := Lib.hid (show ps.take (k + 1) = ps.take k ++ [ps[k]] from (List.take_append_getElem hlt).symm)
      generalize ps[k] = q at *
      obtain ⟨ns, hns, hok, hds⟩ := hoq.nodes
      obtain ⟨aon, cn, en, -⟩ := R_elem hns
      obtain ⟨aol, cl, el, -⟩ := R_elem hoq.links
      have hnl : ns.length = q.d.nodes.length := by rw [← hds, List.length_map]
      rw [hnl] at en
      have en1 : q.e.na = aon ∧ q.e.nn = q.d.nodes.length ∧ q.e.nc = cn := by unfold Evt.sta Sl.val at en; injection en with a b c; exact ⟨a, b, c⟩
      have el1 : q.e.la = aol ∧ q.e.ln = q.d.links.length ∧ q.e.lc = cl := by unfold Evt.sta Sl.val at el; injection el with a b c; exact ⟨a, b, c⟩
      have HS := Lib.hid hoq
      have callS : ∀ wx, Below w.heap.size w wx → Hid (Calls Tryd.prog 22 #[.agg (Sta.cells q.e.sta).toArray] wx fun e w' => (∃ b, e = .returned (.bool b) ∧ (b = true → q.d.plain)) ∧ Below wx.heap.size wx w') := fun wx hb => Lib.hid (plain_small _ _ wx (HS.out.below hb))
      unfold Sta.cells Evt.sta at callS
      simp only [en1.1, en1.2.1, en1.2.2, el1.1, el1.2.1, el1.2.2] at callS
      unfold Evt.cells at hrW
      rw [en1.1, en1.2.1, en1.2.2, el1.1, el1.2.1, el1.2.2] at hrW
      have HD : Hid (q.d.plain → ¬ 10 < q.d.nodes.length → ¬ 20 < q.d.links.length → ∀ p ∈ ps.take (k + 1), p.d.small) := Lib.hid (fun h1 h2 h3 p hp => by
        rw [HT.out, List.mem_append, List.mem_singleton] at hp
        rcases hp with hp | rfl
        · exact HN.out p hp
        · exact ⟨by omega, by omega, fun n hn => Nat.le_trans (h1.ps n hn) (by decide), fun n hn => Nat.le_trans (h1.xs n hn) (by decide)⟩)
      clear en el en1 el1 hns hok hds hnl HN HT HS hoq
      generalize q.d.nodes.length = nn at *
      generalize q.d.links.length = nl at *
      go_wp2_with (first
        | ((with_reducible refine gIndex rfl rfl ?_); refine ev_indexL rfl rfl rfl rfl hlt ?_) | ((with_reducible refine gate (N := 13) rfl ?_); refine ev_loadR rfl rfl rfl hrW (by rfl) ?_)
        | (go_at_call 22; have hq := (callS _ hL.below).out; (with_reducible refine hq.mono ?_); rintro e w3 ⟨⟨b, rfl, hbp⟩, hb3⟩; have hL := hL.call hb3; clear hb3 hq; refine stop ?_)
        | ((with_reducible refine gAlloc rfl rfl ?_); (refine ev_allocL rfl hL rfl (by first | exact CellsC.of | exact cells_one (by assumption) (by assumption) | exact cells_agg _ rfl) ?_; clear hL; intro gq wq hL)) | ((with_reducible refine gBox rfl rfl ?_); (refine ev_boxL rfl hL rfl rfl (by first | exact CellsC.of | exact cells_one (by assumption) (by assumption) | exact cells_agg _ rfl) ?_; clear hL; intro gq wq hL)) | ((with_reducible refine gLoad rfl rfl ?_); (first | (refine ev_load1L rfl hL rfl rfl HasV.mem (by rfl) ?_) | (refine ev_loadAllL rfl hL rfl rfl HasV.mem (by rfl) ?_) | (refine ev_loadL rfl hL rfl rfl HasV.mem SegC.seg ?_))) | ((with_reducible refine gStore rfl rfl ?_); (first | (refine ev_storeC rfl hL rfl rfl rfl (by first | exact CellsC.of | exact cells_one (by assumption) (by assumption) | exact cells_agg _ rfl) (by rfl) ?_) | (refine ev_storeAllC rfl hL rfl rfl rfl (by first | exact CellsC.of | exact cells_one (by assumption) (by assumption) | exact cells_agg _ rfl) (by rfl) (by rfl) ?_)); clear hL; intro wq hL) | ((with_reducible refine gLoadG rfl rfl ?_ ?_); (exact wanted_some rfl rfl rfl (by with_reducible rfl)); (first | (refine ev_load1G (wanted_some rfl rfl rfl rfl) hL rfl rfl HasV.mem (by rfl) ?_) | (refine ev_loadAllG (wanted_some rfl rfl rfl rfl) hL rfl rfl HasV.mem (by rfl) ?_) | (refine ev_loadG_ (wanted_some rfl rfl rfl rfl) hL rfl rfl HasV.mem SegC.seg ?_))))
      clear callS hrW
      cases b
      · clear hbp HD
        unfold Stop
        go_wp2_with (first | ((with_reducible refine gAlloc rfl rfl ?_); (refine ev_allocL rfl hL rfl (by first | exact CellsC.of | exact cells_one (by assumption) (by assumption) | exact cells_agg _ rfl) ?_; clear hL; intro gq wq hL)) | ((with_reducible refine gBox rfl rfl ?_); (refine ev_boxL rfl hL rfl rfl (by first | exact CellsC.of | exact cells_one (by assumption) (by assumption) | exact cells_agg _ rfl) ?_; clear hL; intro gq wq hL)) | ((with_reducible refine gLoad rfl rfl ?_); (first | (refine ev_load1L rfl hL rfl rfl HasV.mem (by rfl) ?_) | (refine ev_loadAllL rfl hL rfl rfl HasV.mem (by rfl) ?_) | (refine ev_loadL rfl hL rfl rfl HasV.mem SegC.seg ?_))) | ((with_reducible refine gStore rfl rfl ?_); (first | (refine ev_storeC rfl hL rfl rfl rfl (by first | exact CellsC.of | exact cells_one (by assumption) (by assumption) | exact cells_agg _ rfl) (by rfl) ?_) | (refine ev_storeAllC rfl hL rfl rfl rfl (by first | exact CellsC.of | exact cells_one (by assumption) (by assumption) | exact cells_agg _ rfl) (by rfl) (by rfl) ?_)); clear hL; intro wq hL) | ((with_reducible refine gLoadG rfl rfl ?_ ?_); (exact wanted_some rfl rfl rfl (by with_reducible rfl)); (first | (refine ev_load1G (wanted_some rfl rfl rfl rfl) hL rfl rfl HasV.mem (by rfl) ?_) | (refine ev_loadAllG (wanted_some rfl rfl rfl rfl) hL rfl rfl HasV.mem (by rfl) ?_) | (refine ev_loadG_ (wanted_some rfl rfl rfl rfl) hL rfl rfl HasV.mem SegC.seg ?_))))
        go_ret
        exact ⟨⟨false, rfl, by simp⟩, hL.below⟩
      · have HPL := Lib.hid (hbp rfl)
        clear hbp
        unfold Stop
        by_cases c1 : 10 < nn
        · have t1 : decide ((10 : Int) < (nn : Int)) = true := (by first | (simp; done) | (simp; omega))
          go_wp2_with (first | ((with_reducible refine gAlloc rfl rfl ?_); (refine ev_allocL rfl hL rfl (by first | exact CellsC.of | exact cells_one (by assumption) (by assumption) | exact cells_agg _ rfl) ?_; clear hL; intro gq wq hL)) | ((with_reducible refine gBox rfl rfl ?_); (refine ev_boxL rfl hL rfl rfl (by first | exact CellsC.of | exact cells_one (by assumption) (by assumption) | exact cells_agg _ rfl) ?_; clear hL; intro gq wq hL)) | ((with_reducible refine gLoad rfl rfl ?_); (first | (refine ev_load1L rfl hL rfl rfl HasV.mem (by rfl) ?_) | (refine ev_loadAllL rfl hL rfl rfl HasV.mem (by rfl) ?_) | (refine ev_loadL rfl hL rfl rfl HasV.mem SegC.seg ?_))) | ((with_reducible refine gStore rfl rfl ?_); (first | (refine ev_storeC rfl hL rfl rfl rfl (by first | exact CellsC.of | exact cells_one (by assumption) (by assumption) | exact cells_agg _ rfl) (by rfl) ?_) | (refine ev_storeAllC rfl hL rfl rfl rfl (by first | exact CellsC.of | exact cells_one (by assumption) (by assumption) | exact cells_agg _ rfl) (by rfl) (by rfl) ?_)); clear hL; intro wq hL) | ((with_reducible refine gLoadG rfl rfl ?_ ?_); (exact wanted_some rfl rfl rfl (by with_reducible rfl)); (first | (refine ev_load1G (wanted_some rfl rfl rfl rfl) hL rfl rfl HasV.mem (by rfl) ?_) | (refine ev_loadAllG (wanted_some rfl rfl rfl rfl) hL rfl rfl HasV.mem (by rfl) ?_) | (refine ev_loadG_ (wanted_some rfl rfl rfl rfl) hL rfl rfl HasV.mem SegC.seg ?_))))
          go_ret
          exact ⟨⟨false, rfl, by simp⟩, hL.below⟩
        have t1 : decide ((10 : Int) < (nn : Int)) = false := (by first | (simp; done) | (simp; omega))
        by_cases c2 : 20 < nl
        · have t2 : decide ((20 : Int) < (nl : Int)) = true := (by first | (simp; done) | (simp; omega))
          go_wp2_with (first | ((with_reducible refine gAlloc rfl rfl ?_); (refine ev_allocL rfl hL rfl (by first | exact CellsC.of | exact cells_one (by assumption) (by assumption) | exact cells_agg _ rfl) ?_; clear hL; intro gq wq hL)) | ((with_reducible refine gBox rfl rfl ?_); (refine ev_boxL rfl hL rfl rfl (by first | exact CellsC.of | exact cells_one (by assumption) (by assumption) | exact cells_agg _ rfl) ?_; clear hL; intro gq wq hL)) | ((with_reducible refine gLoad rfl rfl ?_); (first | (refine ev_load1L rfl hL rfl rfl HasV.mem (by rfl) ?_) | (refine ev_loadAllL rfl hL rfl rfl HasV.mem (by rfl) ?_) | (refine ev_loadL rfl hL rfl rfl HasV.mem SegC.seg ?_))) | ((with_reducible refine gStore rfl rfl ?_); (first | (refine ev_storeC rfl hL rfl rfl rfl (by first | exact CellsC.of | exact cells_one (by assumption) (by assumption) | exact cells_agg _ rfl) (by rfl) ?_) | (refine ev_storeAllC rfl hL rfl rfl rfl (by first | exact CellsC.of | exact cells_one (by assumption) (by assumption) | exact cells_agg _ rfl) (by rfl) (by rfl) ?_)); clear hL; intro wq hL) | ((with_reducible refine gLoadG rfl rfl ?_ ?_); (exact wanted_some rfl rfl rfl (by with_reducible rfl)); (first | (refine ev_load1G (wanted_some rfl rfl rfl rfl) hL rfl rfl HasV.mem (by rfl) ?_) | (refine ev_loadAllG (wanted_some rfl rfl rfl rfl) hL rfl rfl HasV.mem (by rfl) ?_) | (refine ev_loadG_ (wanted_some rfl rfl rfl rfl) hL rfl rfl HasV.mem SegC.seg ?_))))
          go_ret
          exact ⟨⟨false, rfl, by simp⟩, hL.below⟩
        have t2 : decide ((20 : Int) < (nl : Int)) = false := (by first | (simp; done) | (simp; omega))
        have HF := Lib.hid (HD.out HPL.out c1 c2)
        clear HD HPL
        go_wp2_with (first | ((with_reducible refine gAlloc rfl rfl ?_); (refine ev_allocL rfl hL rfl (by first | exact CellsC.of | exact cells_one (by assumption) (by assumption) | exact cells_agg _ rfl) ?_; clear hL; intro gq wq hL)) | ((with_reducible refine gBox rfl rfl ?_); (refine ev_boxL rfl hL rfl rfl (by first | exact CellsC.of | exact cells_one (by assumption) (by assumption) | exact cells_agg _ rfl) ?_; clear hL; intro gq wq hL)) | ((with_reducible refine gLoad rfl rfl ?_); (first | (refine ev_load1L rfl hL rfl rfl HasV.mem (by rfl) ?_) | (refine ev_loadAllL rfl hL rfl rfl HasV.mem (by rfl) ?_) | (refine ev_loadL rfl hL rfl rfl HasV.mem SegC.seg ?_))) | ((with_reducible refine gStore rfl rfl ?_); (first | (refine ev_storeC rfl hL rfl rfl rfl (by first | exact CellsC.of | exact cells_one (by assumption) (by assumption) | exact cells_agg _ rfl) (by rfl) ?_) | (refine ev_storeAllC rfl hL rfl rfl rfl (by first | exact CellsC.of | exact cells_one (by assumption) (by assumption) | exact cells_agg _ rfl) (by rfl) (by rfl) ?_)); clear hL; intro wq hL) | ((with_reducible refine gLoadG rfl rfl ?_ ?_); (exact wanted_some rfl rfl rfl (by with_reducible rfl)); (first | (refine ev_load1G (wanted_some rfl rfl rfl rfl) hL rfl rfl HasV.mem (by rfl) ?_) | (refine ev_loadAllG (wanted_some rfl rfl rfl rfl) hL rfl rfl HasV.mem (by rfl) ?_) | (refine ev_loadG_ (wanted_some rfl rfl rfl rfl) hL rfl rfl HasV.mem SegC.seg ?_))))
        go_roundw
        case rel => exact ⟨k + 1, by omega, by go_num, HF, hL.sub (List.nil_sublist _)⟩
        case measure => simp [intOf]; omega
    · obtain rfl : k = ps.length := by omega
      have HF : Hid (∀ p ∈ ps, p.d.small) := Lib.hid (by have := HN.out; rwa [List.take_length] at this)
      clear HN
      go_wp2
      go_ret
      exact ⟨⟨true, rfl, fun _ => ⟨by omega, HF.out⟩⟩, hL.below⟩
end Go.Proofs.YtebpacmhdkgfeaaDoor

/- Chapter 29: the law StoryOrder, walked. -/
namespace Go.Proofs.YtebpacmhdkgfeaaDoor
open Go.RowKit

theorem all_cut {α : Type} (E : Enc α) (xs : List α) (r : Nat) (hr : r ≤ xs.length) : (E.all (xs.take r)).length = r * E.sz ∧ E.all xs = E.all (xs.take r) ++ E.all (xs.drop r) :=
  ⟨by rw [Enc.all_length, List.length_take, Nat.min_eq_left hr], by rw [← Enc.all_append, List.take_append_drop]⟩
theorem all_drop {α : Type} (E : Enc α) (xs : List α) (r : Nat) (hr : r ≤ xs.length) : E.all (xs.drop r) = (E.all xs).drop (r * E.sz) := by
  obtain ⟨hA, h⟩ := all_cut E xs r hr
  rw [h]
  generalize E.all (xs.take r) = A at *
  generalize E.all (xs.drop r) = B at *
  rw [← hA]
  simp
theorem all_take {α : Type} (E : Enc α) (xs : List α) (r : Nat) (hr : r ≤ xs.length) : E.all (xs.take r) = (E.all xs).take (r * E.sz) := by
  obtain ⟨hA, h⟩ := all_cut E xs r hr
  rw [h]
  generalize E.all (xs.take r) = A at *
  generalize E.all (xs.drop r) = B at *
  rw [← hA]
  simp
theorem R_drop {α : Type} {E : Enc α} {w : World} {g n c r : Nat} {xs : List α} (h : E.R w (.slice (some ⟨g, 0, none⟩) n c) xs) (hn : n = xs.length) (hr : r ≤ n) : E.R w (.slice (some ⟨g, r * E.sz, none⟩) (n - r) (c - r)) (xs.drop r) := by
  subst hn
  obtain ⟨h0, ao, c', e, hc, hm, h1⟩ := h
  injection e with e1 e2 e3
  subst e1 e3
  refine ⟨by rw [Enc.all_length], _, _, by rw [List.length_drop], by rw [List.length_drop]; omega, by rw [List.length_drop]; omega, ?_⟩
  rcases h1 with h1 | ⟨ad, e, h1⟩
  · exact .inl (by rw [List.length_drop]; omega)
  · injection e with e
    subst e
    refine .inr ⟨_, rfl, fun j u hj => ?_⟩
    rw [all_drop E xs r hr, List.getElem?_drop] at hj
    have := h1 _ _ hj
    have e1 : (⟨g, 0, none⟩ : Addr).add (r * E.sz + j) = ⟨g, r * E.sz + j, none⟩ := by unfold Addr.add; split <;> simp_all
    have e2 : (⟨g, r * E.sz, none⟩ : Addr).add j = ⟨g, r * E.sz + j, none⟩ := by unfold Addr.add; split <;> simp_all
    rw [e2]
    rwa [e1] at this
theorem R_take {α : Type} {E : Enc α} {w : World} {g n c r : Nat} {xs : List α} (h : E.R w (.slice (some ⟨g, 0, none⟩) n c) xs) (hn : n = xs.length) (hr : r ≤ n) : E.R w (.slice (some ⟨g, 0, none⟩) r c) (xs.take r) := by
  subst hn
  obtain ⟨h0, ao, c', e, hc, hm, h1⟩ := h
  injection e with e1 e2 e3
  subst e1 e3
  refine ⟨by rw [Enc.all_length], _, _, by rw [List.length_take, Nat.min_eq_left hr], by rw [List.length_take]; omega, by rw [List.length_take]; omega, ?_⟩
  rcases h1 with h1 | ⟨ad, e, h1⟩
  · exact .inl (by rw [List.length_take]; omega)
  · refine .inr ⟨ad, e, fun j u hj => ?_⟩
    rw [all_take E xs r hr] at hj
    refine h1 j u ?_
    have hlt := (List.getElem?_eq_some_iff.1 hj).1
    rw [List.length_take] at hlt
    rw [List.getElem?_take_of_lt (by omega)] at hj
    exact hj
theorem two_ {α : Type} {E : Enc α} {w : World} {s0 s1 : Sl} {x0 x1 : List α} (h0 : E.R w s0.val x0) (h1 : E.R w s1.val x1) :
    ∀ i (_ : i < [s0, s1].length) (_ : i < [x0, x1].length), E.R w [s0, s1][i].val [x0, x1][i] := by
  intro i hi hi2
  match i, hi with
  | 0, _ => exact h0
  | 1, _ => exact h1
theorem turn_mod (t : Int) (n : Nat) (hn : 0 < n) (hm : n ≤ 1000) : ∃ r : Nat, wrap64 ((IntKind.u64.wrap t).tmod (n : Int)) = (r : Int) ∧ r < n := by
  rw [IntKind.wrap_u64]
  have h0 : 0 ≤ t % 18446744073709551616 := Int.emod_nonneg _ (by decide)
  rw [Int.tmod_eq_emod_of_nonneg h0]
  have h1 : 0 ≤ (t % 18446744073709551616) % (n : Int) := Int.emod_nonneg _ (by omega)
  have h2 : (t % 18446744073709551616) % (n : Int) < (n : Int) := Int.emod_lt_of_pos _ (by omega)
  refine ⟨((t % 18446744073709551616) % (n : Int)).toNat, ?_, by omega⟩
  unfold wrap64
  omega
theorem collFrom_mem (l : List Ep) : ∀ p x, x ∈ Stab.collFrom Ep.lt p l → x ∈ l := by
  induction l with
  | nil => intro p x h; cases h
  | cons y l ih =>
    intro p x h
    unfold Stab.collFrom at h
    split at h
    · exact .tail _ (ih _ _ h)
    · rcases List.mem_cons.1 h with rfl | h
      · exact .head _
      · exact .tail _ (ih _ _ h)
theorem coll_mem {l : List Ep} {x : Ep} (h : x ∈ Stab.coll Ep.lt l) : x ∈ l := by
  cases l with
  | nil => cases h
  | cons y l =>
    rcases List.mem_cons.1 h with rfl | h
    · exact .head _
    · exact .tail _ (collFrom_mem l _ _ h)
/-- Each event once, in order: it has what the list has, and stays whichever way it is turned. -/
theorem order_facts {ps L : List Ep} (h : Stab.Of Ep.lt ps L) : (∀ x ∈ Stab.coll Ep.lt L, x ∈ ps) ∧ (Stab.coll Ep.lt L).length ≤ ps.length ∧ ∀ K L', (Stab.coll Ep.lt L).Perm K → Stab.Of Ep.lt K L' → Stab.coll Ep.lt L' = Stab.coll Ep.lt L :=
  ⟨fun x hx => h.mem.1 (coll_mem hx), by have := Stab.coll_len (lt := Ep.lt) L; rw [h.len] at this; exact this, fun K L' hp hO => Stab.firsts_turn Ep.ord (Stab.coll_strict Ep.ord h.sorted) hp hO⟩
set_option maxRecDepth 100000 in
set_option maxHeartbeats 8000000 in
theorem law_order (v : Value) (ps : List Ep) (turn : Int) (B : Nat) (w : World) (h : encEp.R w v ps) (hO : ∀ p ∈ ps, p.Ok w B) (hturn : I64 turn) (ht : Tb w) :
    Calls Tryd.prog 4 #[v, .int .i64 turn] w fun e w' => e = .returned (.bool true) ∧ Below w.heap.size w w' := by
  have hL := Loc.nil w NoM
  have HR := Lib.hid h
  have HO := Lib.hid hO
  have hsm := Lib.hid (law_small v ps w h fun p hp => (hO p hp).sta)
  clear h hO
  go_enter Tryd.func4, Tryd.ntmps4
  go_wp2_with (first
    | (go_at_call 6; (with_reducible refine hsm.out.mono ?_); rintro e w1 ⟨⟨b, rfl, hbp⟩, hb1⟩; have hL := hL.call hb1; clear hb1 hsm; refine stop ?_))
  unfold Stop
  cases b
  · go_wp2_with (first
      | (go_at_call 10; have hq := awake29 _ (ht.below hL.below); (with_reducible refine hq.mono ?_); rintro en w9 ⟨rfl, hb9⟩; have hL := hL.call hb9; clear hb9 hq))
    go_ret
    exact ⟨rfl, hL.below⟩
  obtain ⟨hn, -⟩ := hbp rfl
  clear hbp
  have hq1 := Lib.hid (story_Order v ps w1 (HR.out.below hL.below) (by omega))
  go_wp2_with (first
    | (go_at_call 11; (with_reducible refine hq1.out.mono ?_); rintro e w2 ⟨u, L, rfl, hof, hL2⟩; have hL := hL.takeRow hL2; clear hL2 hq1; refine stop ?_))
  unfold Stop
  obtain ⟨f1, f2, f3⟩ := order_facts hof
  clear hof
  have F3 := Lib.hid f3
  have hX : Stab.coll Ep.lt L = Stab.coll Ep.lt L := rfl
  clear f3 hX
  generalize Stab.coll Ep.lt L = X at *
  have HX : Hid (∀ p ∈ X, p.Ok w B) := Lib.hid fun p hp => HO.out p (f1 p hp)
  have hXl : X.length ≤ 60 := by omega
  have sta : ∀ wx, Below w.heap.size w wx → ∀ p ∈ X, p.e.sta.Ok wx p.d := fun wx hb p hp => ((HX.out p hp).below hb).sta
  have STA := Lib.hid sta
  clear f1 f2 sta HO HR
  have hq2 := Lib.hid (story_Order u X w2 (hL.own (E := encEp) (.head _)).read (by omega))
  go_wp2_with (first
    | (go_at_call 11; (with_reducible refine hq2.out.mono ?_); rintro e w3 ⟨u2, L2, rfl, hof, hL2⟩; rw [F3.out X L2 (.refl _) hof] at hL2; have hL := hL.takeRow hL2; clear hL2 hq2 hof)
    | (go_at_call 12; have hq := same_events u2 u X _ (hL.own (E := encEp) (.head _)).read (hL.own (E := encEp) (.tail _ (.head _))).read (STA.out _ hL.below); (with_reducible refine hq.mono ?_); rintro e w4 ⟨rfl, hb4⟩; have hL := hL.call hb4; clear hb4 hq)
    | (go_at_call 13; have hq := clone_events u X _ (hL.own (E := encEp) (.tail _ (.head _))).read (by omega); (with_reducible refine hq.mono ?_); rintro e w5 ⟨u3, rfl, hL5⟩; have HC := Lib.hid (own_cases hL5); have hL := hL.takeRow hL5; clear hL5 hq; refine stop ?_))
  unfold Stop
  rcases HC.out with ⟨rfl, hXe⟩ | ⟨g, c, rfl, hc1, hc2, -⟩
  · clear HC
    subst hXe
    have hq5 : ∀ wx, Loc w NoM wx [row encEp w.heap.size 31 (.slice none 0 0) ([] : List Ep)] → Hid (Calls Tryd.prog 11 #[(.slice none 0 0)] wx fun e w' => ∃ u L, e = .returned u ∧ Stab.Of Ep.lt ([] : List Ep) L ∧ Loc wx NoM w' [row encEp wx.heap.size 31 u (Stab.coll Ep.lt L)]) := fun wx hx => Lib.hid (story_Order _ _ wx (hx.own (E := encEp) (.head _)).read (by simp))
    go_wp2_with (first
      | (go_at_call 11; have hq := (hq5 _ (hL.sub (by repeat (first | exact List.nil_sublist _ | with_reducible apply List.Sublist.cons_cons | with_reducible apply List.Sublist.cons)))).out; (with_reducible refine hq.mono ?_); rintro e w6 ⟨u6, L6, rfl, hof, hL6⟩; rw [F3.out _ L6 (.refl _) hof] at hL6; have hL := hL.takeRow hL6; clear hL6 hof hq)
      | (go_at_call 12; have hq := same_events u6 u _ _ (hL.own (E := encEp) (.head _)).read (hL.own (E := encEp) (v := u) (base := w.heap.size) (e := 31) (by first | exact mm0 | exact mm1 | exact mm2 | exact mm3 | exact mm4 | exact mm5 | exact mm6 | exact mm7 | exact mm8)).read (STA.out _ hL.below); (with_reducible refine hq.mono ?_); rintro e w7 ⟨rfl, hb7⟩; have hL := hL.call hb7; clear hb7 hq)
      | (go_at_call 10; have hq := awake29 _ (ht.below hL.below); (with_reducible refine hq.mono ?_); rintro en w9 ⟨rfl, hb9⟩; have hL := hL.call hb9; clear hb9 hq))
    go_ret
    exact ⟨rfl, hL.below⟩
  · clear HC
    by_cases hX0 : X.length = 0
    · have hX1 : X = [] := List.eq_nil_of_length_eq_zero hX0
      subst hX1
      clear hX0
      simp only [List.length_nil] at hL hc1
      have hq5 : ∀ wx, Loc w NoM wx [row encEp w.heap.size 31 (.slice (some ⟨g, 0, none⟩) 0 c) ([] : List Ep)] → Hid (Calls Tryd.prog 11 #[(.slice (some ⟨g, 0, none⟩) 0 c)] wx fun e w' => ∃ u L, e = .returned u ∧ Stab.Of Ep.lt ([] : List Ep) L ∧ Loc wx NoM w' [row encEp wx.heap.size 31 u (Stab.coll Ep.lt L)]) := fun wx hx => Lib.hid (story_Order _ _ wx (hx.own (E := encEp) (.head _)).read (by simp))
      go_wp2_with (first
        | (go_at_call 11; have hq := (hq5 _ (hL.sub (by repeat (first | exact List.nil_sublist _ | with_reducible apply List.Sublist.cons_cons | with_reducible apply List.Sublist.cons)))).out; (with_reducible refine hq.mono ?_); rintro e w6 ⟨u6, L6, rfl, hof, hL6⟩; rw [F3.out _ L6 (.refl _) hof] at hL6; have hL := hL.takeRow hL6; clear hL6 hof hq)
        | (go_at_call 12; have hq := same_events u6 u _ _ (hL.own (E := encEp) (.head _)).read (hL.own (E := encEp) (v := u) (base := w.heap.size) (e := 31) (by first | exact mm0 | exact mm1 | exact mm2 | exact mm3 | exact mm4 | exact mm5 | exact mm6 | exact mm7 | exact mm8)).read (STA.out _ hL.below); (with_reducible refine hq.mono ?_); rintro e w7 ⟨rfl, hb7⟩; have hL := hL.call hb7; clear hb7 hq)
        | (go_at_call 10; have hq := awake29 _ (ht.below hL.below); (with_reducible refine hq.mono ?_); rintro en w9 ⟨rfl, hb9⟩; have hL := hL.call hb9; clear hb9 hq))
      go_ret
      exact ⟨rfl, hL.below⟩
    · have hX1 : 0 < X.length := by omega
      have t1 : decide ((0 : Int) < (X.length : Int)) = true := (by first | (simp; done) | (simp; omega))
      obtain ⟨r, hr, hrl⟩ := turn_mod turn X.length hX1 (by omega)
      have hr1 : (r : Int) ≤ (X.length : Int) := by omega
      have hr2 : (X.length : Int) ≤ (c : Int) := by omega
      have hr3 : (r : Int) ≤ (c : Int) := by omega
      have hr0 : (0 : Int) ≤ (r : Int) := by omega
      go_upto_region 9 with fail
      rw [hr]
      clear t1 hr
      refine region_qtail 6 (by kernel_rfl) hL (by kernel_rfl) ?_
      clear hL
      intro w8 hL
      simp only [List.take_succ_cons, List.take_zero, List.drop_succ_cons, List.drop_zero]
      repeat (first | go_big_quiet_step (fail))
      refine wpQuiet_nil ?_
      rintro _ ⟨⟨w9, hb9⟩, rfl⟩
      replace hL := hL.call hb9
      clear hb9
      have hRX : ∀ wx l', Loc w NoM wx l' → row encEp w.heap.size 31 (.slice (some ⟨g, 0, none⟩) X.length c) X ∈ l' → encEp.R wx (.slice (some ⟨g, 0, none⟩) X.length c) X := fun wx l' hx hm => (hx.own (E := encEp) hm).read
      have HP : Hid (X.Perm (X.drop r ++ X.take r)) := Lib.hid (by
        have h1 : X = X.take r ++ X.drop r := (List.take_append_drop r X).symm
        exact (List.Perm.of_eq h1).trans List.perm_append_comm)
      have HFLT : Hid (([X.drop r, X.take r] : List (List Ep)).flatten = X.drop r ++ X.take r) := Lib.hid (by simp)
      have hfl : (X.drop r ++ X.take r).length = X.length := HP.out.length_eq.symm
      have HFL := Lib.hid hfl
      clear hfl
      go_wp2_with (first
        | ((with_reducible refine gate (N := 37) rfl ?_); refine ev_litL (cs := [.slice (some ⟨g, r * 21, none⟩) (X.length - r) (c - r), .slice (some ⟨g, 0, none⟩) r c]) rfl hL rfl rfl rfl (by kernel_rfl) ?_; clear hL; intro gq wq hL)
        | (go_at_call 14; have hq := ConcatEp.concat (.slice (some ⟨gq, 0, none⟩) 2 2) [⟨some ⟨g, r * 21, none⟩, X.length - r, c - r⟩, ⟨some ⟨g, 0, none⟩, r, c⟩] [X.drop r, X.take r] _ (R_box (E := encSl) (t := 38) [⟨some ⟨g, r * 21, none⟩, X.length - r, c - r⟩, ⟨some ⟨g, 0, none⟩, r, c⟩] (hL.box (by first | exact mm0 | exact mm1 | exact mm2 | exact mm3 | exact mm4 | exact mm5 | exact mm6 | exact mm7 | exact mm8)) rfl (by simp)) rfl (two_ (R_drop (hRX _ _ hL (by first | exact mm0 | exact mm1 | exact mm2 | exact mm3 | exact mm4 | exact mm5 | exact mm6 | exact mm7 | exact mm8)) rfl (Nat.le_of_lt hrl)) (R_take (hRX _ _ hL (by first | exact mm0 | exact mm1 | exact mm2 | exact mm3 | exact mm4 | exact mm5 | exact mm6 | exact mm7 | exact mm8)) rfl (Nat.le_of_lt hrl))) (by rw [HFLT.out, HFL.out]; omega) (by simp); rw [HFLT.out] at hq; (with_reducible refine hq.mono ?_); rintro e w3 ⟨u4, rfl, hL3⟩; have hL := hL.takeRow hL3; clear hL3 hq)
        | (go_at_call 11; have hq := story_Order u4 _ _ (hL.own (E := encEp) (v := u4) (base := w.heap.size) (e := 31) (by first | exact mm0 | exact mm1 | exact mm2 | exact mm3 | exact mm4 | exact mm5 | exact mm6 | exact mm7 | exact mm8)).read (by rw [HFL.out]; omega); (with_reducible refine hq.mono ?_); rintro e w6 ⟨u6, L6, rfl, hof, hL6⟩; rw [F3.out _ L6 HP.out hof] at hL6; have hL := hL.takeRow hL6; clear hL6 hof hq)
        | (go_at_call 12; have hq := same_events u6 u X _ (hL.own (E := encEp) (.head _)).read (hL.own (E := encEp) (v := u) (base := w.heap.size) (e := 31) (by first | exact mm0 | exact mm1 | exact mm2 | exact mm3 | exact mm4 | exact mm5 | exact mm6 | exact mm7 | exact mm8)).read (STA.out _ hL.below); (with_reducible refine hq.mono ?_); rintro e w7 ⟨rfl, hb7⟩; have hL := hL.call hb7; clear hb7 hq)
        | (go_at_call 10; have hq := awake29 _ (ht.below hL.below); (with_reducible refine hq.mono ?_); rintro en w9 ⟨rfl, hb9⟩; have hL := hL.call hb9; clear hb9 hq)
        | ((with_reducible refine gAlloc rfl rfl ?_); (refine ev_allocL rfl hL rfl (by first | exact CellsC.of | exact cells_one (by assumption) (by assumption) | exact cells_agg _ rfl) ?_; clear hL; intro gq wq hL)) | ((with_reducible refine gBox rfl rfl ?_); (refine ev_boxL rfl hL rfl rfl (by first | exact CellsC.of | exact cells_one (by assumption) (by assumption) | exact cells_agg _ rfl) ?_; clear hL; intro gq wq hL)) | ((with_reducible refine gLoad rfl rfl ?_); (first | (refine ev_load1L rfl hL rfl rfl HasV.mem (by rfl) ?_) | (refine ev_loadAllL rfl hL rfl rfl HasV.mem (by rfl) ?_) | (refine ev_loadL rfl hL rfl rfl HasV.mem SegC.seg ?_))) | ((with_reducible refine gStore rfl rfl ?_); (first | (refine ev_storeC rfl hL rfl rfl rfl (by first | exact CellsC.of | exact cells_one (by assumption) (by assumption) | exact cells_agg _ rfl) (by rfl) ?_) | (refine ev_storeAllC rfl hL rfl rfl rfl (by first | exact CellsC.of | exact cells_one (by assumption) (by assumption) | exact cells_agg _ rfl) (by rfl) (by rfl) ?_)); clear hL; intro wq hL) | ((with_reducible refine gLoadG rfl rfl ?_ ?_); (exact wanted_some rfl rfl rfl (by with_reducible rfl)); (first | (refine ev_load1G (wanted_some rfl rfl rfl rfl) hL rfl rfl HasV.mem (by rfl) ?_) | (refine ev_loadAllG (wanted_some rfl rfl rfl rfl) hL rfl rfl HasV.mem (by rfl) ?_) | (refine ev_loadG_ (wanted_some rfl rfl rfl rfl) hL rfl rfl HasV.mem SegC.seg ?_))))
      go_ret
      exact ⟨rfl, hL.below⟩
theorem law_orderP (v : Value) (ps : List Ep) (turn : Int) (w : World) (h : encEp.R w v ps) (hO : ∀ p ∈ ps, p.Ok w maxLen) (hturn : I64 turn) (ht : Tb w) :
    Calls Tryd.prog 4 #[v, .int .i64 turn] w fun e w' => e = .returned (.bool true) ∧ Below w.heap.size w w' := law_order v ps turn maxLen w h hO hturn ht
end Go.Proofs.YtebpacmhdkgfeaaDoor
