/- Texts laid together: IndexK, Abo2, Clo, Stab, Stab2, Stab3, Stab4, RowEv, SortEv1, SortEv2, SortEv3, SortEv4. -/
import Derived.Test.YtebpacmhdkgfeaaDoorLi3
import Derived.Lib.SliceRun
import Derived.Shelf.Abstract
/- slices.IndexFunc and ContainsFunc at crannog/api.Link, with crannog/story.About$2. -/
namespace Go.Proofs.YtebpacmhdkgfeaaDoor.IndexK
open Go.RowKit

set_option maxHeartbeats 2000000 in
theorem indexFunc (v : Value) (xs : List Lnk) (p : Lnk → Bool) (cap : Value) (w : World) (h : encK.R w v xs)
    (hp : ∀ x ∈ xs, ∀ w', Below w.heap.size w w' → Calls Tryd.prog 41 #[.agg (encK.cells x).toArray, cap] w' fun e w'' => e = .returned (.bool (p x)) ∧ Below w'.heap.size w' w'') :
    Calls Tryd.prog 54 #[v, .func (.func 41) #[] #[cap]] w fun e w' => (∃ i : Int, e = .returned (.int .i64 i) ∧ ((0 ≤ i) ↔ xs.any p = true)) ∧ Below w.heap.size w w' := by
  have hL := Loc.nil w NoM
  have hmx := R_max h
  obtain ⟨ao, c, rfl, hel⟩ := R_elem h
  have HP := Lib.hid hp
  clear hp h
  go_enter Tryd.func54, Tryd.ntmps54
  go_wp2_with (first | ((with_reducible refine gAlloc rfl rfl ?_); (refine ev_allocL rfl hL rfl (by first | exact CellsC.of | exact cells_one (by assumption) (by assumption) | exact cells_agg _ rfl) ?_; clear hL; intro gq wq hL)) | ((with_reducible refine gBox rfl rfl ?_); (refine ev_boxL rfl hL rfl rfl (by first | exact CellsC.of | exact cells_one (by assumption) (by assumption) | exact cells_agg _ rfl) ?_; clear hL; intro gq wq hL)) | ((with_reducible refine gLoad rfl rfl ?_); (first | (refine ev_load1L rfl hL rfl rfl HasV.mem (by rfl) ?_) | (refine ev_loadAllL rfl hL rfl rfl HasV.mem (by rfl) ?_) | (refine ev_loadL rfl hL rfl rfl HasV.mem SegC.seg ?_))) | ((with_reducible refine gStore rfl rfl ?_); (first | (refine ev_storeC rfl hL rfl rfl rfl (by first | exact CellsC.of | exact cells_one (by assumption) (by assumption) | exact cells_agg _ rfl) (by rfl) ?_) | (refine ev_storeAllC rfl hL rfl rfl rfl (by first | exact CellsC.of | exact cells_one (by assumption) (by assumption) | exact cells_agg _ rfl) (by rfl) (by rfl) ?_)); clear hL; intro wq hL) | ((with_reducible refine gLoadG rfl rfl ?_ ?_); (exact wanted_some rfl rfl rfl (by with_reducible rfl)); (first | (refine ev_load1G (wanted_some rfl rfl rfl rfl) hL rfl rfl HasV.mem (by rfl) ?_) | (refine ev_loadAllG (wanted_some rfl rfl rfl rfl) hL rfl rfl HasV.mem (by rfl) ?_) | (refine ev_loadG_ (wanted_some rfl rfl rfl rfl) hL rfl rfl HasV.mem SegC.seg ?_))))
  have HN : Hid (∀ x ∈ xs.take 0, p x = false) := Lib.hid (by simp)
  go_loopw [8] (fun i wr => ∃ k : Nat, k ≤ xs.length ∧ i = .int .i64 k ∧ Hid (∀ x ∈ xs.take k, p x = false) ∧ Loc w NoM wr []) (fun i _ => xs.length - (intOf i).toNat)
  case atStart => exact ⟨0, by omega, rfl, HN, hL⟩
  case round =>
    clear hL HN
    obtain ⟨k, hk, rfl, HN, hL⟩ := hrel
    by_cases hlt : k < xs.length
    · obtain ⟨g, off, rfl, hr⟩ := hel k hlt
      have hrW : World.rangeAt _ g (off + k * 25) (encK.cells xs[k]) := range_below hr hL.below
      clear hr
      have hx := Lib.hid (HP.out _ (List.getElem_mem hlt))
      have HT := Lib.hid (show xs.take (k + 1) = xs.take k ++ [xs[k]] from (List.take_append_getElem hlt).symm)
      have hm : xs[k] ∈ xs := List.getElem_mem hlt
      have HM := Lib.hid hm
      clear hm
      cases hpx : p xs[k]
      · have HPX := Lib.hid hpx
        rw [hpx] at hx
        clear hpx
        generalize xs[k] = x at *
        go_wp2_with (first
          | ((with_reducible refine gIndex rfl rfl ?_); refine ev_indexL rfl rfl rfl rfl hlt ?_) | ((with_reducible refine gate (N := 15) rfl ?_); refine ev_loadR rfl rfl rfl hrW (by rfl) ?_)
          | (go_at_call 41; (with_reducible refine (hx.out _ hL.below).mono ?_); rintro e w3 ⟨rfl, hb3⟩; have hL := hL.call hb3; clear hb3)
          | ((with_reducible refine gAlloc rfl rfl ?_); (refine ev_allocL rfl hL rfl (by first | exact CellsC.of | exact cells_one (by assumption) (by assumption) | exact cells_agg _ rfl) ?_; clear hL; intro gq wq hL)) | ((with_reducible refine gBox rfl rfl ?_); (refine ev_boxL rfl hL rfl rfl (by first | exact CellsC.of | exact cells_one (by assumption) (by assumption) | exact cells_agg _ rfl) ?_; clear hL; intro gq wq hL)) | ((with_reducible refine gLoad rfl rfl ?_); (first | (refine ev_load1L rfl hL rfl rfl HasV.mem (by rfl) ?_) | (refine ev_loadAllL rfl hL rfl rfl HasV.mem (by rfl) ?_) | (refine ev_loadL rfl hL rfl rfl HasV.mem SegC.seg ?_))) | ((with_reducible refine gStore rfl rfl ?_); (first | (refine ev_storeC rfl hL rfl rfl rfl (by first | exact CellsC.of | exact cells_one (by assumption) (by assumption) | exact cells_agg _ rfl) (by rfl) ?_) | (refine ev_storeAllC rfl hL rfl rfl rfl (by first | exact CellsC.of | exact cells_one (by assumption) (by assumption) | exact cells_agg _ rfl) (by rfl) (by rfl) ?_)); clear hL; intro wq hL) | ((with_reducible refine gLoadG rfl rfl ?_ ?_); (exact wanted_some rfl rfl rfl (by with_reducible rfl)); (first | (refine ev_load1G (wanted_some rfl rfl rfl rfl) hL rfl rfl HasV.mem (by rfl) ?_) | (refine ev_loadAllG (wanted_some rfl rfl rfl rfl) hL rfl rfl HasV.mem (by rfl) ?_) | (refine ev_loadG_ (wanted_some rfl rfl rfl rfl) hL rfl rfl HasV.mem SegC.seg ?_))))
        go_roundw
        case rel => exact ⟨k + 1, by omega, by go_num, Lib.hid (by rw [HT.out]; intro y hy; rcases List.mem_append.1 hy with hy | hy; exact HN.out y hy; rw [List.mem_singleton.1 hy]; exact HPX.out), hL⟩
        case measure => simp [intOf]; omega
      · have HPX := Lib.hid hpx
        rw [hpx] at hx
        clear hpx
        generalize xs[k] = x at *
        go_wp2_with (first
          | ((with_reducible refine gIndex rfl rfl ?_); refine ev_indexL rfl rfl rfl rfl hlt ?_) | ((with_reducible refine gate (N := 15) rfl ?_); refine ev_loadR rfl rfl rfl hrW (by rfl) ?_)
          | (go_at_call 41; (with_reducible refine (hx.out _ hL.below).mono ?_); rintro e w3 ⟨rfl, hb3⟩; have hL := hL.call hb3; clear hb3)
          | ((with_reducible refine gAlloc rfl rfl ?_); (refine ev_allocL rfl hL rfl (by first | exact CellsC.of | exact cells_one (by assumption) (by assumption) | exact cells_agg _ rfl) ?_; clear hL; intro gq wq hL)) | ((with_reducible refine gBox rfl rfl ?_); (refine ev_boxL rfl hL rfl rfl (by first | exact CellsC.of | exact cells_one (by assumption) (by assumption) | exact cells_agg _ rfl) ?_; clear hL; intro gq wq hL)) | ((with_reducible refine gLoad rfl rfl ?_); (first | (refine ev_load1L rfl hL rfl rfl HasV.mem (by rfl) ?_) | (refine ev_loadAllL rfl hL rfl rfl HasV.mem (by rfl) ?_) | (refine ev_loadL rfl hL rfl rfl HasV.mem SegC.seg ?_))) | ((with_reducible refine gStore rfl rfl ?_); (first | (refine ev_storeC rfl hL rfl rfl rfl (by first | exact CellsC.of | exact cells_one (by assumption) (by assumption) | exact cells_agg _ rfl) (by rfl) ?_) | (refine ev_storeAllC rfl hL rfl rfl rfl (by first | exact CellsC.of | exact cells_one (by assumption) (by assumption) | exact cells_agg _ rfl) (by rfl) (by rfl) ?_)); clear hL; intro wq hL) | ((with_reducible refine gLoadG rfl rfl ?_ ?_); (exact wanted_some rfl rfl rfl (by with_reducible rfl)); (first | (refine ev_load1G (wanted_some rfl rfl rfl rfl) hL rfl rfl HasV.mem (by rfl) ?_) | (refine ev_loadAllG (wanted_some rfl rfl rfl rfl) hL rfl rfl HasV.mem (by rfl) ?_) | (refine ev_loadG_ (wanted_some rfl rfl rfl rfl) hL rfl rfl HasV.mem SegC.seg ?_))))
        go_ret
        exact ⟨⟨(k : Int), rfl, ⟨fun _ => List.any_eq_true.2 ⟨x, HM.out, HPX.out⟩, fun _ => by omega⟩⟩, hL.below⟩
    · obtain rfl : k = xs.length := by omega
      go_wp2
      go_ret
      refine ⟨⟨-1, rfl, ⟨fun h => by omega, fun h => ?_⟩⟩, hL.below⟩
      obtain ⟨x, hx, hpx⟩ := List.any_eq_true.1 h
      have := HN.out x (by rw [List.take_length]; exact hx)
      rw [this] at hpx
      cases hpx
theorem containsFunc (v : Value) (xs : List Lnk) (p : Lnk → Bool) (cap : Value) (w : World) (h : encK.R w v xs)
    (hp : ∀ x ∈ xs, ∀ w', Below w.heap.size w w' → Calls Tryd.prog 41 #[.agg (encK.cells x).toArray, cap] w' fun e w'' => e = .returned (.bool (p x)) ∧ Below w'.heap.size w' w'') :
    Calls Tryd.prog 40 #[v, .func (.func 41) #[] #[cap]] w fun e w' => e = .returned (.bool (xs.any p)) ∧ Below w.heap.size w w' := by
  have hL := Loc.nil w NoM
  have hq := Lib.hid (indexFunc v xs p cap w h hp)
  clear h hp
  generalize xs.any p = r at *
  go_enter Tryd.func40, Tryd.ntmps40
  go_wp2_with (first
    | (go_at_call 54; (with_reducible refine hq.out.mono ?_); rintro e w3 ⟨⟨i, rfl, hir⟩, hb3⟩; have HI := Lib.hid hir; clear hir; have hL := hL.call hb3; clear hb3)
    | ((with_reducible refine gAlloc rfl rfl ?_); (refine ev_allocL rfl hL rfl (by first | exact CellsC.of | exact cells_one (by assumption) (by assumption) | exact cells_agg _ rfl) ?_; clear hL; intro gq wq hL)) | ((with_reducible refine gBox rfl rfl ?_); (refine ev_boxL rfl hL rfl rfl (by first | exact CellsC.of | exact cells_one (by assumption) (by assumption) | exact cells_agg _ rfl) ?_; clear hL; intro gq wq hL)) | ((with_reducible refine gLoad rfl rfl ?_); (first | (refine ev_load1L rfl hL rfl rfl HasV.mem (by rfl) ?_) | (refine ev_loadAllL rfl hL rfl rfl HasV.mem (by rfl) ?_) | (refine ev_loadL rfl hL rfl rfl HasV.mem SegC.seg ?_))) | ((with_reducible refine gStore rfl rfl ?_); (first | (refine ev_storeC rfl hL rfl rfl rfl (by first | exact CellsC.of | exact cells_one (by assumption) (by assumption) | exact cells_agg _ rfl) (by rfl) ?_) | (refine ev_storeAllC rfl hL rfl rfl rfl (by first | exact CellsC.of | exact cells_one (by assumption) (by assumption) | exact cells_agg _ rfl) (by rfl) (by rfl) ?_)); clear hL; intro wq hL) | ((with_reducible refine gLoadG rfl rfl ?_ ?_); (exact wanted_some rfl rfl rfl (by with_reducible rfl)); (first | (refine ev_load1G (wanted_some rfl rfl rfl rfl) hL rfl rfl HasV.mem (by rfl) ?_) | (refine ev_loadAllG (wanted_some rfl rfl rfl rfl) hL rfl rfl HasV.mem (by rfl) ?_) | (refine ev_loadG_ (wanted_some rfl rfl rfl rfl) hL rfl rfl HasV.mem SegC.seg ?_))))
  go_ret
  refine ⟨ret_b ?_, hL.below⟩
  cases r
  · simpa using HI.out
  · simpa using HI.out
end Go.Proofs.YtebpacmhdkgfeaaDoor.IndexK

/- Chapter 29: story.About. -/
namespace Go.Proofs.YtebpacmhdkgfeaaDoor
open Go.RowKit

theorem any_nodes {w : World} {ns : List Nd} {ds : List InoD} (id : Mk) (h : ∀ n ∈ ns, n.s.Ok w n.d) (hd : ns.map (·.d) = ds) : ns.any (fun n => decide (n.s.hd.id = id)) = ds.any (fun n => decide (n.hd.id = id)) := by
  subst hd
  rw [List.any_map]
  rw [Bool.eq_iff_iff, List.any_eq_true, List.any_eq_true]
  constructor
  · rintro ⟨n, hn, h1⟩; exact ⟨n, hn, by simpa [(h n hn).hd] using h1⟩
  · rintro ⟨n, hn, h1⟩; exact ⟨n, hn, by simpa [(h n hn).hd] using h1⟩
theorem sl_val (a : Option Addr) (n c : Nat) : (Sl.mk a n c).val = .slice a n c := rfl
set_option maxHeartbeats 4000000 in
theorem story_about (v : Value) (ps : List Ep) (id : Mk) (B : Nat) (w : World) (h : encEp.R w v ps) (hO : ∀ p ∈ ps, p.Ok w B) (hn : ps.length ≤ 1000) :
    Calls Tryd.prog 16 #[v, id.val] w fun e w' => ∃ u, e = .returned u ∧ Loc w NoM w' [row encEp w.heap.size 31 u (ps.filter fun p => p.d.about id)] := by
  have hL := (Loc.nil w NoM).rowOff encEp w.heap.size 31
  obtain ⟨ao, c, rfl, hel⟩ := R_elem h
  have HO := Lib.hid hO
  clear hO h
  go_enter Tryd.func16, Tryd.ntmps16
  go_wp2_with (first | ((with_reducible refine gate (N := 3) rfl ?_); (refine ev_boxL rfl hL rfl rfl (by first | exact CellsC.of | exact cells_one (by assumption) (by assumption) | exact cells_agg _ rfl) ?_; clear hL; intro g3 w3 hL)) | ((with_reducible refine gAlloc rfl rfl ?_); (refine ev_allocL rfl hL rfl (by first | exact CellsC.of | exact cells_one (by assumption) (by assumption) | exact cells_agg _ rfl) ?_; clear hL; intro gq wq hL)) | ((with_reducible refine gBox rfl rfl ?_); (refine ev_boxL rfl hL rfl rfl (by first | exact CellsC.of | exact cells_one (by assumption) (by assumption) | exact cells_agg _ rfl) ?_; clear hL; intro gq wq hL)) | ((with_reducible refine gLoad rfl rfl ?_); (first | (refine ev_load1L rfl hL rfl rfl HasV.mem (by rfl) ?_) | (refine ev_loadAllL rfl hL rfl rfl HasV.mem (by rfl) ?_) | (refine ev_loadL rfl hL rfl rfl HasV.mem SegC.seg ?_))) | ((with_reducible refine gStore rfl rfl ?_); (first | (refine ev_storeC rfl hL rfl rfl rfl (by first | exact CellsC.of | exact cells_one (by assumption) (by assumption) | exact cells_agg _ rfl) (by rfl) ?_) | (refine ev_storeAllC rfl hL rfl rfl rfl (by first | exact CellsC.of | exact cells_one (by assumption) (by assumption) | exact cells_agg _ rfl) (by rfl) (by rfl) ?_)); clear hL; intro wq hL) | ((with_reducible refine gLoadG rfl rfl ?_ ?_); (exact wanted_some rfl rfl rfl (by with_reducible rfl)); (first | (refine ev_load1G (wanted_some rfl rfl rfl rfl) hL rfl rfl HasV.mem (by rfl) ?_) | (refine ev_loadAllG (wanted_some rfl rfl rfl rfl) hL rfl rfl HasV.mem (by rfl) ?_) | (refine ev_loadG_ (wanted_some rfl rfl rfl rfl) hL rfl rfl HasV.mem SegC.seg ?_))))
  replace hL := hL.sub (l' := [var g3 [.int .i64 id.boot, .int .i64 id.n] 23, row encEp w.heap.size 31 (.slice none 0 0) []]) (by repeat (first | exact List.nil_sublist _ | with_reducible apply List.Sublist.cons_cons | with_reducible apply List.Sublist.cons))
  go_loopw [5, 11] (fun s i wr => ∃ (k : Nat) (vs : Value), k ≤ ps.length ∧ i = .int .i64 k ∧ s = vs ∧ Loc w NoM wr [var g3 [.int .i64 id.boot, .int .i64 id.n] 23, row encEp w.heap.size 31 vs ((ps.take k).filter fun p => p.d.about id)]) (fun _ i _ => ps.length - (intOf i).toNat)
  case atStart => exact ⟨0, _, by omega, rfl, rfl, hL⟩
  case round =>
    clear hL
    obtain ⟨k, vs, hk, rfl, rfl, hL⟩ := hrel
    by_cases hlt : k < ps.length
    · obtain ⟨g, off, rfl, hr⟩ := hel k hlt
      have hrW : World.rangeAt _ g (off + k * 21) (Evt.cells ps[k].e) := range_below hr hL.below
      clear hr
      have hoq := HO.out _ (List.getElem_mem hlt)
      have HT := Lib.hid (show (ps.take (k + 1)).filter (fun p => p.d.about id) = ((ps.take k).filter fun p => p.d.about id) ++ (if ps[k].d.about id = true then [ps[k]] else []) by
        rw [(List.take_append_getElem hlt).symm, List.filter_append]
        congr 1
        simp only [List.filter_cons, List.filter_nil])
      have hln : ((ps.take k).filter fun p => p.d.about id).length ≤ 1000 := Nat.le_trans (List.length_filter_le _ _) (by rw [List.length_take]; omega)
      generalize ps[k] = q at *
      generalize (ps.take k).filter (fun p => p.d.about id) = L at *
      obtain ⟨ns, hns, hok, hds⟩ := hoq.sta.nodes
      have hls := hoq.sta.links
      have hany := any_nodes id hok hds
      have HA := Lib.hid (show q.d.about id = (q.d.nodes.any (fun n => decide (n.hd.id = id)) || q.d.links.any (Lnk.about id)) from rfl)
      rw [← hany] at HA
      have HNS := Lib.hid hns
      have HLS := Lib.hid hls
      clear hoq hok hds hany hns hls
      generalize q.d.links = ls at *
      obtain ⟨r1, hr1⟩ : ∃ r, r = ns.any (fun n => decide (n.s.hd.id = id)) := ⟨_, rfl⟩
      obtain ⟨r2, hr2⟩ : ∃ r, r = ls.any (Lnk.about id) := ⟨_, rfl⟩
      rw [← hr1, ← hr2] at HA
      have HR1 := Lib.hid hr1
      have HR2 := Lib.hid hr2
      clear hr1 hr2
      have callN : ∀ wx, Loc w NoM wx [var g3 [.int .i64 id.boot, .int .i64 id.n] 23] → Hid (Calls Tryd.prog 38 #[.slice q.e.na q.e.nn q.e.nc, .func (.func 39) #[] #[.pointer (some ⟨g3, 0, none⟩)]] wx fun e w' => e = .returned (.bool r1) ∧ Below wx.heap.size wx w') := fun wx hLx => Lib.hid (by
        rw [HR1.out]
        exact IndexN.containsFunc _ ns _ _ wx (HNS.out.below hLx.below) fun n _ w' hb' => about_node n id g3 _ w' ((hLx.box (.head _)).below hb'))
      have callK : ∀ wx, Loc w NoM wx [var g3 [.int .i64 id.boot, .int .i64 id.n] 23] → Hid (Calls Tryd.prog 40 #[.slice q.e.la q.e.ln q.e.lc, .func (.func 41) #[] #[.pointer (some ⟨g3, 0, none⟩)]] wx fun e w' => e = .returned (.bool r2) ∧ Below wx.heap.size wx w') := fun wx hLx => Lib.hid (by
        rw [HR2.out]
        exact IndexK.containsFunc _ ls _ _ wx (HLS.out.below hLx.below) fun n _ w' hb' => about_link n id g3 _ w' ((hLx.box (.head _)).below hb'))
      rw [HA.out] at HT
      clear HA
      cases r1
      · cases r2
        · have HT2 := Lib.hid (HT.out.trans (List.append_nil L))
          clear HT
          have HT := HT2
          clear HT2
          go_wp2_with (first
            | ((with_reducible refine gIndex rfl rfl ?_); refine ev_indexL rfl rfl rfl rfl hlt ?_) | ((with_reducible refine gate (N := 14) rfl ?_); refine ev_loadR rfl rfl rfl hrW (by rfl) ?_)
            | (go_at_call 38; have hq := (callN _ (hL.sub (by repeat (first | exact List.nil_sublist _ | with_reducible apply List.Sublist.cons_cons | with_reducible apply List.Sublist.cons)))).out; (with_reducible refine hq.mono ?_); rintro e w3 ⟨rfl, hb3⟩; have hL := hL.call hb3; clear hb3 hq)
            | (go_at_call 40; have hq := (callK _ (hL.sub (by repeat (first | exact List.nil_sublist _ | with_reducible apply List.Sublist.cons_cons | with_reducible apply List.Sublist.cons)))).out; (with_reducible refine hq.mono ?_); rintro e w3 ⟨rfl, hb3⟩; have hL := hL.call hb3; clear hb3 hq)
            | ((with_reducible refine gAlloc rfl rfl ?_); (refine ev_allocL rfl hL rfl (by first | exact CellsC.of | exact cells_one (by assumption) (by assumption) | exact cells_agg _ rfl) ?_; clear hL; intro gq wq hL)) | ((with_reducible refine gBox rfl rfl ?_); (refine ev_boxL rfl hL rfl rfl (by first | exact CellsC.of | exact cells_one (by assumption) (by assumption) | exact cells_agg _ rfl) ?_; clear hL; intro gq wq hL)) | ((with_reducible refine gLoad rfl rfl ?_); (first | (refine ev_load1L rfl hL rfl rfl HasV.mem (by rfl) ?_) | (refine ev_loadAllL rfl hL rfl rfl HasV.mem (by rfl) ?_) | (refine ev_loadL rfl hL rfl rfl HasV.mem SegC.seg ?_))) | ((with_reducible refine gStore rfl rfl ?_); (first | (refine ev_storeC rfl hL rfl rfl rfl (by first | exact CellsC.of | exact cells_one (by assumption) (by assumption) | exact cells_agg _ rfl) (by rfl) ?_) | (refine ev_storeAllC rfl hL rfl rfl rfl (by first | exact CellsC.of | exact cells_one (by assumption) (by assumption) | exact cells_agg _ rfl) (by rfl) (by rfl) ?_)); clear hL; intro wq hL) | ((with_reducible refine gLoadG rfl rfl ?_ ?_); (exact wanted_some rfl rfl rfl (by with_reducible rfl)); (first | (refine ev_load1G (wanted_some rfl rfl rfl rfl) hL rfl rfl HasV.mem (by rfl) ?_) | (refine ev_loadAllG (wanted_some rfl rfl rfl rfl) hL rfl rfl HasV.mem (by rfl) ?_) | (refine ev_loadG_ (wanted_some rfl rfl rfl rfl) hL rfl rfl HasV.mem SegC.seg ?_))))
          go_roundw
          case rel => exact ⟨k + 1, _, by omega, by go_num, rfl, by rw [HT.out]; exact hL.sub (by repeat (first | exact List.nil_sublist _ | with_reducible apply List.Sublist.cons_cons | with_reducible apply List.Sublist.cons))⟩
          case measure => simp [intOf]; omega
        · have HT2 : Hid ((ps.take (k + 1)).filter (fun p => p.d.about id) = L ++ [q]) := HT
          clear HT
          have HT := HT2
          clear HT2
          go_wp2_with (first
            | ((with_reducible refine gIndex rfl rfl ?_); refine ev_indexL rfl rfl rfl rfl hlt ?_) | ((with_reducible refine gate (N := 14) rfl ?_); refine ev_loadR rfl rfl rfl hrW (by rfl) ?_)
            | (go_at_call 38; have hq := (callN _ (hL.sub (by repeat (first | exact List.nil_sublist _ | with_reducible apply List.Sublist.cons_cons | with_reducible apply List.Sublist.cons)))).out; (with_reducible refine hq.mono ?_); rintro e w3 ⟨rfl, hb3⟩; have hL := hL.call hb3; clear hb3 hq)
            | (go_at_call 40; have hq := (callK _ (hL.sub (by repeat (first | exact List.nil_sublist _ | with_reducible apply List.Sublist.cons_cons | with_reducible apply List.Sublist.cons)))).out; (with_reducible refine hq.mono ?_); rintro e w3 ⟨rfl, hb3⟩; have hL := hL.call hb3; clear hb3 hq)
            | ((with_reducible refine gAlloc rfl rfl ?_); (refine ev_allocL rfl hL rfl (by first | exact CellsC.of | exact cells_one (by assumption) (by assumption) | exact cells_agg _ rfl) ?_; clear hL; intro gq wq hL)) | ((with_reducible refine gBox rfl rfl ?_); (refine ev_boxL rfl hL rfl rfl (by first | exact CellsC.of | exact cells_one (by assumption) (by assumption) | exact cells_agg _ rfl) ?_; clear hL; intro gq wq hL)) | ((with_reducible refine gLoad rfl rfl ?_); (first | (refine ev_load1L rfl hL rfl rfl HasV.mem (by rfl) ?_) | (refine ev_loadAllL rfl hL rfl rfl HasV.mem (by rfl) ?_) | (refine ev_loadL rfl hL rfl rfl HasV.mem SegC.seg ?_))) | ((with_reducible refine gStore rfl rfl ?_); (first | (refine ev_storeC rfl hL rfl rfl rfl (by first | exact CellsC.of | exact cells_one (by assumption) (by assumption) | exact cells_agg _ rfl) (by rfl) ?_) | (refine ev_storeAllC rfl hL rfl rfl rfl (by first | exact CellsC.of | exact cells_one (by assumption) (by assumption) | exact cells_agg _ rfl) (by rfl) (by rfl) ?_)); clear hL; intro wq hL) | ((with_reducible refine gLoadG rfl rfl ?_ ?_); (exact wanted_some rfl rfl rfl (by with_reducible rfl)); (first | (refine ev_load1G (wanted_some rfl rfl rfl rfl) hL rfl rfl HasV.mem (by rfl) ?_) | (refine ev_loadAllG (wanted_some rfl rfl rfl rfl) hL rfl rfl HasV.mem (by rfl) ?_) | (refine ev_loadG_ (wanted_some rfl rfl rfl rfl) hL rfl rfl HasV.mem SegC.seg ?_)))
            | ((with_reducible refine gLit rfl rfl ?_); refine ev_litL (cs := Evt.cells q.e) rfl hL rfl rfl rfl (by kernel_rfl) ?_; clear hL; intro gq wq hL)
            | (at_builtin; refine ev_app1L (E := encEp) q rfl hL rfl rfl rfl (by first | exact mm0 | exact mm1 | exact mm2 | exact mm3 | exact mm4 | exact mm5 | exact mm6 | exact mm7 | exact mm8) (by first | exact fun _ => ss0 | exact fun _ => ss1 | exact fun _ => ss2 | exact fun _ => ss3 | exact fun _ => ss4 | exact fun _ => ss5 | exact fun _ => ss6) rfl rfl rfl (by omega) hL.size ?_; clear hL; intro ao' c' wq hL))
          go_roundw
          case rel => exact ⟨k + 1, _, by omega, by go_num, rfl, by rw [HT.out]; exact hL.sub (by repeat (first | exact List.nil_sublist _ | with_reducible apply List.Sublist.cons_cons | with_reducible apply List.Sublist.cons))⟩
          case measure => simp [intOf]; omega
      · have HT2 : Hid ((ps.take (k + 1)).filter (fun p => p.d.about id) = L ++ [q]) := Lib.hid (by have := HT.out; simpa using this)
        clear HT
        have HT := HT2
        clear HT2
        go_wp2_with (first
          | ((with_reducible refine gIndex rfl rfl ?_); refine ev_indexL rfl rfl rfl rfl hlt ?_) | ((with_reducible refine gate (N := 14) rfl ?_); refine ev_loadR rfl rfl rfl hrW (by rfl) ?_)
          | (go_at_call 38; have hq := (callN _ (hL.sub (by repeat (first | exact List.nil_sublist _ | with_reducible apply List.Sublist.cons_cons | with_reducible apply List.Sublist.cons)))).out; (with_reducible refine hq.mono ?_); rintro e w3 ⟨rfl, hb3⟩; have hL := hL.call hb3; clear hb3 hq)
          | (go_at_call 40; have hq := (callK _ (hL.sub (by repeat (first | exact List.nil_sublist _ | with_reducible apply List.Sublist.cons_cons | with_reducible apply List.Sublist.cons)))).out; (with_reducible refine hq.mono ?_); rintro e w3 ⟨rfl, hb3⟩; have hL := hL.call hb3; clear hb3 hq)
          | ((with_reducible refine gAlloc rfl rfl ?_); (refine ev_allocL rfl hL rfl (by first | exact CellsC.of | exact cells_one (by assumption) (by assumption) | exact cells_agg _ rfl) ?_; clear hL; intro gq wq hL)) | ((with_reducible refine gBox rfl rfl ?_); (refine ev_boxL rfl hL rfl rfl (by first | exact CellsC.of | exact cells_one (by assumption) (by assumption) | exact cells_agg _ rfl) ?_; clear hL; intro gq wq hL)) | ((with_reducible refine gLoad rfl rfl ?_); (first | (refine ev_load1L rfl hL rfl rfl HasV.mem (by rfl) ?_) | (refine ev_loadAllL rfl hL rfl rfl HasV.mem (by rfl) ?_) | (refine ev_loadL rfl hL rfl rfl HasV.mem SegC.seg ?_))) | ((with_reducible refine gStore rfl rfl ?_); (first | (refine ev_storeC rfl hL rfl rfl rfl (by first | exact CellsC.of | exact cells_one (by assumption) (by assumption) | exact cells_agg _ rfl) (by rfl) ?_) | (refine ev_storeAllC rfl hL rfl rfl rfl (by first | exact CellsC.of | exact cells_one (by assumption) (by assumption) | exact cells_agg _ rfl) (by rfl) (by rfl) ?_)); clear hL; intro wq hL) | ((with_reducible refine gLoadG rfl rfl ?_ ?_); (exact wanted_some rfl rfl rfl (by with_reducible rfl)); (first | (refine ev_load1G (wanted_some rfl rfl rfl rfl) hL rfl rfl HasV.mem (by rfl) ?_) | (refine ev_loadAllG (wanted_some rfl rfl rfl rfl) hL rfl rfl HasV.mem (by rfl) ?_) | (refine ev_loadG_ (wanted_some rfl rfl rfl rfl) hL rfl rfl HasV.mem SegC.seg ?_)))
          | ((with_reducible refine gLit rfl rfl ?_); refine ev_litL (cs := Evt.cells q.e) rfl hL rfl rfl rfl (by kernel_rfl) ?_; clear hL; intro gq wq hL)
          | (at_builtin; refine ev_app1L (E := encEp) q rfl hL rfl rfl rfl (by first | exact mm0 | exact mm1 | exact mm2 | exact mm3 | exact mm4 | exact mm5 | exact mm6 | exact mm7 | exact mm8) (by first | exact fun _ => ss0 | exact fun _ => ss1 | exact fun _ => ss2 | exact fun _ => ss3 | exact fun _ => ss4 | exact fun _ => ss5 | exact fun _ => ss6) rfl rfl rfl (by omega) hL.size ?_; clear hL; intro ao' c' wq hL))
        go_roundw
        case rel => exact ⟨k + 1, _, by omega, by go_num, rfl, by rw [HT.out]; exact hL.sub (by repeat (first | exact List.nil_sublist _ | with_reducible apply List.Sublist.cons_cons | with_reducible apply List.Sublist.cons))⟩
        case measure => simp [intOf]; omega
    · obtain rfl : k = ps.length := by omega
      have HT0 := Lib.hid (show ps.take ps.length = ps from List.take_length)
      rw [HT0.out] at hL
      go_wp2_with (first | ((with_reducible refine gAlloc rfl rfl ?_); (refine ev_allocL rfl hL rfl (by first | exact CellsC.of | exact cells_one (by assumption) (by assumption) | exact cells_agg _ rfl) ?_; clear hL; intro gq wq hL)) | ((with_reducible refine gBox rfl rfl ?_); (refine ev_boxL rfl hL rfl rfl (by first | exact CellsC.of | exact cells_one (by assumption) (by assumption) | exact cells_agg _ rfl) ?_; clear hL; intro gq wq hL)) | ((with_reducible refine gLoad rfl rfl ?_); (first | (refine ev_load1L rfl hL rfl rfl HasV.mem (by rfl) ?_) | (refine ev_loadAllL rfl hL rfl rfl HasV.mem (by rfl) ?_) | (refine ev_loadL rfl hL rfl rfl HasV.mem SegC.seg ?_))) | ((with_reducible refine gStore rfl rfl ?_); (first | (refine ev_storeC rfl hL rfl rfl rfl (by first | exact CellsC.of | exact cells_one (by assumption) (by assumption) | exact cells_agg _ rfl) (by rfl) ?_) | (refine ev_storeAllC rfl hL rfl rfl rfl (by first | exact CellsC.of | exact cells_one (by assumption) (by assumption) | exact cells_agg _ rfl) (by rfl) (by rfl) ?_)); clear hL; intro wq hL) | ((with_reducible refine gLoadG rfl rfl ?_ ?_); (exact wanted_some rfl rfl rfl (by with_reducible rfl)); (first | (refine ev_load1G (wanted_some rfl rfl rfl rfl) hL rfl rfl HasV.mem (by rfl) ?_) | (refine ev_loadAllG (wanted_some rfl rfl rfl rfl) hL rfl rfl HasV.mem (by rfl) ?_) | (refine ev_loadG_ (wanted_some rfl rfl rfl rfl) hL rfl rfl HasV.mem SegC.seg ?_))))
      go_ret
      exact ⟨_, rfl, hL.drop⟩
end Go.Proofs.YtebpacmhdkgfeaaDoor

/- slices.Clone of events. -/
namespace Go.Proofs.YtebpacmhdkgfeaaDoor
open Go.RowKit

set_option maxHeartbeats 2000000 in
theorem clone_events (v : Value) (xs : List Ep) (w : World) (h : encEp.R w v xs) (hn : xs.length ≤ 1000000000) :
    Calls Tryd.prog 13 #[v] w fun e w' => ∃ u, e = .returned u ∧ Loc w NoM w' [row encEp w.heap.size 31 u xs] := by
  have hL := Loc.nil w NoM
  have HR := Lib.hid h
  obtain ⟨ao, c, rfl, hel⟩ := R_elem h
  have hq : ∀ w, (binOp .eql 38 (.slice ao xs.length c) (.slice none 0 0)).run Tryd.prog w = .ok (.bool ao.isNone) w := fun w => Lib.run_eql_slice_nil w 38 31 ao xs.length c 0 0 Tryd.underlying38
  clear h
  cases ao with
  | none =>
    obtain rfl : xs = [] := by
      cases xs with
      | nil => rfl
      | cons x l => obtain ⟨g, off, e, -⟩ := hel 0 (by simp); cases e
    have hq : ∀ w, (binOp .eql 38 (.slice none 0 c) (.slice none 0 0)).run Tryd.prog w = .ok (.bool true) w := hq
    have hL := hL.rowOff encEp w.heap.size 31
    clear HR hel
    show Calls _ _ #[.slice none 0 c] w _
    go_enter Tryd.func13, Tryd.ntmps13
    go_wp2_with (first | ((with_reducible refine gAlloc rfl rfl ?_); (refine ev_allocL rfl hL rfl (by first | exact CellsC.of | exact cells_one (by assumption) (by assumption) | exact cells_agg _ rfl) ?_; clear hL; intro gq wq hL)) | ((with_reducible refine gBox rfl rfl ?_); (refine ev_boxL rfl hL rfl rfl (by first | exact CellsC.of | exact cells_one (by assumption) (by assumption) | exact cells_agg _ rfl) ?_; clear hL; intro gq wq hL)) | ((with_reducible refine gLoad rfl rfl ?_); (first | (refine ev_load1L rfl hL rfl rfl HasV.mem (by rfl) ?_) | (refine ev_loadAllL rfl hL rfl rfl HasV.mem (by rfl) ?_) | (refine ev_loadL rfl hL rfl rfl HasV.mem SegC.seg ?_))) | ((with_reducible refine gStore rfl rfl ?_); (first | (refine ev_storeC rfl hL rfl rfl rfl (by first | exact CellsC.of | exact cells_one (by assumption) (by assumption) | exact cells_agg _ rfl) (by rfl) ?_) | (refine ev_storeAllC rfl hL rfl rfl rfl (by first | exact CellsC.of | exact cells_one (by assumption) (by assumption) | exact cells_agg _ rfl) (by rfl) (by rfl) ?_)); clear hL; intro wq hL) | ((with_reducible refine gLoadG rfl rfl ?_ ?_); (exact wanted_some rfl rfl rfl (by with_reducible rfl)); (first | (refine ev_load1G (wanted_some rfl rfl rfl rfl) hL rfl rfl HasV.mem (by rfl) ?_) | (refine ev_loadAllG (wanted_some rfl rfl rfl rfl) hL rfl rfl HasV.mem (by rfl) ?_) | (refine ev_loadG_ (wanted_some rfl rfl rfl rfl) hL rfl rfl HasV.mem SegC.seg ?_))))
    go_ret
    exact ⟨_, rfl, hL⟩
  | some a =>
    have hq : ∀ w, (binOp .eql 38 (.slice (some a) xs.length c) (.slice none 0 0)).run Tryd.prog w = .ok (.bool false) w := hq
    clear hel
    go_enter Tryd.func13, Tryd.ntmps13
    go_wp2_with (first
      | ((with_reducible refine gLit rfl rfl ?_); refine ev_lit0 encEp w.heap.size rfl hL rfl (Nat.le_refl _) ?_; clear hL; intro gq wq hL)
      | ((with_reducible refine gAlloc rfl rfl ?_); (refine ev_allocL rfl hL rfl (by first | exact CellsC.of | exact cells_one (by assumption) (by assumption) | exact cells_agg _ rfl) ?_; clear hL; intro gq wq hL)) | ((with_reducible refine gBox rfl rfl ?_); (refine ev_boxL rfl hL rfl rfl (by first | exact CellsC.of | exact cells_one (by assumption) (by assumption) | exact cells_agg _ rfl) ?_; clear hL; intro gq wq hL)) | ((with_reducible refine gLoad rfl rfl ?_); (first | (refine ev_load1L rfl hL rfl rfl HasV.mem (by rfl) ?_) | (refine ev_loadAllL rfl hL rfl rfl HasV.mem (by rfl) ?_) | (refine ev_loadL rfl hL rfl rfl HasV.mem SegC.seg ?_))) | ((with_reducible refine gStore rfl rfl ?_); (first | (refine ev_storeC rfl hL rfl rfl rfl (by first | exact CellsC.of | exact cells_one (by assumption) (by assumption) | exact cells_agg _ rfl) (by rfl) ?_) | (refine ev_storeAllC rfl hL rfl rfl rfl (by first | exact CellsC.of | exact cells_one (by assumption) (by assumption) | exact cells_agg _ rfl) (by rfl) (by rfl) ?_)); clear hL; intro wq hL) | ((with_reducible refine gLoadG rfl rfl ?_ ?_); (exact wanted_some rfl rfl rfl (by with_reducible rfl)); (first | (refine ev_load1G (wanted_some rfl rfl rfl rfl) hL rfl rfl HasV.mem (by rfl) ?_) | (refine ev_loadAllG (wanted_some rfl rfl rfl rfl) hL rfl rfl HasV.mem (by rfl) ?_) | (refine ev_loadG_ (wanted_some rfl rfl rfl rfl) hL rfl rfl HasV.mem SegC.seg ?_)))
      | (at_builtin; refine ev_appL (E := encEp) xs rfl hL rfl rfl rfl (HR.out.below hL.below) (by first | exact fun _ => ss0 | exact fun _ => ss1 | exact fun _ => ss2 | exact fun _ => ss3 | exact fun _ => ss4 | exact fun _ => ss5 | exact fun _ => ss6) rfl rfl (by simpa using Nat.le_trans hn (by decide)) hL.size ?_; clear hL; intro v' wq hL))
    go_ret
    exact ⟨_, rfl, by simpa using hL⟩
end Go.Proofs.YtebpacmhdkgfeaaDoor

/- Stable sorting, in plain lists: what is sorted and keeps each class of equals in its order is one list; how pieces go together. -/
namespace Go.Proofs.YtebpacmhdkgfeaaDoor.Stab
variable {α : Type} (lt : α → α → Bool)

/-- A strict order by keys. -/
structure Ord (lt : α → α → Bool) : Prop where
  asymm : ∀ x y, lt x y = true → lt y x = false
  part : ∀ x y z, lt x z = true → lt x y = true ∨ lt y z = true
namespace Ord
variable {lt} (h : Ord lt)
include h
theorem irrefl (x : α) : lt x x = false := by
  cases hx : lt x x
  · rfl
  · have := h.asymm x x hx; rw [hx] at this; exact this
theorem trans {x y z : α} (h1 : lt x y = true) (h2 : lt y z = true) : lt x z = true := by
  rcases h.part x z y h1 with h3 | h3
  · exact h3
  · have := h.asymm y z h2; rw [this] at h3; cases h3
/-- le is transitive. -/
theorem le_trans {x y z : α} (h1 : lt y x = false) (h2 : lt z y = false) : lt z x = false := by
  cases h3 : lt z x
  · rfl
  · rcases h.part z y x h3 with h4 | h4
    · rw [h2] at h4; cases h4
    · rw [h1] at h4; cases h4
theorem lt_le {x y z : α} (h1 : lt x y = true) (h2 : lt z y = false) : lt x z = true := by
  rcases h.part x z y h1 with h3 | h3
  · exact h3
  · rw [h2] at h3; cases h3
theorem le_lt {x y z : α} (h1 : lt y x = false) (h2 : lt y z = true) : lt x z = true := by
  rcases h.part y x z h2 with h3 | h3
  · rw [h1] at h3; cases h3
  · exact h3
end Ord
def eqv (z x : α) : Bool := !lt z x && !lt x z
def Sorted (l : List α) : Prop := l.Pairwise fun x y => lt y x = false
/-- l' is l in order, equals in their old order. -/
structure Of (l l' : List α) : Prop where
  sorted : Sorted lt l'
  perm : l'.Perm l
  cls : ∀ z, l'.filter (eqv lt z) = l.filter (eqv lt z)
variable {lt}
theorem Of.refl {l : List α} (h : Sorted lt l) : Of lt l l := ⟨h, .refl _, fun _ => rfl⟩
theorem Of.len {l l' : List α} (h : Of lt l l') : l'.length = l.length := h.perm.length_eq
theorem Of.mem {l l' : List α} (h : Of lt l l') {x : α} : x ∈ l' ↔ x ∈ l := h.perm.mem_iff
/-- First rearranged so that classes stay, then sorted. -/
theorem Of.of_cls {l m l' : List α} (h : Of lt m l') (hp : m.Perm l) (hc : ∀ z, m.filter (eqv lt z) = l.filter (eqv lt z)) : Of lt l l' := ⟨h.sorted, h.perm.trans hp, fun z => (h.cls z).trans (hc z)⟩
theorem Of.append (ho : Ord lt) {l1 l2 k1 k2 : List α} (h1 : Of lt l1 k1) (h2 : Of lt l2 k2) (h : ∀ x ∈ l1, ∀ y ∈ l2, lt y x = false) : Of lt (l1 ++ l2) (k1 ++ k2) := by
  refine ⟨List.pairwise_append.2 ⟨h1.sorted, h2.sorted, fun x hx y hy => h x (h1.mem.1 hx) y (h2.mem.1 hy)⟩, h1.perm.append h2.perm, fun z => ?_⟩
  rw [List.filter_append, List.filter_append, h1.cls, h2.cls]
theorem eqv_refl (ho : Ord lt) (x : α) : eqv lt x x = true := by simp [eqv, ho.irrefl]
theorem Of.uniq (ho : Ord lt) : ∀ {l k1 k2 : List α}, Of lt l k1 → Of lt l k2 → k1 = k2 := by
  have key : ∀ (k1 k2 : List α), Sorted lt k1 → Sorted lt k2 → k1.Perm k2 → (∀ z, k1.filter (eqv lt z) = k2.filter (eqv lt z)) → k1 = k2 := by
    intro k1
    induction k1 with
    | nil => intro k2 _ _ hp _; exact (hp.symm.eq_nil).symm
    | cons a t ih =>
      intro k2 s1 s2 hp hc
      match k2, s2, hp, hc with
      | [], _, hp, _ => exact hp.eq_nil
      | b :: u, s2, hp, hc =>
        have p1 := List.pairwise_cons.1 s1
        have p2 := List.pairwise_cons.1 s2
        have hab : lt b a = false := by
          have hm : b ∈ a :: t := hp.mem_iff.2 (.head _)
          rcases List.mem_cons.1 hm with rfl | hm
          · exact ho.irrefl _
          · exact p1.1 b hm
        have hba : lt a b = false := by
          have hm : a ∈ b :: u := hp.mem_iff.1 (.head _)
          rcases List.mem_cons.1 hm with rfl | hm
          · exact ho.irrefl _
          · exact p2.1 a hm
        have e1 : eqv lt a b = true := by simp [eqv, hab, hba]
        have h1 := hc a
        rw [List.filter_cons_of_pos (by exact eqv_refl ho a), List.filter_cons_of_pos (by exact e1)] at h1
        injection h1 with hh _
        subst hh
        congr 1
        refine ih u p1.2 p2.2 (List.perm_cons a |>.1 hp) fun z => ?_
        have h2 := hc z
        by_cases hz : eqv lt z a = true
        · rw [List.filter_cons_of_pos hz, List.filter_cons_of_pos hz] at h2
          injection h2
        · rw [List.filter_cons_of_neg hz, List.filter_cons_of_neg hz] at h2
          exact h2
  intro l k1 k2 h1 h2
  exact key k1 k2 h1.sorted h2.sorted (h1.perm.trans h2.perm.symm) fun z => (h1.cls z).trans (h2.cls z).symm

/-- One more, behind all that are not greater. -/
def ins (lt : α → α → Bool) (x : α) : List α → List α
  | [] => [x]
  | y :: l => if lt x y = true then x :: y :: l else y :: ins lt x l
/-- One behind the other. -/
def isort (lt : α → α → Bool) (l : List α) : List α := l.foldl (fun acc x => ins lt x acc) []
theorem isort_snoc (l : List α) (x : α) : isort lt (l ++ [x]) = ins lt x (isort lt l) := by simp [isort]
theorem ins_split (x : α) : ∀ (l1 l2 : List α), (∀ y ∈ l1, lt x y = false) → (∀ y ∈ l2.head?, lt x y = true) → ins lt x (l1 ++ l2) = l1 ++ x :: l2
  | [], [], _, _ => rfl
  | [], y :: l2, _, h2 => by show ins lt x (y :: l2) = _; unfold ins; rw [if_pos (h2 y rfl)]; rfl
  | y :: l1, l2, h1, h2 => by
    show ins lt x (y :: (l1 ++ l2)) = _
    unfold ins
    rw [if_neg (by rw [h1 y (.head _)]; simp), ins_split x l1 l2 (fun z hz => h1 z (.tail _ hz)) h2]; rfl
theorem ins_perm (x : α) : ∀ l : List α, (ins lt x l).Perm (l ++ [x])
  | [] => .refl _
  | y :: l => by
    unfold ins
    split
    · have : (x :: (y :: l)).Perm ((y :: l) ++ [x]) := List.perm_append_comm (l₁ := [x])
      exact this
    · exact (ins_perm x l).cons y
theorem ins_of (ho : Ord lt) (x : α) {l : List α} (hs : Sorted lt l) : Of lt (l ++ [x]) (ins lt x l) := by
  refine ⟨?_, ins_perm x l, ?_⟩
  · induction l with
    | nil => exact List.pairwise_singleton _ _
    | cons y l ih =>
      have p := List.pairwise_cons.1 hs
      unfold ins
      split
      · rename_i h
        refine List.pairwise_cons.2 ⟨fun z hz => ?_, hs⟩
        rcases List.mem_cons.1 hz with rfl | hz
        · exact ho.asymm _ _ h
        · exact ho.le_trans (ho.asymm _ _ h) (p.1 z hz)
      · rename_i h
        refine List.pairwise_cons.2 ⟨fun z hz => ?_, ih p.2⟩
        have hm := (ins_perm x l).mem_iff.1 hz
        rcases List.mem_append.1 hm with hm | hm
        · exact p.1 z hm
        · rw [List.mem_singleton.1 hm]; simpa using h
  · intro z
    induction l with
    | nil => rfl
    | cons y l ih =>
      have p := List.pairwise_cons.1 hs
      unfold ins
      split
      · rename_i h
        by_cases hz : eqv lt z x = true
        · -- nothing behind x is its equal
          have hn : (y :: l).filter (eqv lt z) = [] := by
            rw [List.filter_eq_nil_iff]
            intro u hu he
            have hxu : lt x u = true := by
              rcases List.mem_cons.1 hu with rfl | hu
              · exact h
              · exact ho.lt_le h (p.1 u hu)
            simp only [eqv, Bool.and_eq_true, Bool.not_eq_true'] at hz he
            rcases ho.part x z u hxu with h3 | h3
            · rw [hz.2] at h3; cases h3
            · rw [he.1] at h3; cases h3
          rw [List.filter_append, hn, List.filter_cons_of_pos hz, hn]
          simp [hz]
        · rw [List.filter_cons_of_neg hz, List.filter_append]
          simp [hz]
      · rw [List.cons_append, List.filter_cons, List.filter_cons, ih p.2]
theorem isort_of (ho : Ord lt) (l : List α) : Of lt l (isort lt l) := by
  have key : ∀ k : List α, Of lt k.reverse (isort lt k.reverse) := by
    intro k
    induction k with
    | nil => exact ⟨.nil, .refl _, fun _ => rfl⟩
    | cons x k ih =>
      rw [List.reverse_cons, isort_snoc]
      have h1 := ins_of ho x ih.sorted
      refine h1.of_cls (ih.perm.append_right _) fun z => ?_
      rw [List.filter_append, List.filter_append, ih.cls]
  have := key l.reverse
  rwa [List.reverse_reverse] at this
/-- Two sorted runs, where the second piece of the one and the first of the other are exchanged. -/
theorem Of.cross (ho : Ord lt) {A1 A2 B1 B2 L R : List α} (hA : ∀ x ∈ A1, ∀ y ∈ A2, lt y x = false) (hB : ∀ x ∈ B1, ∀ y ∈ B2, lt y x = false) (h12 : ∀ x ∈ A1, ∀ y ∈ B2, lt y x = false) (h21 : ∀ x ∈ B1, ∀ y ∈ A2, lt x y = true)
    (hL : Of lt (A1 ++ B1) L) (hR : Of lt (A2 ++ B2) R) : Of lt ((A1 ++ A2) ++ (B1 ++ B2)) (L ++ R) := by
  have h := Of.append ho hL hR (fun x hx y hy => by
    rcases List.mem_append.1 hx with hx | hx <;> rcases List.mem_append.1 hy with hy | hy
    · exact hA x hx y hy
    · exact h12 x hx y hy
    · exact ho.asymm _ _ (h21 x hx y hy)
    · exact hB x hx y hy)
  refine h.of_cls ?_ fun z => ?_
  · have e1 : (A1 ++ B1 ++ (A2 ++ B2)).Perm (A1 ++ (B1 ++ A2) ++ B2) := by simp
    have e2 : (A1 ++ (B1 ++ A2) ++ B2).Perm (A1 ++ (A2 ++ B1) ++ B2) := ((List.perm_append_comm).append_left _).append_right _
    exact e1.trans (e2.trans (by simp))
  · simp only [List.filter_append, List.append_assoc]
    congr 1
    rw [← List.append_assoc, ← List.append_assoc]
    congr 1
    -- of B1 and A2 one has no equal of z
    by_cases hb : B1.filter (eqv lt z) = []
    · rw [hb]; simp
    · have ha : A2.filter (eqv lt z) = [] := by
        rw [List.filter_eq_nil_iff]
        intro y hy he
        obtain ⟨x, hx⟩ := List.exists_mem_of_ne_nil _ hb
        obtain ⟨hx1, hx2⟩ := List.mem_filter.1 hx
        have h3 := h21 x hx1 y hy
        simp only [eqv, Bool.and_eq_true, Bool.not_eq_true'] at hx2 he
        rcases ho.part x z y h3 with h4 | h4
        · rw [hx2.2] at h4; cases h4
        · rw [he.1] at h4; cases h4
      rw [ha]; simp

/-! ### Exchanges -/
theorem nil_or_snoc (l : List α) : l = [] ∨ ∃ l' x, l = l' ++ [x] := by
  rcases List.eq_nil_or_concat l with h | ⟨l', x, h⟩
  · exact .inl h
  · exact .inr ⟨l', x, by rw [h]; simp⟩
theorem exch_at (L1 L2 L3 : List α) (x y : α) : (L1 ++ x :: (L2 ++ y :: L3))[L1.length]? = some x ∧ (L1 ++ x :: (L2 ++ y :: L3))[L1.length + 1 + L2.length]? = some y ∧
    ((L1 ++ x :: (L2 ++ y :: L3)).set L1.length y).set (L1.length + 1 + L2.length) x = L1 ++ y :: (L2 ++ x :: L3) := by
  refine ⟨by simp, ?_, ?_⟩
  · rw [List.getElem?_append_right (by omega), show L1.length + 1 + L2.length - L1.length = L2.length + 1 from by omega, List.getElem?_cons_succ, List.getElem?_append_right (by omega), Nat.sub_self]; rfl
  · rw [List.set_append_right _ _ (by omega), Nat.sub_self, List.set_cons_zero, List.set_append_right _ _ (by omega), show L1.length + 1 + L2.length - L1.length = L2.length + 1 from by omega, List.set_cons_succ, List.set_append_right _ _ (by omega), Nat.sub_self, List.set_cons_zero]
theorem exch_at' (L1 L2 L3 : List α) (x y : α) : ((L1 ++ x :: (L2 ++ y :: L3)).set (L1.length + 1 + L2.length) x).set L1.length y = L1 ++ y :: (L2 ++ x :: L3) := by
  rw [List.set_comm _ _ (by omega)]
  exact (exch_at L1 L2 L3 x y).2.2
theorem take_snoc' {l : List α} {i : Nat} {x : α} (h : l[i]? = some x) : l.take (i + 1) = l.take i ++ [x] := by
  obtain ⟨hi, rfl⟩ := List.getElem?_eq_some_iff.1 h
  exact List.take_succ_eq_append_getElem hi
theorem drop_cons' {l : List α} {i : Nat} {x : α} (h : l[i]? = some x) : l.drop i = x :: l.drop (i + 1) := by
  obtain ⟨hi, rfl⟩ := List.getElem?_eq_some_iff.1 h
  exact List.drop_eq_getElem_cons hi
theorem swap_step (P A M B R : List α) (i : Nat) (x y : α) (hx : A[i]? = some x) (hy : B[i]? = some y) (_ : A.length = B.length) :
    (P ++ (B.take i ++ A.drop i) ++ M ++ (A.take i ++ B.drop i) ++ R)[(P ++ B.take i).length]? = some x ∧ (P ++ (B.take i ++ A.drop i) ++ M ++ (A.take i ++ B.drop i) ++ R)[(P ++ B.take i).length + 1 + (A.drop (i + 1) ++ M ++ A.take i).length]? = some y ∧
    ((P ++ (B.take i ++ A.drop i) ++ M ++ (A.take i ++ B.drop i) ++ R).set (P ++ B.take i).length y).set ((P ++ B.take i).length + 1 + (A.drop (i + 1) ++ M ++ A.take i).length) x = P ++ (B.take (i + 1) ++ A.drop (i + 1)) ++ M ++ (A.take (i + 1) ++ B.drop (i + 1)) ++ R := by
  have e1 : P ++ (B.take i ++ A.drop i) ++ M ++ (A.take i ++ B.drop i) ++ R = (P ++ B.take i) ++ x :: ((A.drop (i + 1) ++ M ++ A.take i) ++ y :: (B.drop (i + 1) ++ R)) := by
    rw [drop_cons' hx, drop_cons' hy]; simp
  have e2 : P ++ (B.take (i + 1) ++ A.drop (i + 1)) ++ M ++ (A.take (i + 1) ++ B.drop (i + 1)) ++ R = (P ++ B.take i) ++ y :: ((A.drop (i + 1) ++ M ++ A.take i) ++ x :: (B.drop (i + 1) ++ R)) := by
    rw [take_snoc' hx, take_snoc' hy]; simp
  rw [e1, e2]
  exact exch_at _ _ _ _ _
theorem one_left (ho : Ord lt) {x : α} {B1 B3 : List α} (hs : Sorted lt (B1 ++ B3)) (h1 : ∀ y ∈ B1, lt y x = true) (h3 : ∀ y ∈ B3, lt y x = false) : Of lt ([x] ++ (B1 ++ B3)) (B1 ++ x :: B3) := by
  have hp := List.pairwise_append.1 hs
  have hR : Sorted lt (x :: B3) := List.pairwise_cons.2 ⟨h3, hp.2.1⟩
  have := Of.cross (A1 := []) (A2 := [x]) (B1 := B1) (B2 := B3) (L := B1) (R := x :: B3) ho (by simp) (fun y hy z hz => hp.2.2 y hy z hz) (by simp) (fun y hy z hz => by rw [List.mem_singleton.1 hz]; exact h1 y hy) (by simpa using Of.refl hp.1) (Of.refl hR)
  simpa using this
theorem one_right (ho : Ord lt) {y : α} {A1 A3 : List α} (hs : Sorted lt (A1 ++ A3)) (h1 : ∀ z ∈ A1, lt y z = false) (h3 : ∀ z ∈ A3, lt y z = true) : Of lt ((A1 ++ A3) ++ [y]) (A1 ++ y :: A3) := by
  have hp := List.pairwise_append.1 hs
  have hL : Sorted lt (A1 ++ [y]) := List.pairwise_append.2 ⟨hp.1, List.pairwise_singleton _ _, fun z hz u hu => by rw [List.mem_singleton.1 hu]; exact h1 z hz⟩
  have := Of.cross (A1 := A1) (A2 := A3) (B1 := [y]) (B2 := []) (L := A1 ++ [y]) (R := A3) ho (fun z hz u hu => hp.2.2 z hz u hu) (by simp) (by simp) (fun z hz u hu => by rw [List.mem_singleton.1 hz]; exact h3 u hu) (Of.refl hL) (by simpa using Of.refl hp.2.1)
  simpa using this
end Go.Proofs.YtebpacmhdkgfeaaDoor.Stab

/- Merging by halves, in plain lists. -/
namespace Go.Proofs.YtebpacmhdkgfeaaDoor.Stab
variable {α : Type} {lt : α → α → Bool}
theorem sorted_le (ho : Ord lt) {l : List α} (h : Sorted lt l) {i j : Nat} {x y : α} (hij : i ≤ j) (hx : l[i]? = some x) (hy : l[j]? = some y) : lt y x = false := by
  obtain ⟨h1, rfl⟩ := List.getElem?_eq_some_iff.1 hx
  obtain ⟨h2, rfl⟩ := List.getElem?_eq_some_iff.1 hy
  rcases Nat.lt_or_eq_of_le hij with h3 | rfl
  · exact List.pairwise_iff_getElem.1 h i j h1 h2 h3
  · exact ho.irrefl _
/-- What the search tells of a place: b's is, or is not, ahead of a's. -/
def At (lt : α → α → Bool) (A B : List α) (i j : Nat) (v : Bool) : Prop := ∀ x y, A[i]? = some x → B[j]? = some y → lt y x = v
theorem At.down (ho : Ord lt) {A B : List α} (hA : Sorted lt A) (hB : Sorted lt B) {i j i' j' : Nat} (hi : i' ≤ i) (hj : j ≤ j') (hiA : i < A.length) (hjB : j < B.length) (h : At lt A B i j false) : At lt A B i' j' false := by
  intro x y hx hy
  obtain ⟨x0, hx0⟩ : ∃ x0, A[i]? = some x0 := ⟨_, List.getElem?_eq_getElem hiA⟩
  obtain ⟨y0, hy0⟩ : ∃ y0, B[j]? = some y0 := ⟨_, List.getElem?_eq_getElem hjB⟩
  have h1 := h x0 y0 hx0 hy0
  have h2 := sorted_le ho hA hi hx hx0
  have h3 := sorted_le ho hB hj hy0 hy
  exact ho.le_trans (ho.le_trans h2 h1) h3
theorem At.up (ho : Ord lt) {A B : List α} (hA : Sorted lt A) (hB : Sorted lt B) {i j i' j' : Nat} (hi : i ≤ i') (hj : j' ≤ j) (hiA : i < A.length) (hjB : j < B.length) (h : At lt A B i j true) : At lt A B i' j' true := by
  intro x y hx hy
  obtain ⟨x0, hx0⟩ : ∃ x0, A[i]? = some x0 := ⟨_, List.getElem?_eq_getElem hiA⟩
  obtain ⟨y0, hy0⟩ : ∃ y0, B[j]? = some y0 := ⟨_, List.getElem?_eq_getElem hjB⟩
  have h1 := h x0 y0 hx0 hy0
  have h2 := sorted_le ho hA hi hx0 hx
  have h3 := sorted_le ho hB hj hy hy0
  exact ho.lt_le (ho.le_lt h3 h1) h2
theorem Sorted.take {l : List α} (h : Sorted lt l) (k : Nat) : Sorted lt (l.take k) := List.Pairwise.sublist (List.take_sublist _ _) h
theorem Sorted.drop {l : List α} (h : Sorted lt l) (k : Nat) : Sorted lt (l.drop k) := List.Pairwise.sublist (List.drop_sublist _ _) h
/-- Where the two are cut they may be exchanged. -/
theorem sym_cross (ho : Ord lt) {A B L R : List α} (hA : Sorted lt A) (hB : Sorted lt B) (k1 k2 : Nat) (hk1 : k1 ≤ A.length) (hk2 : k2 ≤ B.length) (p1 : 0 < k1 → At lt A B (k1 - 1) k2 false) (p2 : 0 < k2 → At lt A B k1 (k2 - 1) true)
    (hL : Of lt (A.take k1 ++ B.take k2) L) (hR : Of lt (A.drop k1 ++ B.drop k2) R) : Of lt (A ++ B) (L ++ R) := by
  have e : A ++ B = (A.take k1 ++ A.drop k1) ++ (B.take k2 ++ B.drop k2) := by rw [List.take_append_drop, List.take_append_drop]
  rw [e]
  refine Of.cross ho ?_ ?_ ?_ ?_ hL hR
  · have h := hA
    rw [← List.take_append_drop k1 A] at h
    exact fun x hx y hy => (List.pairwise_append.1 h).2.2 x hx y hy
  · have h := hB
    rw [← List.take_append_drop k2 B] at h
    exact fun x hx y hy => (List.pairwise_append.1 h).2.2 x hx y hy
  · intro x hx y hy
    obtain ⟨i, hi⟩ := List.mem_iff_getElem?.1 hx
    obtain ⟨j, hj⟩ := List.mem_iff_getElem?.1 hy
    rw [List.getElem?_drop] at hj
    have hik : i < k1 ∧ i < A.length := by have := (List.getElem?_eq_some_iff.1 hi).1; rw [List.length_take] at this; omega
    rw [List.getElem?_take_of_lt hik.1] at hi
    have hjB := (List.getElem?_eq_some_iff.1 hj).1
    exact At.down ho hA hB (i := k1 - 1) (j := k2) (by omega) (by omega) (by omega) (by omega) (p1 (by omega)) x y hi hj
  · intro x hx y hy
    obtain ⟨j, hj⟩ := List.mem_iff_getElem?.1 hx
    obtain ⟨i, hi⟩ := List.mem_iff_getElem?.1 hy
    rw [List.getElem?_drop] at hi
    have hjk : j < k2 ∧ j < B.length := by have := (List.getElem?_eq_some_iff.1 hj).1; rw [List.length_take] at this; omega
    rw [List.getElem?_take_of_lt hjk.1] at hj
    have hiA := (List.getElem?_eq_some_iff.1 hi).1
    exact At.up ho hA hB (i := k1) (j := k2 - 1) (by omega) (by omega) (by omega) (by omega) (p2 (by omega)) y x hi hj
end Go.Proofs.YtebpacmhdkgfeaaDoor.Stab

/- Where the halves of a merge are cut. -/
namespace Go.Proofs.YtebpacmhdkgfeaaDoor.Stab
variable {α : Type} {lt : α → α → Bool}
theorem Of.self (ho : Ord lt) {l : List α} (h : Sorted lt l) : Of lt l l := ⟨h, .refl _, fun _ => rfl⟩
structure SymCut (lt : α → α → Bool) (A B A1 A2 B1 B2 : List α) (a m b mid e i : Nat) : Prop where
  eA : A = A1 ++ A2
  eB : B = B1 ++ B2
  num : i = a + A1.length ∧ mid = i + B1.length ∧ e = mid + A2.length ∧ b = e + B2.length ∧ m = i + A2.length
  s : Sorted lt A1 ∧ Sorted lt B1 ∧ Sorted lt A2 ∧ Sorted lt B2
  o1 : A1 = [] ∨ B1 = [] → Of lt (A1 ++ B1) (A1 ++ B1)
  o2 : A2 = [] ∨ B2 = [] → Of lt (A2 ++ B2) (A2 ++ B2)
  cross : ∀ L R, Of lt (A1 ++ B1) L → Of lt (A2 ++ B2) R → Of lt (A ++ B) (L ++ R)
theorem Of.skip (ho : Ord lt) {A B : List α} (hA : Sorted lt A) (hB : Sorted lt B) (h : A = [] ∨ B = []) : Of lt (A ++ B) (A ++ B) := by
  rcases h with rfl | rfl
  · exact Of.self ho (by simpa using hB)
  · exact Of.self ho (by simpa using hA)
theorem symCut (ho : Ord lt) {A B : List α} {a m b mid e i : Nat} (hA : Sorted lt A) (hB : Sorted lt B) (h1 : a ≤ i) (h2 : i ≤ mid) (h3 : m = a + A.length) (h4 : b = m + B.length) (h5 : i ≤ m) (h6 : mid - i ≤ B.length) (h7 : e + i = mid + m)
    (f1 : a < i → At lt A B (i - 1 - a) (mid - i) false) (f2 : i < mid → At lt A B (i - a) (mid - 1 - i) true) : SymCut lt A B (A.take (i - a)) (A.drop (i - a)) (B.take (mid - i)) (B.drop (mid - i)) a m b mid e i := by
  have s1 := hA.take (i - a)
  have s2 := hA.drop (i - a)
  have s3 := hB.take (mid - i)
  have s4 := hB.drop (mid - i)
  refine ⟨(List.take_append_drop _ _).symm, (List.take_append_drop _ _).symm, ?_, ⟨s1, s3, s2, s4⟩, Of.skip ho s1 s3, Of.skip ho s2 s4, fun L R hL hR => ?_⟩
  · simp only [List.length_take, List.length_drop]
    omega
  · refine sym_cross ho hA hB (i - a) (mid - i) (by omega) h6 (fun h => ?_) (fun h => ?_) hL hR
    · rw [show i - a - 1 = i - 1 - a from by omega]; exact f1 (by omega)
    · rw [show mid - i - 1 = mid - 1 - i from by omega]; exact f2 (by omega)
end Go.Proofs.YtebpacmhdkgfeaaDoor.Stab

/- A list cut into blocks of k, each sorted within itself. -/
namespace Go.Proofs.YtebpacmhdkgfeaaDoor.Stab
variable {α : Type} {lt : α → α → Bool} {k : Nat}
theorem Of.join {A A' B B' L : List α} (h1 : Of lt A A') (h2 : Of lt B B') (h3 : Of lt (A' ++ B') L) : Of lt (A ++ B) L :=
  ⟨h3.sorted, h3.perm.trans (h1.perm.append h2.perm), fun z => by rw [h3.cls, List.filter_append, List.filter_append, h1.cls, h2.cls]⟩
inductive Ch (lt : α → α → Bool) (k : Nat) : List α → List α → Prop
  | last {l l' : List α} : l.length ≤ k → Of lt l l' → Ch lt k l l'
  | cons {l l' r r' : List α} : l.length = k → Of lt l l' → Ch lt k r r' → Ch lt k (l ++ r) (l' ++ r')
inductive Full (lt : α → α → Bool) (k : Nat) : List α → List α → Prop
  | nil : Full lt k [] []
  | snoc {d d' l l' : List α} : Full lt k d d' → l.length = k → Of lt l l' → Full lt k (d ++ l) (d' ++ l')
theorem Full.then {d d' : List α} (h : Full lt k d d') : ∀ {r r' : List α}, Ch lt k r r' → Ch lt k (d ++ r) (d' ++ r') := by
  induction h with
  | nil => exact fun h => h
  | snoc h1 h2 h3 ih =>
    intro r r' h
    rw [List.append_assoc, List.append_assoc]
    exact ih (.cons h2 h3 h)
theorem Full.finish {d d' l l' : List α} (h : Full lt k d d') (h1 : l.length ≤ k) (h2 : Of lt l l') : Ch lt k (d ++ l) (d' ++ l') := h.then (.last h1 h2)
theorem Full.len {d d' : List α} (h : Full lt k d d') : d'.length = d.length := by
  induction h with
  | nil => rfl
  | snoc h1 h2 h3 ih => rw [List.length_append, List.length_append, ih, h3.perm.length_eq]
theorem Ch.len {d d' : List α} (h : Ch lt k d d') : d'.length = d.length := by
  induction h with
  | last h1 h2 => exact h2.perm.length_eq
  | cons h1 h2 h3 ih => rw [List.length_append, List.length_append, ih, h2.perm.length_eq]
theorem Ch.one {t t' : List α} (h : Ch lt k t t') (hk : t.length ≤ k) : Of lt t t' := by
  cases h with
  | last h1 h2 => exact h2
  | cons h1 h2 h3 =>
    rename_i l l' r r'
    have hr : r = [] := List.eq_nil_of_length_eq_zero (by rw [List.length_append] at hk; omega)
    have hl := h3.len
    rw [hr] at hl
    have hr' : r' = [] := List.eq_nil_of_length_eq_zero (by rw [hl]; rfl)
    rw [hr, hr', List.append_nil, List.append_nil]
    exact h2
theorem Ch.first {t t' : List α} (h : Ch lt k t t') (hk : k ≤ t.length) : ∃ l l' r r', t = l ++ r ∧ t' = l' ++ r' ∧ l.length = k ∧ Of lt l l' ∧ (Ch lt k r r') := by
  cases h with
  | last h1 h2 => exact ⟨t, t', [], [], by simp, by simp, by omega, h2, .last (by simp) ⟨.nil, .refl _, fun _ => rfl⟩⟩
  | cons h1 h2 h3 => exact ⟨_, _, _, _, rfl, rfl, h1, h2, h3⟩
theorem Ch.two {t t' : List α} (h : Ch lt k t t') (hk : k + k ≤ t.length) : ∃ A B r A' B' r', t = A ++ B ++ r ∧ t' = A' ++ B' ++ r' ∧ A'.length = k ∧ B'.length = k ∧ A.length = k ∧ B.length = k ∧ Sorted lt A' ∧ Sorted lt B' ∧ (∀ L, Of lt (A' ++ B') L → Of lt (A ++ B) L) ∧ Ch lt k r r' := by
  obtain ⟨A, A', q, q', rfl, rfl, h1, h2, h3⟩ := h.first (by omega)
  rw [List.length_append] at hk
  obtain ⟨B, B', r, r', rfl, rfl, h4, h5, h6⟩ := h3.first (by omega)
  exact ⟨A, B, r, A', B', r', by simp, by simp, by rw [h2.perm.length_eq, h1], by rw [h5.perm.length_eq, h4], h1, h4, h2.sorted, h5.sorted, fun L h => h2.join h5 h, h6⟩
theorem Ch.rest {t t' : List α} (h : Ch lt k t t') (hk : k ≤ t.length) (hk2 : t.length ≤ k + k) : ∃ A B A' B', t = A ++ B ∧ t' = A' ++ B' ∧ A'.length = k ∧ A.length = k ∧ B'.length = B.length ∧ Sorted lt A' ∧ Sorted lt B' ∧ (∀ L, Of lt (A' ++ B') L → Of lt (A ++ B) L) := by
  obtain ⟨A, A', q, q', rfl, rfl, h1, h2, h3⟩ := h.first (by omega)
  rw [List.length_append] at hk hk2
  have h4 := h3.one (by omega)
  exact ⟨A, q, A', q', rfl, rfl, by rw [h2.perm.length_eq, h1], h1, h3.len, h2.sorted, h4.sorted, fun L h => h2.join h4 h⟩
end Go.Proofs.YtebpacmhdkgfeaaDoor.Stab

/- Events on the elements of a row: addresses, loads, exchanges. Over any program. -/
namespace Go.Proofs.YtebpacmhdkgfeaaDoor
open Go.RowKit

section
variable {P : Program} {ops : Array Oper} {rest : List Oper} {o : Oper} {a : Act} {Q : Exit → Act → World → Prop} {Qs : Act → Prop} {K : Act → Prop} {C : World → Prop} {W w0 : World} {M : Nat → Prop} {l l' : List Item}
variable {α : Type} {E : Enc α} {T te : TypeId}
theorem run_indexRow {x ix : Operand} {g n c i : Nat} {k : IntKind} [ht : SliceT P te T] [hsz : SizeT P T E.sz] (ho : o.op = .indexAddr te x ix) (hx : a.eval x = .slice (some ⟨g, 0, none⟩) n c) (hix : a.eval ix = .int k i) (hi : i < n) (w : World) :
    (execOp a.eval o).run P w = .ok (.value (.pointer (some ⟨g, i * E.sz, none⟩))) w := by
  have := run_index (P := P) (e := T) (sz := E.sz) ho hx hix hi w
  rwa [Nat.zero_add] at this
theorem quiet_indexRow (E : Enc α) {x ix : Operand} {g n c i : Nat} {k : IntKind} [ht : SliceT P te T] [hsz : SizeT P T E.sz] (ho : o.op = .indexAddr te x ix) (hx : a.eval x = .slice (some ⟨g, 0, none⟩) n c) (hix : a.eval ix = .int k i) (hi : i < n)
    (h : K (a.put o.dst (.pointer (some ⟨g, i * E.sz, none⟩)))) : o.quiet P a C K := by
  refine ⟨_, fun w hw => ?_, h⟩
  unfold Oper.quietAt
  rw [run_indexRow (E := E) ho hx hix hi w]
  exact ⟨rfl, rfl⟩
theorem row_range {w : World} {base g n c i : Nat} {te : TypeId} {xs : List α} {y : α} (h : E.O w base te (.slice (some ⟨g, 0, none⟩) n c) xs) (hy : xs[i]? = some y) : w.rangeAt g (i * E.sz) (E.cells y) := by
  obtain ⟨hi, rfl⟩ := List.getElem?_eq_some_iff.1 hy
  obtain ⟨ao, c', e1, hel⟩ := R_elem h.read
  obtain ⟨g', off, e2, hr⟩ := hel i hi
  injection e1 with e1 _ _
  rw [e2] at e1
  injection e1 with e1
  injection e1 with e3 e4
  subst e3 e4
  rwa [Nat.zero_add] at hr
theorem run_loadRow {x : Operand} {base g n c i : Nat} {te' : TypeId} {xs : List α} {y : α} [ha : AggT P T] [hn : SizeT P T E.sz] (hO : E.O W base te' (.slice (some ⟨g, 0, none⟩) n c) xs) (ho : o.op = .load T x) (hx : a.eval x = .pointer (some ⟨g, i * E.sz, none⟩)) (hy : xs[i]? = some y) :
    (execOp a.eval o).run P W = .ok (.value (.agg (E.cells y).toArray)) W := by
  obtain ⟨d, hu, hd⟩ := isRow_of ha.agg
  unfold execOp
  simp only [ho, hx, Instr.loadAt, Instr.sureAddr, Sem.run_bind, Sem.run_pure, Result.andThen_ok, run_loadVar_mid W g (i * E.sz) T (E.cells y) d (row_range hO hy) hu hd (by rw [E.len]; exact hn.size)]
theorem quiet_loadRow {x : Operand} {base g n c i : Nat} {te' : TypeId} {xs : List α} {y : α} [ha : AggT P T] [hn : SizeT P T E.sz] (hL : Loc w0 M W l) (hm : row E base te' (.slice (some ⟨g, 0, none⟩) n c) xs ∈ l) (ho : o.op = .load T x) (hx : a.eval x = .pointer (some ⟨g, i * E.sz, none⟩)) (hy : xs[i]? = some y)
    (h : K (a.put o.dst (.agg (E.cells y).toArray))) : o.quiet P a (fun w' => ∃ e : Ext W, w' = e.w) K := by
  refine ⟨.agg (E.cells y).toArray, ?_, h⟩
  rintro _ ⟨e, rfl⟩
  unfold Oper.quietAt
  rw [run_loadRow (E := E) ((hL.call e.ok).own hm) ho hx hy]
  exact ⟨rfl, rfl⟩
theorem run_setRow {p x : Operand} {base g n c i : Nat} {te' : TypeId} {xs : List α} {y : α} [hn : SizeT P T E.sz] (hL : Loc w0 M W l) (hs : Swap (row E base te' (.slice (some ⟨g, 0, none⟩) n c) xs) (row E base te' (.slice (some ⟨g, 0, none⟩) n c) (xs.set i y)) l l')
    (ho : o.op = .store T p x) (hp : a.eval p = .pointer (some ⟨g, i * E.sz, none⟩)) (hx : a.eval x = .agg (E.cells y).toArray) (hi : i < xs.length) :
    ∃ w1, (execOp a.eval o).run P W = .ok .skip w1 ∧ Loc w0 M w1 l' := by
  obtain ⟨w1, hst, hO, hm⟩ := O_set (P := P) (hL.own hs.mem) i hi y
  obtain ⟨inf, hii, hsz⟩ := Option.map_eq_some_iff.1 hn.size
  have hst2 : (storeVar T ⟨g, i * E.sz, none⟩ (.agg (E.cells y).toArray)).run P W = .ok () w1 := by
    simp [storeVar, sizeOf, typeInfo, hii, hsz, Value.cells, E.len, hst]
  refine ⟨w1, ?_, hL.swap hs (hm.mono fun k _ hk => ?_) (row_at hO) fun _ hk => .inl hk⟩
  · unfold execOp
    simp only [ho, hp, hx, Instr.storeAt, Instr.sureAddr, Sem.run_bind, Sem.run_pure, Result.andThen_ok, hst2]
  · show (Value.slice (some ⟨g, 0, none⟩) n c).ownBlock = some k
    rw [hk]; rfl
theorem wpOp_skip {i : Nat} {w w' : World} {K : Act → World → Prop} (hi : ops[i]? = some o) (hg : o.guard = none) (hr : (execOp a.eval o).run P w = .ok .skip w') (h : K (a.put o.dst undef) w') : wpOp P ops Q i K a w := by
  have hw : Region.wanted o (yielded ops a.tmps) = true := by simp [Region.wanted, hg]
  unfold wpOp
  simp only [hi, hw, if_true]
  refine .inl ?_
  unfold Oper.wp
  rw [hr]
  exact h
end
section
variable {P : Program} {ops : Array Oper} {o : Oper} {a : Act}
theorem run_addN (t : TypeId) (m n : Nat) (h : m + n ≤ 9223372036854775807) (w : World) : (binOp .add t (.int .i64 m) (.int .i64 n)).run P w = .ok (.int .i64 ((m + n : Nat) : Int)) w := by
  have h1 : ((m : Int) + (n : Int)) ≤ 9223372036854775807 := by omega
  simp [go_sem]
  rw [IntKind.wrap_i64]; omega
theorem run_subN (t : TypeId) (m n : Nat) (h : n ≤ m) (hm : m ≤ 9223372036854775807) (w : World) : (binOp .sub t (.int .i64 m) (.int .i64 n)).run P w = .ok (.int .i64 ((m - n : Nat) : Int)) w := by
  simp [go_sem]
  rw [IntKind.wrap_i64]; omega
theorem y_move {x : Operand} (v : Value) (hg : o.guard = none) (ho : o.op = .move x) (hx : a.eval x = v) : Yields P ops o v a := by
  refine .inl ⟨by simp [Region.wanted, hg], fun w => ?_⟩
  simp [execOp, ho, hx]
theorem y_add {t r : TypeId} {x y : Operand} (m n : Nat) (hg : o.guard = none) (ho : o.op = .binOp .add t x y r) (hx : a.eval x = .int .i64 m) (hy : a.eval y = .int .i64 n) (h : m + n ≤ 9223372036854775807) : Yields P ops o (.int .i64 ((m + n : Nat) : Int)) a := by
  refine .inl ⟨by simp [Region.wanted, hg], fun w => ?_⟩
  simp [execOp, ho, hx, hy, eqGuard, Sem.run_bind, run_addN t m n h w]
theorem y_sub {t r : TypeId} {x y : Operand} (m n : Nat) (hg : o.guard = none) (ho : o.op = .binOp .sub t x y r) (hx : a.eval x = .int .i64 m) (hy : a.eval y = .int .i64 n) (h : n ≤ m) (hm : m ≤ 9223372036854775807) : Yields P ops o (.int .i64 ((m - n : Nat) : Int)) a := by
  refine .inl ⟨by simp [Region.wanted, hg], fun w => ?_⟩
  simp [execOp, ho, hx, hy, eqGuard, Sem.run_bind, run_subN t m n h hm w]
theorem y_index {α : Type} (E : Enc α) {T te : TypeId} {x ix : Operand} {g n c : Nat} {k : IntKind} (i : Nat) [ht : SliceT P te T] [hsz : SizeT P T E.sz] (hg : o.guard = none) (ho : o.op = .indexAddr te x ix) (hx : a.eval x = .slice (some ⟨g, 0, none⟩) n c) (hix : a.eval ix = .int k i) (hi : i < n) :
    Yields P ops o (.pointer (some ⟨g, i * E.sz, none⟩)) a := .inl ⟨by simp [Region.wanted, hg], fun w => run_indexRow ho hx hix hi w⟩
end
/-- Two loads, in whichever order. -/
theorem wpAny_loads {P : Program} {md : Region.Mode} {ol : List Oper} {Q : Exit → Act → World → Prop} {a : Act} {W w0 : World} {M : Nat → Prop} {l : List Item} {α : Type} {E : Enc α} {T : TypeId} {base g n c ix jx : Nat} {te : TypeId} {xs : List α} {x y : α} [ha : AggT P T] [hn : SizeT P T E.sz]
    {f i j : Nat} {oi oj : Oper} {listed : Array Bool} {pi pj di dj : Tmp} (hi : Nth ol i oi) (hj : Nth ol j oj) (gi : oi.guard = none) (gj : oj.guard = none)
    (r1 : Region.ready md ol.toArray listed = [i, j]) (r2 : Region.ready md ol.toArray (listed.setIfInBounds i true) = [j]) (r3 : Region.ready md ol.toArray (listed.setIfInBounds j true) = [i])
    (nij : i ≠ j) (oi1 : oi.op = .load T (.tmp pi)) (oj1 : oj.op = .load T (.tmp pj)) (di1 : oi.dst = some di) (dj1 : oj.dst = some dj)
    (nd : (decide (di ≠ dj ∧ di ≠ pj ∧ dj ≠ pi)) = true)
    (hL : Loc w0 M W l) (hmem : row E base te (.slice (some ⟨g, 0, none⟩) n c) xs ∈ l) (xi : a.eval (.tmp pi) = .pointer (some ⟨g, jx * E.sz, none⟩)) (xj : a.eval (.tmp pj) = .pointer (some ⟨g, ix * E.sz, none⟩)) (hyj : xs[jx]? = some y) (hxi : xs[ix]? = some x)
    (H : wpAny P md ol.toArray Q f ((listed.setIfInBounds i true).setIfInBounds j true) ((a.put (some di) (.agg (E.cells y).toArray)).put (some dj) (.agg (E.cells x).toArray)) W) :
    wpAny P md ol.toArray Q (f + 2) listed a W := by
  simp only [decide_eq_true_eq] at nd
  obtain ⟨n1, n3, n6⟩ := nd
  have ne : ∀ {p q : Tmp}, p ≠ q → (some p : Option Tmp) ≠ some q := fun h e => h (Option.some.inj e)
  have c1 : (a.put (some dj) (.agg (E.cells x).toArray)).put (some di) (.agg (E.cells y).toArray) = (a.put (some di) (.agg (E.cells y).toArray)).put (some dj) (.agg (E.cells x).toArray) :=
    Act.put_comm a _ _ (fun d h1 h2 => n1 (Option.some.inj (h2.trans h1.symm)))
  have l1' : (listed.setIfInBounds j true).setIfInBounds i true = (listed.setIfInBounds i true).setIfInBounds j true := Array.setIfInBounds_comm _ _ nij.symm
  refine wpAny_all r1 (by simp) fun z hz => ?_
  rcases List.mem_cons.1 hz with rfl | hz
  · refine wpOp_run hi.get gi (run_loadRow (hL.own hmem) oi1 xi hyj) (wpAny_all r2 (by simp) fun z hz => ?_)
    obtain rfl := List.mem_singleton.1 hz
    rw [di1]
    refine wpOp_run hj.get gj (run_loadRow (hL.own hmem) oj1 (by rw [eval_put_ne (ne n3)]; exact xj) hxi) ?_
    rw [dj1]
    exact H
  · obtain rfl := List.mem_singleton.1 hz
    refine wpOp_run hj.get gj (run_loadRow (hL.own hmem) oj1 xj hxi) (wpAny_all r3 (by simp) fun z hz => ?_)
    obtain rfl := List.mem_singleton.1 hz
    rw [dj1]
    refine wpOp_run hi.get gi (run_loadRow (hL.own hmem) oi1 (by rw [eval_put_ne (ne n6)]; exact xi) hyj) ?_
    rw [di1, c1, l1']
    exact H
/-- Two stores, one behind the other, and the end. -/
theorem wpAny_stores {P : Program} {md : Region.Mode} {ol : List Oper} {Q : Exit → Act → World → Prop} {a : Act} {W w0 : World} {M : Nat → Prop} {l l1 l2 : List Item} {α : Type} {E : Enc α} {T : TypeId} {base g n c ix jx : Nat} {te : TypeId} {xs : List α} {x y : α} [hn : SizeT P T E.sz]
    {f k m : Nat} {ok om : Oper} {listed : Array Bool} {pk pm di dj : Tmp} (hk : Nth ol k ok) (hm : Nth ol m om) (gk : ok.guard = none) (gm : om.guard = none)
    (r4 : Region.ready md ol.toArray listed = [k]) (r5 : Region.ready md ol.toArray (listed.setIfInBounds k true) = [m]) (r6 : Region.ready md ol.toArray ((listed.setIfInBounds k true).setIfInBounds m true) = [])
    (ok1 : ok.op = .store T (.tmp pk) (.tmp di)) (om1 : om.op = .store T (.tmp pm) (.tmp dj)) (dk1 : ok.dst = none) (dm1 : om.dst = none)
    (hL : Loc w0 M W l) (hli : ix < xs.length) (hlj : jx < xs.length)
    (xk : a.eval (.tmp pk) = .pointer (some ⟨g, ix * E.sz, none⟩)) (xm : a.eval (.tmp pm) = .pointer (some ⟨g, jx * E.sz, none⟩)) (ei : a.eval (.tmp di) = .agg (E.cells y).toArray) (ej : a.eval (.tmp dj) = .agg (E.cells x).toArray)
    (hs1 : Swap (row E base te (.slice (some ⟨g, 0, none⟩) n c) xs) (row E base te (.slice (some ⟨g, 0, none⟩) n c) (xs.set ix y)) l l1) (hs2 : Swap (row E base te (.slice (some ⟨g, 0, none⟩) n c) (xs.set ix y)) (row E base te (.slice (some ⟨g, 0, none⟩) n c) ((xs.set ix y).set jx x)) l1 l2)
    (H : ∀ w1, Loc w0 M w1 l2 → Q .normal ((a.put none undef).put none undef) w1) :
    wpAny P md ol.toArray Q (f + 2) listed a W := by
  obtain ⟨w1, hr1, hL1⟩ := run_setRow (P := P) (a := a) (o := ok) (T := T) (E := E) (y := y) hL hs1 ok1 xk ei hli
  refine wpAny_all r4 (by simp) fun z hz => ?_
  obtain rfl := List.mem_singleton.1 hz
  refine wpOp_skip hk.get gk hr1 (wpAny_all r5 (by simp) fun z hz => ?_)
  obtain rfl := List.mem_singleton.1 hz
  rw [dk1]
  obtain ⟨w2, hr2, hL2⟩ := run_setRow (P := P) (a := a.put none undef) (o := om) (T := T) (E := E) (y := x) hL1 hs2 om1 (show a.eval (.tmp pm) = _ from xm) (show a.eval (.tmp dj) = _ from ej) (by rw [List.length_set]; exact hlj)
  refine wpOp_skip hm.get gm hr2 (wpAny_done r6 ?_ _)
  rw [dm1]
  exact H w2 hL2
/-- A call that turns the row at g, seen from before. -/
theorem Loc.overRow {α : Type} {E : Enc α} {w0 w w1 : World} {base g n c : Nat} {te : TypeId} {xs ys : List α} (h : Loc w0 (· = g) w [row E base te (.slice (some ⟨g, 0, none⟩) n c) xs]) (h2 : Loc w (· = g) w1 [row E base te (.slice (some ⟨g, 0, none⟩) n c) ys]) :
    Loc w0 (· = g) w1 [row E base te (.slice (some ⟨g, 0, none⟩) n c) ys] :=
  ⟨h.mod.trans h2.mod fun _ _ e => e, h2.at_, fun i hi k hk => by
    rcases h2.new i hi k hk with h3 | h3
    · exact .inl (Nat.le_trans h.size h3)
    · exact .inr h3, h2.apart⟩
end Go.Proofs.YtebpacmhdkgfeaaDoor

/- slices.SortStableFunc at []crannog/api.Event: printed by gen_sort.py. -/
namespace Go.Proofs.YtebpacmhdkgfeaaDoor.SortEv
open Go.RowKit

variable {α : Type} (E : Enc α)
abbrev Own (w : World) (base g n c : Nat) (xs : List α) : Prop := E.O w base 31 (.slice (some ⟨g, 0, none⟩) n c) xs
abbrev it (base g n c : Nat) (xs : List α) : Item := row E base 31 (.slice (some ⟨g, 0, none⟩) n c) xs
theorem ofR {w0 w : World} {M : Nat → Prop} {base g n c : Nat} {xs : List α} (h : Loc w0 M w [it E base g n c xs]) : Own E w base g n c xs := h.own (.head _)
theorem openR {w : World} {base g n c : Nat} {xs : List α} (h : Own E w base g n c xs) : Loc w (· = g) w [it E base g n c xs] := by
  refine ⟨.refl _ _, fun i hi => ?_, fun i hi k hk => ?_, .cons (by simp) .nil⟩
  · rw [List.mem_singleton.1 hi]; exact row_at h
  · rw [List.mem_singleton.1 hi] at hk
    have hk' : (Value.slice (some ⟨g, 0, none⟩) n c).ownBlock = some k := hk
    injection hk' with hk'
    exact .inr hk'.symm
variable [hsz : SizeT Tryd.prog 31 E.sz]

set_option maxHeartbeats 8000000 in
theorem swap_range (w : World) (base g n c a b k : Nat) (fv : Value) (P A M B R : List α) (h : Own E w base g n c (P ++ A ++ M ++ B ++ R)) (hn : n = (P ++ A ++ M ++ B ++ R).length) (ha : a = P.length) (hA : A.length = k) (hb : b = a + k + M.length) (hB : B.length = k) (hmax : n ≤ 1000000000) :
    Calls Tryd.prog 79 #[.slice (some ⟨g, 0, none⟩) n c, .int .i64 a, .int .i64 b, .int .i64 k, fv] w fun e w' => e = .returned (.tuple #[]) ∧ Loc w (· = g) w' [it E base g n c (P ++ B ++ M ++ A ++ R)] := by
  have hL := openR E h
  have hlen : P.length + k + M.length + k + R.length = n := by rw [hn]; simp; omega
  clear h
  go_enter Tryd.func79, Tryd.ntmps79
  go_wp2
  go_loopw [10] (fun iv wr => ∃ i : Nat, i ≤ k ∧ iv = .int .i64 i ∧ Loc w (· = g) wr [it E base g n c (P ++ (B.take i ++ A.drop i) ++ M ++ (A.take i ++ B.drop i) ++ R)]) (fun iv _ => k - (intOf iv).toNat)
  case atStart => exact ⟨0, by omega, rfl, by simpa using hL⟩
  case round =>
    clear hL
    obtain ⟨i, hi, rfl, hL⟩ := hrel
    by_cases hlt : i < k
    · have t0 : decide ((i : Int) < (k : Int)) = true := by simp; omega
      obtain ⟨x, hx⟩ : ∃ x, A[i]? = some x := ⟨_, List.getElem?_eq_getElem (by omega)⟩
      obtain ⟨y, hy⟩ : ∃ y, B[i]? = some y := ⟨_, List.getElem?_eq_getElem (by omega)⟩
      obtain ⟨q1, q2, q3⟩ := Stab.swap_step P A M B R i x y hx hy (hA.trans hB.symm)
      have ia1 : a + i = (P ++ B.take i).length := by simp; omega
      have ib1 : b + i = (P ++ B.take i).length + 1 + (A.drop (i + 1) ++ M ++ A.take i).length := by simp; omega
      rw [← ib1] at q2 q3
      rw [← ia1] at q1 q3
      go_wp2
      refine region_any (by kernel_rfl) hL ?_
      clear hL
      intro wR hL _ _
      refine wpAny_takeN (i := 0) (by repeat (first | exact .zero _ _ | with_reducible apply Nth.succ)) (by kernel_rfl) (by kernel_rfl) (by kernel_rfl) (by exact fun _ _ _ h => h) (y_move (.slice (some ⟨g, 0, none⟩) n c) rfl rfl (by rfl)) ?_
      refine wpAny_takeN (i := 1) (by repeat (first | exact .zero _ _ | with_reducible apply Nth.succ)) (by kernel_rfl) (by kernel_rfl) (by kernel_rfl) (by exact fun _ _ _ h => h) (y_move (.int .i64 ((a : Nat) : Int)) rfl rfl (by rfl)) ?_
      refine wpAny_takeN (i := 2) (by repeat (first | exact .zero _ _ | with_reducible apply Nth.succ)) (by kernel_rfl) (by kernel_rfl) (by kernel_rfl) (by exact fun _ _ _ h => h) (y_move (.int .i64 ((i : Nat) : Int)) rfl rfl (by rfl)) ?_
      refine wpAny_takeN (i := 3) (by repeat (first | exact .zero _ _ | with_reducible apply Nth.succ)) (by kernel_rfl) (by kernel_rfl) (by kernel_rfl) (by exact fun _ _ _ h => h) (y_add (a) (i) rfl rfl (by rfl) (by rfl) (by omega)) ?_
      refine wpAny_takeN (i := 4) (by repeat (first | exact .zero _ _ | with_reducible apply Nth.succ)) (by kernel_rfl) (by kernel_rfl) (by kernel_rfl) (by exact fun _ _ _ h => h) (y_move (.slice (some ⟨g, 0, none⟩) n c) rfl rfl (by rfl)) ?_
      refine wpAny_takeN (i := 5) (by repeat (first | exact .zero _ _ | with_reducible apply Nth.succ)) (by kernel_rfl) (by kernel_rfl) (by kernel_rfl) (by exact fun _ _ _ h => h) (y_move (.int .i64 ((b : Nat) : Int)) rfl rfl (by rfl)) ?_
      (try simp only [Act.put, List.setIfInBounds_toArray, List.set_cons_succ, List.set_cons_zero])
      refine wpAny_takeN (i := 6) (by repeat (first | exact .zero _ _ | with_reducible apply Nth.succ)) (by kernel_rfl) (by kernel_rfl) (by kernel_rfl) (by exact fun _ _ _ h => h) (y_move (.int .i64 ((i : Nat) : Int)) rfl rfl (by rfl)) ?_
      refine wpAny_takeN (i := 7) (by repeat (first | exact .zero _ _ | with_reducible apply Nth.succ)) (by kernel_rfl) (by kernel_rfl) (by kernel_rfl) (by exact fun _ _ _ h => h) (y_add (b) (i) rfl rfl (by rfl) (by rfl) (by omega)) ?_
      refine wpAny_takeN (i := 8) (by repeat (first | exact .zero _ _ | with_reducible apply Nth.succ)) (by kernel_rfl) (by kernel_rfl) (by kernel_rfl) (by exact fun _ _ _ h => h) (y_move (.slice (some ⟨g, 0, none⟩) n c) rfl rfl (by rfl)) ?_
      refine wpAny_takeN (i := 9) (by repeat (first | exact .zero _ _ | with_reducible apply Nth.succ)) (by kernel_rfl) (by kernel_rfl) (by kernel_rfl) (by exact fun _ _ _ h => h) (y_move (.int .i64 ((b : Nat) : Int)) rfl rfl (by rfl)) ?_
      refine wpAny_takeN (i := 10) (by repeat (first | exact .zero _ _ | with_reducible apply Nth.succ)) (by kernel_rfl) (by kernel_rfl) (by kernel_rfl) (by exact fun _ _ _ h => h) (y_move (.int .i64 ((i : Nat) : Int)) rfl rfl (by rfl)) ?_
      refine wpAny_takeN (i := 11) (by repeat (first | exact .zero _ _ | with_reducible apply Nth.succ)) (by kernel_rfl) (by kernel_rfl) (by kernel_rfl) (by exact fun _ _ _ h => h) (y_add (b) (i) rfl rfl (by rfl) (by rfl) (by omega)) ?_
      (try simp only [Act.put, List.setIfInBounds_toArray, List.set_cons_succ, List.set_cons_zero])
      refine wpAny_takeN (i := 12) (by repeat (first | exact .zero _ _ | with_reducible apply Nth.succ)) (by kernel_rfl) (by kernel_rfl) (by kernel_rfl) (by exact fun _ _ _ h => h) (y_index E (b + i) rfl rfl (by rfl) (by rfl) (by omega)) ?_
      refine wpAny_takeN (i := 14) (by repeat (first | exact .zero _ _ | with_reducible apply Nth.succ)) (by kernel_rfl) (by kernel_rfl) (by kernel_rfl) (by exact fun _ _ _ h => h) (y_move (.slice (some ⟨g, 0, none⟩) n c) rfl rfl (by rfl)) ?_
      refine wpAny_takeN (i := 15) (by repeat (first | exact .zero _ _ | with_reducible apply Nth.succ)) (by kernel_rfl) (by kernel_rfl) (by kernel_rfl) (by exact fun _ _ _ h => h) (y_move (.int .i64 ((a : Nat) : Int)) rfl rfl (by rfl)) ?_
      refine wpAny_takeN (i := 16) (by repeat (first | exact .zero _ _ | with_reducible apply Nth.succ)) (by kernel_rfl) (by kernel_rfl) (by kernel_rfl) (by exact fun _ _ _ h => h) (y_move (.int .i64 ((i : Nat) : Int)) rfl rfl (by rfl)) ?_
      refine wpAny_takeN (i := 17) (by repeat (first | exact .zero _ _ | with_reducible apply Nth.succ)) (by kernel_rfl) (by kernel_rfl) (by kernel_rfl) (by exact fun _ _ _ h => h) (y_add (a) (i) rfl rfl (by rfl) (by rfl) (by omega)) ?_
      refine wpAny_takeN (i := 18) (by repeat (first | exact .zero _ _ | with_reducible apply Nth.succ)) (by kernel_rfl) (by kernel_rfl) (by kernel_rfl) (by exact fun _ _ _ h => h) (y_index E (a + i) rfl rfl (by rfl) (by rfl) (by omega)) ?_
      (try simp only [Act.put, List.setIfInBounds_toArray, List.set_cons_succ, List.set_cons_zero])
      (try simp only [Act.put, List.setIfInBounds_toArray, List.set_cons_succ, List.set_cons_zero])
      refine wpAny_loads (E := E) (ix := a + i) (jx := b + i) (i := 13) (j := 19) (by repeat (first | exact .zero _ _ | with_reducible apply Nth.succ)) (by repeat (first | exact .zero _ _ | with_reducible apply Nth.succ)) rfl rfl (by kernel_rfl) (by kernel_rfl) (by kernel_rfl) (by decide) rfl rfl rfl rfl (by decide) hL (.head _) (by rfl) (by rfl) q2 q1 ?_
      (try simp only [Act.put, List.setIfInBounds_toArray, List.set_cons_succ, List.set_cons_zero])
      refine wpAny_drop 20 (by rfl) (by kernel_rfl) ?_
      simp only [List.drop_succ_cons, List.drop_zero]
      (try simp only [Act.put, List.setIfInBounds_toArray, List.set_cons_succ, List.set_cons_zero])
      refine event rfl (run_indexRow (E := E) (i := a + i) rfl (by rfl) (by rfl) (by omega) _) ?_
      (try simp only [Act.put, List.setIfInBounds_toArray, List.set_cons_succ, List.set_cons_zero])
      refine ev_setRow (E := E) (a + i) y rfl hL rfl (by rfl) rfl (by rfl) ⟨rfl, E.one _⟩ (List.getElem?_eq_some_iff.1 q1).1 (.here _) ?_
      clear hL
      intro wS hL
      (try simp only [Act.put, List.setIfInBounds_toArray, List.set_cons_succ, List.set_cons_zero])
      refine event rfl (run_indexRow (E := E) (i := b + i) rfl (by rfl) (by rfl) (by omega) _) ?_
      (try simp only [Act.put, List.setIfInBounds_toArray, List.set_cons_succ, List.set_cons_zero])
      refine ev_setRow (E := E) (b + i) x rfl hL rfl (by rfl) rfl (by rfl) ⟨rfl, E.one _⟩ (by rw [List.length_set]; exact (List.getElem?_eq_some_iff.1 q2).1) (.here _) ?_
      clear hL
      intro wS hL
      (try simp only [Act.put, List.setIfInBounds_toArray, List.set_cons_succ, List.set_cons_zero])
      rw [q3] at hL
      go_wp2
      go_roundw
      case rel => exact ⟨i + 1, by omega, by go_num, hL⟩
      case measure => simp [intOf]; omega
    · obtain rfl : i = k := by omega
      have t0 : decide ((i : Int) < (i : Int)) = false := by simp
      go_wp2
      go_end0
      rw [List.take_of_length_le (l := A) (by omega), List.take_of_length_le (l := B) (by omega), List.drop_of_length_le (l := A) (by omega), List.drop_of_length_le (l := B) (by omega), List.append_nil, List.append_nil] at hL
      exact ⟨rfl, hL⟩
end Go.Proofs.YtebpacmhdkgfeaaDoor.SortEv

/- slices.SortStableFunc at []crannog/api.Event: printed by gen_sort.py. -/
namespace Go.Proofs.YtebpacmhdkgfeaaDoor.SortEv
open Go.RowKit

variable {α : Type} (E : Enc α) [hsz : SizeT Tryd.prog 31 E.sz]
set_option maxHeartbeats 2000000 in
theorem rotate (w : World) (base g n c a m b : Nat) (fv : Value) (P A B R : List α) (h : Own E w base g n c (P ++ A ++ B ++ R)) (hn : n = (P ++ A ++ B ++ R).length) (ha : a = P.length) (hm : m = a + A.length) (hb : b = m + B.length) (hA : A ≠ []) (hB : B ≠ []) (hmax : n ≤ 1000000000) :
    Calls Tryd.prog 71 #[.slice (some ⟨g, 0, none⟩) n c, .int .i64 a, .int .i64 m, .int .i64 b, fv] w fun e w' => e = .returned (.tuple #[]) ∧ Loc w (· = g) w' [it E base g n c (P ++ B ++ A ++ R)] := by
  have hL := openR E h
  have hlen : P.length + A.length + B.length + R.length = n := by rw [hn]; simp; omega
  have hA0 : 0 < A.length := List.length_pos_iff.2 hA
  have hB0 : 0 < B.length := List.length_pos_iff.2 hB
  have HM := Lib.hid (show m ≤ n ∧ m = P.length + A.length ∧ P.length + A.length + B.length + R.length = n from ⟨by omega, by omega, hlen⟩)
  have e1 : (m : Int) - (a : Int) = (A.length : Int) := by omega
  have e2 : (b : Int) - (m : Int) = (B.length : Int) := by omega
  have hm9 : m ≤ 1000000000 := by omega
  have hA9 : A.length ≤ 1000000000 := by omega
  have hB9 : B.length ≤ 1000000000 := by omega
  clear h hn ha hm hb hlen hA hB
  go_enter Tryd.func71, Tryd.ntmps71
  go_wp2
  clear e1 e2
  go_loopw [10, 11] (fun iv jv wr => ∃ (X U V Y : List α), iv = .int .i64 U.length ∧ jv = .int .i64 V.length ∧ Hid (0 < U.length ∧ 0 < V.length ∧ P.length + X.length + U.length = m ∧ X ++ V ++ U ++ Y = B ++ A) ∧ Loc w (· = g) wr [it E base g n c (P ++ X ++ U ++ V ++ Y ++ R)]) (fun iv jv _ => (intOf iv).toNat + (intOf jv).toNat)
  case atStart => exact ⟨[], A, B, [], rfl, rfl, Lib.hid ⟨hA0, hB0, by have := HM.out; simp; omega, by simp⟩, by simpa using hL⟩
  case round =>
    clear hL
    obtain ⟨X, U, V, Y, rfl, rfl, HI, hL⟩ := hrel
    have HJ : Hid (P.length + X.length + U.length + V.length + Y.length + R.length = n) := Lib.hid (by
      have h1 := HM.out
      have h2 := congrArg List.length HI.out.2.2.2
      simp only [List.length_append] at h2
      omega)
    have hUm : U.length ≤ m := by have := HI.out; omega
    have hV9 : V.length ≤ 1000000000 := by have := HJ.out; omega
    by_cases heq : U.length = V.length
    · have t0 : ((U.length : Int) != (V.length : Int)) = false := by simp [heq]
      have HE := Lib.hid heq
      have hq : ∀ w, Own E w base g n c (P ++ X ++ U ++ V ++ Y ++ R) → Hid (Calls Tryd.prog 79 #[.slice (some ⟨g, 0, none⟩) n c, .int .i64 ((m : Int) - (U.length : Int)), .int .i64 m, .int .i64 U.length, fv] w fun e w' => e = .returned (.tuple #[]) ∧ Loc w (· = g) w' [it E base g n c (P ++ B ++ A ++ R)]) := fun w h => hide (by
        have h1 := HI.out; have h2 := HM.out; have h3 := HJ.out
        have q := swap_range E w base g n c (m - U.length) m U.length fv (P ++ X) U [] V (Y ++ R) (by simpa using h) (by simp; omega) (by simp; omega) rfl (by simp; omega) heq.symm hmax
        rw [show ((m - U.length : Nat) : Int) = (m : Int) - (U.length : Int) from by omega, show P ++ X ++ V ++ [] ++ U ++ (Y ++ R) = P ++ B ++ A ++ R from by rw [List.append_assoc P B, ← h1.2.2.2]; simp] at q
        exact q)
      clear heq HI HJ HM HE
      go_wp2_with (go_at_call 79; (with_reducible refine (unhide (hq _ (ofR E hL))).mono ?_); rintro e w2 ⟨rfl, hL2⟩; have hL := hL.overRow hL2; clear hL2)
      go_end0
      exact ⟨rfl, hL⟩
    · have t0 : ((U.length : Int) != (V.length : Int)) = true := by simp; omega
      by_cases hgt : V.length < U.length
      · have t1 : decide ((V.length : Int) < (U.length : Int)) = true := by simp; omega
        obtain ⟨U1, U2, HU⟩ : ∃ U1 U2, Hid (U = U1 ++ U2 ∧ U1.length = V.length ∧ U2.length = U.length - V.length) := ⟨U.take V.length, U.drop V.length, Lib.hid ⟨(List.take_append_drop _ _).symm, by rw [List.length_take]; omega, List.length_drop⟩⟩
        have hq : ∀ w, Own E w base g n c (P ++ X ++ U ++ V ++ Y ++ R) → Hid (Calls Tryd.prog 79 #[.slice (some ⟨g, 0, none⟩) n c, .int .i64 ((m : Int) - (U.length : Int)), .int .i64 m, .int .i64 V.length, fv] w fun e w' => e = .returned (.tuple #[]) ∧ Loc w (· = g) w' [it E base g n c (P ++ (X ++ V) ++ U2 ++ U1 ++ Y ++ R)]) := fun w h => hide (by
          have h1 := HI.out; have h2 := HM.out; have h3 := HJ.out; have h4 := HU.out
          have q := swap_range E w base g n c (m - U.length) m V.length fv (P ++ X) U1 U2 V (Y ++ R) (by rw [h4.1] at h; simpa using h) (by simp; omega) (by simp; omega) h4.2.1 (by omega) rfl hmax
          rw [show ((m - U.length : Nat) : Int) = (m : Int) - (U.length : Int) from by omega, show P ++ X ++ V ++ U2 ++ U1 ++ (Y ++ R) = P ++ (X ++ V) ++ U2 ++ U1 ++ Y ++ R from by simp] at q
          exact q)
        have HR : Hid ((U2.length : Int) = (U.length : Int) - (V.length : Int) ∧ U1.length = V.length ∧ 0 < U2.length ∧ 0 < U1.length ∧ P.length + (X ++ V).length + U2.length = m ∧ (X ++ V) ++ U1 ++ U2 ++ Y = B ++ A) := Lib.hid (by
          have h1 := HI.out; have h4 := HU.out
          refine ⟨by omega, h4.2.1, by omega, by omega, by simp; omega, ?_⟩
          rw [← h1.2.2.2, h4.1]; simp)
        have hV := HI.out.2.1
        clear HI HJ HU heq
        go_wp2_with (go_at_call 79; (with_reducible refine (unhide (hq _ (ofR E hL))).mono ?_); rintro e w2 ⟨rfl, hL2⟩; have hL := hL.overRow hL2; clear hL2)
        go_roundw
        case rel => exact ⟨X ++ V, U2, U1, Y, by rw [HR.out.1], by rw [HR.out.2.1], Lib.hid HR.out.2.2, hL⟩
        case measure => simp [intOf]; omega
      · have t1 : decide ((V.length : Int) < (U.length : Int)) = false := by simp; omega
        obtain ⟨V1, V2, HU⟩ : ∃ V1 V2, Hid (V = V1 ++ V2 ∧ V1.length = V.length - U.length ∧ V2.length = U.length) := ⟨V.take (V.length - U.length), V.drop (V.length - U.length), Lib.hid ⟨(List.take_append_drop _ _).symm, by rw [List.length_take]; omega, by rw [List.length_drop]; omega⟩⟩
        have hq : ∀ w, Own E w base g n c (P ++ X ++ U ++ V ++ Y ++ R) → Hid (Calls Tryd.prog 79 #[.slice (some ⟨g, 0, none⟩) n c, .int .i64 ((m : Int) - (U.length : Int)), .int .i64 ((m : Int) + (V.length : Int) - (U.length : Int)), .int .i64 U.length, fv] w fun e w' => e = .returned (.tuple #[]) ∧ Loc w (· = g) w' [it E base g n c (P ++ X ++ V2 ++ V1 ++ (U ++ Y) ++ R)]) := fun w h => hide (by
          have h1 := HI.out; have h2 := HM.out; have h3 := HJ.out; have h4 := HU.out
          have q := swap_range E w base g n c (m - U.length) (m + V.length - U.length) U.length fv (P ++ X) U V1 V2 (Y ++ R) (by rw [h4.1] at h; simpa using h) (by simp; omega) (by simp; omega) rfl (by omega) h4.2.2 hmax
          rw [show ((m - U.length : Nat) : Int) = (m : Int) - (U.length : Int) from by omega, show ((m + V.length - U.length : Nat) : Int) = (m : Int) + (V.length : Int) - (U.length : Int) from by omega, show P ++ X ++ V2 ++ V1 ++ U ++ (Y ++ R) = P ++ X ++ V2 ++ V1 ++ (U ++ Y) ++ R from by simp] at q
          exact q)
        have HR : Hid (V2.length = U.length ∧ (V1.length : Int) = (V.length : Int) - (U.length : Int) ∧ 0 < V2.length ∧ 0 < V1.length ∧ P.length + X.length + V2.length = m ∧ X ++ V1 ++ V2 ++ (U ++ Y) = B ++ A) := Lib.hid (by
          have h1 := HI.out; have h4 := HU.out
          refine ⟨h4.2.2, by omega, by omega, by omega, by omega, ?_⟩
          rw [← h1.2.2.2, h4.1]; simp)
        have hU := HI.out.1
        clear HI HJ HU
        go_wp2_with (go_at_call 79; (with_reducible refine (unhide (hq _ (ofR E hL))).mono ?_); rintro e w2 ⟨rfl, hL2⟩; have hL := hL.overRow hL2; clear hL2)
        go_roundw
        case rel => exact ⟨X, V2, V1, U ++ Y, by rw [HR.out.1], by rw [HR.out.2.1], Lib.hid HR.out.2.2, hL⟩
        case measure => simp [intOf]; omega
end Go.Proofs.YtebpacmhdkgfeaaDoor.SortEv

/- slices.SortStableFunc at []crannog/api.Event: printed by gen_sort.py. -/
namespace Go.Proofs.YtebpacmhdkgfeaaDoor.SortEv
open Go.RowKit

variable {α : Type} (E : Enc α) [hsz : SizeT Tryd.prog 31 E.sz]

/-- What is asked of cmp: in every world that the sort comes to. -/
def CmpOk (f : Nat) (cb : Array Value) (cf : α → α → Int) (w0 : World) (g : Nat) : Prop := ∀ x y w, Mod (· = g) w0 w → Calls Tryd.prog f (#[.agg (E.cells x).toArray, .agg (E.cells y).toArray] ++ cb) w fun e w' => e = .returned (.int .i64 (cf x y)) ∧ Below w.heap.size w w'
abbrev ltf (cf : α → α → Int) (x y : α) : Bool := decide (cf x y < 0)
set_option maxHeartbeats 8000000 in
theorem insertion (f : Nat) (cb : Array Value) (cf : α → α → Int) (eg : ∀ args w, (callFunc f args).run Tryd.prog w = .ok (.enter f args) w) (ho : Stab.Ord (ltf cf)) (w : World) (base g n c a b : Nat) (P L R : List α) (hcmp : CmpOk E f cb cf w g) (h : Own E w base g n c (P ++ L ++ R)) (hn : n = (P ++ L ++ R).length) (ha : a = P.length) (hb : b = a + L.length) (hmax : n ≤ 1000000000) :
    Calls Tryd.prog 62 #[.slice (some ⟨g, 0, none⟩) n c, .int .i64 a, .int .i64 b, .func (.func f) #[] cb] w fun e w' => e = .returned (.tuple #[]) ∧ Loc w (· = g) w' [it E base g n c (P ++ Stab.isort (ltf cf) L ++ R)] := by
  have hL := openR E h
  have HN := Lib.hid (show n = P.length + L.length + R.length ∧ a = P.length ∧ b = a + L.length from ⟨by rw [hn]; simp; omega, ha, hb⟩)
  have ha9 : a ≤ 1000000000 := by have := HN.out; omega
  have hb9 : b ≤ 1000000000 := by have := HN.out; omega
  have HC := hide hcmp
  clear h hn ha hb hcmp
  go_enter Tryd.func62, Tryd.ntmps62
  go_wp2
  go_loopw [8] (fun iv wr => ∃ k : Nat, iv = .int .i64 ((a + k : Nat) : Int) ∧ Hid (1 ≤ k ∧ (k ≤ L.length ∨ k = 1)) ∧ Loc w (· = g) wr [it E base g n c (P ++ (Stab.isort (ltf cf) (L.take k) ++ L.drop k) ++ R)]) (fun iv _ => b + 1 - (intOf iv).toNat)
  case atStart =>
    refine ⟨1, rfl, Lib.hid ⟨by omega, .inr rfl⟩, ?_⟩
    have e : Stab.isort (ltf cf) (L.take 1) ++ L.drop 1 = L := by cases L <;> rfl
    rw [e]; exact hL
  case round =>
    clear hL
    obtain ⟨k, rfl, HK, hL⟩ := hrel
    by_cases hlt : a + k < b
    · have t0 : decide (((a + k : Nat) : Int) < (b : Int)) = true := by simp; omega
      have hk : k < L.length := by have := HN.out; omega
      obtain ⟨x, hx⟩ : ∃ x, L[k]? = some x := ⟨_, List.getElem?_eq_getElem hk⟩
      have hdr := Stab.drop_cons' hx
      have HS : Hid (Stab.isort (ltf cf) (L.take (k + 1)) = Stab.ins (ltf cf) x (Stab.isort (ltf cf) (L.take k)) ∧ Stab.Of (ltf cf) (L.take k) (Stab.isort (ltf cf) (L.take k)) ∧ (Stab.isort (ltf cf) (L.take k)).length = k ∧ k < L.length) := Lib.hid (by
        refine ⟨by rw [Stab.take_snoc' hx, Stab.isort_snoc], Stab.isort_of ho _, ?_, hk⟩
        rw [(Stab.isort_of ho _).len, List.length_take]; omega)
      rw [hdr] at hL
      clear hdr hx hk
      go_wp2
      go_loopw [9] (fun jv wr2 => ∃ (L1 L2 : List α), jv = .int .i64 ((a + L1.length : Nat) : Int) ∧ Hid (L1 ++ L2 = Stab.isort (ltf cf) (L.take k) ∧ ∀ y ∈ L2, ltf cf x y = true) ∧ Loc w (· = g) wr2 [it E base g n c (P ++ (L1 ++ x :: L2 ++ L.drop (k + 1)) ++ R)]) (fun jv _ => (intOf jv).toNat)
      case atStart =>
        refine ⟨Stab.isort (ltf cf) (L.take k), [], by rw [HS.out.2.2.1], Lib.hid ⟨by simp, by simp⟩, ?_⟩
        have e : Stab.isort (ltf cf) (L.take k) ++ [x] ++ L.drop (k + 1) = Stab.isort (ltf cf) (L.take k) ++ x :: L.drop (k + 1) := by simp
        rw [e]; exact hL
      case round =>
        clear hL
        obtain ⟨L1, L2, rfl, HI, hL⟩ := hrel
        have hfin : (∀ y ∈ L1, ltf cf x y = false) → Hid (P ++ (L1 ++ x :: L2 ++ L.drop (k + 1)) ++ R = P ++ (Stab.isort (ltf cf) (L.take (k + 1)) ++ L.drop (k + 1)) ++ R) := fun hh => Lib.hid (by
          rw [HS.out.1, ← HI.out.1, Stab.ins_split x L1 L2 hh (fun y hy => HI.out.2 y (List.mem_of_mem_head? hy))])
        have hlen : Hid (n = a + L1.length + 1 + L2.length + (L.length - (k + 1)) + R.length ∧ L1.length ≤ k) := Lib.hid (by
          have h1 := congrArg List.length HI.out.1
          have h2 := HS.out
          have h3 := HN.out
          rw [List.length_append] at h1
          omega)
        rcases Stab.nil_or_snoc L1 with rfl | ⟨L1', y, rfl⟩
        · have t1 : decide ((a : Int) < (a : Int)) = false := by simp
          have HF := hfin (by simp)
          clear hfin
          simp only [List.length_nil, Nat.add_zero]
          go_wp2_with fail
          (try simp only [Act.put, List.setIfInBounds_toArray, List.set_cons_succ, List.set_cons_zero])
          refine wp_region_ext (by kernel_rfl) (by kernel_rfl) ?_
          repeat (go_big_quiet_step (fail))
          refine wpQuiet_nil ?_
          rintro _ ⟨⟨wC, hbC⟩, rfl⟩
          have hL := hL.call hbC
          clear hbC
          rw [HF.out] at hL
          go_wp2
          go_roundw
          case rel => exact ⟨k + 1, by go_num, Lib.hid ⟨by omega, .inl (by have := HS.out; omega)⟩, hL⟩
          case measure => have := HN.out; have := HS.out; simp [intOf]; omega
        · obtain ⟨jp, HP⟩ : ∃ jp, Hid (jp = a + L1'.length ∧ a + (L1' ++ [y]).length = jp + 1) := ⟨_, Lib.hid ⟨rfl, by simp; omega⟩⟩
          have hjp9 : jp + 1 < n := by have h1 := hlen.out; have h2 := HP.out; simp only [List.length_append, List.length_singleton] at h1 h2; omega
          have hajp : a ≤ jp := by have := HP.out; omega
          have t1 : decide ((a : Int) < (jp : Int) + 1) = true := by simp; omega
          obtain ⟨q1, q2, -⟩ := Stab.exch_at (P ++ L1') [] (L2 ++ L.drop (k + 1) ++ R) y x
          have q3 := Stab.exch_at' (P ++ L1') [] (L2 ++ L.drop (k + 1) ++ R) y x
          have hpl : (P ++ L1').length = jp := by have := HP.out; have := HN.out; simp; omega
          simp only [List.nil_append, List.length_nil, Nat.add_zero, hpl] at q1 q2 q3
          have e0 : P ++ (L1' ++ [y] ++ x :: L2 ++ L.drop (k + 1)) ++ R = P ++ L1' ++ y :: x :: (L2 ++ L.drop (k + 1) ++ R) := by simp
          rw [e0] at hL hfin
          rw [HP.out.2]
          have e9 : P ++ L1' ++ x :: y :: (L2 ++ L.drop (k + 1) ++ R) = P ++ (L1' ++ x :: (y :: L2) ++ L.drop (k + 1)) ++ R := by simp
          have HE9 := Lib.hid e9
          clear hpl e0 e9 hlen
          generalize P ++ L1' ++ y :: x :: (L2 ++ L.drop (k + 1) ++ R) = xs at *
          have hy1 := q1
          have hy2 := q2
          have hcq := fun w (hb : Below _ _ w) => unhide HC x y w (hL.mod.trans (Mod.of_below (M := NoM) hb) fun _ _ e => e.elim)
          by_cases hc : cf x y < 0
          · have t2 : decide (cf x y < 0) = true := by simpa using hc
            clear hfin
            go_wp2_with fail
            (try simp only [Act.put, List.setIfInBounds_toArray, List.set_cons_succ, List.set_cons_zero])
            refine wp_region_ext (by kernel_rfl) (by kernel_rfl) ?_
            repeat (first
                    | (go_big_quiet_want; (first | refine quiet_indexRow E rfl (by rfl) (by rfl) (by omega) ?_ | refine quiet_loadRow (E := E) hL (.head _) rfl (by rfl) hy1 ?_ | refine quiet_loadRow (E := E) hL (.head _) rfl (by rfl) hy2 ?_); go_big_quiet_on; simp only [Act.put, List.setIfInBounds_toArray, List.set_cons_succ, List.set_cons_zero])
                    | go_big_quiet_step (first | (go_at_fn f; exact calls_ext (hcq _ (Ext.ok _)))))
            refine wpQuiet_nil ?_
            rintro _ ⟨⟨wC, hbC⟩, rfl⟩
            have hL := hL.call hbC
            clear hbC hcq
            go_wp2_with fail
            clear hy1 hy2
            refine region_any (by kernel_rfl) hL ?_
            clear hL
            intro wR hL _ _
            refine wpAny_takeN (i := 0) (by repeat (first | exact .zero _ _ | with_reducible apply Nth.succ)) (by kernel_rfl) (by kernel_rfl) (by kernel_rfl) (by exact fun _ _ _ h => h) (y_move (.slice (some ⟨g, 0, none⟩) n c) rfl rfl (by rfl)) ?_
            refine wpAny_takeN (i := 1) (by repeat (first | exact .zero _ _ | with_reducible apply Nth.succ)) (by kernel_rfl) (by kernel_rfl) (by kernel_rfl) (by exact fun _ _ _ h => h) (y_move (.int .i64 ((jp + 1 : Nat) : Int)) rfl rfl (by rfl)) ?_
            refine wpAny_takeN (i := 2) (by repeat (first | exact .zero _ _ | with_reducible apply Nth.succ)) (by kernel_rfl) (by kernel_rfl) (by kernel_rfl) (by exact fun _ _ _ h => h) (y_move (.slice (some ⟨g, 0, none⟩) n c) rfl rfl (by rfl)) ?_
            refine wpAny_takeN (i := 3) (by repeat (first | exact .zero _ _ | with_reducible apply Nth.succ)) (by kernel_rfl) (by kernel_rfl) (by kernel_rfl) (by exact fun _ _ _ h => h) (y_move (.int .i64 ((jp + 1 : Nat) : Int)) rfl rfl (by rfl)) ?_
            refine wpAny_takeN (i := 4) (by repeat (first | exact .zero _ _ | with_reducible apply Nth.succ)) (by kernel_rfl) (by kernel_rfl) (by kernel_rfl) (by exact fun _ _ _ h => h) (y_sub (jp + 1) (1) rfl rfl (by rfl) (by rfl) (by omega) (by omega)) ?_
            refine wpAny_takeN (i := 5) (by repeat (first | exact .zero _ _ | with_reducible apply Nth.succ)) (by kernel_rfl) (by kernel_rfl) (by kernel_rfl) (by exact fun _ _ _ h => h) (y_move (.slice (some ⟨g, 0, none⟩) n c) rfl rfl (by rfl)) ?_
            (try simp only [Act.put, List.setIfInBounds_toArray, List.set_cons_succ, List.set_cons_zero])
            refine wpAny_takeN (i := 6) (by repeat (first | exact .zero _ _ | with_reducible apply Nth.succ)) (by kernel_rfl) (by kernel_rfl) (by kernel_rfl) (by exact fun _ _ _ h => h) (y_move (.int .i64 ((jp + 1 : Nat) : Int)) rfl rfl (by rfl)) ?_
            refine wpAny_takeN (i := 7) (by repeat (first | exact .zero _ _ | with_reducible apply Nth.succ)) (by kernel_rfl) (by kernel_rfl) (by kernel_rfl) (by exact fun _ _ _ h => h) (y_sub (jp + 1) (1) rfl rfl (by rfl) (by rfl) (by omega) (by omega)) ?_
            refine wpAny_takeN (i := 8) (by repeat (first | exact .zero _ _ | with_reducible apply Nth.succ)) (by kernel_rfl) (by kernel_rfl) (by kernel_rfl) (by exact fun _ _ _ h => h) (y_index E (jp) rfl rfl (by rfl) (by rfl) (by omega)) ?_
            refine wpAny_takeN (i := 10) (by repeat (first | exact .zero _ _ | with_reducible apply Nth.succ)) (by kernel_rfl) (by kernel_rfl) (by kernel_rfl) (by exact fun _ _ _ h => h) (y_move (.slice (some ⟨g, 0, none⟩) n c) rfl rfl (by rfl)) ?_
            refine wpAny_takeN (i := 11) (by repeat (first | exact .zero _ _ | with_reducible apply Nth.succ)) (by kernel_rfl) (by kernel_rfl) (by kernel_rfl) (by exact fun _ _ _ h => h) (y_move (.int .i64 ((jp + 1 : Nat) : Int)) rfl rfl (by rfl)) ?_
            refine wpAny_takeN (i := 12) (by repeat (first | exact .zero _ _ | with_reducible apply Nth.succ)) (by kernel_rfl) (by kernel_rfl) (by kernel_rfl) (by exact fun _ _ _ h => h) (y_index E (jp + 1) rfl rfl (by rfl) (by rfl) (by omega)) ?_
            (try simp only [Act.put, List.setIfInBounds_toArray, List.set_cons_succ, List.set_cons_zero])
            (try simp only [Act.put, List.setIfInBounds_toArray, List.set_cons_succ, List.set_cons_zero])
            refine wpAny_loads (E := E) (ix := jp + 1) (jx := jp) (i := 9) (j := 13) (by repeat (first | exact .zero _ _ | with_reducible apply Nth.succ)) (by repeat (first | exact .zero _ _ | with_reducible apply Nth.succ)) rfl rfl (by kernel_rfl) (by kernel_rfl) (by kernel_rfl) (by decide) rfl rfl rfl rfl (by decide) hL (.head _) (by rfl) (by rfl) q1 q2 ?_
            (try simp only [Act.put, List.setIfInBounds_toArray, List.set_cons_succ, List.set_cons_zero])
            refine wpAny_drop 14 (by rfl) (by kernel_rfl) ?_
            simp only [List.drop_succ_cons, List.drop_zero]
            (try simp only [Act.put, List.setIfInBounds_toArray, List.set_cons_succ, List.set_cons_zero])
            refine event rfl (run_indexRow (E := E) (i := jp + 1) rfl (by rfl) (by rfl) (by omega) _) ?_
            (try simp only [Act.put, List.setIfInBounds_toArray, List.set_cons_succ, List.set_cons_zero])
            refine ev_setRow (E := E) (jp + 1) y rfl hL rfl (by rfl) rfl (by rfl) ⟨rfl, E.one _⟩ (List.getElem?_eq_some_iff.1 q2).1 (.here _) ?_
            clear hL
            intro wS hL
            (try simp only [Act.put, List.setIfInBounds_toArray, List.set_cons_succ, List.set_cons_zero])
            refine event rfl (run_indexRow (E := E) (i := jp) rfl (by rfl) (by rfl) (by omega) _) ?_
            (try simp only [Act.put, List.setIfInBounds_toArray, List.set_cons_succ, List.set_cons_zero])
            refine ev_setRow (E := E) (jp) x rfl hL rfl (by rfl) rfl (by rfl) ⟨rfl, E.one _⟩ (by rw [List.length_set]; exact (List.getElem?_eq_some_iff.1 q1).1) (.here _) ?_
            clear hL
            intro wS hL
            (try simp only [Act.put, List.setIfInBounds_toArray, List.set_cons_succ, List.set_cons_zero])
            rw [q3, HE9.out] at hL
            go_wp2
            go_roundw
            case rel =>
              refine ⟨L1', y :: L2, by rw [← HP.out.1], Lib.hid ⟨?_, fun z hz => ?_⟩, hL⟩
              · have := HI.out.1; rw [← this]; simp
              · rcases List.mem_cons.1 hz with rfl | hz
                · exact t2
                · exact HI.out.2 z hz
            case measure => simp [intOf]
          · have t2 : decide (cf x y < 0) = false := by simpa using hc
            have HF := hfin (fun z hz => by
              rcases List.mem_append.1 hz with hz | hz
              · have hs := HS.out.2.1.sorted
                rw [← HI.out.1] at hs
                have h1 := List.pairwise_append.1 hs
                have h2 := List.pairwise_append.1 h1.1
                exact ho.le_trans (h2.2.2 z hz y (.head _)) t2
              · rw [List.mem_singleton.1 hz]; exact t2)
            clear hfin
            go_wp2_with fail
            (try simp only [Act.put, List.setIfInBounds_toArray, List.set_cons_succ, List.set_cons_zero])
            refine wp_region_ext (by kernel_rfl) (by kernel_rfl) ?_
            repeat (first
                    | (go_big_quiet_want; (first | refine quiet_indexRow E rfl (by rfl) (by rfl) (by omega) ?_ | refine quiet_loadRow (E := E) hL (.head _) rfl (by rfl) hy1 ?_ | refine quiet_loadRow (E := E) hL (.head _) rfl (by rfl) hy2 ?_); go_big_quiet_on; simp only [Act.put, List.setIfInBounds_toArray, List.set_cons_succ, List.set_cons_zero])
                    | go_big_quiet_step (first | (go_at_fn f; exact calls_ext (hcq _ (Ext.ok _)))))
            refine wpQuiet_nil ?_
            rintro _ ⟨⟨wC, hbC⟩, rfl⟩
            have hL := hL.call hbC
            clear hbC hcq
            rw [HF.out] at hL
            go_wp2
            go_roundw
            case rel => exact ⟨k + 1, by go_num, Lib.hid ⟨by omega, .inl (by have := HS.out; omega)⟩, hL⟩
            case measure => have := HN.out; have := HS.out; simp [intOf]; omega
    · have t0 : decide (((a + k : Nat) : Int) < (b : Int)) = false := by simp; omega
      have HF : Hid (P ++ (Stab.isort (ltf cf) (L.take k) ++ L.drop k) ++ R = P ++ Stab.isort (ltf cf) L ++ R) := Lib.hid (by
        have := HN.out
        rw [List.take_of_length_le (by omega), List.drop_of_length_le (by omega), List.append_nil])
      rw [HF.out] at hL
      go_wp2
      go_end0
      exact ⟨rfl, hL⟩
end Go.Proofs.YtebpacmhdkgfeaaDoor.SortEv

/- slices.SortStableFunc at []crannog/api.Event: printed by gen_sort.py. -/
namespace Go.Proofs.YtebpacmhdkgfeaaDoor.SortEv
open Go.RowKit

variable {α : Type} (E : Enc α) [hsz : SizeT Tryd.prog 31 E.sz]

theorem CmpOk.next {α : Type} {E : Enc α} {f : Nat} {cb : Array Value} {cf : α → α → Int} {w w1 : World} {g : Nat} (h : CmpOk E f cb cf w g) (hm : Mod (· = g) w w1) : CmpOk E f cb cf w1 g := fun x y w2 h2 => h x y w2 (hm.trans h2 fun _ _ e => e)
/-- What a merge comes to. -/
def Merged (lt : α → α → Bool) (w : World) (base g n c : Nat) (P A B R : List α) (e : Ending) (w' : World) : Prop := e = .returned (.tuple #[]) ∧ ∃ L, Stab.Of lt (A ++ B) L ∧ Loc w (· = g) w' [it E base g n c (P ++ L ++ R)]

set_option maxRecDepth 100000 in
set_option maxHeartbeats 8000000 in
theorem sym_left (f : Nat) (cb : Array Value) (cf : α → α → Int) (eg : ∀ args w, (callFunc f args).run Tryd.prog w = .ok (.enter f args) w) (ho : Stab.Ord (ltf cf)) (w : World) (base g n c a b : Nat) (x : α) (P B R : List α) (hcmp : CmpOk E f cb cf w g) (h : Own E w base g n c (P ++ [x] ++ B ++ R)) (hn : n = (P ++ [x] ++ B ++ R).length) (ha : a = P.length) (hb : b = a + 1 + B.length) (hsB : Stab.Sorted (ltf cf) B) (hmax : n ≤ 1000000000) :
    Calls Tryd.prog 63 #[.slice (some ⟨g, 0, none⟩) n c, .int .i64 a, .int .i64 ((a + 1 : Nat) : Int), .int .i64 b, .func (.func f) #[] cb] w (Merged E (ltf cf) w base g n c P [x] B R) := by
  have hL := openR E h
  have HN := Lib.hid (show n = P.length + 1 + B.length + R.length ∧ a = P.length ∧ b = a + 1 + B.length from ⟨by rw [hn]; simp; omega, ha, hb⟩)
  have HS := Lib.hid hsB
  have ha9 : a + 1 ≤ 1000000000 := by have := HN.out; omega
  have hb9 : b ≤ 1000000000 := by have := HN.out; omega
  have HC := hide hcmp
  have tA : ((a : Int) + 1 - (a : Int) == 1) = true := by simp; omega
  clear h hn ha hb hcmp hsB
  go_enter Tryd.func63, Tryd.ntmps63
  go_wp2
  go_loopw [10, 11, 12] (fun iv jv hv wr => ∃ (B1 B2 B3 : List α) (i j : Nat), iv = .int .i64 i ∧ jv = .int .i64 j ∧ Hid (B = B1 ++ B2 ++ B3 ∧ i = a + 1 + B1.length ∧ j = i + B2.length ∧ (∀ y ∈ B1, ltf cf y x = true) ∧ ∀ y ∈ B3, ltf cf y x = false) ∧ Loc w (· = g) wr [it E base g n c (P ++ [x] ++ B ++ R)]) (fun iv jv _ _ => (intOf jv).toNat - (intOf iv).toNat)
  case atStart => exact ⟨[], B, [], a + 1, b, by go_num, rfl, Lib.hid ⟨by simp, by simp, by have := HN.out; omega, by simp, by simp⟩, hL⟩
  case round =>
    clear hL
    obtain ⟨B1, B2, B3, i, j, rfl, rfl, HI, hL⟩ := hrel
    by_cases hlt : i < j
    · have t0 : decide ((i : Int) < (j : Int)) = true := by simp; omega
      have hj9 : j ≤ n := by have h1 := HI.out; have h2 := HN.out; have h3 := congrArg List.length h1.1; simp at h3; omega
      obtain ⟨hm, hhm, hb1, hb2⟩ : ∃ hm : Nat, ((i : Int) + (j : Int)) / 2 = (hm : Int) ∧ i ≤ hm ∧ hm < j := ⟨(i + j) / 2, by omega, by omega, by omega⟩
      obtain ⟨B2a, y, B2b, H2⟩ : ∃ B2a y B2b, Hid (B2 = B2a ++ y :: B2b ∧ B2a.length = hm - i) := by
        obtain ⟨y, hy⟩ : ∃ y, B2[hm - i]? = some y := ⟨_, List.getElem?_eq_getElem (by have := HI.out; omega)⟩
        exact ⟨B2.take (hm - i), y, B2.drop (hm - i + 1), Lib.hid ⟨by rw [← Stab.drop_cons' hy, List.take_append_drop], by rw [List.length_take]; have := HI.out; omega⟩⟩
      have HX : Hid (B = B1 ++ B2a ++ y :: (B2b ++ B3)) := Lib.hid (by rw [HI.out.1, H2.out.1]; simp)
      have hy2 : (P ++ [x] ++ B ++ R)[a]? = some x := by have := HN.out; rw [List.append_assoc, List.append_assoc, this.2.1, List.getElem?_append_right (Nat.le_refl _), Nat.sub_self]; rfl
      have hy1 : (P ++ [x] ++ B ++ R)[hm]? = some y := by
        have h1 := HN.out; have h2 := HI.out; have h3 := H2.out
        rw [HX.out, show P ++ [x] ++ (B1 ++ B2a ++ y :: (B2b ++ B3)) ++ R = (P ++ [x] ++ B1 ++ B2a) ++ y :: (B2b ++ B3 ++ R) from by simp]
        have hl : hm = (P ++ [x] ++ B1 ++ B2a).length := by simp; omega
        rw [hl]
        exact (Stab.exch_at (P ++ [x] ++ B1 ++ B2a) [] (B2b ++ B3 ++ R) y y).1 |> fun _ => by simp
      have hsrt : (∀ z ∈ B1 ++ B2a, ltf cf y z = false) ∧ (∀ z ∈ B2b ++ B3, ltf cf z y = false) := by
        have h1 := HS.out
        rw [HX.out] at h1
        have h2 := List.pairwise_append.1 h1
        exact ⟨fun z hz => h2.2.2 z hz y (.head _), fun z hz => (List.pairwise_cons.1 h2.2.1).1 z hz⟩
      have han : a < n := by have := HN.out; omega
      have hmn : hm < n := by omega
      have hcq := fun w (hb : Below _ _ w) => unhide HC y x w (hL.mod.trans (Mod.of_below (M := NoM) hb) fun _ _ e => e.elim)
      have HXS := Lib.hid (Eq.refl (P ++ [x] ++ B ++ R))
      generalize P ++ [x] ++ B ++ R = xs at *
      by_cases hc : cf y x < 0
      · have t2 : decide (cf y x < 0) = true := by simpa using hc
        go_wp2_with fail
        (try simp only [Act.put, List.setIfInBounds_toArray, List.set_cons_succ, List.set_cons_zero])
        refine wp_region_ext (by kernel_rfl) (by kernel_rfl) ?_
        repeat (first
                | (go_big_quiet_want; (first | refine quiet_indexRow E rfl (by rfl) (by rfl) (by omega) ?_ | refine quiet_loadRow (E := E) hL (.head _) rfl (by rfl) hy1 ?_ | refine quiet_loadRow (E := E) hL (.head _) rfl (by rfl) hy2 ?_); go_big_quiet_on; simp only [Act.put, List.setIfInBounds_toArray, List.set_cons_succ, List.set_cons_zero])
                | go_big_quiet_step (first | (go_at_fn f; exact calls_ext (hcq _ (Ext.ok _)))))
        refine wpQuiet_nil ?_
        rintro _ ⟨⟨wC, hbC⟩, rfl⟩
        have hL := hL.call hbC
        clear hbC hcq
        go_wp2
        refine ⟨?_, ?measure⟩
        iterate 26 (apply Exists.intro)
        refine ⟨?rel, rfl⟩
        case rel =>
          refine ⟨B1 ++ B2a ++ [y], B2b, B3, hm + 1, j, by go_num, rfl, Lib.hid ⟨by rw [HX.out]; simp, ?_, ?_, fun z hz => ?_, HI.out.2.2.2.2⟩, hL⟩
          · have h2 := HI.out; have h3 := H2.out; simp; omega
          · have h2 := HI.out; have h3 := H2.out; have h4 := congrArg List.length h3.1; simp at h4; omega
          · rcases List.mem_append.1 hz with hz | hz
            · exact ho.le_lt (hsrt.1 z hz) t2
            · rw [List.mem_singleton.1 hz]; exact t2
        case measure => simp [intOf]; omega
      · have t2 : decide (cf y x < 0) = false := by simpa using hc
        go_wp2_with fail
        (try simp only [Act.put, List.setIfInBounds_toArray, List.set_cons_succ, List.set_cons_zero])
        refine wp_region_ext (by kernel_rfl) (by kernel_rfl) ?_
        repeat (first
                | (go_big_quiet_want; (first | refine quiet_indexRow E rfl (by rfl) (by rfl) (by omega) ?_ | refine quiet_loadRow (E := E) hL (.head _) rfl (by rfl) hy1 ?_ | refine quiet_loadRow (E := E) hL (.head _) rfl (by rfl) hy2 ?_); go_big_quiet_on; simp only [Act.put, List.setIfInBounds_toArray, List.set_cons_succ, List.set_cons_zero])
                | go_big_quiet_step (first | (go_at_fn f; exact calls_ext (hcq _ (Ext.ok _)))))
        refine wpQuiet_nil ?_
        rintro _ ⟨⟨wC, hbC⟩, rfl⟩
        have hL := hL.call hbC
        clear hbC hcq
        go_wp2
        refine ⟨?_, ?measure⟩
        iterate 26 (apply Exists.intro)
        refine ⟨?rel, rfl⟩
        case rel =>
          refine ⟨B1, B2a, y :: (B2b ++ B3), i, hm, rfl, rfl, Lib.hid ⟨by first | (rw [HX.out]; done) | (rw [HX.out]; simp), HI.out.2.1, ?_, HI.out.2.2.2.1, fun z hz => ?_⟩, hL⟩
          · have h3 := H2.out; omega
          · rcases List.mem_cons.1 hz with rfl | hz
            · exact t2
            · exact ho.le_trans t2 (hsrt.2 z hz)
        case measure => simp [intOf]; omega
    · have hij : j = i := by have := HI.out; omega
      subst hij
      have t0 : decide ((j : Int) < (j : Int)) = false := by simp
      have HB : Hid (B = B1 ++ B3 ∧ j = a + 1 + B1.length ∧ Stab.Of (ltf cf) ([x] ++ B) (B1 ++ x :: B3)) := Lib.hid (by
        have h1 := HI.out
        have h2 : B2 = [] := List.eq_nil_of_length_eq_zero (by omega)
        have h3 : B = B1 ++ B3 := by rw [h1.1, h2]; simp
        refine ⟨h3, h1.2.1, ?_⟩
        have h4 := HS.out
        rw [h3] at h4 ⊢
        exact Stab.one_left ho h4 h1.2.2.2.1 h1.2.2.2.2)
      have hj1 : 1 ≤ j := by have := HB.out; omega
      have hj9 : j ≤ n := by have h1 := HB.out; have h2 := HN.out; have h3 := congrArg List.length h1.1; simp at h3; omega
      rw [show P ++ [x] ++ B ++ R = P ++ ([] ++ x :: B1 ++ B3) ++ R from by rw [HB.out.1]; simp] at hL
      clear HI
      go_wp2
      go_loopw [13] (fun kv wr => ∃ (C1 C2 : List α) (k : Nat), kv = .int .i64 k ∧ Hid (B1 = C1 ++ C2 ∧ k = a + C1.length) ∧ Loc w (· = g) wr [it E base g n c (P ++ (C1 ++ x :: C2 ++ B3) ++ R)]) (fun kv _ => j - (intOf kv).toNat)
      case atStart => exact ⟨[], B1, a, rfl, Lib.hid ⟨rfl, by simp⟩, hL⟩
      case round =>
        clear hL
        obtain ⟨C1, C2, k, rfl, HI, hL⟩ := hrel
        by_cases hk : k + 1 < j
        · have t1 : decide ((k : Int) < (j : Int) - 1) = true := by simp; omega
          obtain ⟨y, C2', H2⟩ : ∃ y C2', Hid (C2 = y :: C2') := by
            cases h : C2 with
            | nil => have h1 := HI.out; have h2 := HB.out; rw [h, List.append_nil] at h1; rw [h1.1] at h2; omega
            | cons y C2' => exact ⟨y, C2', Lib.hid rfl⟩
          rw [H2.out] at hL HI
          obtain ⟨q1, q2, q3⟩ := Stab.exch_at (P ++ C1) [] (C2' ++ B3 ++ R) x y
          have hpl : (P ++ C1).length = k := by have h1 := HI.out; have h2 := HN.out; simp; omega
          simp only [List.nil_append, List.length_nil, Nat.add_zero, hpl] at q1 q2 q3
          have e0 : P ++ (C1 ++ x :: y :: C2' ++ B3) ++ R = P ++ C1 ++ x :: y :: (C2' ++ B3 ++ R) := by simp
          rw [e0] at hL
          have HE9 := Lib.hid (show P ++ C1 ++ y :: x :: (C2' ++ B3 ++ R) = P ++ (C1 ++ [y] ++ x :: C2' ++ B3) ++ R from by simp)
          clear hpl e0
          generalize P ++ C1 ++ x :: y :: (C2' ++ B3 ++ R) = xs at *
          go_wp2_with fail
          refine region_any (by kernel_rfl) hL ?_
          clear hL
          intro wR hL _ _
          refine wpAny_takeN (i := 0) (by repeat (first | exact .zero _ _ | with_reducible apply Nth.succ)) (by kernel_rfl) (by kernel_rfl) (by kernel_rfl) (by exact fun _ _ _ h => h) (y_move (.slice (some ⟨g, 0, none⟩) n c) rfl rfl (by rfl)) ?_
          refine wpAny_takeN (i := 1) (by repeat (first | exact .zero _ _ | with_reducible apply Nth.succ)) (by kernel_rfl) (by kernel_rfl) (by kernel_rfl) (by exact fun _ _ _ h => h) (y_move (.int .i64 ((k : Nat) : Int)) rfl rfl (by rfl)) ?_
          refine wpAny_takeN (i := 2) (by repeat (first | exact .zero _ _ | with_reducible apply Nth.succ)) (by kernel_rfl) (by kernel_rfl) (by kernel_rfl) (by exact fun _ _ _ h => h) (y_move (.slice (some ⟨g, 0, none⟩) n c) rfl rfl (by rfl)) ?_
          refine wpAny_takeN (i := 3) (by repeat (first | exact .zero _ _ | with_reducible apply Nth.succ)) (by kernel_rfl) (by kernel_rfl) (by kernel_rfl) (by exact fun _ _ _ h => h) (y_move (.int .i64 ((k : Nat) : Int)) rfl rfl (by rfl)) ?_
          refine wpAny_takeN (i := 4) (by repeat (first | exact .zero _ _ | with_reducible apply Nth.succ)) (by kernel_rfl) (by kernel_rfl) (by kernel_rfl) (by exact fun _ _ _ h => h) (y_add (k) (1) rfl rfl (by rfl) (by rfl) (by omega)) ?_
          refine wpAny_takeN (i := 5) (by repeat (first | exact .zero _ _ | with_reducible apply Nth.succ)) (by kernel_rfl) (by kernel_rfl) (by kernel_rfl) (by exact fun _ _ _ h => h) (y_move (.slice (some ⟨g, 0, none⟩) n c) rfl rfl (by rfl)) ?_
          (try simp only [Act.put, List.setIfInBounds_toArray, List.set_cons_succ, List.set_cons_zero])
          refine wpAny_takeN (i := 6) (by repeat (first | exact .zero _ _ | with_reducible apply Nth.succ)) (by kernel_rfl) (by kernel_rfl) (by kernel_rfl) (by exact fun _ _ _ h => h) (y_move (.int .i64 ((k : Nat) : Int)) rfl rfl (by rfl)) ?_
          refine wpAny_takeN (i := 7) (by repeat (first | exact .zero _ _ | with_reducible apply Nth.succ)) (by kernel_rfl) (by kernel_rfl) (by kernel_rfl) (by exact fun _ _ _ h => h) (y_add (k) (1) rfl rfl (by rfl) (by rfl) (by omega)) ?_
          refine wpAny_takeN (i := 8) (by repeat (first | exact .zero _ _ | with_reducible apply Nth.succ)) (by kernel_rfl) (by kernel_rfl) (by kernel_rfl) (by exact fun _ _ _ h => h) (y_index E (k + 1) rfl rfl (by rfl) (by rfl) (by omega)) ?_
          refine wpAny_takeN (i := 10) (by repeat (first | exact .zero _ _ | with_reducible apply Nth.succ)) (by kernel_rfl) (by kernel_rfl) (by kernel_rfl) (by exact fun _ _ _ h => h) (y_move (.slice (some ⟨g, 0, none⟩) n c) rfl rfl (by rfl)) ?_
          refine wpAny_takeN (i := 11) (by repeat (first | exact .zero _ _ | with_reducible apply Nth.succ)) (by kernel_rfl) (by kernel_rfl) (by kernel_rfl) (by exact fun _ _ _ h => h) (y_move (.int .i64 ((k : Nat) : Int)) rfl rfl (by rfl)) ?_
          refine wpAny_takeN (i := 12) (by repeat (first | exact .zero _ _ | with_reducible apply Nth.succ)) (by kernel_rfl) (by kernel_rfl) (by kernel_rfl) (by exact fun _ _ _ h => h) (y_index E (k) rfl rfl (by rfl) (by rfl) (by omega)) ?_
          (try simp only [Act.put, List.setIfInBounds_toArray, List.set_cons_succ, List.set_cons_zero])
          (try simp only [Act.put, List.setIfInBounds_toArray, List.set_cons_succ, List.set_cons_zero])
          refine wpAny_loads (E := E) (ix := k) (jx := k + 1) (i := 9) (j := 13) (by repeat (first | exact .zero _ _ | with_reducible apply Nth.succ)) (by repeat (first | exact .zero _ _ | with_reducible apply Nth.succ)) rfl rfl (by kernel_rfl) (by kernel_rfl) (by kernel_rfl) (by decide) rfl rfl rfl rfl (by decide) hL (.head _) (by rfl) (by rfl) q2 q1 ?_
          (try simp only [Act.put, List.setIfInBounds_toArray, List.set_cons_succ, List.set_cons_zero])
          refine wpAny_drop 14 (by rfl) (by kernel_rfl) ?_
          simp only [List.drop_succ_cons, List.drop_zero]
          (try simp only [Act.put, List.setIfInBounds_toArray, List.set_cons_succ, List.set_cons_zero])
          refine event rfl (run_indexRow (E := E) (i := k) rfl (by rfl) (by rfl) (by omega) _) ?_
          (try simp only [Act.put, List.setIfInBounds_toArray, List.set_cons_succ, List.set_cons_zero])
          refine ev_setRow (E := E) (k) y rfl hL rfl (by rfl) rfl (by rfl) ⟨rfl, E.one _⟩ (List.getElem?_eq_some_iff.1 q1).1 (.here _) ?_
          clear hL
          intro wS hL
          (try simp only [Act.put, List.setIfInBounds_toArray, List.set_cons_succ, List.set_cons_zero])
          refine event rfl (run_indexRow (E := E) (i := k + 1) rfl (by rfl) (by rfl) (by omega) _) ?_
          (try simp only [Act.put, List.setIfInBounds_toArray, List.set_cons_succ, List.set_cons_zero])
          refine ev_setRow (E := E) (k + 1) x rfl hL rfl (by rfl) rfl (by rfl) ⟨rfl, E.one _⟩ (by rw [List.length_set]; exact (List.getElem?_eq_some_iff.1 q2).1) (.here _) ?_
          clear hL
          intro wS hL
          (try simp only [Act.put, List.setIfInBounds_toArray, List.set_cons_succ, List.set_cons_zero])
          rw [q3, HE9.out] at hL
          go_wp2
          go_roundw
          case rel => exact ⟨C1 ++ [y], C2', k + 1, by go_num, Lib.hid ⟨by rw [HI.out.1]; simp, by have := HI.out; simp; omega⟩, hL⟩
          case measure => simp [intOf]; omega
        · have t1 : decide ((k : Int) < (j : Int) - 1) = false := by simp; omega
          have HF : Hid (C1 = B1 ∧ C2 = []) := Lib.hid (by
            have h1 := HI.out; have h2 := HB.out
            have h3 := congrArg List.length h1.1
            simp only [List.length_append] at h3
            have h4 : C2 = [] := List.eq_nil_of_length_eq_zero (by omega)
            exact ⟨by rw [h1.1, h4, List.append_nil], h4⟩)
          rw [HF.out.1, HF.out.2] at hL
          go_wp2
          go_end0
          refine ⟨rfl, _, HB.out.2.2, ?_⟩
          have e : P ++ (B1 ++ [x] ++ B3) ++ R = P ++ (B1 ++ x :: B3) ++ R := by simp
          rw [← e]
          exact hL
end Go.Proofs.YtebpacmhdkgfeaaDoor.SortEv
