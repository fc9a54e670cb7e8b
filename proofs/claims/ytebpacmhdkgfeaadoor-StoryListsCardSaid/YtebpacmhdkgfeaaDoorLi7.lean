/- Texts laid together: ConcatEp, SeenA, Sto2, Sto7, Sto9, Sto8, ConcatS, StoH. -/
import Derived.Test.YtebpacmhdkgfeaaDoorLi6
/- slices.Grow of nil, and slices.Concat, at crannog/api.Event. -/
namespace Go.Proofs.YtebpacmhdkgfeaaDoor.ConcatEp
open Go.RowKit

theorem row0 {w0 w : World} {M : Nat → Prop} {l : List Item} (h : Loc w0 M w l) {α : Type} (E : Enc α) (base : Nat) (e : TypeId) : Loc w0 M w (row E base e (.slice none 0 0) [] :: l) :=
  h.callNew (Below.refl _ _) (row_at (Enc.O.none _ _ _)) fun k hk => by cases hk
set_option maxHeartbeats 1000000 in
theorem growNil (n : Nat) (w : World) (hn : n ≤ 100000000000) :
    Calls Tryd.prog 36 #[.slice none 0 0, .int .i64 n] w fun e w' => ∃ v, e = .returned v ∧ Loc w NoM w' [row encEp w.heap.size 31 v []] := by
  have hL := Loc.nil w NoM
  have h0 : ¬ ((n : Int) < 0) := by omega
  by_cases hz : n = 0
  · subst hz
    have hL := row0 hL encEp w.heap.size 31
    go_enter Tryd.func36, Tryd.ntmps36
    go_wp2_with (first | ((with_reducible refine gAlloc rfl rfl ?_); (refine ev_allocL rfl hL rfl (by first | exact CellsC.of | exact cells_one (by assumption) (by assumption) | exact cells_agg _ rfl) ?_; clear hL; intro gq wq hL)) | ((with_reducible refine gBox rfl rfl ?_); (refine ev_boxL rfl hL rfl rfl (by first | exact CellsC.of | exact cells_one (by assumption) (by assumption) | exact cells_agg _ rfl) ?_; clear hL; intro gq wq hL)) | ((with_reducible refine gLoad rfl rfl ?_); (first | (refine ev_load1L rfl hL rfl rfl HasV.mem (by rfl) ?_) | (refine ev_loadAllL rfl hL rfl rfl HasV.mem (by rfl) ?_) | (refine ev_loadL rfl hL rfl rfl HasV.mem SegC.seg ?_))) | ((with_reducible refine gStore rfl rfl ?_); (first | (refine ev_storeC rfl hL rfl rfl rfl (by first | exact CellsC.of | exact cells_one (by assumption) (by assumption) | exact cells_agg _ rfl) (by rfl) ?_) | (refine ev_storeAllC rfl hL rfl rfl rfl (by first | exact CellsC.of | exact cells_one (by assumption) (by assumption) | exact cells_agg _ rfl) (by rfl) (by rfl) ?_)); clear hL; intro wq hL) | ((with_reducible refine gLoadG rfl rfl ?_ ?_); (exact wanted_some rfl rfl rfl (by with_reducible rfl)); (first | (refine ev_load1G (wanted_some rfl rfl rfl rfl) hL rfl rfl HasV.mem (by rfl) ?_) | (refine ev_loadAllG (wanted_some rfl rfl rfl rfl) hL rfl rfl HasV.mem (by rfl) ?_) | (refine ev_loadG_ (wanted_some rfl rfl rfl rfl) hL rfl rfl HasV.mem SegC.seg ?_))))
    go_ret
    exact ⟨_, rfl, hL⟩
  · have h1 : (0 : Int) < (n : Int) := by omega
    go_enter Tryd.func36, Tryd.ntmps36
    go_wp2_with (first
      | ((with_reducible refine gAlloc rfl rfl ?_); (refine ev_allocL rfl hL rfl (by first | exact CellsC.of | exact cells_one (by assumption) (by assumption) | exact cells_agg _ rfl) ?_; clear hL; intro gq wq hL)) | ((with_reducible refine gBox rfl rfl ?_); (refine ev_boxL rfl hL rfl rfl (by first | exact CellsC.of | exact cells_one (by assumption) (by assumption) | exact cells_agg _ rfl) ?_; clear hL; intro gq wq hL)) | ((with_reducible refine gLoad rfl rfl ?_); (first | (refine ev_load1L rfl hL rfl rfl HasV.mem (by rfl) ?_) | (refine ev_loadAllL rfl hL rfl rfl HasV.mem (by rfl) ?_) | (refine ev_loadL rfl hL rfl rfl HasV.mem SegC.seg ?_))) | ((with_reducible refine gStore rfl rfl ?_); (first | (refine ev_storeC rfl hL rfl rfl rfl (by first | exact CellsC.of | exact cells_one (by assumption) (by assumption) | exact cells_agg _ rfl) (by rfl) ?_) | (refine ev_storeAllC rfl hL rfl rfl rfl (by first | exact CellsC.of | exact cells_one (by assumption) (by assumption) | exact cells_agg _ rfl) (by rfl) (by rfl) ?_)); clear hL; intro wq hL) | ((with_reducible refine gLoadG rfl rfl ?_ ?_); (exact wanted_some rfl rfl rfl (by with_reducible rfl)); (first | (refine ev_load1G (wanted_some rfl rfl rfl rfl) hL rfl rfl HasV.mem (by rfl) ?_) | (refine ev_loadAllG (wanted_some rfl rfl rfl rfl) hL rfl rfl HasV.mem (by rfl) ?_) | (refine ev_loadG_ (wanted_some rfl rfl rfl rfl) hL rfl rfl HasV.mem SegC.seg ?_)))
      | (at_builtin; refine ev_growNil encEp w.heap.size rfl hL rfl rfl rfl Tryd.underlying3 rfl rfl (by omega) hn (Nat.le_refl _) ?_; clear hL; intro g G wq hG hG63 hL; have hG2 : (0 : Int) ≤ (G : Int) := by omega))
    go_ret
    exact ⟨_, rfl, hL⟩
/-- What k of the lists hold together. -/
def upto {α : Type} (xss : List (List α)) (k : Nat) : List α := (xss.take k).flatten
theorem upto_succ {α : Type} (xss : List (List α)) (k : Nat) (h : k < xss.length) : upto xss (k + 1) = upto xss k ++ xss[k] := by
  unfold upto
  rw [(List.take_append_getElem h).symm, List.flatten_append]
  simp
theorem upto_len {α : Type} (xss : List (List α)) (k : Nat) : (upto xss k).length ≤ xss.flatten.length := by
  have h : xss.flatten = upto xss k ++ (xss.drop k).flatten := by unfold upto; rw [← List.flatten_append, List.take_append_drop]
  rw [h, List.length_append]
  omega
set_option maxHeartbeats 2000000 in
theorem concat (v : Value) (ss : List Sl) (xss : List (List Ep)) (w : World) (h : encSl.R w v ss) (hl : ss.length = xss.length) (hx : ∀ i (h1 : i < ss.length) (h2 : i < xss.length), (encEp).R w ss[i].val xss[i]) (hn : xss.flatten.length ≤ 1000000000) (hm : ss.length ≤ 1000000000) :
    Calls Tryd.prog 14 #[v] w fun e w' => ∃ u, e = .returned u ∧ Loc w NoM w' [row encEp w.heap.size 31 u xss.flatten] := by
  have hL := Loc.nil w NoM
  obtain ⟨ao, c, rfl, hel⟩ := R_elem h
  have HX := Lib.hid hx
  have HL := Lib.hid hl
  clear hx h hl
  go_enter Tryd.func14, Tryd.ntmps14
  go_wp2_with (first | ((with_reducible refine gAlloc rfl rfl ?_); (refine ev_allocL rfl hL rfl (by first | exact CellsC.of | exact cells_one (by assumption) (by assumption) | exact cells_agg _ rfl) ?_; clear hL; intro gq wq hL)) | ((with_reducible refine gBox rfl rfl ?_); (refine ev_boxL rfl hL rfl rfl (by first | exact CellsC.of | exact cells_one (by assumption) (by assumption) | exact cells_agg _ rfl) ?_; clear hL; intro gq wq hL)) | ((with_reducible refine gLoad rfl rfl ?_); (first | (refine ev_load1L rfl hL rfl rfl HasV.mem (by rfl) ?_) | (refine ev_loadAllL rfl hL rfl rfl HasV.mem (by rfl) ?_) | (refine ev_loadL rfl hL rfl rfl HasV.mem SegC.seg ?_))) | ((with_reducible refine gStore rfl rfl ?_); (first | (refine ev_storeC rfl hL rfl rfl rfl (by first | exact CellsC.of | exact cells_one (by assumption) (by assumption) | exact cells_agg _ rfl) (by rfl) ?_) | (refine ev_storeAllC rfl hL rfl rfl rfl (by first | exact CellsC.of | exact cells_one (by assumption) (by assumption) | exact cells_agg _ rfl) (by rfl) (by rfl) ?_)); clear hL; intro wq hL) | ((with_reducible refine gLoadG rfl rfl ?_ ?_); (exact wanted_some rfl rfl rfl (by with_reducible rfl)); (first | (refine ev_load1G (wanted_some rfl rfl rfl rfl) hL rfl rfl HasV.mem (by rfl) ?_) | (refine ev_loadAllG (wanted_some rfl rfl rfl rfl) hL rfl rfl HasV.mem (by rfl) ?_) | (refine ev_loadG_ (wanted_some rfl rfl rfl rfl) hL rfl rfl HasV.mem SegC.seg ?_))))
  go_loopw [3, 11] (fun s i wr => ∃ k : Nat, k ≤ ss.length ∧ i = .int .i64 k ∧ s = .int .i64 ((upto xss k).length : Nat) ∧ Loc w NoM wr []) (fun _ i _ => ss.length - (intOf i).toNat)
  case atStart => exact ⟨0, by omega, rfl, rfl, hL⟩
  case round =>
    clear hL
    obtain ⟨k, hk, rfl, rfl, hL⟩ := hrel
    by_cases hlt : k < ss.length
    · obtain ⟨g, off, rfl, hr⟩ := hel k hlt
      have hrW : wr.rangeAt g (off + k * 1) [.slice ss[k].a ss[k].n ss[k].c] := range_below hr hL.below
      clear hr
      have hlt2 : k < xss.length := by have := HL.out; omega
      have hR := HX.out k hlt hlt2
      obtain ⟨ao2, c2, e2, -⟩ := R_elem hR
      have HN : Hid ((upto xss (k + 1)).length = (upto xss k).length + ss[k].n) := Lib.hid (by
        rw [upto_succ xss k hlt2, List.length_append]
        have e3 : ss[k].n = xss[k].length := by unfold Sl.val at e2; injection e2
        rw [e3])
      have hb1 := upto_len xss (k + 1)
      rw [HN.out] at hb1
      generalize (upto xss k).length = N at *
      clear hR e2
      generalize ss[k].n = m at *
      generalize ss[k].a = aa at *
      generalize ss[k].c = cc at *
      have hb2 : N + m ≤ 1000000000 := by omega
      have hneg : ¬ ((N : Int) + (m : Int) < 0) := by omega
      go_wp2_with (first
        | ((with_reducible refine gIndex rfl rfl ?_); refine ev_indexL rfl rfl rfl rfl hlt ?_)
        | ((with_reducible refine gate (N := 14) rfl ?_); refine ev_loadR1 (v := .slice aa m cc) rfl rfl rfl hrW ?_)
        | ((with_reducible refine gAlloc rfl rfl ?_); (refine ev_allocL rfl hL rfl (by first | exact CellsC.of | exact cells_one (by assumption) (by assumption) | exact cells_agg _ rfl) ?_; clear hL; intro gq wq hL)) | ((with_reducible refine gBox rfl rfl ?_); (refine ev_boxL rfl hL rfl rfl (by first | exact CellsC.of | exact cells_one (by assumption) (by assumption) | exact cells_agg _ rfl) ?_; clear hL; intro gq wq hL)) | ((with_reducible refine gLoad rfl rfl ?_); (first | (refine ev_load1L rfl hL rfl rfl HasV.mem (by rfl) ?_) | (refine ev_loadAllL rfl hL rfl rfl HasV.mem (by rfl) ?_) | (refine ev_loadL rfl hL rfl rfl HasV.mem SegC.seg ?_))) | ((with_reducible refine gStore rfl rfl ?_); (first | (refine ev_storeC rfl hL rfl rfl rfl (by first | exact CellsC.of | exact cells_one (by assumption) (by assumption) | exact cells_agg _ rfl) (by rfl) ?_) | (refine ev_storeAllC rfl hL rfl rfl rfl (by first | exact CellsC.of | exact cells_one (by assumption) (by assumption) | exact cells_agg _ rfl) (by rfl) (by rfl) ?_)); clear hL; intro wq hL) | ((with_reducible refine gLoadG rfl rfl ?_ ?_); (exact wanted_some rfl rfl rfl (by with_reducible rfl)); (first | (refine ev_load1G (wanted_some rfl rfl rfl rfl) hL rfl rfl HasV.mem (by rfl) ?_) | (refine ev_loadAllG (wanted_some rfl rfl rfl rfl) hL rfl rfl HasV.mem (by rfl) ?_) | (refine ev_loadG_ (wanted_some rfl rfl rfl rfl) hL rfl rfl HasV.mem SegC.seg ?_))))
      go_roundw
      case rel => exact ⟨k + 1, by omega, by go_num, by rw [HN.out]; go_num, hL⟩
      case measure => simp [intOf]; omega
    · obtain rfl : k = ss.length := by omega
      have hb1 := upto_len xss ss.length
      generalize (upto xss ss.length).length = N at *
      go_wp2_with (first
        | (go_at_call 36; (with_reducible refine (growNil N _ (by omega)).mono ?_); rintro e w3 ⟨v0, rfl, hL3⟩; have hL := hL.takeRow hL3; clear hL3)
        | ((with_reducible refine gAlloc rfl rfl ?_); (refine ev_allocL rfl hL rfl (by first | exact CellsC.of | exact cells_one (by assumption) (by assumption) | exact cells_agg _ rfl) ?_; clear hL; intro gq wq hL)) | ((with_reducible refine gBox rfl rfl ?_); (refine ev_boxL rfl hL rfl rfl (by first | exact CellsC.of | exact cells_one (by assumption) (by assumption) | exact cells_agg _ rfl) ?_; clear hL; intro gq wq hL)) | ((with_reducible refine gLoad rfl rfl ?_); (first | (refine ev_load1L rfl hL rfl rfl HasV.mem (by rfl) ?_) | (refine ev_loadAllL rfl hL rfl rfl HasV.mem (by rfl) ?_) | (refine ev_loadL rfl hL rfl rfl HasV.mem SegC.seg ?_))) | ((with_reducible refine gStore rfl rfl ?_); (first | (refine ev_storeC rfl hL rfl rfl rfl (by first | exact CellsC.of | exact cells_one (by assumption) (by assumption) | exact cells_agg _ rfl) (by rfl) ?_) | (refine ev_storeAllC rfl hL rfl rfl rfl (by first | exact CellsC.of | exact cells_one (by assumption) (by assumption) | exact cells_agg _ rfl) (by rfl) (by rfl) ?_)); clear hL; intro wq hL) | ((with_reducible refine gLoadG rfl rfl ?_ ?_); (exact wanted_some rfl rfl rfl (by with_reducible rfl)); (first | (refine ev_load1G (wanted_some rfl rfl rfl rfl) hL rfl rfl HasV.mem (by rfl) ?_) | (refine ev_loadAllG (wanted_some rfl rfl rfl rfl) hL rfl rfl HasV.mem (by rfl) ?_) | (refine ev_loadG_ (wanted_some rfl rfl rfl rfl) hL rfl rfl HasV.mem SegC.seg ?_))))
      clear hb1 hk hlt
      go_loopw [6, 27] (fun s i wr => ∃ (k : Nat) (vs : Value), k ≤ ss.length ∧ i = .int .i64 k ∧ s = vs ∧ Loc w NoM wr [row encEp w.heap.size 31 vs (upto xss k)]) (fun _ i _ => ss.length - (intOf i).toNat)
      case atStart => exact ⟨0, _, by omega, rfl, rfl, hL⟩
      case round =>
        clear hL
        obtain ⟨k, vs, hk, rfl, rfl, hL⟩ := hrel
        by_cases hlt : k < ss.length
        · obtain ⟨g, off, rfl, hr⟩ := hel k hlt
          have hrW : wr.rangeAt g (off + k * 1) [.slice ss[k].a ss[k].n ss[k].c] := range_below hr hL.below
          clear hr
          have hlt2 : k < xss.length := by have := HL.out; omega
          have hR := Lib.hid ((HX.out k hlt hlt2).below hL.below)
          have HN := Lib.hid (upto_succ xss k hlt2)
          have hb1 := upto_len xss (k + 1)
          rw [HN.out, List.length_append] at hb1
          unfold Sl.val at hR
          generalize upto xss k = L at *
          generalize xss[k] = ys at *
          generalize ss[k].n = m at *
          generalize ss[k].a = aa at *
          generalize ss[k].c = cc at *
          go_wp2_with (first
            | ((with_reducible refine gIndex rfl rfl ?_); refine ev_indexL rfl rfl rfl rfl hlt ?_)
            | ((with_reducible refine gate (N := 30) rfl ?_); refine ev_loadR1 (v := .slice aa m cc) rfl rfl rfl hrW ?_)
            | ((with_reducible refine gAlloc rfl rfl ?_); (refine ev_allocL rfl hL rfl (by first | exact CellsC.of | exact cells_one (by assumption) (by assumption) | exact cells_agg _ rfl) ?_; clear hL; intro gq wq hL)) | ((with_reducible refine gBox rfl rfl ?_); (refine ev_boxL rfl hL rfl rfl (by first | exact CellsC.of | exact cells_one (by assumption) (by assumption) | exact cells_agg _ rfl) ?_; clear hL; intro gq wq hL)) | ((with_reducible refine gLoad rfl rfl ?_); (first | (refine ev_load1L rfl hL rfl rfl HasV.mem (by rfl) ?_) | (refine ev_loadAllL rfl hL rfl rfl HasV.mem (by rfl) ?_) | (refine ev_loadL rfl hL rfl rfl HasV.mem SegC.seg ?_))) | ((with_reducible refine gStore rfl rfl ?_); (first | (refine ev_storeC rfl hL rfl rfl rfl (by first | exact CellsC.of | exact cells_one (by assumption) (by assumption) | exact cells_agg _ rfl) (by rfl) ?_) | (refine ev_storeAllC rfl hL rfl rfl rfl (by first | exact CellsC.of | exact cells_one (by assumption) (by assumption) | exact cells_agg _ rfl) (by rfl) (by rfl) ?_)); clear hL; intro wq hL) | ((with_reducible refine gLoadG rfl rfl ?_ ?_); (exact wanted_some rfl rfl rfl (by with_reducible rfl)); (first | (refine ev_load1G (wanted_some rfl rfl rfl rfl) hL rfl rfl HasV.mem (by rfl) ?_) | (refine ev_loadAllG (wanted_some rfl rfl rfl rfl) hL rfl rfl HasV.mem (by rfl) ?_) | (refine ev_loadG_ (wanted_some rfl rfl rfl rfl) hL rfl rfl HasV.mem SegC.seg ?_)))
            | (at_builtin; refine ev_appL (E := encEp) ys rfl hL rfl rfl rfl hR.out (by first | exact fun _ => ss0 | exact fun _ => ss1 | exact fun _ => ss2 | exact fun _ => ss3 | exact fun _ => ss4 | exact fun _ => ss5 | exact fun _ => ss6) rfl rfl (by omega) hL.size ?_; clear hL hR; intro v' wq hL))
          go_roundw
          case rel => exact ⟨k + 1, _, by omega, by go_num, rfl, by rw [HN.out]; exact hL⟩
          case measure => simp [intOf]; omega
        · obtain rfl : k = ss.length := by omega
          have HT := Lib.hid (show upto xss ss.length = xss.flatten from by unfold upto; rw [HL.out, List.take_length])
          rw [HT.out] at hL
          go_wp2
          go_ret
          exact ⟨_, rfl, hL⟩
end Go.Proofs.YtebpacmhdkgfeaaDoor.ConcatEp

/- Strings put together: strings.Join off the shelf. -/
namespace Go.Proofs.YtebpacmhdkgfeaaDoor
open Go.RowKit

/-- A row that is not there yet. -/
theorem Loc.rowNil {α : Type} {w0 w : World} {M : Nat → Prop} {l : List Item} (h : Loc w0 M w l) (E : Enc α) (base : Nat) (e : TypeId) : Loc w0 M w (row E base e (.slice none 0 0) [] :: l) :=
  h.callNew (Below.refl _ _) (row_at (Enc.O.none _ _ _)) fun k hk => by cases hk
theorem join_snoc (xs : List (List UInt8)) (y sep : List UInt8) : Lib.join (xs ++ [y]) sep = if xs = [] then y else Lib.join xs sep ++ sep ++ y := by
  cases xs with
  | nil => simp [Lib.join_one]
  | cons x r => rw [List.cons_append, Lib.join_cons, if_neg (by simp), Lib.join_cons]; simp [Lib.joinTail]
theorem join_c (v : Value) (xs : List ByteArray) (sep : ByteArray) (w : World) (base : Nat) (h : encS.O w base 9 v xs) (hlen : (Lib.join (xs.map (·.data.toList)) sep.data.toList).length ≤ 140737488355328) (hN : xs.length ≤ 140737488355328) :
    Calls Tryd.prog 48 #[v, .string sep] w fun e w' => e = .returned (.string ⟨(Lib.join (xs.map (·.data.toList)) sep.data.toList).toArray⟩) ∧ Below w.heap.size w w' := by
  unfold Enc.O at h
  rcases h.2 with ⟨rfl, h0⟩ | ⟨g, cap, cur, rfl, hb, hg, h1, h2, h3, h4⟩
  · obtain rfl : xs = [] := List.eq_nil_of_length_eq_zero h0
    exact (Tryd.strings_Join_none none 0 sep w).mono fun _ _ ⟨he, hw⟩ => ⟨he, by rw [hw]; exact Below.refl _ _⟩
  · refine Tryd.strings_Join g 0 cap xs sep w (fun j x hj => ?_) (h.lt g rfl).2 hN h1 hlen
    have hj' : j < xs.length := (List.getElem?_eq_some_iff.1 hj).1
    have hc := h.cells (g := g) rfl j (.string x) (by
      have := encS.all_get xs j 0 hj' (by decide)
      have e : xs[j] = x := (List.getElem?_eq_some_iff.1 hj).2
      rw [e] at this
      simpa [encS] using this)
    have ha : (⟨g, 0, none⟩ : Addr).add j = ⟨g, 0 + j, none⟩ := by unfold Addr.add; split <;> simp_all
    rw [ha] at hc
    exact hc
end Go.Proofs.YtebpacmhdkgfeaaDoor

/- Chapter 29: words with commas between, the document's way. -/
namespace Go.Proofs.YtebpacmhdkgfeaaDoor
open Go.RowKit

def joinB (xs : List ByteArray) : ByteArray := ⟨(Lib.join (xs.map (·.data.toList)) ([44] : List UInt8)).toArray⟩
theorem joinB_nil : joinB [] = ⟨#[]⟩ := rfl
theorem ba_toList (x : ByteArray) : (⟨x.data.toList.toArray⟩ : ByteArray) = x := by cases x; rfl
theorem ba_nil (x : ByteArray) : (⟨#[]⟩ : ByteArray) ++ x = x := by cases x; rw [ByteArray.mk_append_mk]; simp
theorem joinB_one (x : ByteArray) : joinB [x] = x := by
  unfold joinB
  rw [List.map_singleton, Lib.join_one]
theorem joinB_snoc (xs : List ByteArray) (x : ByteArray) (h : xs ≠ []) : joinB (xs ++ [x]) = joinB xs ++ ⟨#[44]⟩ ++ x := by
  unfold joinB
  rw [List.map_append, List.map_singleton, join_snoc, if_neg (by simpa using h)]
  obtain ⟨d⟩ := x
  rw [ByteArray.mk_append_mk, ByteArray.mk_append_mk]
theorem joinB_size (n : Nat) (xs : List ByteArray) (hx : ∀ x ∈ xs, x.size ≤ n) : ∀ k, k ≤ xs.length → (joinB (xs.take k)).size ≤ k * (n + 1) := by
  intro k
  induction k with
  | zero => intro _; simp [joinB_nil, ByteArray.size]
  | succ k ih =>
    intro hk
    have h1 := ih (by omega)
    have h2 := hx xs[k] (List.getElem_mem _)
    have h3 : xs.take (k + 1) = xs.take k ++ [xs[k]] := (List.take_append_getElem (by omega)).symm
    rw [h3, Nat.add_mul]
    by_cases h : xs.take k = []
    · rw [h, List.nil_append, joinB_one]; omega
    · rw [joinB_snoc _ _ h]
      simp only [ByteArray.size_append]
      have : (⟨#[44]⟩ : ByteArray).size = 1 := rfl
      omega
theorem joinB_step (xs : List ByteArray) (k : Nat) (hk : k < xs.length) : joinB (xs.take (k + 1)) = if k = 0 then xs[k] else joinB (xs.take k) ++ ⟨#[44]⟩ ++ xs[k] := by
  have h3 : xs.take (k + 1) = xs.take k ++ [xs[k]] := (List.take_append_getElem hk).symm
  rw [h3]
  split
  · rename_i h; subst h; exact joinB_one _
  · rename_i h
    exact joinB_snoc _ _ (by intro h1; have := congrArg List.length h1; rw [List.length_take] at this; simp only [List.length_nil] at this; omega)
set_option maxHeartbeats 1000000 in
theorem ref29_join (v : Value) (xs : List ByteArray) (w : World) (h : encS.R w v xs) (hx : ∀ x ∈ xs, x.size ≤ 1000000000) (hn : xs.length ≤ 1000000) :
    Calls Tryd.prog 49 #[v] w fun e w' => e = .returned (.string (joinB xs)) ∧ Below w.heap.size w w' := by
  have hL := Loc.nil w NoM
  obtain ⟨ao, c, rfl, hel⟩ := R_elem h
  have HX := Lib.hid hx
  clear hx h
  go_enter Tryd.func49, Tryd.ntmps49
  go_wp2_with (first | ((with_reducible refine gAlloc rfl rfl ?_); (refine ev_allocL rfl hL rfl (by first | exact CellsC.of | exact cells_one (by assumption) (by assumption) | exact cells_agg _ rfl) ?_; clear hL; intro gq wq hL)) | ((with_reducible refine gBox rfl rfl ?_); (refine ev_boxL rfl hL rfl rfl (by first | exact CellsC.of | exact cells_one (by assumption) (by assumption) | exact cells_agg _ rfl) ?_; clear hL; intro gq wq hL)) | ((with_reducible refine gLoad rfl rfl ?_); (first | (refine ev_load1L rfl hL rfl rfl HasV.mem (by rfl) ?_) | (refine ev_loadAllL rfl hL rfl rfl HasV.mem (by rfl) ?_) | (refine ev_loadL rfl hL rfl rfl HasV.mem SegC.seg ?_))) | ((with_reducible refine gStore rfl rfl ?_); (first | (refine ev_storeC rfl hL rfl rfl rfl (by first | exact CellsC.of | exact cells_one (by assumption) (by assumption) | exact cells_agg _ rfl) (by rfl) ?_) | (refine ev_storeAllC rfl hL rfl rfl rfl (by first | exact CellsC.of | exact cells_one (by assumption) (by assumption) | exact cells_agg _ rfl) (by rfl) (by rfl) ?_)); clear hL; intro wq hL) | ((with_reducible refine gLoadG rfl rfl ?_ ?_); (exact wanted_some rfl rfl rfl (by with_reducible rfl)); (first | (refine ev_load1G (wanted_some rfl rfl rfl rfl) hL rfl rfl HasV.mem (by rfl) ?_) | (refine ev_loadAllG (wanted_some rfl rfl rfl rfl) hL rfl rfl HasV.mem (by rfl) ?_) | (refine ev_loadG_ (wanted_some rfl rfl rfl rfl) hL rfl rfl HasV.mem SegC.seg ?_))))
  go_loopw [3, 8] (fun s i wr => ∃ k : Nat, k ≤ xs.length ∧ i = .int .i64 k ∧ s = .string (joinB (xs.take k)) ∧ Loc w NoM wr []) (fun _ i _ => xs.length - (intOf i).toNat)
  case atStart => exact ⟨0, by omega, rfl, rfl, hL⟩
  case round =>
    clear hL
    obtain ⟨k, hk, rfl, rfl, hL⟩ := hrel
    by_cases hlt : k < xs.length
    · obtain ⟨g, off, rfl, hr⟩ := hel k hlt
      have hrW : wr.rangeAt g (off + k * 1) [.string xs[k]] := range_below hr hL.below
      clear hr
      have hs1 : (joinB (xs.take k)).size ≤ k * 1000000001 := joinB_size 1000000000 xs HX.out k hk
      have hs2 : xs[k].size ≤ 1000000000 := HX.out _ (List.getElem_mem hlt)
      have HT := Lib.hid (joinB_step xs k hlt)
      generalize xs[k] = x at *
      have hs3 : (joinB (xs.take k)).size ≤ 1000000000000000 := by omega
      by_cases hz : k = 0
      · have t1 : decide ((0 : Int) < (k : Int)) = false := by simp; omega
        have hk0 : ¬ 0 < k := by omega
        have HJ := Lib.hid (show joinB (xs.take (k + 1)) = joinB (xs.take k) ++ x from by rw [HT.out, if_pos hz, hz, List.take_zero, joinB_nil]; exact (ba_nil x).symm)
        generalize joinB (xs.take k) = S at *
        clear hz
        go_wp2_with (first
          | ((with_reducible refine gIndex rfl rfl ?_); refine ev_indexL rfl rfl rfl rfl hlt ?_)
          | ((with_reducible refine gate (N := 12) rfl ?_); refine ev_loadR1 (v := .string x) rfl rfl rfl hrW ?_)
          | ((with_reducible refine gCat rfl rfl ?_); refine ev_cat rfl rfl rfl rfl (by simp only [ByteArray.size_append, ByteArray.size_mk']; simp; omega) ?_) | ((with_reducible refine gAlloc rfl rfl ?_); (refine ev_allocL rfl hL rfl (by first | exact CellsC.of | exact cells_one (by assumption) (by assumption) | exact cells_agg _ rfl) ?_; clear hL; intro gq wq hL)) | ((with_reducible refine gBox rfl rfl ?_); (refine ev_boxL rfl hL rfl rfl (by first | exact CellsC.of | exact cells_one (by assumption) (by assumption) | exact cells_agg _ rfl) ?_; clear hL; intro gq wq hL)) | ((with_reducible refine gLoad rfl rfl ?_); (first | (refine ev_load1L rfl hL rfl rfl HasV.mem (by rfl) ?_) | (refine ev_loadAllL rfl hL rfl rfl HasV.mem (by rfl) ?_) | (refine ev_loadL rfl hL rfl rfl HasV.mem SegC.seg ?_))) | ((with_reducible refine gStore rfl rfl ?_); (first | (refine ev_storeC rfl hL rfl rfl rfl (by first | exact CellsC.of | exact cells_one (by assumption) (by assumption) | exact cells_agg _ rfl) (by rfl) ?_) | (refine ev_storeAllC rfl hL rfl rfl rfl (by first | exact CellsC.of | exact cells_one (by assumption) (by assumption) | exact cells_agg _ rfl) (by rfl) (by rfl) ?_)); clear hL; intro wq hL) | ((with_reducible refine gLoadG rfl rfl ?_ ?_); (exact wanted_some rfl rfl rfl (by with_reducible rfl)); (first | (refine ev_load1G (wanted_some rfl rfl rfl rfl) hL rfl rfl HasV.mem (by rfl) ?_) | (refine ev_loadAllG (wanted_some rfl rfl rfl rfl) hL rfl rfl HasV.mem (by rfl) ?_) | (refine ev_loadG_ (wanted_some rfl rfl rfl rfl) hL rfl rfl HasV.mem SegC.seg ?_))))
        go_roundw
        case rel => exact ⟨k + 1, by omega, by go_num, by rw [HJ.out], hL⟩
        case measure => simp [intOf]; omega
      · have t1 : decide ((0 : Int) < (k : Int)) = true := by simp; omega
        have hk0 : 0 < k := by omega
        have HJ := Lib.hid (show joinB (xs.take (k + 1)) = joinB (xs.take k) ++ ⟨#[44]⟩ ++ x from by rw [HT.out, if_neg hz])
        generalize joinB (xs.take k) = S at *
        clear hz
        go_wp2_with (first
          | ((with_reducible refine gIndex rfl rfl ?_); refine ev_indexL rfl rfl rfl rfl hlt ?_)
          | ((with_reducible refine gate (N := 12) rfl ?_); refine ev_loadR1 (v := .string x) rfl rfl rfl hrW ?_)
          | ((with_reducible refine gCat rfl rfl ?_); refine ev_cat rfl rfl rfl rfl (by simp only [ByteArray.size_append, ByteArray.size_mk']; simp; omega) ?_) | ((with_reducible refine gAlloc rfl rfl ?_); (refine ev_allocL rfl hL rfl (by first | exact CellsC.of | exact cells_one (by assumption) (by assumption) | exact cells_agg _ rfl) ?_; clear hL; intro gq wq hL)) | ((with_reducible refine gBox rfl rfl ?_); (refine ev_boxL rfl hL rfl rfl (by first | exact CellsC.of | exact cells_one (by assumption) (by assumption) | exact cells_agg _ rfl) ?_; clear hL; intro gq wq hL)) | ((with_reducible refine gLoad rfl rfl ?_); (first | (refine ev_load1L rfl hL rfl rfl HasV.mem (by rfl) ?_) | (refine ev_loadAllL rfl hL rfl rfl HasV.mem (by rfl) ?_) | (refine ev_loadL rfl hL rfl rfl HasV.mem SegC.seg ?_))) | ((with_reducible refine gStore rfl rfl ?_); (first | (refine ev_storeC rfl hL rfl rfl rfl (by first | exact CellsC.of | exact cells_one (by assumption) (by assumption) | exact cells_agg _ rfl) (by rfl) ?_) | (refine ev_storeAllC rfl hL rfl rfl rfl (by first | exact CellsC.of | exact cells_one (by assumption) (by assumption) | exact cells_agg _ rfl) (by rfl) (by rfl) ?_)); clear hL; intro wq hL) | ((with_reducible refine gLoadG rfl rfl ?_ ?_); (exact wanted_some rfl rfl rfl (by with_reducible rfl)); (first | (refine ev_load1G (wanted_some rfl rfl rfl rfl) hL rfl rfl HasV.mem (by rfl) ?_) | (refine ev_loadAllG (wanted_some rfl rfl rfl rfl) hL rfl rfl HasV.mem (by rfl) ?_) | (refine ev_loadG_ (wanted_some rfl rfl rfl rfl) hL rfl rfl HasV.mem SegC.seg ?_))))
        go_roundw
        case rel => exact ⟨k + 1, by omega, by go_num, by rw [HJ.out], hL⟩
        case measure => simp [intOf]; omega
    · obtain rfl : k = xs.length := by omega
      have HT := Lib.hid (show xs.take xs.length = xs from List.take_length)
      rw [HT.out]
      go_wp2
      go_ret
      exact ⟨rfl, hL.below⟩
end Go.Proofs.YtebpacmhdkgfeaaDoor

/- Chapter 29: the lines of an event, in plain words. -/
namespace Go.Proofs.YtebpacmhdkgfeaaDoor
open Go.RowKit

def Pce.word (p : Pce) : ByteArray := ⟨#[112, 105, 101, 99, 101, 58]⟩ ++ itoaB p.idx
def Xat.word (x : Xat) : ByteArray := (if x.gone = true then ⟨#[100, 101, 108, 58]⟩ else ⟨#[115, 101, 116, 58]⟩) ++ x.name
def kindWs (k : Int) : List ByteArray := if k = 1 then [⟨#[102, 105, 108, 101]⟩] else if k = 2 then [⟨#[100, 105, 114]⟩] else if k = 3 then [⟨#[115, 121, 109]⟩] else []
def IHd.ws (h : IHd) : List ByteArray := kindWs h.kind ++ (if h.attr.at_ = Mk.zero then [] else [⟨#[97, 116, 116, 114]⟩]) ++ (if h.size.at_ = Mk.zero then [] else [⟨#[115, 105, 122, 101, 58]⟩ ++ itoaB h.size.n])
def InoD.ws (d : InoD) : List ByteArray := d.hd.ws ++ d.ps.map Pce.word ++ d.xs.map Xat.word
def InoD.line (d : InoD) : ByteArray := ⟨#[105, 110, 111, 100, 101, 32]⟩ ++ d.hd.id.text ++ ⟨#[32]⟩ ++ joinB d.ws
def V8.isZero (v : V8) : Bool := decide (v = V8.zero)
def Lnk.ws (l : Lnk) : List ByteArray := (if l.at_ = Mk.zero then [] else [⟨#[112, 108, 97, 99, 101, 58]⟩ ++ l.parent.text ++ ⟨#[47]⟩ ++ l.name]) ++ (if l.alive = V8.zero then [] else [⟨#[97, 108, 105, 118, 101]⟩]) ++ (if l.dead = V8.zero then [] else [⟨#[100, 101, 97, 100]⟩])
def Lnk.line (l : Lnk) : ByteArray := ⟨#[108, 105, 110, 107, 32]⟩ ++ l.id.text ++ ⟨#[32]⟩ ++ joinB l.ws
def storyLines (at_ : Mk) (vol : Int) (d : StaD) : List ByteArray := (⟨#[101, 118, 101, 110, 116, 32]⟩ ++ at_.text ++ ⟨#[32, 118]⟩ ++ itoaB vol) :: (d.nodes.map InoD.line ++ d.links.map Lnk.line)
end Go.Proofs.YtebpacmhdkgfeaaDoor

/- Chapter 29: is a stamp, is a vector zero? -/
namespace Go.Proofs.YtebpacmhdkgfeaaDoor
open Go.RowKit

theorem stamp_ext {W : World} {e : Ext W} (ht : Tb W) (m : Mk) (hb : I64 m.boot) (hn : I64 m.n) : Calls Tryd.prog 23 #[m.val] e.w fun en w'' => en = .returned (.string m.text) ∧ ∃ x : Ext W, w'' = x.w :=
  calls_ext (story_stamp m _ hb hn (ht.below e.ok))
theorem stamp29_ext {W : World} {e : Ext W} (m : Mk) (hb : I64 m.boot) (hn : I64 m.n) : Calls Tryd.prog 27 #[m.val] e.w fun en w'' => en = .returned (.string m.text) ∧ ∃ x : Ext W, w'' = x.w :=
  calls_ext (ref29_stamp m _ hb hn)
/-- A line's words, by which there are. -/
def wordIf (b : Bool) (w : ByteArray) : List ByteArray := if b = true then [] else [w]
theorem joinB_le (n : Nat) (xs : List ByteArray) (hx : ∀ x ∈ xs, x.size ≤ n) : (joinB xs).size ≤ xs.length * (n + 1) := by
  have := joinB_size n xs hx xs.length (Nat.le_refl _)
  rwa [List.take_length] at this
theorem joinB_len (xs : List ByteArray) : (Lib.join (xs.map (·.data.toList)) ([44] : List UInt8)).length = (joinB xs).size := by
  unfold joinB
  exact List.size_toArray.symm
/-- append of one element, the outcome in a form of one's own. -/
theorem ev_app1M {P : Program} {ops : Array Oper} {rest : List Oper} {o : Oper} {a : Act} {Q : Exit → Act → World → Prop} {W w0 : World} {M : Nat → Prop} {l : List Item} {α : Type} {E : Enc α} {s x : Operand} {t e e2 : TypeId} {z : Value} {by_ : Nat} {base g c : Nat} {v : Value} {xs : List α} {cs : List Value} {f : Value → List Item} [ht : SliceT P t e] [hz : ZeroT P e z] [hsz : SizeT P e E.sz] [hb : BytesT P e by_]
    (y : α) (m : Nat) (ys : List α) (hgd : o.guard = none) (hL : Loc w0 M W l) (ho : o.op = .call { callee := .builtin .append, args := #[s, x], argTypes := #[t, t] }) (hs : a.eval s = v) (hx : a.eval x = .slice (some ⟨g, 0, none⟩) 1 c)
    (hm : var g cs e2 ∈ l) (hy : cs = E.cells y) (hys : xs ++ [y] = ys) (hmm : xs.length + 1 = m) (hsw : ∀ v', Swap (row E base e v xs) (row E base e v' ys) l (f v')) (hzc : z.cells.size = E.sz) (hby : decide (by_ ≤ 1000) = true) (h63 : m < 100000000000) (hbase : base ≤ W.heap.size)
    (h : ∀ ao c' w1, Loc w0 M w1 (f (.slice ao m c')) → wpList P ops Q rest (a.put o.dst (.slice ao m c')) w1) : wpList P ops Q (o :: rest) a W := by
  subst hys hmm
  exact ev_app1L (E := E) y hgd hL ho hs hx hm hsw hy hzc hby (by omega) hbase h
theorem join_b (v : Value) (xs : List ByteArray) (w : World) (base : Nat) (h : encS.O w base 9 v xs) (hlen : (joinB xs).size ≤ 140737488355328) (hN : xs.length ≤ 140737488355328) :
    Calls Tryd.prog 48 #[v, .string ⟨#[44]⟩] w fun e w' => e = .returned (.string (joinB xs)) ∧ Below w.heap.size w w' :=
  join_c v xs ⟨#[44]⟩ w base h (by show (Lib.join _ ([44] : List UInt8)).length ≤ _; rw [joinB_len]; exact hlen) hN
end Go.Proofs.YtebpacmhdkgfeaaDoor

/- Chapter 29: story's words of pieces and of xattrs. -/
namespace Go.Proofs.YtebpacmhdkgfeaaDoor
open Go.RowKit

theorem map_take_succ {α β : Type} (f : α → β) (l : List α) (k : Nat) (h : k < l.length) : (l.take (k + 1)).map f = (l.take k).map f ++ [f l[k]] := by
  rw [(List.take_append_getElem h).symm, List.map_append, List.map_singleton]
set_option maxHeartbeats 1000000 in
theorem story_pieces (v : Value) (ps : List Pce) (w : World) (h : encPc.R w v ps) (hi : ∀ p ∈ ps, I64 p.idx) (hn : ps.length ≤ 1000000) (ht : Tb w) :
    Calls Tryd.prog 46 #[v] w fun e w' => ∃ u, e = .returned u ∧ Loc w NoM w' [row encS w.heap.size 9 u (ps.map Pce.word)] := by
  have hL := (Loc.nil w NoM).rowNil encS w.heap.size 9
  obtain ⟨ao, c, rfl, hel⟩ := R_elem h
  have HX := Lib.hid hi
  clear hi h
  go_enter Tryd.func46, Tryd.ntmps46
  go_wp2_with (first | ((with_reducible refine gAlloc rfl rfl ?_); (refine ev_allocL rfl hL rfl (by first | exact CellsC.of | exact cells_one (by assumption) (by assumption) | exact cells_agg _ rfl) ?_; clear hL; intro gq wq hL)) | ((with_reducible refine gBox rfl rfl ?_); (refine ev_boxL rfl hL rfl rfl (by first | exact CellsC.of | exact cells_one (by assumption) (by assumption) | exact cells_agg _ rfl) ?_; clear hL; intro gq wq hL)) | ((with_reducible refine gLoad rfl rfl ?_); (first | (refine ev_load1L rfl hL rfl rfl HasV.mem (by rfl) ?_) | (refine ev_loadAllL rfl hL rfl rfl HasV.mem (by rfl) ?_) | (refine ev_loadL rfl hL rfl rfl HasV.mem SegC.seg ?_))) | ((with_reducible refine gStore rfl rfl ?_); (first | (refine ev_storeC rfl hL rfl rfl rfl (by first | exact CellsC.of | exact cells_one (by assumption) (by assumption) | exact cells_agg _ rfl) (by rfl) ?_) | (refine ev_storeAllC rfl hL rfl rfl rfl (by first | exact CellsC.of | exact cells_one (by assumption) (by assumption) | exact cells_agg _ rfl) (by rfl) (by rfl) ?_)); clear hL; intro wq hL) | ((with_reducible refine gLoadG rfl rfl ?_ ?_); (exact wanted_some rfl rfl rfl (by with_reducible rfl)); (first | (refine ev_load1G (wanted_some rfl rfl rfl rfl) hL rfl rfl HasV.mem (by rfl) ?_) | (refine ev_loadAllG (wanted_some rfl rfl rfl rfl) hL rfl rfl HasV.mem (by rfl) ?_) | (refine ev_loadG_ (wanted_some rfl rfl rfl rfl) hL rfl rfl HasV.mem SegC.seg ?_))))
  go_loopw [3, 8] (fun s i wr => ∃ (k : Nat) (vs : Value), k ≤ ps.length ∧ i = .int .i64 k ∧ s = vs ∧ Loc w NoM wr [row encS w.heap.size 9 vs ((ps.take k).map Pce.word)]) (fun _ i _ => ps.length - (intOf i).toNat)
  case atStart => exact ⟨0, _, by omega, rfl, rfl, hL⟩
  case round =>
    clear hL
    obtain ⟨k, vs, hk, rfl, rfl, hL⟩ := hrel
    by_cases hlt : k < ps.length
    · obtain ⟨g, off, rfl, hr⟩ := hel k hlt
      have hrW : wr.rangeAt g (off + k * 4) (Pce.cells ps[k]) := range_below hr hL.below
      clear hr
      have hw : I64 ps[k].idx := HX.out _ (List.getElem_mem hlt)
      have HT := Lib.hid (map_take_succ Pce.word ps k hlt)
      have hln : ((ps.take k).map Pce.word).length ≤ k := by rw [List.length_map]; exact List.length_take_le _ _
      have hsz := hw.size
      generalize ps[k] = p at *
      generalize (ps.take k).map Pce.word = L at *
      unfold Pce.cells at hrW
      go_wp2_with (first
        | ((with_reducible refine gIndex rfl rfl ?_); refine ev_indexL rfl rfl rfl rfl hlt ?_) | ((with_reducible refine gate (N := 11) rfl ?_); refine ev_loadR rfl rfl rfl hrW (by rfl) ?_)
        | (go_at_call 24; have hq := itoa_c p.idx hw.1 hw.2 _ (ht.below hL.below); (with_reducible refine hq.mono ?_); rintro e w3 ⟨rfl, hb3⟩; have hL := hL.call hb3; clear hb3 hq)
        | ((with_reducible refine gCat rfl rfl ?_); refine ev_cat rfl rfl rfl rfl (by simp only [ByteArray.size_append, ByteArray.size_mk']; simp; omega) ?_)
        | ((with_reducible refine gLit rfl rfl ?_); refine ev_litL (cs := [.string p.word]) rfl hL rfl rfl rfl (by kernel_rfl) ?_; clear hL; intro gq wq hL)
        | ((with_reducible refine gAlloc rfl rfl ?_); (refine ev_allocL rfl hL rfl (by first | exact CellsC.of | exact cells_one (by assumption) (by assumption) | exact cells_agg _ rfl) ?_; clear hL; intro gq wq hL)) | ((with_reducible refine gBox rfl rfl ?_); (refine ev_boxL rfl hL rfl rfl (by first | exact CellsC.of | exact cells_one (by assumption) (by assumption) | exact cells_agg _ rfl) ?_; clear hL; intro gq wq hL)) | ((with_reducible refine gLoad rfl rfl ?_); (first | (refine ev_load1L rfl hL rfl rfl HasV.mem (by rfl) ?_) | (refine ev_loadAllL rfl hL rfl rfl HasV.mem (by rfl) ?_) | (refine ev_loadL rfl hL rfl rfl HasV.mem SegC.seg ?_))) | ((with_reducible refine gStore rfl rfl ?_); (first | (refine ev_storeC rfl hL rfl rfl rfl (by first | exact CellsC.of | exact cells_one (by assumption) (by assumption) | exact cells_agg _ rfl) (by rfl) ?_) | (refine ev_storeAllC rfl hL rfl rfl rfl (by first | exact CellsC.of | exact cells_one (by assumption) (by assumption) | exact cells_agg _ rfl) (by rfl) (by rfl) ?_)); clear hL; intro wq hL) | ((with_reducible refine gLoadG rfl rfl ?_ ?_); (exact wanted_some rfl rfl rfl (by with_reducible rfl)); (first | (refine ev_load1G (wanted_some rfl rfl rfl rfl) hL rfl rfl HasV.mem (by rfl) ?_) | (refine ev_loadAllG (wanted_some rfl rfl rfl rfl) hL rfl rfl HasV.mem (by rfl) ?_) | (refine ev_loadG_ (wanted_some rfl rfl rfl rfl) hL rfl rfl HasV.mem SegC.seg ?_)))
        | (at_builtin; refine ev_app1L (E := encS) p.word rfl hL rfl rfl rfl (by first | exact mm0 | exact mm1 | exact mm2 | exact mm3 | exact mm4 | exact mm5 | exact mm6 | exact mm7 | exact mm8) (by first | exact fun _ => ss0 | exact fun _ => ss1 | exact fun _ => ss2 | exact fun _ => ss3 | exact fun _ => ss4 | exact fun _ => ss5 | exact fun _ => ss6) rfl rfl rfl (by omega) hL.size ?_; clear hL; intro ao' c' wq hL))
      go_roundw
      case rel => exact ⟨k + 1, _, by omega, by go_num, rfl, by rw [HT.out]; exact hL.sub (by repeat (first | exact List.nil_sublist _ | with_reducible apply List.Sublist.cons_cons | with_reducible apply List.Sublist.cons))⟩
      case measure => simp [intOf]; omega
    · obtain rfl : k = ps.length := by omega
      have HT := Lib.hid (show ps.take ps.length = ps from List.take_length)
      rw [HT.out] at hL
      go_wp2
      go_ret
      exact ⟨_, rfl, hL⟩
set_option maxHeartbeats 1000000 in
theorem story_xattrs (v : Value) (xs : List Xat) (w : World) (h : encXt.R w v xs) (hi : ∀ x ∈ xs, x.name.size ≤ 1000000000) (hn : xs.length ≤ 1000000) :
    Calls Tryd.prog 47 #[v] w fun e w' => ∃ u, e = .returned u ∧ Loc w NoM w' [row encS w.heap.size 9 u (xs.map Xat.word)] := by
  have hL := (Loc.nil w NoM).rowNil encS w.heap.size 9
  obtain ⟨ao, c, rfl, hel⟩ := R_elem h
  have HX := Lib.hid hi
  clear hi h
  go_enter Tryd.func47, Tryd.ntmps47
  go_wp2_with (first | ((with_reducible refine gAlloc rfl rfl ?_); (refine ev_allocL rfl hL rfl (by first | exact CellsC.of | exact cells_one (by assumption) (by assumption) | exact cells_agg _ rfl) ?_; clear hL; intro gq wq hL)) | ((with_reducible refine gBox rfl rfl ?_); (refine ev_boxL rfl hL rfl rfl (by first | exact CellsC.of | exact cells_one (by assumption) (by assumption) | exact cells_agg _ rfl) ?_; clear hL; intro gq wq hL)) | ((with_reducible refine gLoad rfl rfl ?_); (first | (refine ev_load1L rfl hL rfl rfl HasV.mem (by rfl) ?_) | (refine ev_loadAllL rfl hL rfl rfl HasV.mem (by rfl) ?_) | (refine ev_loadL rfl hL rfl rfl HasV.mem SegC.seg ?_))) | ((with_reducible refine gStore rfl rfl ?_); (first | (refine ev_storeC rfl hL rfl rfl rfl (by first | exact CellsC.of | exact cells_one (by assumption) (by assumption) | exact cells_agg _ rfl) (by rfl) ?_) | (refine ev_storeAllC rfl hL rfl rfl rfl (by first | exact CellsC.of | exact cells_one (by assumption) (by assumption) | exact cells_agg _ rfl) (by rfl) (by rfl) ?_)); clear hL; intro wq hL) | ((with_reducible refine gLoadG rfl rfl ?_ ?_); (exact wanted_some rfl rfl rfl (by with_reducible rfl)); (first | (refine ev_load1G (wanted_some rfl rfl rfl rfl) hL rfl rfl HasV.mem (by rfl) ?_) | (refine ev_loadAllG (wanted_some rfl rfl rfl rfl) hL rfl rfl HasV.mem (by rfl) ?_) | (refine ev_loadG_ (wanted_some rfl rfl rfl rfl) hL rfl rfl HasV.mem SegC.seg ?_))))
  go_loopw [3, 9] (fun s i wr => ∃ (k : Nat) (vs : Value), k ≤ xs.length ∧ i = .int .i64 k ∧ s = vs ∧ Loc w NoM wr [row encS w.heap.size 9 vs ((xs.take k).map Xat.word)]) (fun _ i _ => xs.length - (intOf i).toNat)
  case atStart => exact ⟨0, _, by omega, rfl, rfl, hL⟩
  case round =>
    clear hL
    obtain ⟨k, vs, hk, rfl, rfl, hL⟩ := hrel
    by_cases hlt : k < xs.length
    · obtain ⟨g, off, rfl, hr⟩ := hel k hlt
      have hrW : wr.rangeAt g (off + k * 5) (Xat.cells xs[k]) := range_below hr hL.below
      clear hr
      have hsz : xs[k].name.size ≤ 1000000000 := HX.out _ (List.getElem_mem hlt)
      have HT := Lib.hid (map_take_succ Xat.word xs k hlt)
      have hln : ((xs.take k).map Xat.word).length ≤ k := by rw [List.length_map]; exact List.length_take_le _ _
      generalize xs[k] = p at *
      generalize (xs.take k).map Xat.word = L at *
      unfold Xat.cells at hrW
      obtain ⟨nm, at_, val, gn⟩ := p
      replace hsz : nm.size ≤ 1000000000 := hsz
      cases gn with
      | false =>
        obtain ⟨W, hW⟩ : ∃ W, W = (⟨#[115, 101, 116, 58]⟩ : ByteArray) ++ nm := ⟨_, rfl⟩
        have HT2 := Lib.hid (show (xs.take (k + 1)).map Xat.word = L ++ [W] by rw [HT.out, hW]; rfl)
        clear HT
        go_wp2_with (first
          | ((with_reducible refine gIndex rfl rfl ?_); refine ev_indexL rfl rfl rfl rfl hlt ?_) | ((with_reducible refine gate (N := 12) rfl ?_); refine ev_loadR rfl rfl rfl hrW (by rfl) ?_)
          | ((with_reducible refine gCat rfl rfl ?_); refine ev_cat rfl rfl rfl rfl (by simp only [ByteArray.size_append, ByteArray.size_mk']; simp; omega) ?_)
          | ((with_reducible refine gLit rfl rfl ?_); refine ev_litL (cs := [.string W]) rfl hL rfl rfl rfl (by rw [hW]; kernel_rfl) ?_; clear hL; intro gq wq hL)
          | ((with_reducible refine gAlloc rfl rfl ?_); (refine ev_allocL rfl hL rfl (by first | exact CellsC.of | exact cells_one (by assumption) (by assumption) | exact cells_agg _ rfl) ?_; clear hL; intro gq wq hL)) | ((with_reducible refine gBox rfl rfl ?_); (refine ev_boxL rfl hL rfl rfl (by first | exact CellsC.of | exact cells_one (by assumption) (by assumption) | exact cells_agg _ rfl) ?_; clear hL; intro gq wq hL)) | ((with_reducible refine gLoad rfl rfl ?_); (first | (refine ev_load1L rfl hL rfl rfl HasV.mem (by rfl) ?_) | (refine ev_loadAllL rfl hL rfl rfl HasV.mem (by rfl) ?_) | (refine ev_loadL rfl hL rfl rfl HasV.mem SegC.seg ?_))) | ((with_reducible refine gStore rfl rfl ?_); (first | (refine ev_storeC rfl hL rfl rfl rfl (by first | exact CellsC.of | exact cells_one (by assumption) (by assumption) | exact cells_agg _ rfl) (by rfl) ?_) | (refine ev_storeAllC rfl hL rfl rfl rfl (by first | exact CellsC.of | exact cells_one (by assumption) (by assumption) | exact cells_agg _ rfl) (by rfl) (by rfl) ?_)); clear hL; intro wq hL) | ((with_reducible refine gLoadG rfl rfl ?_ ?_); (exact wanted_some rfl rfl rfl (by with_reducible rfl)); (first | (refine ev_load1G (wanted_some rfl rfl rfl rfl) hL rfl rfl HasV.mem (by rfl) ?_) | (refine ev_loadAllG (wanted_some rfl rfl rfl rfl) hL rfl rfl HasV.mem (by rfl) ?_) | (refine ev_loadG_ (wanted_some rfl rfl rfl rfl) hL rfl rfl HasV.mem SegC.seg ?_)))
          | (at_builtin; refine ev_app1L (E := encS) W rfl hL rfl rfl rfl (by first | exact mm0 | exact mm1 | exact mm2 | exact mm3 | exact mm4 | exact mm5 | exact mm6 | exact mm7 | exact mm8) (by first | exact fun _ => ss0 | exact fun _ => ss1 | exact fun _ => ss2 | exact fun _ => ss3 | exact fun _ => ss4 | exact fun _ => ss5 | exact fun _ => ss6) rfl rfl rfl (by omega) hL.size ?_; clear hL; intro ao' c' wq hL))
        go_roundw
        case rel => exact ⟨k + 1, _, by omega, by go_num, rfl, by rw [HT2.out]; exact hL.sub (by repeat (first | exact List.nil_sublist _ | with_reducible apply List.Sublist.cons_cons | with_reducible apply List.Sublist.cons))⟩
        case measure => simp [intOf]; omega
      | true =>
        obtain ⟨W, hW⟩ : ∃ W, W = (⟨#[100, 101, 108, 58]⟩ : ByteArray) ++ nm := ⟨_, rfl⟩
        have HT2 := Lib.hid (show (xs.take (k + 1)).map Xat.word = L ++ [W] by rw [HT.out, hW]; rfl)
        clear HT
        go_wp2_with (first
          | ((with_reducible refine gIndex rfl rfl ?_); refine ev_indexL rfl rfl rfl rfl hlt ?_) | ((with_reducible refine gate (N := 12) rfl ?_); refine ev_loadR rfl rfl rfl hrW (by rfl) ?_)
          | ((with_reducible refine gCat rfl rfl ?_); refine ev_cat rfl rfl rfl rfl (by simp only [ByteArray.size_append, ByteArray.size_mk']; simp; omega) ?_)
          | ((with_reducible refine gLit rfl rfl ?_); refine ev_litL (cs := [.string W]) rfl hL rfl rfl rfl (by rw [hW]; kernel_rfl) ?_; clear hL; intro gq wq hL)
          | ((with_reducible refine gAlloc rfl rfl ?_); (refine ev_allocL rfl hL rfl (by first | exact CellsC.of | exact cells_one (by assumption) (by assumption) | exact cells_agg _ rfl) ?_; clear hL; intro gq wq hL)) | ((with_reducible refine gBox rfl rfl ?_); (refine ev_boxL rfl hL rfl rfl (by first | exact CellsC.of | exact cells_one (by assumption) (by assumption) | exact cells_agg _ rfl) ?_; clear hL; intro gq wq hL)) | ((with_reducible refine gLoad rfl rfl ?_); (first | (refine ev_load1L rfl hL rfl rfl HasV.mem (by rfl) ?_) | (refine ev_loadAllL rfl hL rfl rfl HasV.mem (by rfl) ?_) | (refine ev_loadL rfl hL rfl rfl HasV.mem SegC.seg ?_))) | ((with_reducible refine gStore rfl rfl ?_); (first | (refine ev_storeC rfl hL rfl rfl rfl (by first | exact CellsC.of | exact cells_one (by assumption) (by assumption) | exact cells_agg _ rfl) (by rfl) ?_) | (refine ev_storeAllC rfl hL rfl rfl rfl (by first | exact CellsC.of | exact cells_one (by assumption) (by assumption) | exact cells_agg _ rfl) (by rfl) (by rfl) ?_)); clear hL; intro wq hL) | ((with_reducible refine gLoadG rfl rfl ?_ ?_); (exact wanted_some rfl rfl rfl (by with_reducible rfl)); (first | (refine ev_load1G (wanted_some rfl rfl rfl rfl) hL rfl rfl HasV.mem (by rfl) ?_) | (refine ev_loadAllG (wanted_some rfl rfl rfl rfl) hL rfl rfl HasV.mem (by rfl) ?_) | (refine ev_loadG_ (wanted_some rfl rfl rfl rfl) hL rfl rfl HasV.mem SegC.seg ?_)))
          | (at_builtin; refine ev_app1L (E := encS) W rfl hL rfl rfl rfl (by first | exact mm0 | exact mm1 | exact mm2 | exact mm3 | exact mm4 | exact mm5 | exact mm6 | exact mm7 | exact mm8) (by first | exact fun _ => ss0 | exact fun _ => ss1 | exact fun _ => ss2 | exact fun _ => ss3 | exact fun _ => ss4 | exact fun _ => ss5 | exact fun _ => ss6) rfl rfl rfl (by omega) hL.size ?_; clear hL; intro ao' c' wq hL))
        go_roundw
        case rel => exact ⟨k + 1, _, by omega, by go_num, rfl, by rw [HT2.out]; exact hL.sub (by repeat (first | exact List.nil_sublist _ | with_reducible apply List.Sublist.cons_cons | with_reducible apply List.Sublist.cons))⟩
        case measure => simp [intOf]; omega
    · obtain rfl : k = xs.length := by omega
      have HT := Lib.hid (show xs.take xs.length = xs from List.take_length)
      rw [HT.out] at hL
      go_wp2
      go_ret
      exact ⟨_, rfl, hL⟩
end Go.Proofs.YtebpacmhdkgfeaaDoor

/- slices.Grow of nil, and slices.Concat, at string. -/
namespace Go.Proofs.YtebpacmhdkgfeaaDoor.ConcatS
open Go.RowKit

theorem row0 {w0 w : World} {M : Nat → Prop} {l : List Item} (h : Loc w0 M w l) {α : Type} (E : Enc α) (base : Nat) (e : TypeId) : Loc w0 M w (row E base e (.slice none 0 0) [] :: l) :=
  h.callNew (Below.refl _ _) (row_at (Enc.O.none _ _ _)) fun k hk => by cases hk
set_option maxHeartbeats 1000000 in
theorem growNil (n : Nat) (w : World) (hn : n ≤ 100000000000) :
    Calls Tryd.prog 58 #[.slice none 0 0, .int .i64 n] w fun e w' => ∃ v, e = .returned v ∧ Loc w NoM w' [row encS w.heap.size 9 v []] := by
  have hL := Loc.nil w NoM
  have h0 : ¬ ((n : Int) < 0) := by omega
  by_cases hz : n = 0
  · subst hz
    have hL := row0 hL encS w.heap.size 9
    go_enter Tryd.func58, Tryd.ntmps58
    go_wp2_with (first | ((with_reducible refine gAlloc rfl rfl ?_); (refine ev_allocL rfl hL rfl (by first | exact CellsC.of | exact cells_one (by assumption) (by assumption) | exact cells_agg _ rfl) ?_; clear hL; intro gq wq hL)) | ((with_reducible refine gBox rfl rfl ?_); (refine ev_boxL rfl hL rfl rfl (by first | exact CellsC.of | exact cells_one (by assumption) (by assumption) | exact cells_agg _ rfl) ?_; clear hL; intro gq wq hL)) | ((with_reducible refine gLoad rfl rfl ?_); (first | (refine ev_load1L rfl hL rfl rfl HasV.mem (by rfl) ?_) | (refine ev_loadAllL rfl hL rfl rfl HasV.mem (by rfl) ?_) | (refine ev_loadL rfl hL rfl rfl HasV.mem SegC.seg ?_))) | ((with_reducible refine gStore rfl rfl ?_); (first | (refine ev_storeC rfl hL rfl rfl rfl (by first | exact CellsC.of | exact cells_one (by assumption) (by assumption) | exact cells_agg _ rfl) (by rfl) ?_) | (refine ev_storeAllC rfl hL rfl rfl rfl (by first | exact CellsC.of | exact cells_one (by assumption) (by assumption) | exact cells_agg _ rfl) (by rfl) (by rfl) ?_)); clear hL; intro wq hL) | ((with_reducible refine gLoadG rfl rfl ?_ ?_); (exact wanted_some rfl rfl rfl (by with_reducible rfl)); (first | (refine ev_load1G (wanted_some rfl rfl rfl rfl) hL rfl rfl HasV.mem (by rfl) ?_) | (refine ev_loadAllG (wanted_some rfl rfl rfl rfl) hL rfl rfl HasV.mem (by rfl) ?_) | (refine ev_loadG_ (wanted_some rfl rfl rfl rfl) hL rfl rfl HasV.mem SegC.seg ?_))))
    go_ret
    exact ⟨_, rfl, hL⟩
  · have h1 : (0 : Int) < (n : Int) := by omega
    go_enter Tryd.func58, Tryd.ntmps58
    go_wp2_with (first
      | ((with_reducible refine gAlloc rfl rfl ?_); (refine ev_allocL rfl hL rfl (by first | exact CellsC.of | exact cells_one (by assumption) (by assumption) | exact cells_agg _ rfl) ?_; clear hL; intro gq wq hL)) | ((with_reducible refine gBox rfl rfl ?_); (refine ev_boxL rfl hL rfl rfl (by first | exact CellsC.of | exact cells_one (by assumption) (by assumption) | exact cells_agg _ rfl) ?_; clear hL; intro gq wq hL)) | ((with_reducible refine gLoad rfl rfl ?_); (first | (refine ev_load1L rfl hL rfl rfl HasV.mem (by rfl) ?_) | (refine ev_loadAllL rfl hL rfl rfl HasV.mem (by rfl) ?_) | (refine ev_loadL rfl hL rfl rfl HasV.mem SegC.seg ?_))) | ((with_reducible refine gStore rfl rfl ?_); (first | (refine ev_storeC rfl hL rfl rfl rfl (by first | exact CellsC.of | exact cells_one (by assumption) (by assumption) | exact cells_agg _ rfl) (by rfl) ?_) | (refine ev_storeAllC rfl hL rfl rfl rfl (by first | exact CellsC.of | exact cells_one (by assumption) (by assumption) | exact cells_agg _ rfl) (by rfl) (by rfl) ?_)); clear hL; intro wq hL) | ((with_reducible refine gLoadG rfl rfl ?_ ?_); (exact wanted_some rfl rfl rfl (by with_reducible rfl)); (first | (refine ev_load1G (wanted_some rfl rfl rfl rfl) hL rfl rfl HasV.mem (by rfl) ?_) | (refine ev_loadAllG (wanted_some rfl rfl rfl rfl) hL rfl rfl HasV.mem (by rfl) ?_) | (refine ev_loadG_ (wanted_some rfl rfl rfl rfl) hL rfl rfl HasV.mem SegC.seg ?_)))
      | (at_builtin; refine ev_growNil encS w.heap.size rfl hL rfl rfl rfl Tryd.underlying3 rfl rfl (by omega) hn (Nat.le_refl _) ?_; clear hL; intro g G wq hG hG63 hL; have hG2 : (0 : Int) ≤ (G : Int) := by omega))
    go_ret
    exact ⟨_, rfl, hL⟩
/-- What k of the lists hold together. -/
def upto {α : Type} (xss : List (List α)) (k : Nat) : List α := (xss.take k).flatten
theorem upto_succ {α : Type} (xss : List (List α)) (k : Nat) (h : k < xss.length) : upto xss (k + 1) = upto xss k ++ xss[k] := by
  unfold upto
  rw [(List.take_append_getElem h).symm, List.flatten_append]
  simp
theorem upto_len {α : Type} (xss : List (List α)) (k : Nat) : (upto xss k).length ≤ xss.flatten.length := by
  have h : xss.flatten = upto xss k ++ (xss.drop k).flatten := by unfold upto; rw [← List.flatten_append, List.take_append_drop]
  rw [h, List.length_append]
  omega
set_option maxHeartbeats 2000000 in
theorem concat (v : Value) (ss : List Sl) (xss : List (List ByteArray)) (w : World) (h : encSl.R w v ss) (hl : ss.length = xss.length) (hx : ∀ i (h1 : i < ss.length) (h2 : i < xss.length), (encS).R w ss[i].val xss[i]) (hn : xss.flatten.length ≤ 1000000000) (hm : ss.length ≤ 1000000000) :
    Calls Tryd.prog 45 #[v] w fun e w' => ∃ u, e = .returned u ∧ Loc w NoM w' [row encS w.heap.size 9 u xss.flatten] := by
  have hL := Loc.nil w NoM
  obtain ⟨ao, c, rfl, hel⟩ := R_elem h
  have HX := Lib.hid hx
  have HL := Lib.hid hl
  clear hx h hl
  go_enter Tryd.func45, Tryd.ntmps45
  go_wp2_with (first | ((with_reducible refine gAlloc rfl rfl ?_); (refine ev_allocL rfl hL rfl (by first | exact CellsC.of | exact cells_one (by assumption) (by assumption) | exact cells_agg _ rfl) ?_; clear hL; intro gq wq hL)) | ((with_reducible refine gBox rfl rfl ?_); (refine ev_boxL rfl hL rfl rfl (by first | exact CellsC.of | exact cells_one (by assumption) (by assumption) | exact cells_agg _ rfl) ?_; clear hL; intro gq wq hL)) | ((with_reducible refine gLoad rfl rfl ?_); (first | (refine ev_load1L rfl hL rfl rfl HasV.mem (by rfl) ?_) | (refine ev_loadAllL rfl hL rfl rfl HasV.mem (by rfl) ?_) | (refine ev_loadL rfl hL rfl rfl HasV.mem SegC.seg ?_))) | ((with_reducible refine gStore rfl rfl ?_); (first | (refine ev_storeC rfl hL rfl rfl rfl (by first | exact CellsC.of | exact cells_one (by assumption) (by assumption) | exact cells_agg _ rfl) (by rfl) ?_) | (refine ev_storeAllC rfl hL rfl rfl rfl (by first | exact CellsC.of | exact cells_one (by assumption) (by assumption) | exact cells_agg _ rfl) (by rfl) (by rfl) ?_)); clear hL; intro wq hL) | ((with_reducible refine gLoadG rfl rfl ?_ ?_); (exact wanted_some rfl rfl rfl (by with_reducible rfl)); (first | (refine ev_load1G (wanted_some rfl rfl rfl rfl) hL rfl rfl HasV.mem (by rfl) ?_) | (refine ev_loadAllG (wanted_some rfl rfl rfl rfl) hL rfl rfl HasV.mem (by rfl) ?_) | (refine ev_loadG_ (wanted_some rfl rfl rfl rfl) hL rfl rfl HasV.mem SegC.seg ?_))))
  go_loopw [3, 11] (fun s i wr => ∃ k : Nat, k ≤ ss.length ∧ i = .int .i64 k ∧ s = .int .i64 ((upto xss k).length : Nat) ∧ Loc w NoM wr []) (fun _ i _ => ss.length - (intOf i).toNat)
  case atStart => exact ⟨0, by omega, rfl, rfl, hL⟩
  case round =>
    clear hL
    obtain ⟨k, hk, rfl, rfl, hL⟩ := hrel
    by_cases hlt : k < ss.length
    · obtain ⟨g, off, rfl, hr⟩ := hel k hlt
      have hrW : wr.rangeAt g (off + k * 1) [.slice ss[k].a ss[k].n ss[k].c] := range_below hr hL.below
      clear hr
      have hlt2 : k < xss.length := by have := HL.out; omega
      have hR := HX.out k hlt hlt2
      obtain ⟨ao2, c2, e2, -⟩ := R_elem hR
      have HN : Hid ((upto xss (k + 1)).length = (upto xss k).length + ss[k].n) := Lib.hid (by
        rw [upto_succ xss k hlt2, List.length_append]
        have e3 : ss[k].n = xss[k].length := by unfold Sl.val at e2; injection e2
        rw [e3])
      have hb1 := upto_len xss (k + 1)
      rw [HN.out] at hb1
      generalize (upto xss k).length = N at *
      clear hR e2
      generalize ss[k].n = m at *
      generalize ss[k].a = aa at *
      generalize ss[k].c = cc at *
      have hb2 : N + m ≤ 1000000000 := by omega
      have hneg : ¬ ((N : Int) + (m : Int) < 0) := by omega
      go_wp2_with (first
        | ((with_reducible refine gIndex rfl rfl ?_); refine ev_indexL rfl rfl rfl rfl hlt ?_)
        | ((with_reducible refine gate (N := 14) rfl ?_); refine ev_loadR1 (v := .slice aa m cc) rfl rfl rfl hrW ?_)
        | ((with_reducible refine gAlloc rfl rfl ?_); (refine ev_allocL rfl hL rfl (by first | exact CellsC.of | exact cells_one (by assumption) (by assumption) | exact cells_agg _ rfl) ?_; clear hL; intro gq wq hL)) | ((with_reducible refine gBox rfl rfl ?_); (refine ev_boxL rfl hL rfl rfl (by first | exact CellsC.of | exact cells_one (by assumption) (by assumption) | exact cells_agg _ rfl) ?_; clear hL; intro gq wq hL)) | ((with_reducible refine gLoad rfl rfl ?_); (first | (refine ev_load1L rfl hL rfl rfl HasV.mem (by rfl) ?_) | (refine ev_loadAllL rfl hL rfl rfl HasV.mem (by rfl) ?_) | (refine ev_loadL rfl hL rfl rfl HasV.mem SegC.seg ?_))) | ((with_reducible refine gStore rfl rfl ?_); (first | (refine ev_storeC rfl hL rfl rfl rfl (by first | exact CellsC.of | exact cells_one (by assumption) (by assumption) | exact cells_agg _ rfl) (by rfl) ?_) | (refine ev_storeAllC rfl hL rfl rfl rfl (by first | exact CellsC.of | exact cells_one (by assumption) (by assumption) | exact cells_agg _ rfl) (by rfl) (by rfl) ?_)); clear hL; intro wq hL) | ((with_reducible refine gLoadG rfl rfl ?_ ?_); (exact wanted_some rfl rfl rfl (by with_reducible rfl)); (first | (refine ev_load1G (wanted_some rfl rfl rfl rfl) hL rfl rfl HasV.mem (by rfl) ?_) | (refine ev_loadAllG (wanted_some rfl rfl rfl rfl) hL rfl rfl HasV.mem (by rfl) ?_) | (refine ev_loadG_ (wanted_some rfl rfl rfl rfl) hL rfl rfl HasV.mem SegC.seg ?_))))
      go_roundw
      case rel => exact ⟨k + 1, by omega, by go_num, by rw [HN.out]; go_num, hL⟩
      case measure => simp [intOf]; omega
    · obtain rfl : k = ss.length := by omega
      have hb1 := upto_len xss ss.length
      generalize (upto xss ss.length).length = N at *
      go_wp2_with (first
        | (go_at_call 58; (with_reducible refine (growNil N _ (by omega)).mono ?_); rintro e w3 ⟨v0, rfl, hL3⟩; have hL := hL.takeRow hL3; clear hL3)
        | ((with_reducible refine gAlloc rfl rfl ?_); (refine ev_allocL rfl hL rfl (by first | exact CellsC.of | exact cells_one (by assumption) (by assumption) | exact cells_agg _ rfl) ?_; clear hL; intro gq wq hL)) | ((with_reducible refine gBox rfl rfl ?_); (refine ev_boxL rfl hL rfl rfl (by first | exact CellsC.of | exact cells_one (by assumption) (by assumption) | exact cells_agg _ rfl) ?_; clear hL; intro gq wq hL)) | ((with_reducible refine gLoad rfl rfl ?_); (first | (refine ev_load1L rfl hL rfl rfl HasV.mem (by rfl) ?_) | (refine ev_loadAllL rfl hL rfl rfl HasV.mem (by rfl) ?_) | (refine ev_loadL rfl hL rfl rfl HasV.mem SegC.seg ?_))) | ((with_reducible refine gStore rfl rfl ?_); (first | (refine ev_storeC rfl hL rfl rfl rfl (by first | exact CellsC.of | exact cells_one (by assumption) (by assumption) | exact cells_agg _ rfl) (by rfl) ?_) | (refine ev_storeAllC rfl hL rfl rfl rfl (by first | exact CellsC.of | exact cells_one (by assumption) (by assumption) | exact cells_agg _ rfl) (by rfl) (by rfl) ?_)); clear hL; intro wq hL) | ((with_reducible refine gLoadG rfl rfl ?_ ?_); (exact wanted_some rfl rfl rfl (by with_reducible rfl)); (first | (refine ev_load1G (wanted_some rfl rfl rfl rfl) hL rfl rfl HasV.mem (by rfl) ?_) | (refine ev_loadAllG (wanted_some rfl rfl rfl rfl) hL rfl rfl HasV.mem (by rfl) ?_) | (refine ev_loadG_ (wanted_some rfl rfl rfl rfl) hL rfl rfl HasV.mem SegC.seg ?_))))
      clear hb1 hk hlt
      go_loopw [6, 27] (fun s i wr => ∃ (k : Nat) (vs : Value), k ≤ ss.length ∧ i = .int .i64 k ∧ s = vs ∧ Loc w NoM wr [row encS w.heap.size 9 vs (upto xss k)]) (fun _ i _ => ss.length - (intOf i).toNat)
      case atStart => exact ⟨0, _, by omega, rfl, rfl, hL⟩
      case round =>
        clear hL
        obtain ⟨k, vs, hk, rfl, rfl, hL⟩ := hrel
        by_cases hlt : k < ss.length
        · obtain ⟨g, off, rfl, hr⟩ := hel k hlt
          have hrW : wr.rangeAt g (off + k * 1) [.slice ss[k].a ss[k].n ss[k].c] := range_below hr hL.below
          clear hr
          have hlt2 : k < xss.length := by have := HL.out; omega
          have hR := Lib.hid ((HX.out k hlt hlt2).below hL.below)
          have HN := Lib.hid (upto_succ xss k hlt2)
          have hb1 := upto_len xss (k + 1)
          rw [HN.out, List.length_append] at hb1
          unfold Sl.val at hR
          generalize upto xss k = L at *
          generalize xss[k] = ys at *
          generalize ss[k].n = m at *
          generalize ss[k].a = aa at *
          generalize ss[k].c = cc at *
          go_wp2_with (first
            | ((with_reducible refine gIndex rfl rfl ?_); refine ev_indexL rfl rfl rfl rfl hlt ?_)
            | ((with_reducible refine gate (N := 30) rfl ?_); refine ev_loadR1 (v := .slice aa m cc) rfl rfl rfl hrW ?_)
            | ((with_reducible refine gAlloc rfl rfl ?_); (refine ev_allocL rfl hL rfl (by first | exact CellsC.of | exact cells_one (by assumption) (by assumption) | exact cells_agg _ rfl) ?_; clear hL; intro gq wq hL)) | ((with_reducible refine gBox rfl rfl ?_); (refine ev_boxL rfl hL rfl rfl (by first | exact CellsC.of | exact cells_one (by assumption) (by assumption) | exact cells_agg _ rfl) ?_; clear hL; intro gq wq hL)) | ((with_reducible refine gLoad rfl rfl ?_); (first | (refine ev_load1L rfl hL rfl rfl HasV.mem (by rfl) ?_) | (refine ev_loadAllL rfl hL rfl rfl HasV.mem (by rfl) ?_) | (refine ev_loadL rfl hL rfl rfl HasV.mem SegC.seg ?_))) | ((with_reducible refine gStore rfl rfl ?_); (first | (refine ev_storeC rfl hL rfl rfl rfl (by first | exact CellsC.of | exact cells_one (by assumption) (by assumption) | exact cells_agg _ rfl) (by rfl) ?_) | (refine ev_storeAllC rfl hL rfl rfl rfl (by first | exact CellsC.of | exact cells_one (by assumption) (by assumption) | exact cells_agg _ rfl) (by rfl) (by rfl) ?_)); clear hL; intro wq hL) | ((with_reducible refine gLoadG rfl rfl ?_ ?_); (exact wanted_some rfl rfl rfl (by with_reducible rfl)); (first | (refine ev_load1G (wanted_some rfl rfl rfl rfl) hL rfl rfl HasV.mem (by rfl) ?_) | (refine ev_loadAllG (wanted_some rfl rfl rfl rfl) hL rfl rfl HasV.mem (by rfl) ?_) | (refine ev_loadG_ (wanted_some rfl rfl rfl rfl) hL rfl rfl HasV.mem SegC.seg ?_)))
            | (at_builtin; refine ev_appL (E := encS) ys rfl hL rfl rfl rfl hR.out (by first | exact fun _ => ss0 | exact fun _ => ss1 | exact fun _ => ss2 | exact fun _ => ss3 | exact fun _ => ss4 | exact fun _ => ss5 | exact fun _ => ss6) rfl rfl (by omega) hL.size ?_; clear hL hR; intro v' wq hL))
          go_roundw
          case rel => exact ⟨k + 1, _, by omega, by go_num, rfl, by rw [HN.out]; exact hL⟩
          case measure => simp [intOf]; omega
        · obtain rfl : k = ss.length := by omega
          have HT := Lib.hid (show upto xss ss.length = xss.flatten from by unfold upto; rw [HL.out, List.take_length])
          rw [HT.out] at hL
          go_wp2
          go_ret
          exact ⟨_, rfl, hL⟩
end Go.Proofs.YtebpacmhdkgfeaaDoor.ConcatS

/- Chapter 29: helps for an inode's line. -/
namespace Go.Proofs.YtebpacmhdkgfeaaDoor
open Go.RowKit

theorem ref23_d (n : Int) (h : I64 n) (w : World) : Calls Tryd.prog 28 #[.int .i64 n] w fun e w' => e = .returned (.string (itoaB n)) ∧ Below w.heap.size w w' := ref23_digits n w h.1 h.2
theorem word_pc (p : Pce) (h : I64 p.idx) : p.word.size ≤ 1000000000 := by
  have := h.size
  unfold Pce.word
  simp only [ByteArray.size_append, ByteArray.size_mk']
  simp
  omega
theorem word_xt (x : Xat) (h : x.name.size ≤ 900000000) : x.word.size ≤ 1000000000 := by
  unfold Xat.word
  split <;> (simp only [ByteArray.size_append, ByteArray.size_mk']; simp; omega)
theorem three_ {α : Type} {E : Enc α} {w : World} {s0 s1 s2 : Sl} {x0 x1 x2 : List α} (h0 : E.R w s0.val x0) (h1 : E.R w s1.val x1) (h2 : E.R w s2.val x2) :
    ∀ i (_ : i < [s0, s1, s2].length) (_ : i < [x0, x1, x2].length), E.R w [s0, s1, s2][i].val [x0, x1, x2][i] := by
  intro i hi hi2
  match i, hi with
  | 0, _ => exact h0
  | 1, _ => exact h1
  | 2, _ => exact h2
end Go.Proofs.YtebpacmhdkgfeaaDoor
