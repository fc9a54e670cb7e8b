/- A vector as a line: msg.Seen and the document's Seen. -/
import Derived.Test.YtbkffeabikjnhaaDoorTex
namespace Go.Proofs.YtbkffeabikjnhaaDoor
open Go.RowKit

/-- A row that is not there yet. -/
theorem Loc.rowNil {α : Type} {w0 w : World} {M : Nat → Prop} {l : List Item} (h : Loc w0 M w l) (E : Enc α) (base : Nat) (e : TypeId) : Loc w0 M w (row E base e (.slice none 0 0) [] :: l) :=
  h.callNew (Below.refl _ _) (row_at (Enc.O.none _ _ _)) fun k hk => by cases hk
theorem join_snoc (xs : List (List UInt8)) (y sep : List UInt8) : Lib.join (xs ++ [y]) sep = if xs = [] then y else Lib.join xs sep ++ sep ++ y := by
  cases xs with
  | nil => simp [Lib.join_one]
  | cons x r => rw [List.cons_append, Lib.join_cons, if_neg (by simp), Lib.join_cons]; simp [Lib.joinTail]
namespace V8
/-- How many entries there are up to the last that is not 0, of the first k. -/
def lastN (v : V8) : Nat → Nat
  | 0 => 0
  | k + 1 => if v.get k = 0 then lastN v k else k + 1
def last (v : V8) : Nat := v.lastN 8
theorem lastN_le (v : V8) (k : Nat) : v.lastN k ≤ k := by
  induction k with
  | zero => simp [lastN]
  | succ k ih => unfold lastN; split <;> omega
theorem last_le (v : V8) : v.last ≤ 8 := v.lastN_le 8
theorem lt_lastN (v : V8) (i : Nat) : ∀ k, i < v.lastN k ↔ ∃ j, i ≤ j ∧ j < k ∧ v.get j ≠ 0 := by
  intro k
  induction k with
  | zero => simp [lastN]
  | succ k ih =>
    unfold lastN
    split
    · rename_i h
      rw [ih]
      constructor
      · rintro ⟨j, h1, h2, h3⟩; exact ⟨j, h1, by omega, h3⟩
      · rintro ⟨j, h1, h2, h3⟩
        exact ⟨j, h1, by rcases Nat.lt_or_ge j k with h4 | h4; exact h4; exact absurd (by rw [show j = k by omega]; exact h) h3, h3⟩
    · rename_i h
      constructor
      · intro h1; exact ⟨k, by omega, by omega, h⟩
      · rintro ⟨j, h1, h2, h3⟩; omega
/-- The first k entries as a line. -/
def line (v : V8) (k : Nat) : List UInt8 := Lib.join ((v.list.take k).map Lib.itoa) [44]
def seenB (v : V8) : ByteArray := ⟨(v.line v.last).toArray⟩
theorem line_zero (v : V8) : v.line 0 = [] := rfl
theorem line_succ (v : V8) (k : Nat) (h : k < 8) : v.line (k + 1) = if k = 0 then Lib.itoa (v.get 0) else v.line k ++ [44] ++ Lib.itoa (v.get k) := by
  unfold line
  rw [v.take_succ k h, List.map_append, List.map_singleton, join_snoc]
  by_cases hk : k = 0
  · subst hk; simp
  · rw [if_neg (by simp [V8.list]; omega), if_neg hk]
def wf (v : V8) : Prop := ∀ k, k < 8 → I64 (v.get k)
theorem line_len (v : V8) (h : v.wf) : ∀ k, k ≤ 8 → (v.line k).length ≤ 31 * k := by
  intro k
  induction k with
  | zero => intro _; simp [line_zero]
  | succ k ih =>
    intro hk
    have h1 := ih (by omega)
    have h2 : (Lib.itoa (v.get k)).length ≤ 30 := by have := (h k (by omega)).size; simpa [itoaB, ByteArray.size] using this
    rw [v.line_succ k (by omega)]
    split
    · rename_i e; subst e; omega
    · simp only [List.length_append, List.length_singleton]; omega
end V8
def V8.cells (v : V8) : List Value := [.int .i64 v.a0, .int .i64 v.a1, .int .i64 v.a2, .int .i64 v.a3, .int .i64 v.a4, .int .i64 v.a5, .int .i64 v.a6, .int .i64 v.a7]
theorem V8.cells_get (v : V8) (k : Nat) (h : k < 8) : v.cells[k]? = some (.int .i64 (v.get k)) := by
  have e : k = 0 ∨ k = 1 ∨ k = 2 ∨ k = 3 ∨ k = 4 ∨ k = 5 ∨ k = 6 ∨ k = 7 := by omega
  rcases e with rfl | rfl | rfl | rfl | rfl | rfl | rfl | rfl <;> rfl
theorem join_c (v : Value) (xs : List ByteArray) (sep : ByteArray) (w : World) (base : Nat) (h : encS.O w base 9 v xs) (hlen : (Lib.join (xs.map (·.data.toList)) sep.data.toList).length ≤ 140737488355328) (hN : xs.length ≤ 140737488355328) :
    Calls Tryd.prog 59 #[v, .string sep] w fun e w' => e = .returned (.string ⟨(Lib.join (xs.map (·.data.toList)) sep.data.toList).toArray⟩) ∧ Below w.heap.size w w' := by
  unfold Enc.O at h
  rcases h.2 with ⟨rfl, h0⟩ | ⟨g, cap, cur, rfl, hb, hg, h1, h2, h3, h4⟩
  · obtain rfl : xs = [] := List.eq_nil_of_length_eq_zero h0
    exact (Tryd.strings_Join_none none 0 sep w).mono fun _ _ ⟨he, hw⟩ => ⟨he, by rw [hw]; exact Below.refl _ _⟩
  · refine Tryd.strings_Join g 0 cap xs sep w (fun j x hj => ?_) (h.lt g rfl).2 hN h1 hlen
    have hj' : j < xs.length := (List.getElem?_eq_some_iff.1 hj).1
    have hc := h.cells (g := g) rfl j (.string x) (by
      have := encS.all_get xs j 0 hj' (by decide)
      have e : xs[j] = x := (List.getElem?_eq_some_iff.1 hj).2
      rw [e] at this
      simpa [encS] using this)
    have ha : (⟨g, 0, none⟩ : Addr).add j = ⟨g, 0 + j, none⟩ := by unfold Addr.add; split <;> simp_all
    rw [ha] at hc
    exact hc
def V8.itoas (v : V8) (k : Nat) : List ByteArray := (v.list.take k).map itoaB
theorem line_join (v : V8) (k : Nat) : Lib.join ((v.itoas k).map (·.data.toList)) ([44] : List UInt8) = v.line k := by
  unfold V8.line V8.itoas
  rw [List.map_map]
  rfl
set_option maxHeartbeats 1000000 in
theorem msg_seen (v : V8) (w : World) (hv : v.wf) (ht : Tb w) :
    Calls Tryd.prog 23 #[v.val] w fun e w' => e = .returned (.string v.seenB) ∧ Below w.heap.size w w' := by
  have hL := Loc.nil w NoM
  have hlast := v.last_le
  go_enter Tryd.func23, Tryd.ntmps23
  go_wp2_with (first
    | ((with_reducible refine gBox rfl rfl ?_); refine ev_boxL (cs := v.cells) rfl hL rfl rfl (cells_agg v.cells rfl) ?_; clear hL; intro g1 w1 hL)
    | ((with_reducible refine gAlloc rfl rfl ?_); (refine ev_allocL rfl hL rfl (by first | exact cells_agg _ rfl | exact cells_int _ _ | exact cells_str _ | exact cells_bool _ | exact cells_slice _ _ _ | exact cells_ptr _ | exact cells_map _ | exact cells_func _ _ _ | exact cells_nilFunc | exact cells_one (by assumption) (by assumption)) ?_; clear hL; intro gq wq hL)) | ((with_reducible refine gBox rfl rfl ?_); (refine ev_boxL rfl hL rfl rfl (by first | exact cells_agg _ rfl | exact cells_int _ _ | exact cells_str _ | exact cells_bool _ | exact cells_slice _ _ _ | exact cells_ptr _ | exact cells_map _ | exact cells_func _ _ _ | exact cells_nilFunc | exact cells_one (by assumption) (by assumption)) ?_; clear hL; intro gq wq hL)) | ((with_reducible refine gLoad rfl rfl ?_); (first | (refine ev_load1L rfl hL rfl rfl HasV.mem (by rfl) ?_) | (refine ev_loadAllL rfl hL rfl rfl HasV.mem (by rfl) ?_) | (refine ev_loadL rfl hL rfl rfl HasV.mem SegC.seg ?_))) | ((with_reducible refine gStore rfl rfl ?_); (first | (refine ev_storeC rfl hL rfl rfl rfl (by first | exact cells_agg _ rfl | exact cells_int _ _ | exact cells_str _ | exact cells_bool _ | exact cells_slice _ _ _ | exact cells_ptr _ | exact cells_map _ | exact cells_func _ _ _ | exact cells_nilFunc | exact cells_one (by assumption) (by assumption)) (by rfl) ?_) | (refine ev_storeAllC rfl hL rfl rfl rfl (by first | exact cells_agg _ rfl | exact cells_int _ _ | exact cells_str _ | exact cells_bool _ | exact cells_slice _ _ _ | exact cells_ptr _ | exact cells_map _ | exact cells_func _ _ _ | exact cells_nilFunc | exact cells_one (by assumption) (by assumption)) (by rfl) (by rfl) ?_)); clear hL; intro wq hL) | ((with_reducible refine gLoadG rfl rfl ?_ ?_); (exact wanted_some rfl rfl rfl (by with_reducible rfl)); (first | (refine ev_load1G (wanted_some rfl rfl rfl rfl) hL rfl rfl HasV.mem (by rfl) ?_) | (refine ev_loadAllG (wanted_some rfl rfl rfl rfl) hL rfl rfl HasV.mem (by rfl) ?_) | (refine ev_loadG_ (wanted_some rfl rfl rfl rfl) hL rfl rfl HasV.mem SegC.seg ?_))))
  go_loop [3, 10] (fun a i => ∃ k : Nat, k ≤ 8 ∧ i = .int .i64 k ∧ a = .int .i64 (v.lastN k)) (fun _ i => 8 - (intOf i).toNat)
  case atStart => exact ⟨0, by omega, rfl, rfl⟩
  case round =>
    obtain ⟨k, hk, rfl, rfl⟩ := hrel
    by_cases hlt : k < 8
    · have hi : ∀ w, (Instr.index 25 (.agg v.cells.toArray) (.int .i64 (k : Int))).run Tryd.prog w = .ok (.int .i64 (v.get k)) w := idx8 v k hlt
      by_cases hz : v.get k = 0
      · have tz : (v.get k != 0) = false := by simp [hz]
        have HZ := Lib.hid (show v.lastN (k + 1) = v.lastN k by simp [V8.lastN, hz])
        clear hz
        go_wp2
        go_round
        case rel => exact ⟨k + 1, by omega, by go_num, by rw [HZ.out]⟩
        case measure => simp [intOf]; omega
      · have tz : (v.get k != 0) = true := by simp [hz]
        have HZ := Lib.hid (show v.lastN (k + 1) = k + 1 by simp [V8.lastN, hz])
        clear hz
        go_wp2
        go_round
        case rel => exact ⟨k + 1, by omega, by go_num, by rw [HZ.out]; go_num⟩
        case measure => simp [intOf]; omega
    · obtain rfl : k = 8 := by omega
      have hb0 : (0 : Int) ≤ (v.lastN 8 : Int) := by omega
      have hb8 : (v.lastN 8 : Int) ≤ 8 := by have : v.lastN 8 ≤ 8 := hlast; omega
      go_wp2_with (first | ((with_reducible refine gAlloc rfl rfl ?_); (refine ev_allocL rfl hL rfl (by first | exact cells_agg _ rfl | exact cells_int _ _ | exact cells_str _ | exact cells_bool _ | exact cells_slice _ _ _ | exact cells_ptr _ | exact cells_map _ | exact cells_func _ _ _ | exact cells_nilFunc | exact cells_one (by assumption) (by assumption)) ?_; clear hL; intro gq wq hL)) | ((with_reducible refine gBox rfl rfl ?_); (refine ev_boxL rfl hL rfl rfl (by first | exact cells_agg _ rfl | exact cells_int _ _ | exact cells_str _ | exact cells_bool _ | exact cells_slice _ _ _ | exact cells_ptr _ | exact cells_map _ | exact cells_func _ _ _ | exact cells_nilFunc | exact cells_one (by assumption) (by assumption)) ?_; clear hL; intro gq wq hL)) | ((with_reducible refine gLoad rfl rfl ?_); (first | (refine ev_load1L rfl hL rfl rfl HasV.mem (by rfl) ?_) | (refine ev_loadAllL rfl hL rfl rfl HasV.mem (by rfl) ?_) | (refine ev_loadL rfl hL rfl rfl HasV.mem SegC.seg ?_))) | ((with_reducible refine gStore rfl rfl ?_); (first | (refine ev_storeC rfl hL rfl rfl rfl (by first | exact cells_agg _ rfl | exact cells_int _ _ | exact cells_str _ | exact cells_bool _ | exact cells_slice _ _ _ | exact cells_ptr _ | exact cells_map _ | exact cells_func _ _ _ | exact cells_nilFunc | exact cells_one (by assumption) (by assumption)) (by rfl) ?_) | (refine ev_storeAllC rfl hL rfl rfl rfl (by first | exact cells_agg _ rfl | exact cells_int _ _ | exact cells_str _ | exact cells_bool _ | exact cells_slice _ _ _ | exact cells_ptr _ | exact cells_map _ | exact cells_func _ _ _ | exact cells_nilFunc | exact cells_one (by assumption) (by assumption)) (by rfl) (by rfl) ?_)); clear hL; intro wq hL) | ((with_reducible refine gLoadG rfl rfl ?_ ?_); (exact wanted_some rfl rfl rfl (by with_reducible rfl)); (first | (refine ev_load1G (wanted_some rfl rfl rfl rfl) hL rfl rfl HasV.mem (by rfl) ?_) | (refine ev_loadAllG (wanted_some rfl rfl rfl rfl) hL rfl rfl HasV.mem (by rfl) ?_) | (refine ev_loadG_ (wanted_some rfl rfl rfl rfl) hL rfl rfl HasV.mem SegC.seg ?_))))
      have hL := hL.rowNil encS w.heap.size 9
      have hl8 : v.lastN 8 ≤ 8 := hlast
      have HL := Lib.hid (show v.lastN 8 = v.last from rfl)
      generalize v.lastN 8 = n at *
      go_loopw [6, 22] (fun a i wr => ∃ (k : Nat) (vs : Value), k ≤ n ∧ i = .int .i64 k ∧ a = vs ∧ Loc w NoM wr [row encS w.heap.size 9 vs (v.itoas k), var g1 v.cells 25]) (fun _ i _ => n - (intOf i).toNat)
      case atStart => exact ⟨0, _, by omega, rfl, rfl, hL⟩
      case round =>
        clear hL
        obtain ⟨k, vs, hk, rfl, rfl, hL⟩ := hrel
        by_cases hlt : k < n
        · have hw := hv k (by omega)
          have hc : v.cells[0 + k * 1]? = some (.int .i64 (v.get k)) := by rw [show 0 + k * 1 = k by omega]; exact v.cells_get k (by omega)
          have HT := Lib.hid (show v.itoas (k + 1) = v.itoas k ++ [itoaB (v.get k)] by unfold V8.itoas; rw [v.take_succ k (by omega)]; simp)
          have hln : (v.itoas k).length ≤ k := by unfold V8.itoas; rw [List.length_map]; exact List.length_take_le _ _
          generalize v.get k = x at *
          go_wp2_with (first
            | ((with_reducible refine gIndex rfl rfl ?_); refine ev_indexL rfl rfl rfl rfl hlt ?_)
            | ((with_reducible refine gate (N := 25) rfl ?_); refine ev_load1L (v := .int .i64 x) rfl hL rfl rfl (by first | exact .head _ | exact .tail _ (.head _) | exact .tail _ (.tail _ (.head _)) | exact .tail _ (.tail _ (.tail _ (.head _))) | exact .tail _ (.tail _ (.tail _ (.tail _ (.head _)))) | exact .tail _ (.tail _ (.tail _ (.tail _ (.tail _ (.head _))))) | exact .tail _ (.tail _ (.tail _ (.tail _ (.tail _ (.tail _ (.head _)))))) | exact .tail _ (.tail _ (.tail _ (.tail _ (.tail _ (.tail _ (.tail _ (.head _))))))) | exact .tail _ (.tail _ (.tail _ (.tail _ (.tail _ (.tail _ (.tail _ (.tail _ (.head _))))))))) hc ?_)
            | (go_at_call 42; have hq := itoa_c x hw.1 hw.2 _ (ht.below hL.below); (with_reducible refine hq.mono ?_); rintro e w3 ⟨rfl, hb3⟩; have hL := hL.call hb3; clear hb3 hq)
            | ((with_reducible refine gLit rfl rfl ?_); refine ev_litL (cs := [.string (itoaB x)]) rfl hL rfl rfl rfl (by kernel_rfl) ?_; clear hL; intro gq wq hL)
            | ((with_reducible refine gAlloc rfl rfl ?_); (refine ev_allocL rfl hL rfl (by first | exact cells_agg _ rfl | exact cells_int _ _ | exact cells_str _ | exact cells_bool _ | exact cells_slice _ _ _ | exact cells_ptr _ | exact cells_map _ | exact cells_func _ _ _ | exact cells_nilFunc | exact cells_one (by assumption) (by assumption)) ?_; clear hL; intro gq wq hL)) | ((with_reducible refine gBox rfl rfl ?_); (refine ev_boxL rfl hL rfl rfl (by first | exact cells_agg _ rfl | exact cells_int _ _ | exact cells_str _ | exact cells_bool _ | exact cells_slice _ _ _ | exact cells_ptr _ | exact cells_map _ | exact cells_func _ _ _ | exact cells_nilFunc | exact cells_one (by assumption) (by assumption)) ?_; clear hL; intro gq wq hL)) | ((with_reducible refine gLoad rfl rfl ?_); (first | (refine ev_load1L rfl hL rfl rfl HasV.mem (by rfl) ?_) | (refine ev_loadAllL rfl hL rfl rfl HasV.mem (by rfl) ?_) | (refine ev_loadL rfl hL rfl rfl HasV.mem SegC.seg ?_))) | ((with_reducible refine gStore rfl rfl ?_); (first | (refine ev_storeC rfl hL rfl rfl rfl (by first | exact cells_agg _ rfl | exact cells_int _ _ | exact cells_str _ | exact cells_bool _ | exact cells_slice _ _ _ | exact cells_ptr _ | exact cells_map _ | exact cells_func _ _ _ | exact cells_nilFunc | exact cells_one (by assumption) (by assumption)) (by rfl) ?_) | (refine ev_storeAllC rfl hL rfl rfl rfl (by first | exact cells_agg _ rfl | exact cells_int _ _ | exact cells_str _ | exact cells_bool _ | exact cells_slice _ _ _ | exact cells_ptr _ | exact cells_map _ | exact cells_func _ _ _ | exact cells_nilFunc | exact cells_one (by assumption) (by assumption)) (by rfl) (by rfl) ?_)); clear hL; intro wq hL) | ((with_reducible refine gLoadG rfl rfl ?_ ?_); (exact wanted_some rfl rfl rfl (by with_reducible rfl)); (first | (refine ev_load1G (wanted_some rfl rfl rfl rfl) hL rfl rfl HasV.mem (by rfl) ?_) | (refine ev_loadAllG (wanted_some rfl rfl rfl rfl) hL rfl rfl HasV.mem (by rfl) ?_) | (refine ev_loadG_ (wanted_some rfl rfl rfl rfl) hL rfl rfl HasV.mem SegC.seg ?_)))
            | (at_builtin; refine ev_app1L (E := encS) (itoaB x) rfl hL rfl rfl rfl (by first | exact .head _ | exact .tail _ (.head _) | exact .tail _ (.tail _ (.head _)) | exact .tail _ (.tail _ (.tail _ (.head _))) | exact .tail _ (.tail _ (.tail _ (.tail _ (.head _)))) | exact .tail _ (.tail _ (.tail _ (.tail _ (.tail _ (.head _))))) | exact .tail _ (.tail _ (.tail _ (.tail _ (.tail _ (.tail _ (.head _)))))) | exact .tail _ (.tail _ (.tail _ (.tail _ (.tail _ (.tail _ (.tail _ (.head _))))))) | exact .tail _ (.tail _ (.tail _ (.tail _ (.tail _ (.tail _ (.tail _ (.tail _ (.head _))))))))) (by first | exact fun _ => .here _ | exact fun _ => .there _ (.here _) | exact fun _ => .there _ (.there _ (.here _)) | exact fun _ => .there _ (.there _ (.there _ (.here _))) | exact fun _ => .there _ (.there _ (.there _ (.there _ (.here _)))) | exact fun _ => .there _ (.there _ (.there _ (.there _ (.there _ (.here _))))) | exact fun _ => .there _ (.there _ (.there _ (.there _ (.there _ (.there _ (.here _))))))) rfl rfl rfl (by omega) hL.size ?_; clear hL; intro ao' c' wq hL))
          go_roundw
          case rel => exact ⟨k + 1, _, by omega, by go_num, rfl, by rw [HT.out]; exact hL.drop⟩
          case measure => simp [intOf]; omega
        · obtain rfl : k = n := by omega
          have hll := v.line_len hv k (by omega)
          have hln : (v.itoas k).length ≤ k := by unfold V8.itoas; rw [List.length_map]; exact List.length_take_le _ _
          go_wp2_with (first
            | (go_at_call 59; have hq := join_c _ _ ⟨#[44]⟩ _ _ (hL.own (E := encS) (by first | exact .head _ | exact .tail _ (.head _) | exact .tail _ (.tail _ (.head _)) | exact .tail _ (.tail _ (.tail _ (.head _))) | exact .tail _ (.tail _ (.tail _ (.tail _ (.head _)))) | exact .tail _ (.tail _ (.tail _ (.tail _ (.tail _ (.head _))))) | exact .tail _ (.tail _ (.tail _ (.tail _ (.tail _ (.tail _ (.head _)))))) | exact .tail _ (.tail _ (.tail _ (.tail _ (.tail _ (.tail _ (.tail _ (.head _))))))) | exact .tail _ (.tail _ (.tail _ (.tail _ (.tail _ (.tail _ (.tail _ (.tail _ (.head _)))))))))) (by show (Lib.join _ ([44] : List UInt8)).length ≤ _; rw [line_join]; omega) (by omega); (with_reducible refine hq.mono ?_); rintro e w3 ⟨rfl, hb3⟩; have hL := hL.call hb3; clear hb3 hq)
            | ((with_reducible refine gAlloc rfl rfl ?_); (refine ev_allocL rfl hL rfl (by first | exact cells_agg _ rfl | exact cells_int _ _ | exact cells_str _ | exact cells_bool _ | exact cells_slice _ _ _ | exact cells_ptr _ | exact cells_map _ | exact cells_func _ _ _ | exact cells_nilFunc | exact cells_one (by assumption) (by assumption)) ?_; clear hL; intro gq wq hL)) | ((with_reducible refine gBox rfl rfl ?_); (refine ev_boxL rfl hL rfl rfl (by first | exact cells_agg _ rfl | exact cells_int _ _ | exact cells_str _ | exact cells_bool _ | exact cells_slice _ _ _ | exact cells_ptr _ | exact cells_map _ | exact cells_func _ _ _ | exact cells_nilFunc | exact cells_one (by assumption) (by assumption)) ?_; clear hL; intro gq wq hL)) | ((with_reducible refine gLoad rfl rfl ?_); (first | (refine ev_load1L rfl hL rfl rfl HasV.mem (by rfl) ?_) | (refine ev_loadAllL rfl hL rfl rfl HasV.mem (by rfl) ?_) | (refine ev_loadL rfl hL rfl rfl HasV.mem SegC.seg ?_))) | ((with_reducible refine gStore rfl rfl ?_); (first | (refine ev_storeC rfl hL rfl rfl rfl (by first | exact cells_agg _ rfl | exact cells_int _ _ | exact cells_str _ | exact cells_bool _ | exact cells_slice _ _ _ | exact cells_ptr _ | exact cells_map _ | exact cells_func _ _ _ | exact cells_nilFunc | exact cells_one (by assumption) (by assumption)) (by rfl) ?_) | (refine ev_storeAllC rfl hL rfl rfl rfl (by first | exact cells_agg _ rfl | exact cells_int _ _ | exact cells_str _ | exact cells_bool _ | exact cells_slice _ _ _ | exact cells_ptr _ | exact cells_map _ | exact cells_func _ _ _ | exact cells_nilFunc | exact cells_one (by assumption) (by assumption)) (by rfl) (by rfl) ?_)); clear hL; intro wq hL) | ((with_reducible refine gLoadG rfl rfl ?_ ?_); (exact wanted_some rfl rfl rfl (by with_reducible rfl)); (first | (refine ev_load1G (wanted_some rfl rfl rfl rfl) hL rfl rfl HasV.mem (by rfl) ?_) | (refine ev_loadAllG (wanted_some rfl rfl rfl rfl) hL rfl rfl HasV.mem (by rfl) ?_) | (refine ev_loadG_ (wanted_some rfl rfl rfl rfl) hL rfl rfl HasV.mem SegC.seg ?_))))
          go_ret
          refine ⟨ret_s ?_, hL.below⟩
          unfold V8.seenB
          rw [← HL.out]
          refine congrArg (fun l : List UInt8 => (⟨l.toArray⟩ : ByteArray)) ?_
          rw [← line_join]
end Go.Proofs.YtbkffeabikjnhaaDoor
