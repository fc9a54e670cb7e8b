/- Texts laid together: REye4, RefCrc, RefSeal, Wire2, Get, Rd4, GetNo, Put2, Get2, Back. -/
import Derived.Test.YtbkffeabikjnhaaDoorGg7
/- The document's reader: vectors and marks. -/
namespace Go.Proofs.YtbkffeabikjnhaaDoor
open Go.RowKit

def V8.put (v : V8) (j : Nat) (x : Int) : V8 :=
  match j with
  | 0 => { v with a0 := x } | 1 => { v with a1 := x } | 2 => { v with a2 := x } | 3 => { v with a3 := x } | 4 => { v with a4 := x } | 5 => { v with a5 := x } | 6 => { v with a6 := x } | _ => { v with a7 := x }
def V8.cs8 (v : V8) : List Value := [.int .i64 v.a0, .int .i64 v.a1, .int .i64 v.a2, .int .i64 v.a3, .int .i64 v.a4, .int .i64 v.a5, .int .i64 v.a6, .int .i64 v.a7]
theorem V8.put_arr (v : V8) (j : Nat) (x : Int) (h : j < 8) : v.cs8.toArray.setIfInBounds j (.int .i64 x) = (v.put j x).cs8.toArray := by
  have h2 : j = 0 ∨ j = 1 ∨ j = 2 ∨ j = 3 ∨ j = 4 ∨ j = 5 ∨ j = 6 ∨ j = 7 := by omega
  rcases h2 with rfl | rfl | rfl | rfl | rfl | rfl | rfl | rfl <;> rfl
theorem V8.cell_lt (v : V8) (j : Nat) (h : j < 8) : ∃ u, v.cs8.toArray[j]? = some u := ⟨_, Array.getElem?_eq_getElem (by simpa [V8.cs8] using h)⟩
def seeK : Nat → V8 → ByteArray → Option (V8 × ByteArray)
  | 0, v, s => if v.good = true then some (v, s) else none
  | k + 1, v, s => (num? 6 s).bind fun p => seeK k (v.put (7 - k) p.1) p.2
theorem seeK_succ (k : Nat) (v : V8) (s : ByteArray) : seeK (k + 1) v s = (num? 6 s).bind fun p => seeK k (v.put (7 - k) p.1) p.2 := rfl
def seeF : Nat → V8 → ByteArray → V8
  | 0, v, _ => v
  | k + 1, v, s => seeF k (v.put (7 - k) (numAt s 0 6)) (eat s 6)
theorem seeK_eq : ∀ (k : Nat) (v : V8) (s : ByteArray), seeK k v s = if 6 * k ≤ s.size ∧ (seeF k v s).good = true then some (seeF k v s, eat s (6 * k)) else none
  | 0, v, s => by simp [seeK, seeF, eat_zero]
  | k + 1, v, s => by
    unfold seeK seeF num?
    by_cases h : 6 ≤ s.size
    · rw [if_pos h, Option.bind_some, seeK_eq k, eat_size, eat_eat]
      have e1 : numAt s 0 6 = numOf (List.take 6 s.data.toList) := by unfold numAt; rw [List.drop_zero]
      rw [e1]
      by_cases h2 : 6 * (k + 1) ≤ s.size
      · simp only [show 6 * k ≤ s.size - 6 from by omega, h2, true_and, show 6 + 6 * k = 6 * (k + 1) from by omega]
      · simp only [show ¬ 6 * k ≤ s.size - 6 from by omega, h2, false_and, if_false]
    · rw [if_neg h, if_neg (by omega)]; rfl
theorem seeK8 (s : ByteArray) : seeK 8 V8.zero s = vec? s := by
  rw [seeK_eq]
  have h : seeF 8 V8.zero s = seeV s := by
    simp only [seeF, numAt_eat, eat_eat, V8.put, V8.zero, Nat.reduceSub, Nat.reduceAdd]
    rfl
  rw [h]
  rfl
theorem look_of_go {α : Type} {r : ByteArray → Option (α × ByteArray)} {B : ByteArray} {st st' : Option Nat} {x : α} (h : go st B r = go st' B (fun s => some (x, s))) : Look r B st x st' := by
  cases st with
  | none =>
    cases st' with
    | none => rfl
    | some p => simp [go] at h
  | some pos =>
    have e : go (some pos) B r = r (eat B pos) := rfl
    rw [e] at h
    unfold Look
    simp only
    rw [h]
    cases st' with
    | none => rfl
    | some p => exact ⟨rfl, p, rfl, rfl⟩
/-- It is ended here. -/
theorem reyeF {g : Nat} {B : ByteArray} {st : Option Nat} {w0 w : World} {M : Nat → Prop} {l : List Item} {F : Option Nat → List Item} (c : Int) (hL : Loc w0 M w l) (hs : ∀ st', Swap (eyeI g B st) (eyeI g B st') l (F st')) (hc : c ≠ 0) :
    Calls Tryd.prog 111 #[.pointer (some ⟨g, 0, none⟩), .int .i64 c] w fun e w1 => e = .returned (.tuple #[]) ∧ Loc w0 M w1 (F none) := by
  have h := hL.eye (hs st).mem
  cases st with
  | none =>
    obtain ⟨pos, bad, hb, hx⟩ := h
    exact (re_failDead g B pos bad c w hx).mono fun e w1 ⟨h1, h2, h3⟩ => ⟨h1, hL.swap (hs none) (Mod.of_put h3) (eyeI_at ⟨pos, bad, hb, h2⟩) (fun _ hk => .inl hk)⟩
  | some pos =>
    exact (re_fail g B pos 0 c w h.2).mono fun e w1 ⟨h1, h2, h3⟩ => ⟨h1, hL.swap (hs none) (Mod.of_put h3) (eyeI_at ⟨pos, c, hc, h2⟩) (fun _ hk => .inl hk)⟩
theorem re_See (g : Nat) (B : ByteArray) (st : Option Nat) (w : World) (h : REye w g B st) (hB : B.size ≤ 100000000000) :
    Calls Tryd.prog 79 #[.pointer (some ⟨g, 0, none⟩)] w (RLook V8.val vec? B st g w) := by
  have hL : Loc w (· = g) w [eyeI g B st] := by
    refine ⟨.refl _ _, fun i hi => ?_, fun i hi k hk => ?_, .cons (by simp) .nil⟩
    · rw [List.mem_singleton.1 hi]; exact eyeI_at h
    · rw [List.mem_singleton.1 hi] at hk; exact .inr hk
  clear h
  have HG : Hid (go st B vec? = go st B (fun s => seeK 8 V8.zero s)) := Lib.hid (by congr 1; funext s; exact (seeK8 s).symm)
  have HP := fun v st' (h : Hid (go st B vec? = go st' B (fun s => some (v, s)))) => hide (look_of_go h.out)
  go_enter Tryd.func79, Tryd.ntmps79
  go_wp2_with (first
    | ((with_reducible refine gate (N := 2) rfl ?_); (refine ev_allocL rfl hL rfl (by first | exact cells_agg _ rfl | exact cells_int _ _ | exact cells_str _ | exact cells_bool _ | exact cells_slice _ _ _ | exact cells_ptr _ | exact cells_map _ | exact cells_func _ _ _ | exact cells_nilFunc | exact cells_one (by assumption) (by assumption)) ?_; clear hL; intro g2 w2 hL))
    | ((with_reducible refine gate (N := 3) rfl ?_); (refine ev_allocL rfl hL rfl (by first | exact cells_agg _ rfl | exact cells_int _ _ | exact cells_str _ | exact cells_bool _ | exact cells_slice _ _ _ | exact cells_ptr _ | exact cells_map _ | exact cells_func _ _ _ | exact cells_nilFunc | exact cells_one (by assumption) (by assumption)) ?_; clear hL; intro g3 w3 hL))
    | ((with_reducible refine gAlloc rfl rfl ?_); (refine ev_allocL rfl hL rfl (by first | exact cells_agg _ rfl | exact cells_int _ _ | exact cells_str _ | exact cells_bool _ | exact cells_slice _ _ _ | exact cells_ptr _ | exact cells_map _ | exact cells_func _ _ _ | exact cells_nilFunc | exact cells_one (by assumption) (by assumption)) ?_; clear hL; intro gq wq hL)) | ((with_reducible refine gBox rfl rfl ?_); (refine ev_boxL rfl hL rfl rfl (by first | exact cells_agg _ rfl | exact cells_int _ _ | exact cells_str _ | exact cells_bool _ | exact cells_slice _ _ _ | exact cells_ptr _ | exact cells_map _ | exact cells_func _ _ _ | exact cells_nilFunc | exact cells_one (by assumption) (by assumption)) ?_; clear hL; intro gq wq hL)) | ((with_reducible refine gLoad rfl rfl ?_); (first | (refine ev_load1L rfl hL rfl rfl HasV.mem (by rfl) ?_) | (refine ev_loadAllL rfl hL rfl rfl HasV.mem (by rfl) ?_) | (refine ev_loadL rfl hL rfl rfl HasV.mem SegC.seg ?_))) | ((with_reducible refine gStore rfl rfl ?_); (first | (refine ev_storeC rfl hL rfl rfl rfl (by first | exact cells_agg _ rfl | exact cells_int _ _ | exact cells_str _ | exact cells_bool _ | exact cells_slice _ _ _ | exact cells_ptr _ | exact cells_map _ | exact cells_func _ _ _ | exact cells_nilFunc | exact cells_one (by assumption) (by assumption)) (by rfl) ?_) | (refine ev_storeAllC rfl hL rfl rfl rfl (by first | exact cells_agg _ rfl | exact cells_int _ _ | exact cells_str _ | exact cells_bool _ | exact cells_slice _ _ _ | exact cells_ptr _ | exact cells_map _ | exact cells_func _ _ _ | exact cells_nilFunc | exact cells_one (by assumption) (by assumption)) (by rfl) (by rfl) ?_)); clear hL; intro wq hL) | ((with_reducible refine gLoadG rfl rfl ?_ ?_); (exact wanted_some rfl rfl rfl (by with_reducible rfl)); (first | (refine ev_load1G (wanted_some rfl rfl rfl rfl) hL rfl rfl HasV.mem (by rfl) ?_) | (refine ev_loadAllG (wanted_some rfl rfl rfl rfl) hL rfl rfl HasV.mem (by rfl) ?_) | (refine ev_loadG_ (wanted_some rfl rfl rfl rfl) hL rfl rfl HasV.mem SegC.seg ?_))))
  generalize hst : go st B vec? = G at *
  go_loopw [4, 6] (fun _ i wr => ∃ (j : Nat) (v : V8) (s1 : Option Nat), j ≤ 8 ∧ i = .int .i64 j ∧ Loc w (· = g) wr [var g3 v.cs8 25, var g2 V8.zero.cs8 25, eyeI g B s1] ∧ Hid (G = go s1 B (fun s => seeK (8 - j) v s))) (fun _ i _ => 8 - (intOf i).toNat)
  case atStart => exact ⟨0, V8.zero, st, by omega, rfl, hL, HG⟩
  case round =>
    clear HG hL
    obtain ⟨j, v, s1, hj, rfl, hL, HG⟩ := hrel
    by_cases hlt : j < 8
    · have H0 : (0 : Int) ≤ (j : Int) := by omega
      have H1 : (j : Int) < 8 := by omega
      have t0 : decide ((j : Int) < 8) = true := by simp; omega
      obtain ⟨u, hu⟩ := v.cell_lt j hlt
      have hpa := fun x => Lib.hid (v.put_arr j x hlt)
      go_wp2_with (first
        | (go_at_call 78; have hq := reyeL hL (fun _ => .there _ (.there _ (.here _))) (fun h => re_Num6 g B s1 _ h hB); (with_reducible refine hq.mono ?_); rintro e w4 ⟨x, s2, rfl, hL, hlk⟩; clear hq; have hx4 := hL.box (.head _); have hc4 : w4.cell? ⟨g3, j, none⟩ = some u := (hx4.cell j).trans hu; have hf4 := hx4.frozen j))
      go_roundw
      case rel =>
        refine ⟨j + 1, v.put j x, s2, by omega, by go_num, hL.put (.here _) (Box.setPut _ _ _ _) (hx4.set_ j _ (hpa x).out), Lib.hid ?_⟩
        rw [HG.out, show 8 - j = (8 - (j + 1)) + 1 from by omega]
        have := go_step hlk (fun p => seeK (8 - (j + 1)) (v.put (7 - (8 - (j + 1))) p.1) p.2)
        rw [show 7 - (8 - (j + 1)) = j from by omega] at this
        refine Eq.trans ?_ this
        congr 1
        funext s
        rw [seeK_succ]
        rw [show 7 - (8 - (j + 1)) = j from by omega]
      case measure => simp [intOf]; omega
    · obtain rfl : j = 8 := by omega
      have t0 : decide (((8 : Nat) : Int) < 8) = false := by simp
      have hgd : ∀ w, Hid (Calls Tryd.prog 52 #[.agg v.cs8.toArray] w fun e w' => e = .returned (.bool v.good) ∧ Below w.heap.size w w') := fun w => hide (ref_good v w)
      cases hg : v.good
      · rw [hg] at hgd
        have HN : Hid (G = none) := Lib.hid (by rw [HG.out]; unfold seeK go; cases s1 <;> simp [hg])
        clear hg HG
        go_wp2_with (first
          | (go_at_call 52; (with_reducible refine (unhide (hgd _)).mono ?_); rintro e w5 ⟨rfl, hb5⟩; have hL := hL.call hb5; clear hb5)
          | (go_at_call 111; have hq := reyeF 201 hL (fun _ => .there _ (.there _ (.here _))) (by decide); (with_reducible refine hq.mono ?_); rintro e w6 ⟨rfl, hL⟩; clear hq)
          | ((with_reducible refine gAlloc rfl rfl ?_); (refine ev_allocL rfl hL rfl (by first | exact cells_agg _ rfl | exact cells_int _ _ | exact cells_str _ | exact cells_bool _ | exact cells_slice _ _ _ | exact cells_ptr _ | exact cells_map _ | exact cells_func _ _ _ | exact cells_nilFunc | exact cells_one (by assumption) (by assumption)) ?_; clear hL; intro gq wq hL)) | ((with_reducible refine gBox rfl rfl ?_); (refine ev_boxL rfl hL rfl rfl (by first | exact cells_agg _ rfl | exact cells_int _ _ | exact cells_str _ | exact cells_bool _ | exact cells_slice _ _ _ | exact cells_ptr _ | exact cells_map _ | exact cells_func _ _ _ | exact cells_nilFunc | exact cells_one (by assumption) (by assumption)) ?_; clear hL; intro gq wq hL)) | ((with_reducible refine gLoad rfl rfl ?_); (first | (refine ev_load1L rfl hL rfl rfl HasV.mem (by rfl) ?_) | (refine ev_loadAllL rfl hL rfl rfl HasV.mem (by rfl) ?_) | (refine ev_loadL rfl hL rfl rfl HasV.mem SegC.seg ?_))) | ((with_reducible refine gStore rfl rfl ?_); (first | (refine ev_storeC rfl hL rfl rfl rfl (by first | exact cells_agg _ rfl | exact cells_int _ _ | exact cells_str _ | exact cells_bool _ | exact cells_slice _ _ _ | exact cells_ptr _ | exact cells_map _ | exact cells_func _ _ _ | exact cells_nilFunc | exact cells_one (by assumption) (by assumption)) (by rfl) ?_) | (refine ev_storeAllC rfl hL rfl rfl rfl (by first | exact cells_agg _ rfl | exact cells_int _ _ | exact cells_str _ | exact cells_bool _ | exact cells_slice _ _ _ | exact cells_ptr _ | exact cells_map _ | exact cells_func _ _ _ | exact cells_nilFunc | exact cells_one (by assumption) (by assumption)) (by rfl) (by rfl) ?_)); clear hL; intro wq hL) | ((with_reducible refine gLoadG rfl rfl ?_ ?_); (exact wanted_some rfl rfl rfl (by with_reducible rfl)); (first | (refine ev_load1G (wanted_some rfl rfl rfl rfl) hL rfl rfl HasV.mem (by rfl) ?_) | (refine ev_loadAllG (wanted_some rfl rfl rfl rfl) hL rfl rfl HasV.mem (by rfl) ?_) | (refine ev_loadG_ (wanted_some rfl rfl rfl rfl) hL rfl rfl HasV.mem SegC.seg ?_))))
        refine bodyPost_ret (res_cell rfl hL _ rfl HasV.mem (by rfl)) rfl ?_
        refine ⟨v, none, rfl, hL.eye (.tail _ (.tail _ (.head _))), Mod.put hL.mod, ?_⟩
        exact (HP v none (Lib.hid HN.out)).out
      · rw [hg] at hgd
        have HN : Hid (G = go s1 B fun s => some (v, s)) := Lib.hid (by rw [HG.out]; unfold seeK go; simp [hg])
        clear hg HG
        go_wp2_with (first
          | (go_at_call 52; (with_reducible refine (unhide (hgd _)).mono ?_); rintro e w5 ⟨rfl, hb5⟩; have hL := hL.call hb5; clear hb5)
          | ((with_reducible refine gAlloc rfl rfl ?_); (refine ev_allocL rfl hL rfl (by first | exact cells_agg _ rfl | exact cells_int _ _ | exact cells_str _ | exact cells_bool _ | exact cells_slice _ _ _ | exact cells_ptr _ | exact cells_map _ | exact cells_func _ _ _ | exact cells_nilFunc | exact cells_one (by assumption) (by assumption)) ?_; clear hL; intro gq wq hL)) | ((with_reducible refine gBox rfl rfl ?_); (refine ev_boxL rfl hL rfl rfl (by first | exact cells_agg _ rfl | exact cells_int _ _ | exact cells_str _ | exact cells_bool _ | exact cells_slice _ _ _ | exact cells_ptr _ | exact cells_map _ | exact cells_func _ _ _ | exact cells_nilFunc | exact cells_one (by assumption) (by assumption)) ?_; clear hL; intro gq wq hL)) | ((with_reducible refine gLoad rfl rfl ?_); (first | (refine ev_load1L rfl hL rfl rfl HasV.mem (by rfl) ?_) | (refine ev_loadAllL rfl hL rfl rfl HasV.mem (by rfl) ?_) | (refine ev_loadL rfl hL rfl rfl HasV.mem SegC.seg ?_))) | ((with_reducible refine gStore rfl rfl ?_); (first | (refine ev_storeC rfl hL rfl rfl rfl (by first | exact cells_agg _ rfl | exact cells_int _ _ | exact cells_str _ | exact cells_bool _ | exact cells_slice _ _ _ | exact cells_ptr _ | exact cells_map _ | exact cells_func _ _ _ | exact cells_nilFunc | exact cells_one (by assumption) (by assumption)) (by rfl) ?_) | (refine ev_storeAllC rfl hL rfl rfl rfl (by first | exact cells_agg _ rfl | exact cells_int _ _ | exact cells_str _ | exact cells_bool _ | exact cells_slice _ _ _ | exact cells_ptr _ | exact cells_map _ | exact cells_func _ _ _ | exact cells_nilFunc | exact cells_one (by assumption) (by assumption)) (by rfl) (by rfl) ?_)); clear hL; intro wq hL) | ((with_reducible refine gLoadG rfl rfl ?_ ?_); (exact wanted_some rfl rfl rfl (by with_reducible rfl)); (first | (refine ev_load1G (wanted_some rfl rfl rfl rfl) hL rfl rfl HasV.mem (by rfl) ?_) | (refine ev_loadAllG (wanted_some rfl rfl rfl rfl) hL rfl rfl HasV.mem (by rfl) ?_) | (refine ev_loadG_ (wanted_some rfl rfl rfl rfl) hL rfl rfl HasV.mem SegC.seg ?_))))
        refine bodyPost_ret (res_cell rfl hL _ rfl HasV.mem (by rfl)) rfl ?_
        refine ⟨v, s1, rfl, hL.eye (.tail _ (.tail _ (.head _))), Mod.put hL.mod, ?_⟩
        exact (HP v s1 (Lib.hid HN.out)).out
theorem mark_go (s : ByteArray) : mark? s = (num? 6 s).bind fun a => (num? 6 a.2).bind fun b => some ((⟨a.1, b.1⟩ : Mk), b.2) := by
  unfold mark? num?
  by_cases h : 6 ≤ s.size
  · rw [if_pos h, Option.bind_some]
    simp only
    by_cases h2 : 12 ≤ s.size
    · rw [if_pos h2, if_pos (by rw [eat_size]; omega), Option.bind_some]
      simp only [eat_eat, numAt, List.drop_zero, eat_list]
    · rw [if_neg h2, if_neg (by rw [eat_size]; omega)]; rfl
  · rw [if_neg h, if_neg (by omega)]; rfl
theorem re_Mark (g : Nat) (B : ByteArray) (st : Option Nat) (w : World) (h : REye w g B st) (hB : B.size ≤ 100000000000) :
    Calls Tryd.prog 80 #[.pointer (some ⟨g, 0, none⟩)] w (RLook Mk.val mark? B st g w) := by
  have hL : Loc w (· = g) w [eyeI g B st] := by
    refine ⟨.refl _ _, fun i hi => ?_, fun i hi k hk => ?_, .cons (by simp) .nil⟩
    · rw [List.mem_singleton.1 hi]; exact eyeI_at h
    · rw [List.mem_singleton.1 hi] at hk; exact .inr hk
  clear h
  have HG : Hid (go st B mark? = go st B (fun s => (num? 6 s).bind fun a => (num? 6 a.2).bind fun b => some ((⟨a.1, b.1⟩ : Mk), b.2))) := Lib.hid (by congr 1; funext s; exact mark_go s)
  have HP := fun v st' (h : Hid (go st B mark? = go st' B (fun s => some (v, s)))) => hide (look_of_go h.out)
  generalize hst : go st B mark? = G at *
  go_enter Tryd.func80, Tryd.ntmps80
  go_wp2_with (first
    | (go_at_call 78; have hq := reyeL hL (by first | exact fun _ => .here _ | exact fun _ => .there _ (.here _) | exact fun _ => .there _ (.there _ (.here _))) (fun h => re_Num6 g B _ _ h hB); (with_reducible refine hq.mono ?_); clear hq; rintro e w4 ⟨x, s2, rfl, hL, hlk⟩; rw [go_step hlk] at HG; dsimp only at HG; clear hlk)
    | ((with_reducible refine gAlloc rfl rfl ?_); (refine ev_allocL rfl hL rfl (by first | exact cells_agg _ rfl | exact cells_int _ _ | exact cells_str _ | exact cells_bool _ | exact cells_slice _ _ _ | exact cells_ptr _ | exact cells_map _ | exact cells_func _ _ _ | exact cells_nilFunc | exact cells_one (by assumption) (by assumption)) ?_; clear hL; intro gq wq hL)) | ((with_reducible refine gBox rfl rfl ?_); (refine ev_boxL rfl hL rfl rfl (by first | exact cells_agg _ rfl | exact cells_int _ _ | exact cells_str _ | exact cells_bool _ | exact cells_slice _ _ _ | exact cells_ptr _ | exact cells_map _ | exact cells_func _ _ _ | exact cells_nilFunc | exact cells_one (by assumption) (by assumption)) ?_; clear hL; intro gq wq hL)) | ((with_reducible refine gLoad rfl rfl ?_); (first | (refine ev_load1L rfl hL rfl rfl HasV.mem (by rfl) ?_) | (refine ev_loadAllL rfl hL rfl rfl HasV.mem (by rfl) ?_) | (refine ev_loadL rfl hL rfl rfl HasV.mem SegC.seg ?_))) | ((with_reducible refine gStore rfl rfl ?_); (first | (refine ev_storeC rfl hL rfl rfl rfl (by first | exact cells_agg _ rfl | exact cells_int _ _ | exact cells_str _ | exact cells_bool _ | exact cells_slice _ _ _ | exact cells_ptr _ | exact cells_map _ | exact cells_func _ _ _ | exact cells_nilFunc | exact cells_one (by assumption) (by assumption)) (by rfl) ?_) | (refine ev_storeAllC rfl hL rfl rfl rfl (by first | exact cells_agg _ rfl | exact cells_int _ _ | exact cells_str _ | exact cells_bool _ | exact cells_slice _ _ _ | exact cells_ptr _ | exact cells_map _ | exact cells_func _ _ _ | exact cells_nilFunc | exact cells_one (by assumption) (by assumption)) (by rfl) (by rfl) ?_)); clear hL; intro wq hL) | ((with_reducible refine gLoadG rfl rfl ?_ ?_); (exact wanted_some rfl rfl rfl (by with_reducible rfl)); (first | (refine ev_load1G (wanted_some rfl rfl rfl rfl) hL rfl rfl HasV.mem (by rfl) ?_) | (refine ev_loadAllG (wanted_some rfl rfl rfl rfl) hL rfl rfl HasV.mem (by rfl) ?_) | (refine ev_loadG_ (wanted_some rfl rfl rfl rfl) hL rfl rfl HasV.mem SegC.seg ?_))))
  refine bodyPost_ret (res_cell rfl hL _ rfl HasV.mem (by rfl)) rfl ?_
  exact ⟨⟨_, _⟩, _, rfl, hL.eye (.tail _ (.tail _ (.head _))), Mod.put hL.mod, (HP _ _ HG).out⟩
end Go.Proofs.YtbkffeabikjnhaaDoor

/- The document's sums: what the program's are. -/
namespace Go.Proofs.YtbkffeabikjnhaaDoor
open Go.RowKit

theorem and_one (c : BitVec 64) : (c &&& 1#64).toNat = c.toNat % 2 := by
  rw [BitVec.toNat_and]
  exact Nat.and_one_is_mod _
theorem crcBit_odd (c : BitVec 64) (h : c.toNat % 2 = 1) : crcBit c = (c >>> 1) ^^^ crcPoly := by
  have e : c &&& 1#64 = 1#64 := BitVec.eq_of_toNat_eq (by rw [and_one, h]; rfl)
  unfold crcBit
  rw [e]
  rfl
theorem crcBit_even (c : BitVec 64) (h : c.toNat % 2 = 0) : crcBit c = c >>> 1 := by
  have e : c &&& 1#64 = 0#64 := BitVec.eq_of_toNat_eq (by rw [and_one, h]; rfl)
  unfold crcBit
  rw [e]
  simp
theorem bv_not (c : BitVec 64) : 18446744073709551615 - (c.toNat : Int) = ((~~~ c).toNat : Int) := by
  have := bv_lt c
  rw [BitVec.toNat_not]
  omega
theorem wrap_bv (c : BitVec 64) : IntKind.u64.wrap (c.toNat : Int) = (c.toNat : Int) := by
  have := bv_lt c
  rw [IntKind.wrap_u64]
  omega
theorem poly_in (x : BitVec 64) : bits .xor .u64 (x.toNat : Int) 14514072000185962306 = ((x ^^^ crcPoly).toNat : Int) := by
  rw [bv_poly, bv_xor]
theorem rcrc_more (c : BitVec 64) (s : ByteArray) (w : World) (hs : s.size ≤ 100000000000) :
    Calls Tryd.prog 125 #[.int .u64 c.toNat, .string s] w fun e w' => e = .returned (.int .u64 (crcMore c s.data.toList).toNat) ∧ w = w' := by
  have h1 := Lib.hid (bv_not c)
  have hcl := bv_lt c
  go_enter Tryd.func125, Tryd.ntmps125
  go_wp2
  go_loop [5, 6, 7, 12, 21] (fun c5 i6 l7 i12 i21 => ∃ k : Nat, k ≤ s.size ∧ c5 = .int .u64 (crcFold (~~~ c) (s.data.toList.take k)).toNat ∧ i12 = .int .i64 k) (fun _ _ _ i _ => s.size - (intOf i).toNat)
  case atStart => exact ⟨0, by omega, by rw [h1.out]; rfl, rfl⟩
  case round =>
    obtain ⟨k, hk, rfl, rfl⟩ := hrel
    generalize hx : crcFold (~~~ c) (s.data.toList.take k) = x
    have HX := Lib.hid hx
    clear hx
    by_cases hlt : k < s.size
    · go_wp2
      have HI := Lib.hid (crc_in x s[k])
      go_loop [5, 7, 21] (fun c5 l7 i21 => ∃ (j : Nat), j ≤ 8 ∧ c5 = .int .u64 (crcBits j (x ^^^ BitVec.ofNat 64 s[k].toNat)).toNat ∧ i21 = .int .i64 j) (fun _ _ i => 8 - (intOf i).toNat)
      case atStart => exact ⟨0, by omega, by rw [HI.out]; rfl, rfl⟩
      case round =>
        obtain ⟨j, hj, rfl, rfl⟩ := hrel
        generalize hy : crcBits j (x ^^^ BitVec.ofNat 64 s[k].toNat) = y
        have HY := Lib.hid hy
        clear hy
        have hyl := bv_lt y
        by_cases hlt2 : j < 8
        · by_cases ho : y.toNat % 2 = 1
          · have t2 : ((y.toNat : Int) % 2 == 1) = true := by simp; omega
            have HB := Lib.hid (crcBit_odd y ho)
            clear ho
            go_wp2
            go_round
            case rel => exact ⟨j + 1, by omega, by rw [bv_shr1, poly_in, ← HB.out, ← HY.out]; rfl, by go_num⟩
            case measure => simp [intOf]; omega
          · have t2 : ((y.toNat : Int) % 2 == 1) = false := by simp; omega
            have HB := Lib.hid (crcBit_even y (by omega))
            clear ho
            go_wp2
            go_round
            case rel => exact ⟨j + 1, by omega, by rw [bv_shr1, ← HB.out, ← HY.out]; rfl, by go_num⟩
            case measure => simp [intOf]; omega
        · obtain rfl : j = 8 := by omega
          have HN := Lib.hid (take_snoc s k hlt)
          go_wp2
          go_round
          case rel => exact ⟨k + 1, by omega, by rw [HN.out, crcFold_snoc, HX.out, ← HY.out]; rfl, by go_num⟩
          case measure => simp [intOf]; omega
    · obtain rfl : k = s.size := by omega
      have HN := Lib.hid (bv_not x)
      have hxl := bv_lt x
      have HT := Lib.hid (show s.data.toList.take s.size = s.data.toList from List.take_of_length_le (by simp))
      go_wp2
      go_ret
      refine ⟨?_, rfl⟩
      rw [HN.out]
      unfold crcMore
      rw [← HX.out, HT.out]
      rfl
theorem rcrc_of (s : ByteArray) (w : World) (hs : s.size ≤ 100000000000) :
    Calls Tryd.prog 106 #[.string s] w fun e w' => e = .returned (.int .u64 (crcMore 0#64 s.data.toList).toNat) ∧ w = w' := by
  have h0 : Calls Tryd.prog 125 #[.int .u64 0, .string s] w fun e w' => e = .returned (.int .u64 (crcMore 0#64 s.data.toList).toNat) ∧ w = w' := rcrc_more 0#64 s w hs
  go_enter Tryd.func106, Tryd.ntmps106
  go_wp2_with (go_at_call 125; with_reducible refine h0.mono ?_; rintro e w' ⟨rfl, rfl⟩)
  go_ret
  exact ⟨rfl, rfl⟩
end Go.Proofs.YtbkffeabikjnhaaDoor

/- The document's seals: what the program's are. -/
namespace Go.Proofs.YtbkffeabikjnhaaDoor
open Go.RowKit

def SealAt (s : List UInt8) (x : BitVec 64) (j u : Nat) (l : List UInt8) : Prop := u = x.toNat / 256 ^ j ∧ l = s ++ (sumBytes x).take j
theorem sum_take (x : BitVec 64) (j : Nat) (h : j < 8) : (sumBytes x).take (j + 1) = (sumBytes x).take j ++ [u8 ((x.toNat / 256 ^ j : Nat) : Int)] := by
  have e : j = 0 ∨ j = 1 ∨ j = 2 ∨ j = 3 ∨ j = 4 ∨ j = 5 ∨ j = 6 ∨ j = 7 := by omega
  rcases e with rfl | rfl | rfl | rfl | rfl | rfl | rfl | rfl <;> simp [sumBytes, List.range, List.range.loop]
theorem SealAt.step {s : List UInt8} {x : BitVec 64} {j u : Nat} {l : List UInt8} (h : SealAt s x j u l) (hj : j < 8) : SealAt s x (j + 1) (u / 256) (l ++ [u8 (u : Int)]) := by
  obtain ⟨rfl, rfl⟩ := h
  refine ⟨by rw [Nat.pow_succ, Nat.div_div_eq_div_mul], ?_⟩
  rw [sum_take x j hj, List.append_assoc]
theorem ba_snoc (l : List UInt8) (b : UInt8) : (⟨l.toArray⟩ : ByteArray) ++ ⟨[b].toArray⟩ = ⟨(l ++ [b]).toArray⟩ := by rw [ByteArray.mk_append_mk]
theorem rseal (s : ByteArray) (w : World) (hs : s.size ≤ 10000000000) :
    Calls Tryd.prog 69 #[.string s] w fun e w' => e = .returned (.string ⟨(sealed s.data.toList).toArray⟩) ∧ Below w.heap.size w w' := by
  have hL := Loc.nil w NoM
  have hof := fun w => hide (rcrc_of s w (by omega))
  have HE := Lib.hid (show sealed s.data.toList = s.data.toList ++ sumBytes (crcMore 0#64 s.data.toList) from rfl)
  generalize crcMore 0#64 s.data.toList = x at *
  have hxl := bv_lt x
  go_enter Tryd.func69, Tryd.ntmps69
  go_wp2_with (first
    | (go_at_call 106; (with_reducible refine (unhide (hof _)).mono ?_); rintro e w' ⟨rfl, rfl⟩)
    | ((with_reducible refine gAlloc rfl rfl ?_); (refine ev_allocL rfl hL rfl (by first | exact cells_agg _ rfl | exact cells_int _ _ | exact cells_str _ | exact cells_bool _ | exact cells_slice _ _ _ | exact cells_ptr _ | exact cells_map _ | exact cells_func _ _ _ | exact cells_nilFunc | exact cells_one (by assumption) (by assumption)) ?_; clear hL; intro gq wq hL)) | ((with_reducible refine gBox rfl rfl ?_); (refine ev_boxL rfl hL rfl rfl (by first | exact cells_agg _ rfl | exact cells_int _ _ | exact cells_str _ | exact cells_bool _ | exact cells_slice _ _ _ | exact cells_ptr _ | exact cells_map _ | exact cells_func _ _ _ | exact cells_nilFunc | exact cells_one (by assumption) (by assumption)) ?_; clear hL; intro gq wq hL)) | ((with_reducible refine gLoad rfl rfl ?_); (first | (refine ev_load1L rfl hL rfl rfl HasV.mem (by rfl) ?_) | (refine ev_loadAllL rfl hL rfl rfl HasV.mem (by rfl) ?_) | (refine ev_loadL rfl hL rfl rfl HasV.mem SegC.seg ?_))) | ((with_reducible refine gStore rfl rfl ?_); (first | (refine ev_storeC rfl hL rfl rfl rfl (by first | exact cells_agg _ rfl | exact cells_int _ _ | exact cells_str _ | exact cells_bool _ | exact cells_slice _ _ _ | exact cells_ptr _ | exact cells_map _ | exact cells_func _ _ _ | exact cells_nilFunc | exact cells_one (by assumption) (by assumption)) (by rfl) ?_) | (refine ev_storeAllC rfl hL rfl rfl rfl (by first | exact cells_agg _ rfl | exact cells_int _ _ | exact cells_str _ | exact cells_bool _ | exact cells_slice _ _ _ | exact cells_ptr _ | exact cells_map _ | exact cells_func _ _ _ | exact cells_nilFunc | exact cells_one (by assumption) (by assumption)) (by rfl) (by rfl) ?_)); clear hL; intro wq hL) | ((with_reducible refine gLoadG rfl rfl ?_ ?_); (exact wanted_some rfl rfl rfl (by with_reducible rfl)); (first | (refine ev_load1G (wanted_some rfl rfl rfl rfl) hL rfl rfl HasV.mem (by rfl) ?_) | (refine ev_loadAllG (wanted_some rfl rfl rfl rfl) hL rfl rfl HasV.mem (by rfl) ?_) | (refine ev_loadG_ (wanted_some rfl rfl rfl rfl) hL rfl rfl HasV.mem SegC.seg ?_))))
  go_loopw [3, 4, 8] (fun y n i wr => ∃ (j u : Nat) (l : List UInt8), j ≤ 8 ∧ i = .int .i64 j ∧ n = .int .u64 u ∧ y = .string ⟨l.toArray⟩ ∧ Hid (SealAt s.data.toList x j u l) ∧ u < 18446744073709551616 ∧ l.length ≤ 10000000000 + j ∧ Loc w NoM wr []) (fun _ _ i _ => 8 - (intOf i).toNat)
  case atStart => exact ⟨0, x.toNat, s.data.toList, by omega, rfl, rfl, by simp, Lib.hid ⟨by simp, by simp⟩, hxl, by simp; exact hs, hL⟩
  case round =>
    clear hL
    obtain ⟨j, u, l, hj, rfl, rfl, rfl, HD, hb, hll, hL⟩ := hrel
    by_cases hlt : j < 8
    · have t0 : decide ((j : Int) < 8) = true := (by first | (simp; done) | (simp; omega))
      have hv : (u : Int) % 256 = ((u8 (u : Int)).toNat : Int) := (u8_val _).symm
      have HD2 := Lib.hid (HD.out.step hlt)
      generalize u8 (u : Int) = b at *
      go_wp2_with (first
        | ((with_reducible refine gLit rfl rfl ?_); refine ev_litL (cs := [.int .u8 b.toNat]) rfl hL rfl rfl rfl (by kernel_rfl) ?_; clear hL; intro gq wq hL)
        | ((with_reducible refine gate (N := 15) rfl ?_); refine ev_b2s (l := [b]) rfl rfl rfl (one_byte (hL.box (by first | exact .head _ | exact .tail _ (.head _) | exact .tail _ (.tail _ (.head _)) | exact .tail _ (.tail _ (.tail _ (.head _))) | exact .tail _ (.tail _ (.tail _ (.tail _ (.head _)))) | exact .tail _ (.tail _ (.tail _ (.tail _ (.tail _ (.head _))))) | exact .tail _ (.tail _ (.tail _ (.tail _ (.tail _ (.tail _ (.head _)))))) | exact .tail _ (.tail _ (.tail _ (.tail _ (.tail _ (.tail _ (.tail _ (.head _))))))) | exact .tail _ (.tail _ (.tail _ (.tail _ (.tail _ (.tail _ (.tail _ (.tail _ (.head _))))))))))) Tryd.underlying5 Tryd.underlying9 ?_)
        | ((with_reducible refine gCat rfl rfl ?_); refine ev_cat (s := ⟨l.toArray⟩) (u := ⟨[b].toArray⟩) rfl rfl rfl rfl (by simp [ByteArray.size]; omega) ?_; rw [ba_snoc])
        | ((with_reducible refine gAlloc rfl rfl ?_); (refine ev_allocL rfl hL rfl (by first | exact cells_agg _ rfl | exact cells_int _ _ | exact cells_str _ | exact cells_bool _ | exact cells_slice _ _ _ | exact cells_ptr _ | exact cells_map _ | exact cells_func _ _ _ | exact cells_nilFunc | exact cells_one (by assumption) (by assumption)) ?_; clear hL; intro gq wq hL)) | ((with_reducible refine gBox rfl rfl ?_); (refine ev_boxL rfl hL rfl rfl (by first | exact cells_agg _ rfl | exact cells_int _ _ | exact cells_str _ | exact cells_bool _ | exact cells_slice _ _ _ | exact cells_ptr _ | exact cells_map _ | exact cells_func _ _ _ | exact cells_nilFunc | exact cells_one (by assumption) (by assumption)) ?_; clear hL; intro gq wq hL)) | ((with_reducible refine gLoad rfl rfl ?_); (first | (refine ev_load1L rfl hL rfl rfl HasV.mem (by rfl) ?_) | (refine ev_loadAllL rfl hL rfl rfl HasV.mem (by rfl) ?_) | (refine ev_loadL rfl hL rfl rfl HasV.mem SegC.seg ?_))) | ((with_reducible refine gStore rfl rfl ?_); (first | (refine ev_storeC rfl hL rfl rfl rfl (by first | exact cells_agg _ rfl | exact cells_int _ _ | exact cells_str _ | exact cells_bool _ | exact cells_slice _ _ _ | exact cells_ptr _ | exact cells_map _ | exact cells_func _ _ _ | exact cells_nilFunc | exact cells_one (by assumption) (by assumption)) (by rfl) ?_) | (refine ev_storeAllC rfl hL rfl rfl rfl (by first | exact cells_agg _ rfl | exact cells_int _ _ | exact cells_str _ | exact cells_bool _ | exact cells_slice _ _ _ | exact cells_ptr _ | exact cells_map _ | exact cells_func _ _ _ | exact cells_nilFunc | exact cells_one (by assumption) (by assumption)) (by rfl) (by rfl) ?_)); clear hL; intro wq hL) | ((with_reducible refine gLoadG rfl rfl ?_ ?_); (exact wanted_some rfl rfl rfl (by with_reducible rfl)); (first | (refine ev_load1G (wanted_some rfl rfl rfl rfl) hL rfl rfl HasV.mem (by rfl) ?_) | (refine ev_loadAllG (wanted_some rfl rfl rfl rfl) hL rfl rfl HasV.mem (by rfl) ?_) | (refine ev_loadG_ (wanted_some rfl rfl rfl rfl) hL rfl rfl HasV.mem SegC.seg ?_))))
      go_roundw
      case rel => exact ⟨j + 1, u / 256, l ++ [b], by omega, by go_num, by go_num, rfl, HD2, by omega, by simp; omega, hL.drop⟩
      case measure => simp [intOf]; omega
    · obtain rfl : j = 8 := by omega
      go_wp2_with (first | ((with_reducible refine gAlloc rfl rfl ?_); (refine ev_allocL rfl hL rfl (by first | exact cells_agg _ rfl | exact cells_int _ _ | exact cells_str _ | exact cells_bool _ | exact cells_slice _ _ _ | exact cells_ptr _ | exact cells_map _ | exact cells_func _ _ _ | exact cells_nilFunc | exact cells_one (by assumption) (by assumption)) ?_; clear hL; intro gq wq hL)) | ((with_reducible refine gBox rfl rfl ?_); (refine ev_boxL rfl hL rfl rfl (by first | exact cells_agg _ rfl | exact cells_int _ _ | exact cells_str _ | exact cells_bool _ | exact cells_slice _ _ _ | exact cells_ptr _ | exact cells_map _ | exact cells_func _ _ _ | exact cells_nilFunc | exact cells_one (by assumption) (by assumption)) ?_; clear hL; intro gq wq hL)) | ((with_reducible refine gLoad rfl rfl ?_); (first | (refine ev_load1L rfl hL rfl rfl HasV.mem (by rfl) ?_) | (refine ev_loadAllL rfl hL rfl rfl HasV.mem (by rfl) ?_) | (refine ev_loadL rfl hL rfl rfl HasV.mem SegC.seg ?_))) | ((with_reducible refine gStore rfl rfl ?_); (first | (refine ev_storeC rfl hL rfl rfl rfl (by first | exact cells_agg _ rfl | exact cells_int _ _ | exact cells_str _ | exact cells_bool _ | exact cells_slice _ _ _ | exact cells_ptr _ | exact cells_map _ | exact cells_func _ _ _ | exact cells_nilFunc | exact cells_one (by assumption) (by assumption)) (by rfl) ?_) | (refine ev_storeAllC rfl hL rfl rfl rfl (by first | exact cells_agg _ rfl | exact cells_int _ _ | exact cells_str _ | exact cells_bool _ | exact cells_slice _ _ _ | exact cells_ptr _ | exact cells_map _ | exact cells_func _ _ _ | exact cells_nilFunc | exact cells_one (by assumption) (by assumption)) (by rfl) (by rfl) ?_)); clear hL; intro wq hL) | ((with_reducible refine gLoadG rfl rfl ?_ ?_); (exact wanted_some rfl rfl rfl (by with_reducible rfl)); (first | (refine ev_load1G (wanted_some rfl rfl rfl rfl) hL rfl rfl HasV.mem (by rfl) ?_) | (refine ev_loadAllG (wanted_some rfl rfl rfl rfl) hL rfl rfl HasV.mem (by rfl) ?_) | (refine ev_loadG_ (wanted_some rfl rfl rfl rfl) hL rfl rfl HasV.mem SegC.seg ?_))))
      go_ret
      refine ⟨congrArg (fun l : List UInt8 => Ending.returned (.string ⟨l.toArray⟩)) ?_, hL.below⟩
      rw [HE.out, HD.out.2, List.take_of_length_le (by rw [sumBytes_length]; exact Nat.le_refl _)]
end Go.Proofs.YtbkffeabikjnhaaDoor

/- What Put wrote, looked at: the message. -/
namespace Go.Proofs.YtbkffeabikjnhaaDoor
open Go.RowKit

theorem okN_bound {n : Int} (h : V8.okN n = true) : 0 ≤ n ∧ n < 256 ^ 6 := by
  simp [V8.okN] at h
  have : (256 : Int) ^ 6 = 281474976710656 := by decide
  omega
theorem Mk.ok_bound (m : Mk) (h : m.ok = true) : (0 ≤ m.boot ∧ m.boot < 256 ^ 6) ∧ (0 ≤ m.n ∧ m.n < 256 ^ 6) := by
  have e : (256 : Int) ^ 6 = 281474976710656 := by decide
  unfold Mk.ok at h
  split at h
  · simp at h; omega
  · simp at h; omega
/-- What a message that may be has. -/
structure Msg.Fits (m : Msg) : Prop where
  kind : 1 ≤ m.kind ∧ m.kind ≤ 4
  src : 0 ≤ m.src ∧ m.src < 8
  dst : 0 ≤ m.dst ∧ m.dst < 8
  vol : 0 ≤ m.vol ∧ m.vol < 3
  seen : m.seen.good = true
  base : m.base.ok = true
  mark : m.mark.ok = true
  bare : m = m.bare
  index : m.kind = 1 ∨ m.kind = 2 → 0 ≤ m.index ∧ m.index < 65536
  total : m.kind = 2 → 0 ≤ m.total ∧ m.total < 65536
  data : m.kind = 2 → m.data.size ≤ 512
theorem Msg.fits (m : Msg) (h : m.ok = true) : m.Fits := by
  have h1 : m.head = true := by simp [Msg.ok] at h; exact h.1
  have h2 : m.mid = true := by simp [Msg.ok] at h; exact h.2.1
  have h3 : m.kindOk = true := by simp [Msg.ok] at h; exact h.2.2
  simp [Msg.head] at h1
  simp [Msg.mid] at h2
  obtain ⟨g1, g2, g3, g4⟩ := h2
  refine ⟨by omega, by omega, by omega, by omega, g1, g2, g3, g4, ?_, ?_, ?_⟩
  · rintro (hk | hk)
    · simp [Msg.kindOk, hk] at h3; omega
    · simp [Msg.kindOk, hk] at h3; omega
  · intro hk; simp [Msg.kindOk, hk] at h3; omega
  · intro hk; simp [Msg.kindOk, hk] at h3; omega
theorem V8.good_at (v : V8) (h : v.good = true) : V8.okN v.a0 = true ∧ V8.okN v.a1 = true ∧ V8.okN v.a2 = true ∧ V8.okN v.a3 = true ∧ V8.okN v.a4 = true ∧ V8.okN v.a5 = true ∧ V8.okN v.a6 = true ∧ V8.okN v.a7 = true := by
  simpa [V8.good, V8.list] using h
theorem Msg.len2 (m : Msg) (hk : m.kind = 2) : m.bytes.length = 82 + m.data.size := by
  have hd : m.data.data.toList.length = m.data.size := by rw [Array.length_toList]; rfl
  simp only [Msg.bytes, hk, List.length_append, putN_length, Msg.headBytes_length, Mk.bytes, hd, if_neg (show ¬ (2 : Int) = 1 by decide), if_true]
attribute [local irreducible] numAt eat
set_option maxHeartbeats 2000000 in
theorem msgBody1 (m : Msg) (f : m.Fits) (hk : m.kind = 1) (gm : Nat) (s : ByteArray) (hsb : s.data.toList = m.bytes) : Body m s gm := by
  have hP : m.P = [(m.kind, 1), (m.src, 1), (m.dst, 1), (m.vol, 1), (m.seen.a0, 6), (m.seen.a1, 6), (m.seen.a2, 6), (m.seen.a3, 6), (m.seen.a4, 6), (m.seen.a5, 6), (m.seen.a6, 6), (m.seen.a7, 6), (m.base.boot, 6), (m.base.n, 6), (m.mark.boot, 6), (m.mark.n, 6), (m.index, 2)] := by simp [Msg.P, hk, Msg.headP, Mk.P]
  rw [m.bytesP] at hsb
  have hsz : s.size = m.bytes.length := by rw [m.bytesP, ← hsb, Array.length_toList]; rfl
  have p6 : (256 : Int) ^ 6 = 281474976710656 := by decide
  have p2 : (256 : Int) ^ 2 = 65536 := by decide
  have p1 : (256 : Int) ^ 1 = 256 := by decide
  obtain ⟨q0, q1, q2, q3, q4, q5, q6, q7⟩ := m.seen.good_at f.seen
  have e0 : numAt s 0 1 = m.kind := num_enc m.P 0 m.kind 1 0 m.tail s hsb (by rw [hP]; rfl) (by rw [hP]; simp [wid]) (by have := f.kind; omega) (by rw [p1]; have := f.kind; omega)
  have e1 : numAt s 1 1 = m.src := num_enc m.P 1 m.src 1 1 m.tail s hsb (by rw [hP]; rfl) (by rw [hP]; simp [wid]) (by have := f.src; omega) (by rw [p1]; have := f.src; omega)
  have e2 : numAt s 2 1 = m.dst := num_enc m.P 2 m.dst 1 2 m.tail s hsb (by rw [hP]; rfl) (by rw [hP]; simp [wid]) (by have := f.dst; omega) (by rw [p1]; have := f.dst; omega)
  have e3 : numAt s 3 1 = m.vol := num_enc m.P 3 m.vol 1 3 m.tail s hsb (by rw [hP]; rfl) (by rw [hP]; simp [wid]) (by have := f.vol; omega) (by rw [p1]; have := f.vol; omega)
  have e4 : numAt s 4 6 = m.seen.a0 := num_enc m.P 4 m.seen.a0 6 4 m.tail s hsb (by rw [hP]; rfl) (by rw [hP]; simp [wid]) (okN_bound q0).1 (okN_bound q0).2
  have e5 : numAt s 10 6 = m.seen.a1 := num_enc m.P 5 m.seen.a1 6 10 m.tail s hsb (by rw [hP]; rfl) (by rw [hP]; simp [wid]) (okN_bound q1).1 (okN_bound q1).2
  have e6 : numAt s 16 6 = m.seen.a2 := num_enc m.P 6 m.seen.a2 6 16 m.tail s hsb (by rw [hP]; rfl) (by rw [hP]; simp [wid]) (okN_bound q2).1 (okN_bound q2).2
  have e7 : numAt s 22 6 = m.seen.a3 := num_enc m.P 7 m.seen.a3 6 22 m.tail s hsb (by rw [hP]; rfl) (by rw [hP]; simp [wid]) (okN_bound q3).1 (okN_bound q3).2
  have e8 : numAt s 28 6 = m.seen.a4 := num_enc m.P 8 m.seen.a4 6 28 m.tail s hsb (by rw [hP]; rfl) (by rw [hP]; simp [wid]) (okN_bound q4).1 (okN_bound q4).2
  have e9 : numAt s 34 6 = m.seen.a5 := num_enc m.P 9 m.seen.a5 6 34 m.tail s hsb (by rw [hP]; rfl) (by rw [hP]; simp [wid]) (okN_bound q5).1 (okN_bound q5).2
  have e10 : numAt s 40 6 = m.seen.a6 := num_enc m.P 10 m.seen.a6 6 40 m.tail s hsb (by rw [hP]; rfl) (by rw [hP]; simp [wid]) (okN_bound q6).1 (okN_bound q6).2
  have e11 : numAt s 46 6 = m.seen.a7 := num_enc m.P 11 m.seen.a7 6 46 m.tail s hsb (by rw [hP]; rfl) (by rw [hP]; simp [wid]) (okN_bound q7).1 (okN_bound q7).2
  have e12 : numAt s 52 6 = m.base.boot := num_enc m.P 12 m.base.boot 6 52 m.tail s hsb (by rw [hP]; rfl) (by rw [hP]; simp [wid]) (m.base.ok_bound f.base).1.1 (m.base.ok_bound f.base).1.2
  have e13 : numAt s 58 6 = m.base.n := num_enc m.P 13 m.base.n 6 58 m.tail s hsb (by rw [hP]; rfl) (by rw [hP]; simp [wid]) (m.base.ok_bound f.base).2.1 (m.base.ok_bound f.base).2.2
  have e14 : numAt s 64 6 = m.mark.boot := num_enc m.P 14 m.mark.boot 6 64 m.tail s hsb (by rw [hP]; rfl) (by rw [hP]; simp [wid]) (m.mark.ok_bound f.mark).1.1 (m.mark.ok_bound f.mark).1.2
  have e15 : numAt s 70 6 = m.mark.n := num_enc m.P 15 m.mark.n 6 70 m.tail s hsb (by rw [hP]; rfl) (by rw [hP]; simp [wid]) (m.mark.ok_bound f.mark).2.1 (m.mark.ok_bound f.mark).2.2
  have e16 : numAt s 76 2 = m.index := num_enc m.P 16 m.index 2 76 m.tail s hsb (by rw [hP]; rfl) (by rw [hP]; simp [wid]) (f.index (by omega)).1 (by rw [p2]; exact (f.index (by omega)).2)
  have ev : seeV (eat s 4) = m.seen := by
    unfold seeV
    simp only [numAt_eat, Nat.reduceAdd]
    rw [e4, e5, e6, e7, e8, e9, e10, e11]
  have hlen : m.bytes.length = 78 := by
    rw [m.bytesP, hP]
    simp [encP, putN_length, Msg.tail, hk]
  have hb : m.bare = m := f.bare.symm
  have he : eat s (78) = ⟨#[]⟩ := by
    apply ba_ext
    rw [eat_list, List.drop_of_length_le (by rw [Array.length_toList]; show s.size ≤ _; omega)]
  intro g w he0 hx0 hn
  have hq := body1 g gm s w he0 hx0 hn (by omega) (by omega) (by rw [ev]; exact f.seen) (by rw [e0, hk])
  rw [he, ev, e0, e1, e2, e3, e12, e13, e14, e15, e16] at hq
  have hm : (⟨m.kind, m.src, m.dst, m.vol, ⟨m.base.boot, m.base.n⟩, ⟨m.mark.boot, m.mark.n⟩, m.index, 0, m.seen, ⟨#[]⟩⟩ : Msg) = m := by
    conv => rhs; rw [f.bare]
    simp [Msg.bare, hk]
  rw [hm] at hq
  exact hq
set_option maxHeartbeats 2000000 in
theorem msgBody2 (m : Msg) (f : m.Fits) (hk : m.kind = 2) (gm : Nat) (s : ByteArray) (hsb : s.data.toList = m.bytes) : Body m s gm := by
  have hP : m.P = [(m.kind, 1), (m.src, 1), (m.dst, 1), (m.vol, 1), (m.seen.a0, 6), (m.seen.a1, 6), (m.seen.a2, 6), (m.seen.a3, 6), (m.seen.a4, 6), (m.seen.a5, 6), (m.seen.a6, 6), (m.seen.a7, 6), (m.base.boot, 6), (m.base.n, 6), (m.mark.boot, 6), (m.mark.n, 6), (m.index, 2), (m.total, 2), ((m.data.size : Int), 2)] := by simp [Msg.P, hk, Msg.headP, Mk.P]
  rw [m.bytesP] at hsb
  have hsz : s.size = m.bytes.length := by rw [m.bytesP, ← hsb, Array.length_toList]; rfl
  have p6 : (256 : Int) ^ 6 = 281474976710656 := by decide
  have p2 : (256 : Int) ^ 2 = 65536 := by decide
  have p1 : (256 : Int) ^ 1 = 256 := by decide
  obtain ⟨q0, q1, q2, q3, q4, q5, q6, q7⟩ := m.seen.good_at f.seen
  have e0 : numAt s 0 1 = m.kind := num_enc m.P 0 m.kind 1 0 m.tail s hsb (by rw [hP]; rfl) (by rw [hP]; simp [wid]) (by have := f.kind; omega) (by rw [p1]; have := f.kind; omega)
  have e1 : numAt s 1 1 = m.src := num_enc m.P 1 m.src 1 1 m.tail s hsb (by rw [hP]; rfl) (by rw [hP]; simp [wid]) (by have := f.src; omega) (by rw [p1]; have := f.src; omega)
  have e2 : numAt s 2 1 = m.dst := num_enc m.P 2 m.dst 1 2 m.tail s hsb (by rw [hP]; rfl) (by rw [hP]; simp [wid]) (by have := f.dst; omega) (by rw [p1]; have := f.dst; omega)
  have e3 : numAt s 3 1 = m.vol := num_enc m.P 3 m.vol 1 3 m.tail s hsb (by rw [hP]; rfl) (by rw [hP]; simp [wid]) (by have := f.vol; omega) (by rw [p1]; have := f.vol; omega)
  have e4 : numAt s 4 6 = m.seen.a0 := num_enc m.P 4 m.seen.a0 6 4 m.tail s hsb (by rw [hP]; rfl) (by rw [hP]; simp [wid]) (okN_bound q0).1 (okN_bound q0).2
  have e5 : numAt s 10 6 = m.seen.a1 := num_enc m.P 5 m.seen.a1 6 10 m.tail s hsb (by rw [hP]; rfl) (by rw [hP]; simp [wid]) (okN_bound q1).1 (okN_bound q1).2
  have e6 : numAt s 16 6 = m.seen.a2 := num_enc m.P 6 m.seen.a2 6 16 m.tail s hsb (by rw [hP]; rfl) (by rw [hP]; simp [wid]) (okN_bound q2).1 (okN_bound q2).2
  have e7 : numAt s 22 6 = m.seen.a3 := num_enc m.P 7 m.seen.a3 6 22 m.tail s hsb (by rw [hP]; rfl) (by rw [hP]; simp [wid]) (okN_bound q3).1 (okN_bound q3).2
  have e8 : numAt s 28 6 = m.seen.a4 := num_enc m.P 8 m.seen.a4 6 28 m.tail s hsb (by rw [hP]; rfl) (by rw [hP]; simp [wid]) (okN_bound q4).1 (okN_bound q4).2
  have e9 : numAt s 34 6 = m.seen.a5 := num_enc m.P 9 m.seen.a5 6 34 m.tail s hsb (by rw [hP]; rfl) (by rw [hP]; simp [wid]) (okN_bound q5).1 (okN_bound q5).2
  have e10 : numAt s 40 6 = m.seen.a6 := num_enc m.P 10 m.seen.a6 6 40 m.tail s hsb (by rw [hP]; rfl) (by rw [hP]; simp [wid]) (okN_bound q6).1 (okN_bound q6).2
  have e11 : numAt s 46 6 = m.seen.a7 := num_enc m.P 11 m.seen.a7 6 46 m.tail s hsb (by rw [hP]; rfl) (by rw [hP]; simp [wid]) (okN_bound q7).1 (okN_bound q7).2
  have e12 : numAt s 52 6 = m.base.boot := num_enc m.P 12 m.base.boot 6 52 m.tail s hsb (by rw [hP]; rfl) (by rw [hP]; simp [wid]) (m.base.ok_bound f.base).1.1 (m.base.ok_bound f.base).1.2
  have e13 : numAt s 58 6 = m.base.n := num_enc m.P 13 m.base.n 6 58 m.tail s hsb (by rw [hP]; rfl) (by rw [hP]; simp [wid]) (m.base.ok_bound f.base).2.1 (m.base.ok_bound f.base).2.2
  have e14 : numAt s 64 6 = m.mark.boot := num_enc m.P 14 m.mark.boot 6 64 m.tail s hsb (by rw [hP]; rfl) (by rw [hP]; simp [wid]) (m.mark.ok_bound f.mark).1.1 (m.mark.ok_bound f.mark).1.2
  have e15 : numAt s 70 6 = m.mark.n := num_enc m.P 15 m.mark.n 6 70 m.tail s hsb (by rw [hP]; rfl) (by rw [hP]; simp [wid]) (m.mark.ok_bound f.mark).2.1 (m.mark.ok_bound f.mark).2.2
  have e16 : numAt s 76 2 = m.index := num_enc m.P 16 m.index 2 76 m.tail s hsb (by rw [hP]; rfl) (by rw [hP]; simp [wid]) (f.index (by omega)).1 (by rw [p2]; exact (f.index (by omega)).2)
  have e17 : numAt s 78 2 = m.total := num_enc m.P 17 m.total 2 78 m.tail s hsb (by rw [hP]; rfl) (by rw [hP]; simp [wid]) (f.total hk).1 (by rw [p2]; exact (f.total hk).2)
  have e18 : numAt s 80 2 = (m.data.size : Int) := num_enc m.P 18 (m.data.size : Int) 2 80 m.tail s hsb (by rw [hP]; rfl) (by rw [hP]; simp [wid]) (by omega) (by rw [p2]; have := f.data hk; omega)
  have ev : seeV (eat s 4) = m.seen := by
    unfold seeV
    simp only [numAt_eat, Nat.reduceAdd]
    rw [e4, e5, e6, e7, e8, e9, e10, e11]
  have hlen := m.len2 hk
  have hb : m.bare = m := f.bare.symm
  have he : eat s (82 + m.data.size) = ⟨#[]⟩ := by
    apply ba_ext
    rw [eat_list, List.drop_of_length_le (by rw [Array.length_toList]; show s.size ≤ _; omega)]
  intro g w he0 hx0 hn
  have hd := f.data hk
  have hq := body2 g gm s w he0 hx0 hn m.data.size e18 hd (by omega) (by omega) (by rw [ev]; exact f.seen) (by rw [e0, hk])
  have hx : (eat s 82).extract 0 m.data.size = m.data := by
    apply ba_ext
    have h1 : (eat s 82).data.toList = m.data.data.toList := by
      rw [eat_list, hsb, ← show wid m.P 19 = 82 from by rw [hP]; simp [wid], drop_encP m.P 19 m.tail (by rw [hP]; simp), hP]
      simp [encP, Msg.tail, hk]
    have h2 : (eat s 82).data = m.data.data := Array.ext' h1
    rw [ByteArray.data_extract, h2]
    show (m.data.data.extract 0 m.data.data.size).toList = _
    simp
    exact List.take_of_length_le (by rw [Array.length_toList]; exact Nat.le_refl _)
  rw [hx] at hq
  rw [he, ev, e0, e1, e2, e3, e12, e13, e14, e15, e16, e17] at hq
  have hm : (⟨m.kind, m.src, m.dst, m.vol, ⟨m.base.boot, m.base.n⟩, ⟨m.mark.boot, m.mark.n⟩, m.index, m.total, m.seen, m.data⟩ : Msg) = m := rfl
  rw [hm] at hq
  exact hq
set_option maxHeartbeats 2000000 in
theorem msgBody4 (m : Msg) (f : m.Fits) (hk : m.kind = 4) (gm : Nat) (s : ByteArray) (hsb : s.data.toList = m.bytes) : Body m s gm := by
  have hP : m.P = [(m.kind, 1), (m.src, 1), (m.dst, 1), (m.vol, 1), (m.seen.a0, 6), (m.seen.a1, 6), (m.seen.a2, 6), (m.seen.a3, 6), (m.seen.a4, 6), (m.seen.a5, 6), (m.seen.a6, 6), (m.seen.a7, 6), (m.mark.boot, 6), (m.mark.n, 6)] := by simp [Msg.P, hk, Msg.headP, Mk.P]
  rw [m.bytesP] at hsb
  have hsz : s.size = m.bytes.length := by rw [m.bytesP, ← hsb, Array.length_toList]; rfl
  have p6 : (256 : Int) ^ 6 = 281474976710656 := by decide
  have p2 : (256 : Int) ^ 2 = 65536 := by decide
  have p1 : (256 : Int) ^ 1 = 256 := by decide
  obtain ⟨q0, q1, q2, q3, q4, q5, q6, q7⟩ := m.seen.good_at f.seen
  have e0 : numAt s 0 1 = m.kind := num_enc m.P 0 m.kind 1 0 m.tail s hsb (by rw [hP]; rfl) (by rw [hP]; simp [wid]) (by have := f.kind; omega) (by rw [p1]; have := f.kind; omega)
  have e1 : numAt s 1 1 = m.src := num_enc m.P 1 m.src 1 1 m.tail s hsb (by rw [hP]; rfl) (by rw [hP]; simp [wid]) (by have := f.src; omega) (by rw [p1]; have := f.src; omega)
  have e2 : numAt s 2 1 = m.dst := num_enc m.P 2 m.dst 1 2 m.tail s hsb (by rw [hP]; rfl) (by rw [hP]; simp [wid]) (by have := f.dst; omega) (by rw [p1]; have := f.dst; omega)
  have e3 : numAt s 3 1 = m.vol := num_enc m.P 3 m.vol 1 3 m.tail s hsb (by rw [hP]; rfl) (by rw [hP]; simp [wid]) (by have := f.vol; omega) (by rw [p1]; have := f.vol; omega)
  have e4 : numAt s 4 6 = m.seen.a0 := num_enc m.P 4 m.seen.a0 6 4 m.tail s hsb (by rw [hP]; rfl) (by rw [hP]; simp [wid]) (okN_bound q0).1 (okN_bound q0).2
  have e5 : numAt s 10 6 = m.seen.a1 := num_enc m.P 5 m.seen.a1 6 10 m.tail s hsb (by rw [hP]; rfl) (by rw [hP]; simp [wid]) (okN_bound q1).1 (okN_bound q1).2
  have e6 : numAt s 16 6 = m.seen.a2 := num_enc m.P 6 m.seen.a2 6 16 m.tail s hsb (by rw [hP]; rfl) (by rw [hP]; simp [wid]) (okN_bound q2).1 (okN_bound q2).2
  have e7 : numAt s 22 6 = m.seen.a3 := num_enc m.P 7 m.seen.a3 6 22 m.tail s hsb (by rw [hP]; rfl) (by rw [hP]; simp [wid]) (okN_bound q3).1 (okN_bound q3).2
  have e8 : numAt s 28 6 = m.seen.a4 := num_enc m.P 8 m.seen.a4 6 28 m.tail s hsb (by rw [hP]; rfl) (by rw [hP]; simp [wid]) (okN_bound q4).1 (okN_bound q4).2
  have e9 : numAt s 34 6 = m.seen.a5 := num_enc m.P 9 m.seen.a5 6 34 m.tail s hsb (by rw [hP]; rfl) (by rw [hP]; simp [wid]) (okN_bound q5).1 (okN_bound q5).2
  have e10 : numAt s 40 6 = m.seen.a6 := num_enc m.P 10 m.seen.a6 6 40 m.tail s hsb (by rw [hP]; rfl) (by rw [hP]; simp [wid]) (okN_bound q6).1 (okN_bound q6).2
  have e11 : numAt s 46 6 = m.seen.a7 := num_enc m.P 11 m.seen.a7 6 46 m.tail s hsb (by rw [hP]; rfl) (by rw [hP]; simp [wid]) (okN_bound q7).1 (okN_bound q7).2
  have e12 : numAt s 52 6 = m.mark.boot := num_enc m.P 12 m.mark.boot 6 52 m.tail s hsb (by rw [hP]; rfl) (by rw [hP]; simp [wid]) (m.mark.ok_bound f.mark).1.1 (m.mark.ok_bound f.mark).1.2
  have e13 : numAt s 58 6 = m.mark.n := num_enc m.P 13 m.mark.n 6 58 m.tail s hsb (by rw [hP]; rfl) (by rw [hP]; simp [wid]) (m.mark.ok_bound f.mark).2.1 (m.mark.ok_bound f.mark).2.2
  have ev : seeV (eat s 4) = m.seen := by
    unfold seeV
    simp only [numAt_eat, Nat.reduceAdd]
    rw [e4, e5, e6, e7, e8, e9, e10, e11]
  have hlen : m.bytes.length = 64 := by
    rw [m.bytesP, hP]
    simp [encP, putN_length, Msg.tail, hk]
  have hb : m.bare = m := f.bare.symm
  have he : eat s (64) = ⟨#[]⟩ := by
    apply ba_ext
    rw [eat_list, List.drop_of_length_le (by rw [Array.length_toList]; show s.size ≤ _; omega)]
  intro g w he0 hx0 hn
  have hq := body4 g gm s w he0 hx0 hn (by omega) (by omega) (by rw [ev]; exact f.seen) (by rw [e0, hk])
  rw [he, ev, e0, e1, e2, e3, e12, e13] at hq
  have hm : (⟨m.kind, m.src, m.dst, m.vol, ⟨0, 0⟩, ⟨m.mark.boot, m.mark.n⟩, 0, 0, m.seen, ⟨#[]⟩⟩ : Msg) = m := by
    conv => rhs; rw [f.bare]
    simp [Msg.bare, hk]
  rw [hm] at hq
  exact hq
set_option maxHeartbeats 2000000 in
theorem msgBody3 (m : Msg) (f : m.Fits) (hk : m.kind = 3) (gm : Nat) (s : ByteArray) (hsb : s.data.toList = m.bytes) : Body m s gm := by
  have hP : m.P = [(m.kind, 1), (m.src, 1), (m.dst, 1), (m.vol, 1), (m.seen.a0, 6), (m.seen.a1, 6), (m.seen.a2, 6), (m.seen.a3, 6), (m.seen.a4, 6), (m.seen.a5, 6), (m.seen.a6, 6), (m.seen.a7, 6)] := by simp [Msg.P, hk, Msg.headP]
  rw [m.bytesP] at hsb
  have hsz : s.size = m.bytes.length := by rw [m.bytesP, ← hsb, Array.length_toList]; rfl
  have p6 : (256 : Int) ^ 6 = 281474976710656 := by decide
  have p2 : (256 : Int) ^ 2 = 65536 := by decide
  have p1 : (256 : Int) ^ 1 = 256 := by decide
  obtain ⟨q0, q1, q2, q3, q4, q5, q6, q7⟩ := m.seen.good_at f.seen
  have e0 : numAt s 0 1 = m.kind := num_enc m.P 0 m.kind 1 0 m.tail s hsb (by rw [hP]; rfl) (by rw [hP]; simp [wid]) (by have := f.kind; omega) (by rw [p1]; have := f.kind; omega)
  have e1 : numAt s 1 1 = m.src := num_enc m.P 1 m.src 1 1 m.tail s hsb (by rw [hP]; rfl) (by rw [hP]; simp [wid]) (by have := f.src; omega) (by rw [p1]; have := f.src; omega)
  have e2 : numAt s 2 1 = m.dst := num_enc m.P 2 m.dst 1 2 m.tail s hsb (by rw [hP]; rfl) (by rw [hP]; simp [wid]) (by have := f.dst; omega) (by rw [p1]; have := f.dst; omega)
  have e3 : numAt s 3 1 = m.vol := num_enc m.P 3 m.vol 1 3 m.tail s hsb (by rw [hP]; rfl) (by rw [hP]; simp [wid]) (by have := f.vol; omega) (by rw [p1]; have := f.vol; omega)
  have e4 : numAt s 4 6 = m.seen.a0 := num_enc m.P 4 m.seen.a0 6 4 m.tail s hsb (by rw [hP]; rfl) (by rw [hP]; simp [wid]) (okN_bound q0).1 (okN_bound q0).2
  have e5 : numAt s 10 6 = m.seen.a1 := num_enc m.P 5 m.seen.a1 6 10 m.tail s hsb (by rw [hP]; rfl) (by rw [hP]; simp [wid]) (okN_bound q1).1 (okN_bound q1).2
  have e6 : numAt s 16 6 = m.seen.a2 := num_enc m.P 6 m.seen.a2 6 16 m.tail s hsb (by rw [hP]; rfl) (by rw [hP]; simp [wid]) (okN_bound q2).1 (okN_bound q2).2
  have e7 : numAt s 22 6 = m.seen.a3 := num_enc m.P 7 m.seen.a3 6 22 m.tail s hsb (by rw [hP]; rfl) (by rw [hP]; simp [wid]) (okN_bound q3).1 (okN_bound q3).2
  have e8 : numAt s 28 6 = m.seen.a4 := num_enc m.P 8 m.seen.a4 6 28 m.tail s hsb (by rw [hP]; rfl) (by rw [hP]; simp [wid]) (okN_bound q4).1 (okN_bound q4).2
  have e9 : numAt s 34 6 = m.seen.a5 := num_enc m.P 9 m.seen.a5 6 34 m.tail s hsb (by rw [hP]; rfl) (by rw [hP]; simp [wid]) (okN_bound q5).1 (okN_bound q5).2
  have e10 : numAt s 40 6 = m.seen.a6 := num_enc m.P 10 m.seen.a6 6 40 m.tail s hsb (by rw [hP]; rfl) (by rw [hP]; simp [wid]) (okN_bound q6).1 (okN_bound q6).2
  have e11 : numAt s 46 6 = m.seen.a7 := num_enc m.P 11 m.seen.a7 6 46 m.tail s hsb (by rw [hP]; rfl) (by rw [hP]; simp [wid]) (okN_bound q7).1 (okN_bound q7).2
  have ev : seeV (eat s 4) = m.seen := by
    unfold seeV
    simp only [numAt_eat, Nat.reduceAdd]
    rw [e4, e5, e6, e7, e8, e9, e10, e11]
  have hlen : m.bytes.length = 52 := by
    rw [m.bytesP, hP]
    simp [encP, putN_length, Msg.tail, hk]
  have hb : m.bare = m := f.bare.symm
  have he : eat s (52) = ⟨#[]⟩ := by
    apply ba_ext
    rw [eat_list, List.drop_of_length_le (by rw [Array.length_toList]; show s.size ≤ _; omega)]
  intro g w he0 hx0 hn
  have hq := body3 g gm s w he0 hx0 hn (by omega) (by omega) (by rw [ev]; exact f.seen) (by rw [e0, hk])
  rw [he, ev, e0, e1, e2, e3] at hq
  have hm : (⟨m.kind, m.src, m.dst, m.vol, ⟨0, 0⟩, ⟨0, 0⟩, 0, 0, m.seen, ⟨#[]⟩⟩ : Msg) = m := by
    conv => rhs; rw [f.bare]
    simp [Msg.bare, hk]
  rw [hm] at hq
  exact hq
/-- The closure, on the bytes of any message that may be. -/
theorem msgBody (m : Msg) (h : m.ok = true) (gm : Nat) : Body m ⟨m.bytes.toArray⟩ gm := by
  have f := m.fits h
  have hk := f.kind
  by_cases k1 : m.kind = 1
  · exact msgBody1 m f k1 gm _ rfl
  · by_cases k2 : m.kind = 2
    · exact msgBody2 m f k2 gm _ rfl
    · by_cases k4 : m.kind = 4
      · exact msgBody4 m f k4 gm _ rfl
      · exact msgBody3 m f (by omega) gm _ rfl
end Go.Proofs.YtbkffeabikjnhaaDoor

/- msg.Get of what msg.Put gave: the message itself. -/
namespace Go.Proofs.YtbkffeabikjnhaaDoor
open Go.RowKit

theorem openCut_sealed (l : List UInt8) : openCut ⟨(sealed l).toArray⟩ = ⟨l.toArray⟩ := by
  unfold openCut
  apply ba_ext
  have hs : (⟨(sealed l).toArray⟩ : ByteArray).size = l.length + 8 := by
    show (sealed l).toArray.size = _
    simp [sealed, sumBytes_length]
  rw [hs, ByteArray.data_extract]
  simp [sealed]
theorem openOk_sealed (l : List UInt8) : openOk ⟨(sealed l).toArray⟩ = true := by
  have hs : (⟨(sealed l).toArray⟩ : ByteArray).size = l.length + 8 := by
    show (sealed l).toArray.size = _
    simp [sealed, sumBytes_length]
  unfold openOk
  rw [openCut_sealed, hs]
  simp
theorem Msg.bytes_short (m : Msg) (h : m.ok = true) : m.bytes.length ≤ 1000 := m.bytes_le (m.ok_data h)
theorem Msg.code_ok (m : Msg) (h : m.ok = true) : m.code = 0 := by simp [Msg.code, h]
theorem crc_open_sealed (m : Msg) (w : World) (h : m.ok = true) :
    Calls Tryd.prog 70 #[.string ⟨(sealed m.bytes).toArray⟩] w fun e w' => e = .returned (.tuple #[.string ⟨m.bytes.toArray⟩, .bool true]) ∧ Below w.heap.size w w' := by
  have hl := m.bytes_short h
  have hs : (⟨(sealed m.bytes).toArray⟩ : ByteArray).size = m.bytes.length + 8 := by
    show (sealed m.bytes).toArray.size = _
    simp [sealed, sumBytes_length]
  have hq := crc_open ⟨(sealed m.bytes).toArray⟩ w (by omega)
  rw [openCut_sealed, openOk_sealed, if_pos (by omega)] at hq
  exact hq
theorem results_cell_tmp {P : Program} {fn : Func} {p q : Tmp} {ty : TypeId} (h : fn.results = #[.cell p ty, .tmp q]) (tmps : Array Value) (w : World) (g : Nat) (t : TypeId) (cs : Array Value) (v : Value)
    (hp : tmps.getD p undef = .pointer (some ⟨g, 0, none⟩)) (hq : tmps.getD q undef = v) (hg : Box w g cs t) (ha : isAggT P ty = true) (hi : (P.info? ty).map (·.size) = some cs.size) :
    (results fn tmps).run P w = .ok (.tuple #[.agg cs, v]) w := by
  have hp' : tmps[p]?.getD undef = .pointer (some ⟨g, 0, none⟩) := by simpa using hp
  have hq' : tmps[q]?.getD undef = v := by simpa using hq
  cases hu : P.underlying ty with
  | none => simp [isAggT, hu] at ha
  | some d =>
    have hd : (match d with | .struct _ | .array _ _ => true | _ => false) = true := by unfold isAggT at ha; rw [hu] at ha; cases d <;> simp_all
    simp [results, h, hp', hq', asAddr, run_loadVar_row w g t ty cs (0, 0) d hg hu hd hi]
/-- What is got of what was put is what was put. -/
theorem msg_get (m : Msg) (w : World) (hok : m.ok = true) :
    Calls Tryd.prog 27 #[.string ⟨(sealed m.bytes).toArray⟩] w fun e w' => e = .returned (.tuple #[m.val, .int .i64 0]) ∧ Below w.heap.size w w' := by
  have hmf : ∀ (fn : Fn) (first cap : Array Value) (w : World), (Instr.makeFunc fn first cap).run Tryd.prog w = .ok (.func fn first cap) w := fun _ _ _ _ => rfl
  have HB := fun gm => hide (msgBody m hok gm)
  have HO := fun w => hide (crc_open_sealed m w hok)
  have HC := hide (m.code_ok hok)
  have hl := m.bytes_short hok
  clear hok
  generalize sealed m.bytes = sl at *
  generalize m.bytes = l at *
  have hsz : (⟨l.toArray⟩ : ByteArray).size = l.length := by show l.toArray.size = _; simp
  go_enter Tryd.func27, Tryd.ntmps27
  go_wp2_with (first
    | ((with_reducible refine gate (N := 2) rfl ?_); refine ev_alloc rfl 41 rfl (cs := Msg.zero.arr) zeroMsg ?_; intro g2 w2 hx2 hb2 hg2 hl2)
    | (go_at_call 70; have hq := unhide (HO w2); (with_reducible refine hq.mono ?_); rintro e w3 ⟨rfl, hb3⟩; clear hq)
    | ((with_reducible refine gate (N := 6) rfl ?_); refine ev_alloc rfl 41 rfl (cs := Msg.zero.arr) zeroMsg ?_; intro g6 w6 hx6 hb6 hg6 hl6)
    | ((with_reducible refine gate (N := 17) rfl ?_); refine ev_s2b rfl 9 54 5 (.tmp 16) rfl rfl Tryd.underlying9 Tryd.underlying54 Tryd.underlying5 ?_; intro g7 c7 w7 hb7 hg7 hc7 hcell; refine stop ?_))
  unfold Stop
  have hr7 : encB.R w7 (.slice (some ⟨g7, 0, none⟩) l.length c7) l := by
    rw [hsz] at hcell hc7
    refine ⟨by rw [Enc.all_length], _, c7, rfl, hc7, by omega, .inr ⟨_, rfl, fun j u hu => ?_⟩⟩
    rw [encB_all] at hu
    have hj : j < l.length := by have := (List.getElem?_eq_some_iff.1 hu).1; simpa using this
    have h1 := hcell j hj
    have e1 : (⟨g7, 0, none⟩ : Addr).add j = ⟨g7, j, none⟩ := by unfold Addr.add; split <;> simp_all
    rw [e1, h1]
    rw [List.getElem?_map, List.getElem?_eq_getElem hj] at hu
    simp only [Option.map_some, Option.some.injEq] at hu
    rw [← hu]
    simp [List.getD_eq_getElem?_getD, List.getElem?_eq_getElem hj]
  have n26 : g2 ≠ g6 := by have := hb3.size; omega
  have hx67 := hx6.below hb7
  have hx27 := ((hx2.below hb3).below hb6).below hb7
  have hge2 := hg2
  have HW7 := bl_then (bl_then (bl_then hb2 hb3) hb6) hb7
  have hge6 : w.heap.size ≤ g6 := by have := hb2.size; have := hb3.size; omega
  clear hcell hb2 hb3 hb6 hb7 hx2 hx6 hg7 hc7 hg6 hl2 hl6 hg2
  have hRd := hide (read_ok m l g6 _ w7 (unhide (HB g6)) hr7 hx67)
  clear hr7 HB HO
  go_wp2_with (first
    | (go_at_call 71; (with_reducible refine (unhide hRd).mono ?_); rintro e w8 ⟨rfl, hx8, hp8⟩; refine stop ?_))
  unfold Stop
  have hx28 := hx27.put hp8 n26
  have HW8 := Put.below HW7 hp8 hge6
  clear hx27 hx67 HW7 hp8 hRd
  go_wp2_with (first
    | ((with_reducible refine gate (N := 23) rfl ?_); refine ev_loadG rfl 41 (.tmp 6) rfl rfl hx8 aggMsg sizeMsg ?_)
    | (go_at_call 17; have hq := msg_check m w8; rw [HC.out] at hq; (with_reducible refine hq.mono ?_); rintro e w9 ⟨rfl, hb9⟩; clear hq)
    | ((with_reducible refine gate (N := 28) rfl ?_); refine stop ?_))
  unfold Stop
  have hx69 := hx8.below hb9
  have hx29 := hx28.below hb9
  have HW9 := bl_then HW8 hb9
  clear hx8 hx28 HW8 hb9
  refine ev_load rfl 41 (.tmp 6) rfl rfl hx69 aggMsg sizeMsg ?_
  refine ev_setAll rfl 41 (.tmp 2) (.tmp 28) rfl rfl (vs := m.arr) hx29 rfl (oneMsg _) sizeMsg rfl ?_
  intro w10 hx10 hp10
  have HW10 := Put.below HW9 hp10 hge2
  clear hx69 hx29 HW9 hp10
  go_wp2
  refine bodyPost_ret (results_cell_tmp rfl _ w10 g2 41 m.arr _ rfl rfl hx10 aggMsg sizeMsg) rfl ⟨rfl, HW10⟩
end Go.Proofs.YtbkffeabikjnhaaDoor

/- octet.Read with the closure of msg.Get, on any bytes. -/
namespace Go.Proofs.YtbkffeabikjnhaaDoor
open Go.RowKit

theorem assert_fault (v : Value) (w : World) : (Instr.typeAssert (.iface 145 v) 20 145 true).run Tryd.prog w = .ok (.tuple #[v, .bool true]) w := by kernel_rfl
theorem open1 {w : World} {g : Nat} {cs : List Value} {t : TypeId} (hx : Box w g cs.toArray t) : Loc w (· = g) w [var g cs t] := by
  refine ⟨.refl _ _, fun i hi => ?_, fun i hi k hk => ?_, .cons (by simp) .nil⟩
  · rw [List.mem_singleton.1 hi]; exact var_at hx
  · rw [List.mem_singleton.1 hi] at hk; exact .inr hk
set_option maxRecDepth 20000 in
/-- What is deferred, somebody panicking with a fault: it is caught. -/
theorem read_deferP (ge gv gr : Nat) (s : ByteArray) (b : Bool) (c x : Int) (w : World) (hv : Box w gv #[.pointer (some ⟨ge, 0, none⟩)] 99) (he : Box w ge #[.string s, .bool b] 143) (hr : Box w gr #[.int .i64 x] 42) (n1 : ge ≠ gv) (n2 : ge ≠ gr) (n3 : gv ≠ gr) :
    CallsD Tryd.prog 107 #[.pointer (some ⟨gv, 0, none⟩), .pointer (some ⟨gr, 0, none⟩)] (.panicking (flt c)) w fun e u' w' => u' = .panicking [{ v := .iface 145 (.agg #[.int .i64 c]), recovered := true }] ∧ e = .returned (.tuple #[]) ∧ Box w' gr #[.int .i64 c] 42 ∧ Put2 w w' ge gr := by
  have c0 := Box.cell hv 0
  have c1 := Box.cell he 1
  have f1 := Box.frozen he 1
  refine callsD_of_wpS Tryd.func107 rfl fun c₀ cs hu => ?_
  have c0' : w.cell? ⟨gv, 0, none⟩ = some (.pointer (some ⟨ge, 0, none⟩)) := c0
  have c1' : w.cell? ⟨ge, 1, none⟩ = some (.bool b) := c1
  clear c0 c1
  apply wpS_seq
  refine wpS_of_wp ?_
  simp only [Tryd.ntmps107, List.size_toArray, List.length_cons, List.length_nil, Nat.reduceAdd, Nat.reduceSub, Array.replicate_succ, Array.replicate_zero, List.push_toArray, List.append_toArray, List.nil_append, List.cons_append]
  go_wp2
  simp only [Exit.thenS]
  have hx2 := hr.put (Box.setPut w ge 1 (.bool false)) n2.symm
  have hp2 := (Box.setPut w ge 1 (.bool false)).two gr
  generalize w.setCell ⟨ge, 1, none⟩ (.bool false) = w2 at *
  apply wpS_seq
  apply wpS_region
  simp [wpOpsS, go_sem, recoverD, hu, flt, Exit.thenS]
  refine wpS_of_wp ?_
  clear c0' c1' f1 hv he hr
  have hL : Loc w2 (· = gr) w2 [var gr [.int .i64 x] 42] := open1 hx2
  have ha := assert_fault
  go_wp2_with (first | ((with_reducible refine gAlloc rfl rfl ?_); (refine ev_allocL rfl hL rfl (by first | exact cells_agg _ rfl | exact cells_int _ _ | exact cells_str _ | exact cells_bool _ | exact cells_slice _ _ _ | exact cells_ptr _ | exact cells_map _ | exact cells_func _ _ _ | exact cells_nilFunc | exact cells_one (by assumption) (by assumption)) ?_; clear hL; intro gq wq hL)) | ((with_reducible refine gBox rfl rfl ?_); (refine ev_boxL rfl hL rfl rfl (by first | exact cells_agg _ rfl | exact cells_int _ _ | exact cells_str _ | exact cells_bool _ | exact cells_slice _ _ _ | exact cells_ptr _ | exact cells_map _ | exact cells_func _ _ _ | exact cells_nilFunc | exact cells_one (by assumption) (by assumption)) ?_; clear hL; intro gq wq hL)) | ((with_reducible refine gLoad rfl rfl ?_); (first | (refine ev_load1L rfl hL rfl rfl HasV.mem (by rfl) ?_) | (refine ev_loadAllL rfl hL rfl rfl HasV.mem (by rfl) ?_) | (refine ev_loadL rfl hL rfl rfl HasV.mem SegC.seg ?_))) | ((with_reducible refine gStore rfl rfl ?_); (first | (refine ev_storeC rfl hL rfl rfl rfl (by first | exact cells_agg _ rfl | exact cells_int _ _ | exact cells_str _ | exact cells_bool _ | exact cells_slice _ _ _ | exact cells_ptr _ | exact cells_map _ | exact cells_func _ _ _ | exact cells_nilFunc | exact cells_one (by assumption) (by assumption)) (by rfl) ?_) | (refine ev_storeAllC rfl hL rfl rfl rfl (by first | exact cells_agg _ rfl | exact cells_int _ _ | exact cells_str _ | exact cells_bool _ | exact cells_slice _ _ _ | exact cells_ptr _ | exact cells_map _ | exact cells_func _ _ _ | exact cells_nilFunc | exact cells_one (by assumption) (by assumption)) (by rfl) (by rfl) ?_)); clear hL; intro wq hL) | ((with_reducible refine gLoadG rfl rfl ?_ ?_); (exact wanted_some rfl rfl rfl (by with_reducible rfl)); (first | (refine ev_load1G (wanted_some rfl rfl rfl rfl) hL rfl rfl HasV.mem (by rfl) ?_) | (refine ev_loadAllG (wanted_some rfl rfl rfl rfl) hL rfl rfl HasV.mem (by rfl) ?_) | (refine ev_loadG_ (wanted_some rfl rfl rfl rfl) hL rfl rfl HasV.mem SegC.seg ?_))))
  have hb1 : Box wq gr #[.int .i64 c] 42 := hL.box HasV.mem
  have hP := hp2.trans ((Mod.put hL.mod).two' ge)
  clear hL ha hx2 hp2
  exact ⟨rfl, _, rfl, .tuple #[], (by simp [results, Tryd.results107]), rfl, rfl, hb1, hP⟩
theorem Body.of {s : ByteArray} {m : Msg} (h : getM s = some (m, ⟨#[]⟩)) (hz : s.size ≤ 100000000000) (gm : Nat) : Body m s gm := by
  intro g w he hx hne
  refine (msg_body g gm s w he hx hne hz).mono fun e w' hA => ?_
  rw [h] at hA
  exact ⟨hA.1, hA.2.1, hA.2.2.1, hA.2.2.2.os, hA.2.2.2.tape, hA.2.2.2.output, hA.2.2.2.size, fun k hk h1 h2 => hA.2.2.2.block k hk fun e => e.elim h1 h2⟩
/-- It throws, or leaves something. -/
def BodyNo (s : ByteArray) (gm : Nat) (left : Option ByteArray) : Prop := ∀ (g : Nat) (w : World), EyeAt w g s → Box w gm Msg.zero.arr 41 → g ≠ gm →
  Calls Tryd.prog 72 #[.pointer (some ⟨g, 0, none⟩), .pointer (some ⟨gm, 0, none⟩)] w fun e w' => (match left with | none => (∃ c, c ≠ 0 ∧ e = .panicked (flt c)) ∧ ∃ s', EyeAt w' g s' | some s' => e = .returned (.tuple #[]) ∧ EyeAt w' g s') ∧ Put2 w w' g gm
theorem BodyNo.of (s : ByteArray) (hz : s.size ≤ 100000000000) (gm : Nat) : BodyNo s gm ((getM s).map (·.2)) := by
  intro g w he hx hne
  refine (msg_body g gm s w he hx hne hz).mono fun e w' hA => ?_
  cases h : getM s with
  | none => rw [h] at hA; exact ⟨⟨hA.1, hA.2.1⟩, hA.2.2.os, hA.2.2.tape, hA.2.2.output, hA.2.2.size, fun k hk h1 h2 => hA.2.2.block k hk fun e => e.elim h1 h2⟩
  | some p => rw [h] at hA; exact ⟨⟨hA.1, hA.2.1⟩, hA.2.2.2.os, hA.2.2.2.tape, hA.2.2.2.output, hA.2.2.2.size, fun k hk h1 h2 => hA.2.2.2.block k hk fun e => e.elim h1 h2⟩
theorem ba_nonempty {s : ByteArray} (h : s ≠ ⟨#[]⟩) : (!s.toList.isEmpty) = true := by
  rw [ByteArray.toList_eq]
  cases hl : s.data.toList with
  | nil => exact absurd (ba_ext (by rw [hl])) h
  | cons _ _ => rfl
theorem put_over {w w6 w7 w8 : World} {g9 g4 gm : Nat} (h6 : Below w.heap.size w w6) (h7 : Put2 w6 w7 g9 gm) (h8 : Put2 w7 w8 g9 g4) (n9 : w.heap.size ≤ g9) (n4 : w.heap.size ≤ g4) : Put w w8 gm :=
  ⟨h8.os.trans (h7.os.trans h6.os), h8.tape.trans (h7.tape.trans h6.tape), h8.output.trans (h7.output.trans h6.output), Nat.le_trans h6.size (Nat.le_trans h7.size h8.size), fun k hk hne =>
    (h8.block k (Nat.lt_of_lt_of_le hk (Nat.le_trans h6.size h7.size)) (by omega) (by omega)).trans ((h7.block k (Nat.lt_of_lt_of_le hk h6.size) (by omega) hne).trans (h6.block k hk))⟩
set_option maxRecDepth 20000 in
theorem read_no (l : List UInt8) (gm : Nat) (v : Value) (w : World) (hb : BodyNo ⟨l.toArray⟩ gm none) (hr : encB.R w v l) (hm : Box w gm Msg.zero.arr 41) :
    Calls Tryd.prog 71 #[v, .func (.func 72) #[] #[.pointer (some ⟨gm, 0, none⟩)]] w fun e w' => (∃ c, c ≠ 0 ∧ e = .returned (.int .i64 c)) ∧ Put w w' gm := by
  have hmf : ∀ (fn : Fn) (first cap : Array Value) (w : World), (Instr.makeFunc fn first cap).run Tryd.prog w = .ok (.func fn first cap) w := fun _ _ _ _ => rfl
  have hconv : ∀ w1, Below w.heap.size w w1 → (convert 54 9 v).run Tryd.prog w1 = .ok (.string ⟨l.toArray⟩) w1 := fun w1 hb1 => conv_bytes (hr.below hb1) 54 9 5 Tryd.underlying54 Tryd.underlying5 Tryd.underlying9
  have hnf := fn_neq_nil
  have HB := hide hb
  clear hb
  go_enter_defers Tryd.func71, Tryd.ntmps71
  go_wp2_with (first
    | ((with_reducible refine gate (N := 4) rfl ?_); refine ev_alloc1 rfl 42 rfl zeroErrno rfl ?_; intro g4 w4 hx4 hb4 hg4 hl4; have hc4 := hconv w4 hb4; clear hconv)
    | ((with_reducible refine gate (N := 9) rfl ?_); refine ev_box rfl 143 (.tmp 8) rfl rfl ?_; intro g9 w9 hx9 hb9 hg9 hl9)
    | ((with_reducible refine gate (N := 5) rfl ?_); refine ev_alloc1 rfl 99 rfl zeroPEye rfl ?_; intro g5 w5 hx5 hb5 hg5 hl5; refine stop ?_))
  unfold Stop
  refine ev_set rfl 99 (.tmp 5) (.tmp 9) rfl rfl hx5 (v := .pointer (some ⟨g9, 0, none⟩)) (cs' := #[.pointer (some ⟨g9, 0, none⟩)]) rfl (by simp [Value.cells, Value.oneCell']) sizePEye (by simp [Value.cells]) (by simp [Value.cells]) ?_
  intro w6 hx6 hp6
  have n95 : g9 ≠ g5 := by omega
  have n45 : g4 ≠ g5 := by have := hb9.size; omega
  have n49 : g4 ≠ g9 := by omega
  have hlm := hm.lt
  have nm5 : gm ≠ g5 := by have := hb4.size; have := hb9.size; omega
  have nm9 : gm ≠ g9 := by have := hb4.size; omega
  have nm4 : gm ≠ g4 := by omega
  have he6 : EyeAt w6 g9 ⟨l.toArray⟩ := (hx9.below hb5).put hp6 n95
  have hm6 := ((hm.below hb4).below hb9 |>.below hb5).put hp6 nm5
  have hx46 := ((hx4.below hb9).below hb5).put hp6 n45
  have hge9 : w.heap.size ≤ g9 := by have := hb4.size; omega
  have hge5 : w.heap.size ≤ g5 := by have := hb4.size; have := hb9.size; omega
  have HB6 := Put.below (bl_then (bl_then hb4 hb9) hb5) hp6 hge5
  clear hx4 hx5 hm hr hb4 hb9 hb5 hp6 hc4 hl4 hg9 hl9 hg5 hl5
  have c5 := hx6.cell
  have he := hide (unhide HB g9 w6 he6 hm6 nm9.symm)
  clear HB
  go_wp2_with (first
    | (go_at_call 72; (with_reducible refine (unhide he).mono ?_); rintro e w7 ⟨⟨⟨c, hc, rfl⟩, s7, he7⟩, hp7⟩; refine stop ?_))
  unfold Stop
  have hx57 := hx6.put2 hp7 n95.symm nm5.symm
  have hx47 := hx46.put2 hp7 n49 nm4.symm
  refine leaves_cons (f := 107) (args := #[.pointer (some ⟨g5, 0, none⟩), .pointer (some ⟨g4, 0, none⟩)]) (by simp) (by simp [go_sem]) ?_
  refine (read_deferP g9 g5 g4 s7 true c 0 w7 hx57 he7 hx47 n95 n49.symm n45.symm).mono ?_
  rintro e u' w8 ⟨rfl, rfl, hx8, hp8⟩
  have c4 : w8.cell? ⟨g4, 0, none⟩ = some (.int .i64 c) := hx8.cell 0
  refine ⟨.int .i64 c, ?_, ⟨c, hc, rfl⟩, put_over HB6 hp7 hp8 hge9 hg4⟩
  simp [results, Tryd.results71, go_sem, c4]
set_option maxRecDepth 20000 in
theorem read_more (s7 : ByteArray) (hs7 : s7 ≠ ⟨#[]⟩) (l : List UInt8) (gm : Nat) (v : Value) (w : World) (hb : BodyNo ⟨l.toArray⟩ gm (some s7)) (hr : encB.R w v l) (hm : Box w gm Msg.zero.arr 41) :
    Calls Tryd.prog 71 #[v, .func (.func 72) #[] #[.pointer (some ⟨gm, 0, none⟩)]] w fun e w' => (∃ c, c ≠ 0 ∧ e = .returned (.int .i64 c)) ∧ Put w w' gm := by
  have hmf : ∀ (fn : Fn) (first cap : Array Value) (w : World), (Instr.makeFunc fn first cap).run Tryd.prog w = .ok (.func fn first cap) w := fun _ _ _ _ => rfl
  have hconv : ∀ w1, Below w.heap.size w w1 → (convert 54 9 v).run Tryd.prog w1 = .ok (.string ⟨l.toArray⟩) w1 := fun w1 hb1 => conv_bytes (hr.below hb1) 54 9 5 Tryd.underlying54 Tryd.underlying5 Tryd.underlying9
  have hnf := fn_neq_nil
  have HB := hide hb
  clear hb
  go_enter_defers Tryd.func71, Tryd.ntmps71
  go_wp2_with (first
    | ((with_reducible refine gate (N := 4) rfl ?_); refine ev_alloc1 rfl 42 rfl zeroErrno rfl ?_; intro g4 w4 hx4 hb4 hg4 hl4; have hc4 := hconv w4 hb4; clear hconv)
    | ((with_reducible refine gate (N := 9) rfl ?_); refine ev_box rfl 143 (.tmp 8) rfl rfl ?_; intro g9 w9 hx9 hb9 hg9 hl9)
    | ((with_reducible refine gate (N := 5) rfl ?_); refine ev_alloc1 rfl 99 rfl zeroPEye rfl ?_; intro g5 w5 hx5 hb5 hg5 hl5; refine stop ?_))
  unfold Stop
  refine ev_set rfl 99 (.tmp 5) (.tmp 9) rfl rfl hx5 (v := .pointer (some ⟨g9, 0, none⟩)) (cs' := #[.pointer (some ⟨g9, 0, none⟩)]) rfl (by simp [Value.cells, Value.oneCell']) sizePEye (by simp [Value.cells]) (by simp [Value.cells]) ?_
  intro w6 hx6 hp6
  have n95 : g9 ≠ g5 := by omega
  have n45 : g4 ≠ g5 := by have := hb9.size; omega
  have n49 : g4 ≠ g9 := by omega
  have hlm := hm.lt
  have nm5 : gm ≠ g5 := by have := hb4.size; have := hb9.size; omega
  have nm9 : gm ≠ g9 := by have := hb4.size; omega
  have nm4 : gm ≠ g4 := by omega
  have he6 : EyeAt w6 g9 ⟨l.toArray⟩ := (hx9.below hb5).put hp6 n95
  have hm6 := ((hm.below hb4).below hb9 |>.below hb5).put hp6 nm5
  have hx46 := ((hx4.below hb9).below hb5).put hp6 n45
  have hge9 : w.heap.size ≤ g9 := by have := hb4.size; omega
  have hge5 : w.heap.size ≤ g5 := by have := hb4.size; have := hb9.size; omega
  have HB6 := Put.below (bl_then (bl_then hb4 hb9) hb5) hp6 hge5
  clear hx4 hx5 hm hr hb4 hb9 hb5 hp6 hc4 hl4 hg9 hl9 hg5 hl5
  have c5 := hx6.cell
  have he := hide (unhide HB g9 w6 he6 hm6 nm9.symm)
  clear HB
  go_wp2_with (first
    | (go_at_call 72; (with_reducible refine (unhide he).mono ?_); rintro e w7 ⟨⟨rfl, he7⟩, hp7⟩; clear he; refine stop ?_))
  unfold Stop
  have hx57 := hx6.put2 hp7 n95.symm nm5.symm
  have hx47 := hx46.put2 hp7 n49 nm4.symm
  have c9 := Box.cell he7
  clear c5
  have c5 := hx57.cell
  have tn := ba_nonempty hs7
  go_wp2_with (first
    | (go_at_call 108; have hq := eye_fail g9 s7 201 w7 he7; (with_reducible refine hq.mono ?_); rintro e w' ⟨rfl, rfl⟩; refine stop ?_))
  unfold Stop
  have hc : (201 : Int) ≠ 0 := by decide
  generalize (201 : Int) = c at *
  refine leaves_cons (f := 107) (args := #[.pointer (some ⟨g5, 0, none⟩), .pointer (some ⟨g4, 0, none⟩)]) (by simp) (by simp [go_sem]) ?_
  refine (read_deferP g9 g5 g4 s7 true c 0 w7 hx57 he7 hx47 n95 n49.symm n45.symm).mono ?_
  rintro e u' w8 ⟨rfl, rfl, hx8, hp8⟩
  have c4 : w8.cell? ⟨g4, 0, none⟩ = some (.int .i64 c) := hx8.cell 0
  refine ⟨.int .i64 c, ?_, ⟨c, hc, rfl⟩, put_over HB6 hp7 hp8 hge9 hg4⟩
  simp [results, Tryd.results71, go_sem, c4]
theorem read_any (l : List UInt8) (gm : Nat) (v : Value) (w : World) (hz : l.length ≤ 100000000000) (hr : encB.R w v l) (hm : Box w gm Msg.zero.arr 41) :
    Calls Tryd.prog 71 #[v, .func (.func 72) #[] #[.pointer (some ⟨gm, 0, none⟩)]] w fun e w' =>
      ((∃ m, getM ⟨l.toArray⟩ = some (m, ⟨#[]⟩) ∧ e = .returned (.int .i64 0) ∧ Box w' gm m.arr 41) ∨ ((∀ m, getM ⟨l.toArray⟩ ≠ some (m, ⟨#[]⟩)) ∧ ∃ c, c ≠ 0 ∧ e = .returned (.int .i64 c))) ∧ Put w w' gm := by
  have hz' : (⟨l.toArray⟩ : ByteArray).size ≤ 100000000000 := by show l.toArray.size ≤ _; simpa using hz
  have hb := BodyNo.of ⟨l.toArray⟩ hz' gm
  cases h : getM ⟨l.toArray⟩ with
  | none =>
    rw [h] at hb
    exact (read_no l gm v w hb hr hm).mono fun e w' ⟨h1, h2⟩ => ⟨.inr ⟨by simp, h1⟩, h2⟩
  | some p =>
    obtain ⟨m, s'⟩ := p
    by_cases hs : s' = ⟨#[]⟩
    · subst hs
      exact (read_ok m l gm v w (Body.of h hz' gm) hr hm).mono fun e w' ⟨h1, h2, h3⟩ => ⟨.inl ⟨m, rfl, h1, h2⟩, h3⟩
    · rw [h] at hb
      refine (read_more s' hs l gm v w hb hr hm).mono fun e w' ⟨h1, h2⟩ => ⟨.inr ⟨fun m' e => hs ?_, h1⟩, h2⟩
      simp only [Option.some.injEq, Prod.mk.injEq] at e
      exact e.2
end Go.Proofs.YtbkffeabikjnhaaDoor

/- msg.Get of what is not sealed. -/
namespace Go.Proofs.YtbkffeabikjnhaaDoor
open Go.RowKit

theorem res_ct2 {P : Program} {fn : Func} {W w0 : World} {M : Nat → Prop} {l : List Item} {p q : Tmp} {ty : TypeId} {n g : Nat} {cs : List Value} {t : TypeId} {v : Value} [ha : AggT P ty] [hn : SizeT P ty n] (h : fn.results = #[.cell p ty, .tmp q]) (hL : Loc w0 M W l) (tmps : Array Value) (hp : tmps.getD p undef = .pointer (some ⟨g, 0, none⟩)) (hq : tmps.getD q undef = v) (hm : var g cs t ∈ l) (hs : cs.length = n) :
    (results fn tmps).run P W = .ok (.tuple #[.agg cs.toArray, v]) W :=
  results_cell_tmp h tmps W g t cs.toArray v hp hq (hL.box hm) ha.agg (by rw [List.size_toArray, hs]; exact hn.size)
abbrev exZ : Msg := ⟨0, 0, 0, 0, ⟨0, 0⟩, ⟨0, 0⟩, 0, 0, ⟨0, 0, 0, 0, 0, 0, 0, 0⟩, ⟨#[]⟩⟩
theorem msg_GetNo (s : ByteArray) (w : World) (hs : s.size ≤ 10000000000) (ho : openOk s = false) :
    Calls Tryd.prog 27 #[.string s] w fun e w' => e = .returned (.tuple #[exZ.val, .int .i64 201]) ∧ Below w.heap.size w w' := by
  have hL := Loc.nil w NoM
  have hO := fun w => hide (crc_open s w hs)
  rw [ho] at hO
  generalize (if 8 ≤ s.size then openCut s else ⟨#[]⟩) = b at hO
  go_enter Tryd.func27, Tryd.ntmps27
  go_wp2_with (first
    | (go_at_call 70; (with_reducible refine (unhide (hO _)).mono ?_); rintro e w2 ⟨rfl, hb2⟩; have hL := hL.call hb2; clear hb2)
    | ((with_reducible refine gAlloc rfl rfl ?_); (refine ev_allocL rfl hL rfl (by first | exact cells_agg _ rfl | exact cells_int _ _ | exact cells_str _ | exact cells_bool _ | exact cells_slice _ _ _ | exact cells_ptr _ | exact cells_map _ | exact cells_func _ _ _ | exact cells_nilFunc | exact cells_one (by assumption) (by assumption)) ?_; clear hL; intro gq wq hL)) | ((with_reducible refine gBox rfl rfl ?_); (refine ev_boxL rfl hL rfl rfl (by first | exact cells_agg _ rfl | exact cells_int _ _ | exact cells_str _ | exact cells_bool _ | exact cells_slice _ _ _ | exact cells_ptr _ | exact cells_map _ | exact cells_func _ _ _ | exact cells_nilFunc | exact cells_one (by assumption) (by assumption)) ?_; clear hL; intro gq wq hL)) | ((with_reducible refine gLoad rfl rfl ?_); (first | (refine ev_load1L rfl hL rfl rfl HasV.mem (by rfl) ?_) | (refine ev_loadAllL rfl hL rfl rfl HasV.mem (by rfl) ?_) | (refine ev_loadL rfl hL rfl rfl HasV.mem SegC.seg ?_))) | ((with_reducible refine gStore rfl rfl ?_); (first | (refine ev_storeC rfl hL rfl rfl rfl (by first | exact cells_agg _ rfl | exact cells_int _ _ | exact cells_str _ | exact cells_bool _ | exact cells_slice _ _ _ | exact cells_ptr _ | exact cells_map _ | exact cells_func _ _ _ | exact cells_nilFunc | exact cells_one (by assumption) (by assumption)) (by rfl) ?_) | (refine ev_storeAllC rfl hL rfl rfl rfl (by first | exact cells_agg _ rfl | exact cells_int _ _ | exact cells_str _ | exact cells_bool _ | exact cells_slice _ _ _ | exact cells_ptr _ | exact cells_map _ | exact cells_func _ _ _ | exact cells_nilFunc | exact cells_one (by assumption) (by assumption)) (by rfl) (by rfl) ?_)); clear hL; intro wq hL) | ((with_reducible refine gLoadG rfl rfl ?_ ?_); (exact wanted_some rfl rfl rfl (by with_reducible rfl)); (first | (refine ev_load1G (wanted_some rfl rfl rfl rfl) hL rfl rfl HasV.mem (by rfl) ?_) | (refine ev_loadAllG (wanted_some rfl rfl rfl rfl) hL rfl rfl HasV.mem (by rfl) ?_) | (refine ev_loadG_ (wanted_some rfl rfl rfl rfl) hL rfl rfl HasV.mem SegC.seg ?_))))
  have hx := hL.box (by first | exact .head _ | exact .tail _ (.head _) | exact .tail _ (.tail _ (.head _)) | exact .tail _ (.tail _ (.tail _ (.head _))) | exact .tail _ (.tail _ (.tail _ (.tail _ (.head _)))) | exact .tail _ (.tail _ (.tail _ (.tail _ (.tail _ (.head _))))) | exact .tail _ (.tail _ (.tail _ (.tail _ (.tail _ (.tail _ (.head _)))))) | exact .tail _ (.tail _ (.tail _ (.tail _ (.tail _ (.tail _ (.tail _ (.head _))))))) | exact .tail _ (.tail _ (.tail _ (.tail _ (.tail _ (.tail _ (.tail _ (.tail _ (.head _)))))))))
  exact bodyPost_ret (results_cell_tmp rfl _ _ _ 41 exZ.arr _ rfl rfl hx aggMsg sizeMsg) rfl ⟨rfl, hL.below⟩
end Go.Proofs.YtbkffeabikjnhaaDoor

/- A message as bytes, or that it may not be: the program's. -/
namespace Go.Proofs.YtbkffeabikjnhaaDoor
open Go.RowKit

def Msg.putB (m : Msg) : ByteArray := if m.ok = true then ⟨(sealed m.bytes).toArray⟩ else ⟨#[]⟩
theorem ret_pe {a b : ByteArray} {c d : Int} (h1 : a = b) (h2 : c = d) : Ending.returned (.tuple #[.string a, .int .i64 c]) = .returned (.tuple #[.string b, .int .i64 d]) := by rw [h1, h2]
theorem msg_Put (m : Msg) (w : World) :
    Calls Tryd.prog 25 #[m.val] w fun e w' => e = .returned (.tuple #[.string m.putB, .int .i64 m.code]) ∧ Below w.heap.size w w' := by
  cases hok : m.ok
  · refine (msg_putNo m w hok).mono fun e w' ⟨he, hb⟩ => ⟨?_, hb⟩
    rw [he]; exact ret_pe (by simp [Msg.putB, hok]) (by simp [Msg.code, hok])
  · refine (msg_put m w hok).mono fun e w' ⟨he, hb⟩ => ⟨?_, hb⟩
    rw [he]; exact ret_pe (by simp [Msg.putB, hok]) (by simp [Msg.code, hok])
end Go.Proofs.YtbkffeabikjnhaaDoor

/- msg.Get of any bytes. -/
namespace Go.Proofs.YtbkffeabikjnhaaDoor
open Go.RowKit

/-- The message of bytes, if it can be. -/
def gotM (s : ByteArray) : Option Msg :=
  if openOk s = true then (getM (openCut s)).bind fun p => if p.2 = ⟨#[]⟩ ∧ p.1.ok = true then some p.1 else none else none
theorem read_any2 (l : List UInt8) (gm : Nat) (v : Value) (w : World) (hz : l.length ≤ 100000000000) (hr : encB.R w v l) (hm : Box w gm Msg.zero.arr 41) :
    Calls Tryd.prog 71 #[v, .func (.func 72) #[] #[.pointer (some ⟨gm, 0, none⟩)]] w fun e w' => ∃ c : Int, e = .returned (.int .i64 c) ∧
      ((c = 0 ∧ ∃ m, getM ⟨l.toArray⟩ = some (m, ⟨#[]⟩) ∧ Box w' gm m.arr 41) ∨ (c ≠ 0 ∧ ∀ m, getM ⟨l.toArray⟩ ≠ some (m, ⟨#[]⟩))) ∧ Put w w' gm := by
  refine (read_any l gm v w hz hr hm).mono fun e w' ⟨hA, hp⟩ => ?_
  rcases hA with ⟨m, hg, rfl, hx⟩ | ⟨hno, c, hc, rfl⟩
  · exact ⟨0, rfl, .inl ⟨rfl, m, hg, hx⟩, hp⟩
  · exact ⟨c, rfl, .inr ⟨hc, hno⟩, hp⟩
set_option maxRecDepth 20000 in
theorem get_walk (s b : ByteArray) (w : World) (hb : b.size ≤ 10000000000) (hO : ∀ w, Calls Tryd.prog 70 #[.string s] w fun e w' => e = .returned (.tuple #[.string b, .bool true]) ∧ Below w.heap.size w w') :
    Calls Tryd.prog 27 #[.string s] w fun e w' => ((∃ m, getM b = some (m, ⟨#[]⟩) ∧ m.ok = true ∧ e = .returned (.tuple #[m.val, .int .i64 0])) ∨ ((∀ m, getM b = some (m, ⟨#[]⟩) → m.ok = false) ∧ e = .returned (.tuple #[exZ.val, .int .i64 201]))) ∧ Below w.heap.size w w' := by
  have hmf : ∀ (fn : Fn) (first cap : Array Value) (w : World), (Instr.makeFunc fn first cap).run Tryd.prog w = .ok (.func fn first cap) w := fun _ _ _ _ => rfl
  have hO := fun w => hide (hO w)
  have hL := Loc.nil w NoM
  have hbl : b.data.toList.length = b.size := by rw [Array.length_toList]; rfl
  go_enter Tryd.func27, Tryd.ntmps27
  go_wp2_with (first
    | (go_at_call 70; (with_reducible refine (unhide (hO _)).mono ?_); rintro e w2 ⟨rfl, hb2⟩; have hL := hL.call hb2; clear hb2)
    | ((with_reducible refine gate (N := 17) rfl ?_); refine ev_s2bF rfl rfl rfl Tryd.underlying9 Tryd.underlying5 ?_; intro g7 c7 w7 hb7 hg7 hc7 hcell hfr; have hL := hL.call hb7; refine stop ?_)
    | ((with_reducible refine gAlloc rfl rfl ?_); (refine ev_allocL rfl hL rfl (by first | exact cells_agg _ rfl | exact cells_int _ _ | exact cells_str _ | exact cells_bool _ | exact cells_slice _ _ _ | exact cells_ptr _ | exact cells_map _ | exact cells_func _ _ _ | exact cells_nilFunc | exact cells_one (by assumption) (by assumption)) ?_; clear hL; intro gq wq hL)) | ((with_reducible refine gBox rfl rfl ?_); (refine ev_boxL rfl hL rfl rfl (by first | exact cells_agg _ rfl | exact cells_int _ _ | exact cells_str _ | exact cells_bool _ | exact cells_slice _ _ _ | exact cells_ptr _ | exact cells_map _ | exact cells_func _ _ _ | exact cells_nilFunc | exact cells_one (by assumption) (by assumption)) ?_; clear hL; intro gq wq hL)) | ((with_reducible refine gLoad rfl rfl ?_); (first | (refine ev_load1L rfl hL rfl rfl HasV.mem (by rfl) ?_) | (refine ev_loadAllL rfl hL rfl rfl HasV.mem (by rfl) ?_) | (refine ev_loadL rfl hL rfl rfl HasV.mem SegC.seg ?_))) | ((with_reducible refine gStore rfl rfl ?_); (first | (refine ev_storeC rfl hL rfl rfl rfl (by first | exact cells_agg _ rfl | exact cells_int _ _ | exact cells_str _ | exact cells_bool _ | exact cells_slice _ _ _ | exact cells_ptr _ | exact cells_map _ | exact cells_func _ _ _ | exact cells_nilFunc | exact cells_one (by assumption) (by assumption)) (by rfl) ?_) | (refine ev_storeAllC rfl hL rfl rfl rfl (by first | exact cells_agg _ rfl | exact cells_int _ _ | exact cells_str _ | exact cells_bool _ | exact cells_slice _ _ _ | exact cells_ptr _ | exact cells_map _ | exact cells_func _ _ _ | exact cells_nilFunc | exact cells_one (by assumption) (by assumption)) (by rfl) (by rfl) ?_)); clear hL; intro wq hL) | ((with_reducible refine gLoadG rfl rfl ?_ ?_); (exact wanted_some rfl rfl rfl (by with_reducible rfl)); (first | (refine ev_load1G (wanted_some rfl rfl rfl rfl) hL rfl rfl HasV.mem (by rfl) ?_) | (refine ev_loadAllG (wanted_some rfl rfl rfl rfl) hL rfl rfl HasV.mem (by rfl) ?_) | (refine ev_loadG_ (wanted_some rfl rfl rfl rfl) hL rfl rfl HasV.mem SegC.seg ?_))))
  unfold Stop
  have hR : encB.R w7 (.slice (some ⟨g7, 0, none⟩) b.size c7) b.data.toList := by
    have := read_cells (w := w7) (g := g7) (c := c7) b.data.toList (by rw [hbl]; exact hc7) (by rw [hbl]; omega) (fun j hj => hcell j (by rw [hbl] at hj; exact hj))
    rw [hbl] at this
    exact this
  clear hcell hfr hb7 hc7 hbl
  have hx : Box w7 gq Msg.zero.arr 41 := hL.box (.head _)
  have hl2 : b.data.toList.length ≤ 100000000000 := by have : b.data.toList.length = b.size := by rw [Array.length_toList]; rfl
                                                       omega
  have hRd := hide (read_any2 b.data.toList gq _ w7 hl2 hR hx)
  clear hR hx hl2
  have hbb : (⟨b.data.toList.toArray⟩ : ByteArray) = b := by apply ba_ext; simp
  rw [hbb] at hRd
  clear hbb
  go_wp2_with (first
    | (go_at_call 71; (with_reducible refine (unhide hRd).mono ?_); rintro e w8 ⟨c, rfl, hA, hp8⟩; clear hRd; refine stop ?_))
  rcases hA with ⟨rfl, m, hg, hx8⟩ | ⟨hc, hno⟩
  · have hL := hL.turn (cs' := m.cells) hp8 hx8
    clear hx8 hp8
    have hck : ∀ w, Hid (Calls Tryd.prog 17 #[.agg m.cells.toArray] w fun e w' => e = .returned (.int .i64 m.code) ∧ Below w.heap.size w w') := fun w => hide (msg_check m w)
    cases hok : m.ok
    · have hcode : m.code = 201 := by simp [Msg.code, hok]
      have HN := Lib.hid hok
      clear hok
      unfold Stop
      go_wp2_with (first
        | (go_at_call 17; (with_reducible refine (unhide (hck _)).mono ?_); rintro e w9 ⟨rfl, hb9⟩; rw [hcode]; have hL := hL.call hb9; clear hb9)
        | ((with_reducible refine gAlloc rfl rfl ?_); (refine ev_allocL rfl hL rfl (by first | exact cells_agg _ rfl | exact cells_int _ _ | exact cells_str _ | exact cells_bool _ | exact cells_slice _ _ _ | exact cells_ptr _ | exact cells_map _ | exact cells_func _ _ _ | exact cells_nilFunc | exact cells_one (by assumption) (by assumption)) ?_; clear hL; intro gq wq hL)) | ((with_reducible refine gBox rfl rfl ?_); (refine ev_boxL rfl hL rfl rfl (by first | exact cells_agg _ rfl | exact cells_int _ _ | exact cells_str _ | exact cells_bool _ | exact cells_slice _ _ _ | exact cells_ptr _ | exact cells_map _ | exact cells_func _ _ _ | exact cells_nilFunc | exact cells_one (by assumption) (by assumption)) ?_; clear hL; intro gq wq hL)) | ((with_reducible refine gLoad rfl rfl ?_); (first | (refine ev_load1L rfl hL rfl rfl HasV.mem (by rfl) ?_) | (refine ev_loadAllL rfl hL rfl rfl HasV.mem (by rfl) ?_) | (refine ev_loadL rfl hL rfl rfl HasV.mem SegC.seg ?_))) | ((with_reducible refine gStore rfl rfl ?_); (first | (refine ev_storeC rfl hL rfl rfl rfl (by first | exact cells_agg _ rfl | exact cells_int _ _ | exact cells_str _ | exact cells_bool _ | exact cells_slice _ _ _ | exact cells_ptr _ | exact cells_map _ | exact cells_func _ _ _ | exact cells_nilFunc | exact cells_one (by assumption) (by assumption)) (by rfl) ?_) | (refine ev_storeAllC rfl hL rfl rfl rfl (by first | exact cells_agg _ rfl | exact cells_int _ _ | exact cells_str _ | exact cells_bool _ | exact cells_slice _ _ _ | exact cells_ptr _ | exact cells_map _ | exact cells_func _ _ _ | exact cells_nilFunc | exact cells_one (by assumption) (by assumption)) (by rfl) (by rfl) ?_)); clear hL; intro wq hL) | ((with_reducible refine gLoadG rfl rfl ?_ ?_); (exact wanted_some rfl rfl rfl (by with_reducible rfl)); (first | (refine ev_load1G (wanted_some rfl rfl rfl rfl) hL rfl rfl HasV.mem (by rfl) ?_) | (refine ev_loadAllG (wanted_some rfl rfl rfl rfl) hL rfl rfl HasV.mem (by rfl) ?_) | (refine ev_loadG_ (wanted_some rfl rfl rfl rfl) hL rfl rfl HasV.mem SegC.seg ?_))))
      refine bodyPost_ret (res_ct2 rfl hL _ rfl rfl HasV.mem (by rfl)) rfl ⟨.inr ⟨fun m' e => ?_, rfl⟩, hL.below⟩
      rw [hg] at e
      simp only [Option.some.injEq, Prod.mk.injEq, and_true] at e
      rw [← e]
      exact HN.out
    · have hcode : m.code = 0 := by simp [Msg.code, hok]
      have HN := Lib.hid hok
      clear hok
      unfold Stop
      go_wp2_with (first
        | (go_at_call 17; (with_reducible refine (unhide (hck _)).mono ?_); rintro e w9 ⟨rfl, hb9⟩; rw [hcode]; have hL := hL.call hb9; clear hb9)
        | ((with_reducible refine gAlloc rfl rfl ?_); (refine ev_allocL rfl hL rfl (by first | exact cells_agg _ rfl | exact cells_int _ _ | exact cells_str _ | exact cells_bool _ | exact cells_slice _ _ _ | exact cells_ptr _ | exact cells_map _ | exact cells_func _ _ _ | exact cells_nilFunc | exact cells_one (by assumption) (by assumption)) ?_; clear hL; intro gq wq hL)) | ((with_reducible refine gBox rfl rfl ?_); (refine ev_boxL rfl hL rfl rfl (by first | exact cells_agg _ rfl | exact cells_int _ _ | exact cells_str _ | exact cells_bool _ | exact cells_slice _ _ _ | exact cells_ptr _ | exact cells_map _ | exact cells_func _ _ _ | exact cells_nilFunc | exact cells_one (by assumption) (by assumption)) ?_; clear hL; intro gq wq hL)) | ((with_reducible refine gLoad rfl rfl ?_); (first | (refine ev_load1L rfl hL rfl rfl HasV.mem (by rfl) ?_) | (refine ev_loadAllL rfl hL rfl rfl HasV.mem (by rfl) ?_) | (refine ev_loadL rfl hL rfl rfl HasV.mem SegC.seg ?_))) | ((with_reducible refine gStore rfl rfl ?_); (first | (refine ev_storeC rfl hL rfl rfl rfl (by first | exact cells_agg _ rfl | exact cells_int _ _ | exact cells_str _ | exact cells_bool _ | exact cells_slice _ _ _ | exact cells_ptr _ | exact cells_map _ | exact cells_func _ _ _ | exact cells_nilFunc | exact cells_one (by assumption) (by assumption)) (by rfl) ?_) | (refine ev_storeAllC rfl hL rfl rfl rfl (by first | exact cells_agg _ rfl | exact cells_int _ _ | exact cells_str _ | exact cells_bool _ | exact cells_slice _ _ _ | exact cells_ptr _ | exact cells_map _ | exact cells_func _ _ _ | exact cells_nilFunc | exact cells_one (by assumption) (by assumption)) (by rfl) (by rfl) ?_)); clear hL; intro wq hL) | ((with_reducible refine gLoadG rfl rfl ?_ ?_); (exact wanted_some rfl rfl rfl (by with_reducible rfl)); (first | (refine ev_load1G (wanted_some rfl rfl rfl rfl) hL rfl rfl HasV.mem (by rfl) ?_) | (refine ev_loadAllG (wanted_some rfl rfl rfl rfl) hL rfl rfl HasV.mem (by rfl) ?_) | (refine ev_loadG_ (wanted_some rfl rfl rfl rfl) hL rfl rfl HasV.mem SegC.seg ?_))))
      exact bodyPost_ret (res_ct2 rfl hL _ rfl rfl HasV.mem (by rfl)) rfl ⟨.inl ⟨m, hg, HN.out, rfl⟩, hL.below⟩
  · have hL := hL.gone hp8
    clear hp8
    have tc : (c != 0) = true := by simpa using hc
    unfold Stop
    go_wp2_with (first | ((with_reducible refine gAlloc rfl rfl ?_); (refine ev_allocL rfl hL rfl (by first | exact cells_agg _ rfl | exact cells_int _ _ | exact cells_str _ | exact cells_bool _ | exact cells_slice _ _ _ | exact cells_ptr _ | exact cells_map _ | exact cells_func _ _ _ | exact cells_nilFunc | exact cells_one (by assumption) (by assumption)) ?_; clear hL; intro gq wq hL)) | ((with_reducible refine gBox rfl rfl ?_); (refine ev_boxL rfl hL rfl rfl (by first | exact cells_agg _ rfl | exact cells_int _ _ | exact cells_str _ | exact cells_bool _ | exact cells_slice _ _ _ | exact cells_ptr _ | exact cells_map _ | exact cells_func _ _ _ | exact cells_nilFunc | exact cells_one (by assumption) (by assumption)) ?_; clear hL; intro gq wq hL)) | ((with_reducible refine gLoad rfl rfl ?_); (first | (refine ev_load1L rfl hL rfl rfl HasV.mem (by rfl) ?_) | (refine ev_loadAllL rfl hL rfl rfl HasV.mem (by rfl) ?_) | (refine ev_loadL rfl hL rfl rfl HasV.mem SegC.seg ?_))) | ((with_reducible refine gStore rfl rfl ?_); (first | (refine ev_storeC rfl hL rfl rfl rfl (by first | exact cells_agg _ rfl | exact cells_int _ _ | exact cells_str _ | exact cells_bool _ | exact cells_slice _ _ _ | exact cells_ptr _ | exact cells_map _ | exact cells_func _ _ _ | exact cells_nilFunc | exact cells_one (by assumption) (by assumption)) (by rfl) ?_) | (refine ev_storeAllC rfl hL rfl rfl rfl (by first | exact cells_agg _ rfl | exact cells_int _ _ | exact cells_str _ | exact cells_bool _ | exact cells_slice _ _ _ | exact cells_ptr _ | exact cells_map _ | exact cells_func _ _ _ | exact cells_nilFunc | exact cells_one (by assumption) (by assumption)) (by rfl) (by rfl) ?_)); clear hL; intro wq hL) | ((with_reducible refine gLoadG rfl rfl ?_ ?_); (exact wanted_some rfl rfl rfl (by with_reducible rfl)); (first | (refine ev_load1G (wanted_some rfl rfl rfl rfl) hL rfl rfl HasV.mem (by rfl) ?_) | (refine ev_loadAllG (wanted_some rfl rfl rfl rfl) hL rfl rfl HasV.mem (by rfl) ?_) | (refine ev_loadG_ (wanted_some rfl rfl rfl rfl) hL rfl rfl HasV.mem SegC.seg ?_))))
    exact bodyPost_ret (res_ct2 rfl hL _ rfl rfl HasV.mem (by rfl)) rfl ⟨.inr ⟨fun m' e => absurd e (hno m'), rfl⟩, hL.below⟩
end Go.Proofs.YtbkffeabikjnhaaDoor

/- What is got is put as it was. Plain. -/
namespace Go.Proofs.YtbkffeabikjnhaaDoor
open Go.RowKit

theorem putN_numOf : ∀ (l : List UInt8), putN (numOf l) l.length = l := by
  have key : ∀ k : List UInt8, putN (numOf k.reverse) k.length = k.reverse := by
    intro k
    induction k with
    | nil => rfl
    | cons c k ih =>
      have hc := c.toNat_lt
      rw [List.reverse_cons, List.length_cons, numOf_snoc, putN_succ]
      congr 1
      · rw [show (numOf k.reverse * 256 + (c.toNat : Int)) / 256 = numOf k.reverse from by omega]
        exact ih
      · congr 1
        apply UInt8.toNat_inj.1
        have := u8_val (numOf k.reverse * 256 + (c.toNat : Int))
        omega
  intro l
  have := key l.reverse
  simpa using this
theorem put_chunk (l : List UInt8) (off n : Nat) (h : off + n ≤ l.length) : putN (numOf ((l.drop off).take n)) n = (l.drop off).take n := by
  have hl : ((l.drop off).take n).length = n := by rw [List.length_take, List.length_drop]; omega
  have := putN_numOf ((l.drop off).take n)
  rw [hl] at this
  exact this
theorem take_chunk (l : List UInt8) (off n : Nat) : l.drop off = (l.drop off).take n ++ l.drop (off + n) := by
  rw [← List.drop_drop, List.take_append_drop]
theorem num_bytes {n : Nat} {s s' : ByteArray} {x : Int} (h : num? n s = some (x, s')) : s.data.toList = putN x n ++ s'.data.toList := by
  unfold num? at h
  split at h
  · rename_i hn
    simp only [Option.some.injEq, Prod.mk.injEq] at h
    obtain ⟨rfl, rfl⟩ := h
    have hl : s.data.toList.length = s.size := by rw [Array.length_toList]; rfl
    have := put_chunk s.data.toList 0 n (by omega)
    rw [List.drop_zero] at this
    rw [this, eat_list, List.take_append_drop]
  · cases h
theorem numAt_chunk {s : ByteArray} {off n : Nat} (h : off + n ≤ s.size) : s.data.toList.drop off = putN (numAt s off n) n ++ s.data.toList.drop (off + n) := by
  have hl : s.data.toList.length = s.size := by rw [Array.length_toList]; rfl
  unfold numAt
  rw [put_chunk _ _ _ (by omega)]
  exact take_chunk _ _ _
theorem mark_bytes {s s' : ByteArray} {x : Mk} (h : mark? s = some (x, s')) : s.data.toList = x.bytes ++ s'.data.toList := by
  unfold mark? at h
  split at h
  · rename_i hn
    simp only [Option.some.injEq, Prod.mk.injEq] at h
    obtain ⟨rfl, rfl⟩ := h
    have h1 := numAt_chunk (s := s) (off := 0) (n := 6) (by omega)
    have h2 := numAt_chunk (s := s) (off := 6) (n := 6) (by omega)
    rw [List.drop_zero] at h1
    rw [Nat.zero_add] at h1
    rw [h1, h2, eat_list]
    simp [Mk.bytes]
  · cases h
theorem vec_bytes {s s' : ByteArray} {x : V8} (h : vec? s = some (x, s')) : s.data.toList = x.bytes ++ s'.data.toList := by
  unfold vec? at h
  split at h
  · rename_i hn
    simp only [Option.some.injEq, Prod.mk.injEq] at h
    obtain ⟨rfl, rfl⟩ := h
    have hs := hn.1
    have h0 := numAt_chunk (s := s) (off := 0) (n := 6) (by omega)
    have h1 := numAt_chunk (s := s) (off := 6) (n := 6) (by omega)
    have h2 := numAt_chunk (s := s) (off := 12) (n := 6) (by omega)
    have h3 := numAt_chunk (s := s) (off := 18) (n := 6) (by omega)
    have h4 := numAt_chunk (s := s) (off := 24) (n := 6) (by omega)
    have h5 := numAt_chunk (s := s) (off := 30) (n := 6) (by omega)
    have h6 := numAt_chunk (s := s) (off := 36) (n := 6) (by omega)
    have h7 := numAt_chunk (s := s) (off := 42) (n := 6) (by omega)
    rw [List.drop_zero] at h0
    simp only [Nat.zero_add, Nat.reduceAdd] at h0 h1 h2 h3 h4 h5 h6 h7
    rw [h0, h1, h2, h3, h4, h5, h6, h7, eat_list]
    simp [V8.bytes, V8.list, seeV]
  · cases h
theorem text_bytes {most : Int} {s s' d : ByteArray} (h : text? most s = some (d, s')) : s.data.toList = putN d.size 2 ++ d.data.toList ++ s'.data.toList := by
  unfold text? at h
  cases hr : num? 2 s with
  | none => rw [hr] at h; cases h
  | some p =>
    obtain ⟨x, t⟩ := p
    have hb := num_bytes hr
    have hx : 0 ≤ x := by
      unfold num? at hr
      split at hr
      · simp only [Option.some.injEq, Prod.mk.injEq] at hr
        rw [← hr.1]; exact (numOf_bound _).1
      · cases hr
    rw [hr, Option.bind_some] at h
    split at h
    · cases h
    · split at h
      · rename_i hle
        simp only at hle
        simp only [Option.some.injEq, Prod.mk.injEq] at h
        obtain ⟨rfl, rfl⟩ := h
        have hsz : (t.extract 0 x.toNat).size = x.toNat := by rw [ByteArray.size_extract]; omega
        rw [hsz, Int.toNat_of_nonneg hx, hb, List.append_assoc]
        congr 1
        rw [eat_list, ByteArray.data_extract]
        simp
      · cases h
theorem getM_bytes {s s' : ByteArray} {m : Msg} (h : getM s = some (m, s')) : s.data.toList = m.bytes ++ s'.data.toList := by
  unfold getM at h
  simp only [Option.bind_eq_some_iff] at h
  obtain ⟨⟨k, t1⟩, h1, ⟨a, t2⟩, h2, ⟨b, t3⟩, h3, ⟨v, t4⟩, h4, ⟨n, t5⟩, h5, h⟩ := h
  simp only at h2 h3 h4 h5 h
  rw [num_bytes h1, num_bytes h2, num_bytes h3, num_bytes h4, vec_bytes h5]
  split at h
  · rename_i k1
    simp only [Option.bind_eq_some_iff] at h
    obtain ⟨⟨x, t6⟩, h6, ⟨y, t7⟩, h7, ⟨i, t8⟩, h8, h⟩ := h
    simp only [Option.some.injEq, Prod.mk.injEq] at h6 h7 h8 h
    obtain ⟨rfl, rfl⟩ := h
    rw [mark_bytes h6, mark_bytes h7, num_bytes h8]
    simp [Msg.bytes, k1, Msg.headBytes]
  · rename_i k1
    split at h
    · rename_i k2
      simp only [Option.bind_eq_some_iff] at h
      obtain ⟨⟨x, t6⟩, h6, ⟨y, t7⟩, h7, ⟨i, t8⟩, h8, ⟨t, t9⟩, h9, ⟨d, t10⟩, h10, h⟩ := h
      simp only [Option.some.injEq, Prod.mk.injEq] at h6 h7 h8 h9 h10 h
      obtain ⟨rfl, rfl⟩ := h
      rw [mark_bytes h6, mark_bytes h7, num_bytes h8, num_bytes h9, text_bytes h10]
      simp [Msg.bytes, k2, Msg.headBytes]
    · rename_i k2
      split at h
      · rename_i k4
        simp only [Option.bind_eq_some_iff] at h
        obtain ⟨⟨y, t6⟩, h6, h⟩ := h
        simp only [Option.some.injEq, Prod.mk.injEq] at h6 h
        obtain ⟨rfl, rfl⟩ := h
        rw [mark_bytes h6]
        simp [Msg.bytes, k4, Msg.headBytes]
      · rename_i k4
        simp only [Option.some.injEq, Prod.mk.injEq] at h
        obtain ⟨rfl, rfl⟩ := h
        simp [Msg.bytes, k1, k2, k4, Msg.headBytes]
theorem gotM_put {s : ByteArray} {k : Msg} (h : gotM s = some k) : k.ok = true ∧ k.putB = s := by
  unfold gotM at h
  split at h
  · rename_i ho
    simp only [Option.bind_eq_some_iff] at h
    obtain ⟨⟨m, r⟩, hg, h⟩ := h
    simp only at h
    split at h
    · rename_i hr
      simp only [Option.some.injEq] at h
      subst h
      refine ⟨hr.2, ?_⟩
      have hb := getM_bytes hg
      rw [hr.1] at hb
      simp only [List.append_nil, Array.toList_empty] at hb
      unfold openOk at ho
      simp only [Bool.and_eq_true, decide_eq_true_eq] at ho
      apply ba_ext
      rw [Msg.putB, if_pos hr.2, ← ho.2, hb]
    · cases h
  · cases h
theorem msg_Get (s : ByteArray) (w : World) (hs : s.size ≤ 10000000000) :
    Calls Tryd.prog 27 #[.string s] w fun e w' => ((∃ m, gotM s = some m ∧ e = .returned (.tuple #[m.val, .int .i64 0])) ∨ (gotM s = none ∧ e = .returned (.tuple #[exZ.val, .int .i64 201]))) ∧ Below w.heap.size w w' := by
  cases ho : openOk s
  · refine (msg_GetNo s w hs ho).mono fun e w' ⟨h1, h2⟩ => ⟨.inr ⟨by unfold gotM; simp [ho], h1⟩, h2⟩
  · have h8 : 8 ≤ s.size := by unfold openOk at ho; simp only [Bool.and_eq_true, decide_eq_true_eq] at ho; exact ho.1
    have hO := fun w => crc_open s w hs
    rw [ho, if_pos h8] at hO
    have hcs : (openCut s).size ≤ 10000000000 := by unfold openCut; rw [ByteArray.size_extract]; omega
    refine (get_walk s (openCut s) w hcs hO).mono fun e w' ⟨h1, h2⟩ => ⟨?_, h2⟩
    rcases h1 with ⟨m, hg, hok, he⟩ | ⟨hno, he⟩
    · exact .inl ⟨m, by unfold gotM; rw [if_pos ho, hg, Option.bind_some, if_pos ⟨rfl, hok⟩], he⟩
    · refine .inr ⟨?_, he⟩
      unfold gotM
      rw [if_pos ho]
      cases hg : getM (openCut s) with
      | none => rfl
      | some p =>
        obtain ⟨m, r⟩ := p
        rw [Option.bind_some]
        refine if_neg fun hc => ?_
        have e1 : r = ⟨#[]⟩ := hc.1
        subst e1
        have := hno m hg
        rw [this] at hc
        exact absurd hc.2 (by simp)
end Go.Proofs.YtbkffeabikjnhaaDoor
