/- msg.Get's closure on any bytes. -/
import Derived.Test.YtbkffeabikjnhaaDoorRd2
import Derived.Test.YtbkffeabikjnhaaDoorLoc6
import Derived.Test.YtbkffeabikjnhaaDoorTab
namespace Go.Proofs.YtbkffeabikjnhaaDoor
open Go.RowKit

abbrev eyeV (g : Nat) (s : ByteArray) : Item := var g [.string s, .bool true] 143
/-- A look at an eye, among items. -/
theorem eyeL {α : Type} {P : Program} {f : FuncId} {args : Array Value} {mk : α → Value} {r : Option (α × ByteArray)} {g : Nat} {s : ByteArray} {w0 w : World} {M : Nat → Prop} {l : List Item} {F : ByteArray → List Item} (hL : Loc w0 M w l)
    (hs : ∀ s', Swap (eyeV g s) (eyeV g s') l (F s')) (hq : EyeAt w g s → Calls P f args w (Ans mk r g w)) :
    Calls P f args w fun e w1 => (r = none ∧ (∃ c, c ≠ 0 ∧ e = .panicked (flt c)) ∧ ∃ s', Loc w0 M w1 (F s')) ∨ (∃ x s', r = some (x, s') ∧ e = .returned (mk x) ∧ Loc w0 M w1 (F s')) := by
  refine (hq (hL.box (hs s).mem)).mono fun e w1 hA => ?_
  cases r with
  | none =>
    obtain ⟨s', hs'⟩ := hA.2.1
    exact .inl ⟨rfl, hA.1, s', hL.put (hs s') hA.2.2 hs'⟩
  | some p => exact .inr ⟨p.1, p.2, rfl, hA.1, hL.put (hs p.2) hA.2.2 hA.2.1⟩
theorem num_small {n : Nat} {s : ByteArray} {x : Int} {s' : ByteArray} (h : num? n s = some (x, s')) (hz : s.size ≤ 100000000000) : s'.size ≤ 100000000000 := by
  unfold num? at h
  split at h
  · simp only [Option.some.injEq, Prod.mk.injEq] at h
    rw [← h.2, eat_size]; omega
  · cases h
theorem vec_small {s : ByteArray} {x : V8} {s' : ByteArray} (h : vec? s = some (x, s')) (hz : s.size ≤ 100000000000) : s'.size ≤ 100000000000 := by
  unfold vec? at h
  split at h
  · simp only [Option.some.injEq, Prod.mk.injEq] at h
    rw [← h.2, eat_size]; omega
  · cases h
theorem mark_small {s : ByteArray} {x : Mk} {s' : ByteArray} (h : mark? s = some (x, s')) (hz : s.size ≤ 100000000000) : s'.size ≤ 100000000000 := by
  unfold mark? at h
  split at h
  · simp only [Option.some.injEq, Prod.mk.injEq] at h
    rw [← h.2, eat_size]; omega
  · cases h
theorem text_small {most : Int} {s : ByteArray} {x s' : ByteArray} (h : text? most s = some (x, s')) (hz : s.size ≤ 100000000000) : s'.size ≤ 100000000000 := by
  unfold text? at h
  cases hr : num? 2 s with
  | none => rw [hr] at h; cases h
  | some p =>
    have := num_small (x := p.1) (s' := p.2) hr hz
    rw [hr, Option.bind_some] at h
    split at h
    · cases h
    · split at h
      · simp only [Option.some.injEq, Prod.mk.injEq] at h
        rw [← h.2, eat_size]; omega
      · cases h
/-- What msg.Get's closure reads. -/
def getM (s : ByteArray) : Option (Msg × ByteArray) :=
  (num? 1 s).bind fun k => (num? 1 k.2).bind fun a => (num? 1 a.2).bind fun b => (num? 1 b.2).bind fun v => (vec? v.2).bind fun n =>
    if k.1 = 1 then (mark? n.2).bind fun x => (mark? x.2).bind fun y => (num? 2 y.2).bind fun i => some (⟨k.1, a.1, b.1, v.1, x.1, y.1, i.1, 0, n.1, ⟨#[]⟩⟩, i.2)
    else if k.1 = 2 then (mark? n.2).bind fun x => (mark? x.2).bind fun y => (num? 2 y.2).bind fun i => (num? 2 i.2).bind fun t => (text? 512 t.2).bind fun d => some (⟨k.1, a.1, b.1, v.1, x.1, y.1, i.1, t.1, n.1, d.1⟩, d.2)
    else if k.1 = 4 then (mark? n.2).bind fun y => some (⟨k.1, a.1, b.1, v.1, ⟨0, 0⟩, y.1, 0, 0, n.1, ⟨#[]⟩⟩, y.2)
    else some (⟨k.1, a.1, b.1, v.1, ⟨0, 0⟩, ⟨0, 0⟩, 0, 0, n.1, ⟨#[]⟩⟩, n.2)
def EyeM (g gm : Nat) : Nat → Prop := fun k => k = g ∨ k = gm
theorem open2 {w : World} {g gm : Nat} {cs cs' : List Value} {t t' : TypeId} (hx : Box w g cs.toArray t) (hm : Box w gm cs'.toArray t') (hne : g ≠ gm) : Loc w (EyeM g gm) w [var g cs t, var gm cs' t'] := by
  refine ⟨.refl _ _, fun i hi => ?_, fun i hi k hk => ?_, ?_⟩
  · rcases List.mem_cons.1 hi with rfl | hi
    · exact var_at hx
    · rw [List.mem_singleton.1 hi]; exact var_at hm
  · rcases List.mem_cons.1 hi with rfl | hi
    · exact .inr (.inl hk)
    · rw [List.mem_singleton.1 hi] at hk; exact .inr (.inr hk)
  · refine .cons (fun j hj k hk hk' => ?_) (.cons (by simp) .nil)
    rw [List.mem_singleton.1 hj] at hk'
    cases hk
    exact hne hk'
def BodyAns (r : Option (Msg × ByteArray)) (g gm : Nat) (w : World) (e : Ending) (w' : World) : Prop :=
  match r with
  | some (m, s') => e = .returned (.tuple #[]) ∧ EyeAt w' g s' ∧ Box w' gm m.cells.toArray 41 ∧ Mod (EyeM g gm) w w'
  | none => (∃ c, c ≠ 0 ∧ e = .panicked (flt c)) ∧ (∃ s', EyeAt w' g s') ∧ Mod (EyeM g gm) w w'
theorem BodyAns.no {r : Option (Msg × ByteArray)} {g gm : Nat} {w w' : World} {e : Ending} {l : List Item} {s' : ByteArray} (h : Hid (r = none)) (hc : ∃ c, c ≠ 0 ∧ e = .panicked (flt c)) (hm : Loc w (EyeM g gm) w' l) (h1 : eyeV g s' ∈ l) : BodyAns r g gm w e w' := by
  rw [h.out]; exact ⟨hc, ⟨s', hm.box h1⟩, hm.mod⟩
theorem BodyAns.yes {r : Option (Msg × ByteArray)} {g gm : Nat} {w w' : World} {m : Msg} {s' : ByteArray} {l : List Item} {cs : List Value} (h : Hid (r = some (m, s'))) (hL : Loc w (EyeM g gm) w' l) (h1 : eyeV g s' ∈ l) (h2 : var gm cs 41 ∈ l) (hc : cs = m.cells) : BodyAns r g gm w (.returned (.tuple #[])) w' := by
  rw [h.out]; subst hc; exact ⟨rfl, hL.box h1, hL.box h2, hL.mod⟩
set_option maxRecDepth 20000 in
set_option maxHeartbeats 4000000 in
theorem msg_body (g gm : Nat) (s : ByteArray) (w : World) (he0 : EyeAt w g s) (hx0 : Box w gm Msg.zero.cells.toArray 41) (hn : g ≠ gm) (hz : s.size ≤ 100000000000) :
    Calls Tryd.prog 72 #[.pointer (some ⟨g, 0, none⟩), .pointer (some ⟨gm, 0, none⟩)] w (BodyAns (getM s) g gm w) := by
  have hL : Loc w (EyeM g gm) w [eyeV g s, var gm Msg.zero.cells 41] := open2 he0 hx0 hn
  have HG : Hid (getM s = getM s) := Lib.hid rfl
  conv at HG => arg 1; rhs; unfold getM
  clear he0 hx0
  generalize getM s = R at *
  go_enter Tryd.func72, Tryd.ntmps72
  go_wp2_with (first
    | (go_at_call 73; have hq := eyeL hL (fun _ => .here _) (fun h => eye_Num1 g _ _ h hz); (with_reducible refine hq.mono ?_); clear hq; rintro e w1 (⟨hr, ⟨c, hc, rfl⟩, s', hm⟩ | ⟨x, s', hr, rfl, hL⟩); (rw [hr] at HG; exact ⟨rfl, BodyAns.no HG ⟨c, hc, rfl⟩ hm HasV.mem⟩); simp only [hr, Option.bind_some] at HG; have hz := num_small hr hz; clear hr)
    | (go_at_call 74; have hq := eyeL hL (fun _ => .here _) (fun h => see_Vec g _ _ h hz); (with_reducible refine hq.mono ?_); clear hq; rintro e w1 (⟨hr, ⟨c, hc, rfl⟩, s', hm⟩ | ⟨x, s', hr, rfl, hL⟩); (rw [hr] at HG; exact ⟨rfl, BodyAns.no HG ⟨c, hc, rfl⟩ hm HasV.mem⟩); simp only [hr, Option.bind_some] at HG; have hz := vec_small hr hz; clear hr; refine stop ?_)
    | ((with_reducible refine gAlloc rfl rfl ?_); (refine ev_allocL rfl hL rfl (by first | exact cells_agg _ rfl | exact cells_int _ _ | exact cells_str _ | exact cells_bool _ | exact cells_slice _ _ _ | exact cells_ptr _ | exact cells_map _ | exact cells_func _ _ _ | exact cells_nilFunc | exact cells_one (by assumption) (by assumption)) ?_; clear hL; intro gq wq hL)) | ((with_reducible refine gBox rfl rfl ?_); (refine ev_boxL rfl hL rfl rfl (by first | exact cells_agg _ rfl | exact cells_int _ _ | exact cells_str _ | exact cells_bool _ | exact cells_slice _ _ _ | exact cells_ptr _ | exact cells_map _ | exact cells_func _ _ _ | exact cells_nilFunc | exact cells_one (by assumption) (by assumption)) ?_; clear hL; intro gq wq hL)) | ((with_reducible refine gLoad rfl rfl ?_); (first | (refine ev_load1L rfl hL rfl rfl HasV.mem (by rfl) ?_) | (refine ev_loadAllL rfl hL rfl rfl HasV.mem (by rfl) ?_) | (refine ev_loadL rfl hL rfl rfl HasV.mem SegC.seg ?_))) | ((with_reducible refine gStore rfl rfl ?_); (first | (refine ev_storeC rfl hL rfl rfl rfl (by first | exact cells_agg _ rfl | exact cells_int _ _ | exact cells_str _ | exact cells_bool _ | exact cells_slice _ _ _ | exact cells_ptr _ | exact cells_map _ | exact cells_func _ _ _ | exact cells_nilFunc | exact cells_one (by assumption) (by assumption)) (by rfl) ?_) | (refine ev_storeAllC rfl hL rfl rfl rfl (by first | exact cells_agg _ rfl | exact cells_int _ _ | exact cells_str _ | exact cells_bool _ | exact cells_slice _ _ _ | exact cells_ptr _ | exact cells_map _ | exact cells_func _ _ _ | exact cells_nilFunc | exact cells_one (by assumption) (by assumption)) (by rfl) (by rfl) ?_)); clear hL; intro wq hL) | ((with_reducible refine gLoadG rfl rfl ?_ ?_); (exact wanted_some rfl rfl rfl (by with_reducible rfl)); (first | (refine ev_load1G (wanted_some rfl rfl rfl rfl) hL rfl rfl HasV.mem (by rfl) ?_) | (refine ev_loadAllG (wanted_some rfl rfl rfl rfl) hL rfl rfl HasV.mem (by rfl) ?_) | (refine ev_loadG_ (wanted_some rfl rfl rfl rfl) hL rfl rfl HasV.mem SegC.seg ?_))))
  unfold Stop
  rename_i _ k _ _ _ _ a _ _ _ _ b _ _ _ _ v _ _ _ _ _
  by_cases k1 : k = 1
  · subst k1
    simp only [↓reduceIte] at HG
    go_wp2_with (first
      | (go_at_call 75; have hq := eyeL hL (fun _ => .here _) (fun h => see_Mark g _ _ h hz); (with_reducible refine hq.mono ?_); clear hq; rintro e w1 (⟨hr, ⟨c, hc, rfl⟩, s', hm⟩ | ⟨x, s', hr, rfl, hL⟩); (rw [hr] at HG; exact ⟨rfl, BodyAns.no HG ⟨c, hc, rfl⟩ hm HasV.mem⟩); simp only [hr, Option.bind_some] at HG; have hz := mark_small hr hz; clear hr)
      | (go_at_call 73; have hq := eyeL hL (fun _ => .here _) (fun h => eye_Num2 g _ _ h hz); (with_reducible refine hq.mono ?_); clear hq; rintro e w1 (⟨hr, ⟨c, hc, rfl⟩, s', hm⟩ | ⟨x, s', hr, rfl, hL⟩); (rw [hr] at HG; exact ⟨rfl, BodyAns.no HG ⟨c, hc, rfl⟩ hm HasV.mem⟩); simp only [hr, Option.bind_some] at HG; have hz := num_small hr hz; clear hr)
      | (go_at_call 76; have hq := eyeL hL (fun _ => .here _) (fun h => eye_Text g _ 512 _ h hz); (with_reducible refine hq.mono ?_); clear hq; rintro e w1 (⟨hr, ⟨c, hc, rfl⟩, s', hm⟩ | ⟨x, s', hr, rfl, hL⟩); (rw [hr] at HG; exact ⟨rfl, BodyAns.no HG ⟨c, hc, rfl⟩ hm HasV.mem⟩); simp only [hr, Option.bind_some] at HG; have hz := text_small hr hz; clear hr)
      | ((with_reducible refine gAlloc rfl rfl ?_); (refine ev_allocL rfl hL rfl (by first | exact cells_agg _ rfl | exact cells_int _ _ | exact cells_str _ | exact cells_bool _ | exact cells_slice _ _ _ | exact cells_ptr _ | exact cells_map _ | exact cells_func _ _ _ | exact cells_nilFunc | exact cells_one (by assumption) (by assumption)) ?_; clear hL; intro gq wq hL)) | ((with_reducible refine gBox rfl rfl ?_); (refine ev_boxL rfl hL rfl rfl (by first | exact cells_agg _ rfl | exact cells_int _ _ | exact cells_str _ | exact cells_bool _ | exact cells_slice _ _ _ | exact cells_ptr _ | exact cells_map _ | exact cells_func _ _ _ | exact cells_nilFunc | exact cells_one (by assumption) (by assumption)) ?_; clear hL; intro gq wq hL)) | ((with_reducible refine gLoad rfl rfl ?_); (first | (refine ev_load1L rfl hL rfl rfl HasV.mem (by rfl) ?_) | (refine ev_loadAllL rfl hL rfl rfl HasV.mem (by rfl) ?_) | (refine ev_loadL rfl hL rfl rfl HasV.mem SegC.seg ?_))) | ((with_reducible refine gStore rfl rfl ?_); (first | (refine ev_storeC rfl hL rfl rfl rfl (by first | exact cells_agg _ rfl | exact cells_int _ _ | exact cells_str _ | exact cells_bool _ | exact cells_slice _ _ _ | exact cells_ptr _ | exact cells_map _ | exact cells_func _ _ _ | exact cells_nilFunc | exact cells_one (by assumption) (by assumption)) (by rfl) ?_) | (refine ev_storeAllC rfl hL rfl rfl rfl (by first | exact cells_agg _ rfl | exact cells_int _ _ | exact cells_str _ | exact cells_bool _ | exact cells_slice _ _ _ | exact cells_ptr _ | exact cells_map _ | exact cells_func _ _ _ | exact cells_nilFunc | exact cells_one (by assumption) (by assumption)) (by rfl) (by rfl) ?_)); clear hL; intro wq hL) | ((with_reducible refine gLoadG rfl rfl ?_ ?_); (exact wanted_some rfl rfl rfl (by with_reducible rfl)); (first | (refine ev_load1G (wanted_some rfl rfl rfl rfl) hL rfl rfl HasV.mem (by rfl) ?_) | (refine ev_loadAllG (wanted_some rfl rfl rfl rfl) hL rfl rfl HasV.mem (by rfl) ?_) | (refine ev_loadG_ (wanted_some rfl rfl rfl rfl) hL rfl rfl HasV.mem SegC.seg ?_))))
    go_end0
    exact BodyAns.yes HG hL HasV.mem HasV.mem rfl
  by_cases k2 : k = 2
  · subst k2
    simp only [↓reduceIte, show ¬ (2 : Int) = 1 from by decide] at HG
    clear k1
    go_wp2_with (first
      | (go_at_call 75; have hq := eyeL hL (fun _ => .here _) (fun h => see_Mark g _ _ h hz); (with_reducible refine hq.mono ?_); clear hq; rintro e w1 (⟨hr, ⟨c, hc, rfl⟩, s', hm⟩ | ⟨x, s', hr, rfl, hL⟩); (rw [hr] at HG; exact ⟨rfl, BodyAns.no HG ⟨c, hc, rfl⟩ hm HasV.mem⟩); simp only [hr, Option.bind_some] at HG; have hz := mark_small hr hz; clear hr)
      | (go_at_call 73; have hq := eyeL hL (fun _ => .here _) (fun h => eye_Num2 g _ _ h hz); (with_reducible refine hq.mono ?_); clear hq; rintro e w1 (⟨hr, ⟨c, hc, rfl⟩, s', hm⟩ | ⟨x, s', hr, rfl, hL⟩); (rw [hr] at HG; exact ⟨rfl, BodyAns.no HG ⟨c, hc, rfl⟩ hm HasV.mem⟩); simp only [hr, Option.bind_some] at HG; have hz := num_small hr hz; clear hr)
      | (go_at_call 76; have hq := eyeL hL (fun _ => .here _) (fun h => eye_Text g _ 512 _ h hz); (with_reducible refine hq.mono ?_); clear hq; rintro e w1 (⟨hr, ⟨c, hc, rfl⟩, s', hm⟩ | ⟨x, s', hr, rfl, hL⟩); (rw [hr] at HG; exact ⟨rfl, BodyAns.no HG ⟨c, hc, rfl⟩ hm HasV.mem⟩); simp only [hr, Option.bind_some] at HG; have hz := text_small hr hz; clear hr)
      | ((with_reducible refine gAlloc rfl rfl ?_); (refine ev_allocL rfl hL rfl (by first | exact cells_agg _ rfl | exact cells_int _ _ | exact cells_str _ | exact cells_bool _ | exact cells_slice _ _ _ | exact cells_ptr _ | exact cells_map _ | exact cells_func _ _ _ | exact cells_nilFunc | exact cells_one (by assumption) (by assumption)) ?_; clear hL; intro gq wq hL)) | ((with_reducible refine gBox rfl rfl ?_); (refine ev_boxL rfl hL rfl rfl (by first | exact cells_agg _ rfl | exact cells_int _ _ | exact cells_str _ | exact cells_bool _ | exact cells_slice _ _ _ | exact cells_ptr _ | exact cells_map _ | exact cells_func _ _ _ | exact cells_nilFunc | exact cells_one (by assumption) (by assumption)) ?_; clear hL; intro gq wq hL)) | ((with_reducible refine gLoad rfl rfl ?_); (first | (refine ev_load1L rfl hL rfl rfl HasV.mem (by rfl) ?_) | (refine ev_loadAllL rfl hL rfl rfl HasV.mem (by rfl) ?_) | (refine ev_loadL rfl hL rfl rfl HasV.mem SegC.seg ?_))) | ((with_reducible refine gStore rfl rfl ?_); (first | (refine ev_storeC rfl hL rfl rfl rfl (by first | exact cells_agg _ rfl | exact cells_int _ _ | exact cells_str _ | exact cells_bool _ | exact cells_slice _ _ _ | exact cells_ptr _ | exact cells_map _ | exact cells_func _ _ _ | exact cells_nilFunc | exact cells_one (by assumption) (by assumption)) (by rfl) ?_) | (refine ev_storeAllC rfl hL rfl rfl rfl (by first | exact cells_agg _ rfl | exact cells_int _ _ | exact cells_str _ | exact cells_bool _ | exact cells_slice _ _ _ | exact cells_ptr _ | exact cells_map _ | exact cells_func _ _ _ | exact cells_nilFunc | exact cells_one (by assumption) (by assumption)) (by rfl) (by rfl) ?_)); clear hL; intro wq hL) | ((with_reducible refine gLoadG rfl rfl ?_ ?_); (exact wanted_some rfl rfl rfl (by with_reducible rfl)); (first | (refine ev_load1G (wanted_some rfl rfl rfl rfl) hL rfl rfl HasV.mem (by rfl) ?_) | (refine ev_loadAllG (wanted_some rfl rfl rfl rfl) hL rfl rfl HasV.mem (by rfl) ?_) | (refine ev_loadG_ (wanted_some rfl rfl rfl rfl) hL rfl rfl HasV.mem SegC.seg ?_))))
    go_end0
    exact BodyAns.yes HG hL HasV.mem HasV.mem rfl
  have t1 : (k == 1) = false := by simpa using k1
  have t2 : (k == 2) = false := by simpa using k2
  by_cases k4 : k = 4
  · subst k4
    simp only [↓reduceIte, show ¬ (4 : Int) = 1 from by decide, show ¬ (4 : Int) = 2 from by decide] at HG
    clear k1 k2 t1 t2
    go_wp2_with (first
      | (go_at_call 75; have hq := eyeL hL (fun _ => .here _) (fun h => see_Mark g _ _ h hz); (with_reducible refine hq.mono ?_); clear hq; rintro e w1 (⟨hr, ⟨c, hc, rfl⟩, s', hm⟩ | ⟨x, s', hr, rfl, hL⟩); (rw [hr] at HG; exact ⟨rfl, BodyAns.no HG ⟨c, hc, rfl⟩ hm HasV.mem⟩); simp only [hr, Option.bind_some] at HG; have hz := mark_small hr hz; clear hr)
      | (go_at_call 73; have hq := eyeL hL (fun _ => .here _) (fun h => eye_Num2 g _ _ h hz); (with_reducible refine hq.mono ?_); clear hq; rintro e w1 (⟨hr, ⟨c, hc, rfl⟩, s', hm⟩ | ⟨x, s', hr, rfl, hL⟩); (rw [hr] at HG; exact ⟨rfl, BodyAns.no HG ⟨c, hc, rfl⟩ hm HasV.mem⟩); simp only [hr, Option.bind_some] at HG; have hz := num_small hr hz; clear hr)
      | (go_at_call 76; have hq := eyeL hL (fun _ => .here _) (fun h => eye_Text g _ 512 _ h hz); (with_reducible refine hq.mono ?_); clear hq; rintro e w1 (⟨hr, ⟨c, hc, rfl⟩, s', hm⟩ | ⟨x, s', hr, rfl, hL⟩); (rw [hr] at HG; exact ⟨rfl, BodyAns.no HG ⟨c, hc, rfl⟩ hm HasV.mem⟩); simp only [hr, Option.bind_some] at HG; have hz := text_small hr hz; clear hr)
      | ((with_reducible refine gAlloc rfl rfl ?_); (refine ev_allocL rfl hL rfl (by first | exact cells_agg _ rfl | exact cells_int _ _ | exact cells_str _ | exact cells_bool _ | exact cells_slice _ _ _ | exact cells_ptr _ | exact cells_map _ | exact cells_func _ _ _ | exact cells_nilFunc | exact cells_one (by assumption) (by assumption)) ?_; clear hL; intro gq wq hL)) | ((with_reducible refine gBox rfl rfl ?_); (refine ev_boxL rfl hL rfl rfl (by first | exact cells_agg _ rfl | exact cells_int _ _ | exact cells_str _ | exact cells_bool _ | exact cells_slice _ _ _ | exact cells_ptr _ | exact cells_map _ | exact cells_func _ _ _ | exact cells_nilFunc | exact cells_one (by assumption) (by assumption)) ?_; clear hL; intro gq wq hL)) | ((with_reducible refine gLoad rfl rfl ?_); (first | (refine ev_load1L rfl hL rfl rfl HasV.mem (by rfl) ?_) | (refine ev_loadAllL rfl hL rfl rfl HasV.mem (by rfl) ?_) | (refine ev_loadL rfl hL rfl rfl HasV.mem SegC.seg ?_))) | ((with_reducible refine gStore rfl rfl ?_); (first | (refine ev_storeC rfl hL rfl rfl rfl (by first | exact cells_agg _ rfl | exact cells_int _ _ | exact cells_str _ | exact cells_bool _ | exact cells_slice _ _ _ | exact cells_ptr _ | exact cells_map _ | exact cells_func _ _ _ | exact cells_nilFunc | exact cells_one (by assumption) (by assumption)) (by rfl) ?_) | (refine ev_storeAllC rfl hL rfl rfl rfl (by first | exact cells_agg _ rfl | exact cells_int _ _ | exact cells_str _ | exact cells_bool _ | exact cells_slice _ _ _ | exact cells_ptr _ | exact cells_map _ | exact cells_func _ _ _ | exact cells_nilFunc | exact cells_one (by assumption) (by assumption)) (by rfl) (by rfl) ?_)); clear hL; intro wq hL) | ((with_reducible refine gLoadG rfl rfl ?_ ?_); (exact wanted_some rfl rfl rfl (by with_reducible rfl)); (first | (refine ev_load1G (wanted_some rfl rfl rfl rfl) hL rfl rfl HasV.mem (by rfl) ?_) | (refine ev_loadAllG (wanted_some rfl rfl rfl rfl) hL rfl rfl HasV.mem (by rfl) ?_) | (refine ev_loadG_ (wanted_some rfl rfl rfl rfl) hL rfl rfl HasV.mem SegC.seg ?_))))
    go_end0
    exact BodyAns.yes HG hL HasV.mem HasV.mem rfl
  · have t4 : (k == 4) = false := by simpa using k4
    simp only [if_neg k1, if_neg k2, if_neg k4] at HG
    clear k1 k2 k4
    go_wp2_with (first
      | (go_at_call 75; have hq := eyeL hL (fun _ => .here _) (fun h => see_Mark g _ _ h hz); (with_reducible refine hq.mono ?_); clear hq; rintro e w1 (⟨hr, ⟨c, hc, rfl⟩, s', hm⟩ | ⟨x, s', hr, rfl, hL⟩); (rw [hr] at HG; exact ⟨rfl, BodyAns.no HG ⟨c, hc, rfl⟩ hm HasV.mem⟩); simp only [hr, Option.bind_some] at HG; have hz := mark_small hr hz; clear hr)
      | (go_at_call 73; have hq := eyeL hL (fun _ => .here _) (fun h => eye_Num2 g _ _ h hz); (with_reducible refine hq.mono ?_); clear hq; rintro e w1 (⟨hr, ⟨c, hc, rfl⟩, s', hm⟩ | ⟨x, s', hr, rfl, hL⟩); (rw [hr] at HG; exact ⟨rfl, BodyAns.no HG ⟨c, hc, rfl⟩ hm HasV.mem⟩); simp only [hr, Option.bind_some] at HG; have hz := num_small hr hz; clear hr)
      | (go_at_call 76; have hq := eyeL hL (fun _ => .here _) (fun h => eye_Text g _ 512 _ h hz); (with_reducible refine hq.mono ?_); clear hq; rintro e w1 (⟨hr, ⟨c, hc, rfl⟩, s', hm⟩ | ⟨x, s', hr, rfl, hL⟩); (rw [hr] at HG; exact ⟨rfl, BodyAns.no HG ⟨c, hc, rfl⟩ hm HasV.mem⟩); simp only [hr, Option.bind_some] at HG; have hz := text_small hr hz; clear hr)
      | ((with_reducible refine gAlloc rfl rfl ?_); (refine ev_allocL rfl hL rfl (by first | exact cells_agg _ rfl | exact cells_int _ _ | exact cells_str _ | exact cells_bool _ | exact cells_slice _ _ _ | exact cells_ptr _ | exact cells_map _ | exact cells_func _ _ _ | exact cells_nilFunc | exact cells_one (by assumption) (by assumption)) ?_; clear hL; intro gq wq hL)) | ((with_reducible refine gBox rfl rfl ?_); (refine ev_boxL rfl hL rfl rfl (by first | exact cells_agg _ rfl | exact cells_int _ _ | exact cells_str _ | exact cells_bool _ | exact cells_slice _ _ _ | exact cells_ptr _ | exact cells_map _ | exact cells_func _ _ _ | exact cells_nilFunc | exact cells_one (by assumption) (by assumption)) ?_; clear hL; intro gq wq hL)) | ((with_reducible refine gLoad rfl rfl ?_); (first | (refine ev_load1L rfl hL rfl rfl HasV.mem (by rfl) ?_) | (refine ev_loadAllL rfl hL rfl rfl HasV.mem (by rfl) ?_) | (refine ev_loadL rfl hL rfl rfl HasV.mem SegC.seg ?_))) | ((with_reducible refine gStore rfl rfl ?_); (first | (refine ev_storeC rfl hL rfl rfl rfl (by first | exact cells_agg _ rfl | exact cells_int _ _ | exact cells_str _ | exact cells_bool _ | exact cells_slice _ _ _ | exact cells_ptr _ | exact cells_map _ | exact cells_func _ _ _ | exact cells_nilFunc | exact cells_one (by assumption) (by assumption)) (by rfl) ?_) | (refine ev_storeAllC rfl hL rfl rfl rfl (by first | exact cells_agg _ rfl | exact cells_int _ _ | exact cells_str _ | exact cells_bool _ | exact cells_slice _ _ _ | exact cells_ptr _ | exact cells_map _ | exact cells_func _ _ _ | exact cells_nilFunc | exact cells_one (by assumption) (by assumption)) (by rfl) (by rfl) ?_)); clear hL; intro wq hL) | ((with_reducible refine gLoadG rfl rfl ?_ ?_); (exact wanted_some rfl rfl rfl (by with_reducible rfl)); (first | (refine ev_load1G (wanted_some rfl rfl rfl rfl) hL rfl rfl HasV.mem (by rfl) ?_) | (refine ev_loadAllG (wanted_some rfl rfl rfl rfl) hL rfl rfl HasV.mem (by rfl) ?_) | (refine ev_loadG_ (wanted_some rfl rfl rfl rfl) hL rfl rfl HasV.mem SegC.seg ?_))))
    go_end0
    exact BodyAns.yes HG hL HasV.mem HasV.mem rfl
end Go.Proofs.YtbkffeabikjnhaaDoor
