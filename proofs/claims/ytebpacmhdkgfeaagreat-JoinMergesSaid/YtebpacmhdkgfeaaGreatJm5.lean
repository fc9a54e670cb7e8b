/- Texts laid together: Rin, R11l, R11n, R11m, R11s, Hld2. -/
import Derived.Test.YtebpacmhdkgfeaaGreatJm4
set_option linter.unusedSimpArgs false
set_option linter.unusedVariables false
namespace Go.Proofs.YtebpacmhdkgfeaaGreat
open Go.RowKit
namespace Stab
variable {α : Type} {lt : α → α → Bool} {g : α → α} {f : α → α → α} {x : α} {ps L R : List α} {dn : Bool} {k : Nat}
theorem ins_start (g : α → α) (f : α → α → α) (x : α) (ps : List α) : rins lt g f x false ps = [] ++ rins lt g f x false (ps.drop 0) := rfl
theorem ins_same (H : R = L ++ rins lt g f x dn (ps.drop k)) (hk : k < ps.length) (h : eqv lt ps[k] x = true) : R = (L ++ [f ps[k] x]) ++ rins lt g f x true (ps.drop (k + 1)) := by
 rw [H, List.drop_eq_getElem_cons hk, rins, if_pos h, List.append_assoc]; rfl
theorem ins_new (H : R = L ++ rins lt g f x false (ps.drop k)) (hk : k < ps.length) (h : eqv lt ps[k] x = false) (h2 : lt x ps[k] = true) : R = (L ++ [g x] ++ [ps[k]]) ++ rins lt g f x true (ps.drop (k + 1)) := by
 rw [H, List.drop_eq_getElem_cons hk, rins, if_neg (by rw [h]; simp), if_pos ⟨rfl, h2⟩]; simp
theorem ins_skip (H : R = L ++ rins lt g f x dn (ps.drop k)) (hk : k < ps.length) (h : eqv lt ps[k] x = false) (h2 : dn = true ∨ lt x ps[k] = false) : R = (L ++ [ps[k]]) ++ rins lt g f x dn (ps.drop (k + 1)) := by
 rw [H, List.drop_eq_getElem_cons hk, rins, if_neg (by rw [h]; simp), if_neg (by
  rintro ⟨h3, h4⟩
  rcases h2 with h2 | h2
  ·rw [h2] at h3; cases h3
  ·rw [h2] at h4; cases h4), List.append_assoc]; rfl
theorem ins_done (H : R = L ++ rins lt g f x true (ps.drop k)) (hk : ps.length ≤ k) : R = L := by
 rw [H, List.drop_eq_nil_of_le hk, rins]; simp
theorem ins_last (H : R = L ++ rins lt g f x false (ps.drop k)) (hk : ps.length ≤ k) : R = L ++ [g x] := by
 rw [H, List.drop_eq_nil_of_le hk, rins]; simp
theorem ins_newI (H : R = L ++ rins lt _root_.id f x false (ps.drop k)) (hk : k < ps.length) (h : eqv lt ps[k] x = false) (h2 : lt x ps[k] = true) : R = (L ++ [x] ++ [ps[k]]) ++ rins lt _root_.id f x true (ps.drop (k + 1)) := ins_new H hk h h2
theorem ins_lastI (H : R = L ++ rins lt _root_.id f x false (ps.drop k)) (hk : ps.length ≤ k) : R = L ++ [x] := ins_last H hk
end Stab
theorem Pce.eqv_false {x y : Pce} (h : x.idx ≠ y.idx) : Stab.eqv Pce.lt x y = false := Bool.eq_false_iff.2 fun e => h (Pce.eqv_iff.1 e)
theorem Xat.eqv_false {x y : Xat} (h : x.name ≠ y.name) : Stab.eqv Xat.lt x y = false := Bool.eq_false_iff.2 fun e => h (Xat.eqv_iff.1 e)
theorem Lnk.eqv_false {x y : Lnk} (h : x.id ≠ y.id) : Stab.eqv Lnk.lt x y = false := Bool.eq_false_iff.2 fun e => h (Lnk.eqv_iff.1 e)
theorem InoD.eqv_false {x y : InoD} (h : x.hd.id ≠ y.hd.id) : Stab.eqv InoD.lt x y = false := Bool.eq_false_iff.2 fun e => h (InoD.eqv_iff.1 e)
theorem Pce.lt_false {x y : Pce} (h : ¬ x.idx < y.idx) : Pce.lt x y = false := Bool.eq_false_iff.2 fun e => h ((Pce.lt_iff _ _).1 e)
theorem Xat.lt_false {x y : Xat} (h : slt x.name y.name = false) : Xat.lt x y = false := Bool.eq_false_iff.2 fun e => by rw [(Xat.lt_iff _ _).1 e] at h; cases h
theorem Lnk.lt_false {x y : Lnk} (h : ¬ x.id.lss y.id) : Lnk.lt x y = false := Bool.eq_false_iff.2 fun e => h ((Lnk.lt_iff _ _).1 e)
theorem InoD.lt_false {x y : InoD} (h : ¬ x.hd.id.lss y.hd.id) : InoD.lt x y = false := Bool.eq_false_iff.2 fun e => h ((InoD.lt_iff _ _).1 e)
theorem Stab.rins_all {α : Type} {lt : α → α → Bool} {g : α → α} {f : α → α → α} {x : α} {Q : α → Prop} (hg : Q (g x)) : ∀ (dn : Bool) (l : List α), (∀ y ∈ l, Q y) → (∀ y ∈ l, Q (f y x)) → ∀ y ∈ Stab.rins lt g f x dn l, Q y
 | dn, [], _, _, y, hy => by
  rw [Stab.rins] at hy
  split at hy
  ·cases hy
  ·rw [List.mem_singleton.1 hy]; exact hg
 | dn, n :: l, hl, hf, y, hy => by
  have ih := fun d => Stab.rins_all (lt := lt) hg d l (fun y hy => hl y (.tail _ hy)) (fun y hy => hf y (.tail _ hy))
  rw [Stab.rins] at hy
  split at hy
  ·rcases List.mem_cons.1 hy with rfl | hy
   ·exact hf n (.head _)
   ·exact ih _ y hy
  ·split at hy
   ·rcases List.mem_cons.1 hy with rfl | hy
    ·exact hg
    ·rcases List.mem_cons.1 hy with rfl | hy
     ·exact hl y (.head _)
     ·exact ih _ y hy
   ·rcases List.mem_cons.1 hy with rfl | hy
    ·exact hl y (.head _)
    ·exact ih _ y hy
theorem Stab.rfold_all {α : Type} {lt : α → α → Bool} {g : α → α} {f : α → α → α} {Q : α → Prop} (hg : ∀ x, Q x → Q (g x)) (hf : ∀ y x, Q y → Q x → Q (f y x)) (l : List α) (hl : ∀ x ∈ l, Q x) : ∀ y ∈ Stab.rfold lt g f l, Q y := by
 have key : ∀ n (l : List α), l.length = n → (∀ x ∈ l, Q x) → ∀ y ∈ Stab.rfold lt g f l, Q y := fun n => by
  induction n with
  | zero => intro l hn _ y hy; rw [List.eq_nil_of_length_eq_zero hn] at hy; cases hy
  | succ n ih =>
   intro l hn hl
   obtain ⟨l', x, rfl⟩ : ∃ l' x, l = l' ++ [x] := ⟨l.dropLast, l.getLast (by intro e; rw [e] at hn; cases hn), (List.dropLast_concat_getLast _).symm⟩
   have hn' : l'.length = n := by simpa using hn
   have h1 := ih l' hn' fun x hx => hl x (List.mem_append.2 (.inl hx))
   have h2 := hl x (List.mem_append.2 (.inr (.head _)))
   rw [Stab.rfold_snoc]
   exact Stab.rins_all (hg x h2) false _ h1 fun y hy => hf y x (h1 y hy) h2
 exact key _ l rfl hl
def Pce.Z (p : Pce) : Prop := p.data.size ≤ 9223372036854775807
def Xat.Z (x : Xat) : Prop := x.name.size ≤ 9223372036854775807 ∧ x.val.size ≤ 9223372036854775807
def Lnk.Z (l : Lnk) : Prop := l.name.size ≤ 9223372036854775807
structure InoD.Z (d : InoD) : Prop where
 text : d.hd.text.size ≤ 9223372036854775807
 ps : ∀ p ∈ d.ps, p.Z
 xs : ∀ x ∈ d.xs, x.Z
theorem Pce.Z_top {a b : Pce} (ha : a.Z) (hb : b.Z) : (a.top b).Z := by unfold Pce.top; split <;> assumption
theorem Xat.Z_top {a b : Xat} (ha : a.Z) (hb : b.Z) : (a.top b).Z := by unfold Xat.top; split <;> assumption
theorem Lnk.Z_one {a b : Lnk} (ha : a.Z) (hb : b.Z) : (a.one b).Z := by
 show (a.top b).name.size ≤ _
 unfold Lnk.top; split <;> assumption
theorem listed_Z {l : List Pce} (h : ∀ p ∈ l, p.Z) : ∀ p ∈ listedD l, p.Z := Stab.rfold_all (fun _ h => h) (fun _ _ h k => Pce.Z_top h k) l h
theorem named_Z {l : List Xat} (h : ∀ p ∈ l, p.Z) : ∀ p ∈ namedD l, p.Z := Stab.rfold_all (fun _ h => h) (fun _ _ h k => Xat.Z_top h k) l h
theorem InoD.Z_one {a b : InoD} (ha : a.Z) (hb : b.Z) : (a.one b).Z where
 text := by
  show (smax a.hd.text b.hd.text).size ≤ _
  unfold smax; split
  ·exact hb.text
  ·exact ha.text
 ps := listed_Z fun p hp => (List.mem_append.1 hp).elim (ha.ps p) (hb.ps p)
 xs := named_Z fun p hp => (List.mem_append.1 hp).elim (ha.xs p) (hb.xs p)
theorem InoD.Z_norm {a : InoD} (ha : a.Z) : a.norm.Z where
 text := ha.text
 ps := listed_Z ha.ps
 xs := named_Z ha.xs
theorem InoD.Z_of_wf {B : Nat} {d : InoD} (h : d.wf B) (hB : B ≤ 9223372036854775807) : d.Z :=
 ⟨Nat.le_trans h.hd.text hB, fun p hp => Nat.le_trans (h.ps p hp).data hB, fun x hx => ⟨Nat.le_trans (h.xs x hx).name hB, Nat.le_trans (h.xs x hx).val hB⟩⟩
theorem InoD.one_len (a b : InoD) : (a.one b).ps.length ≤ a.ps.length + b.ps.length ∧ (a.one b).xs.length ≤ a.xs.length + b.xs.length :=
 ⟨Nat.le_trans (listed_len _) (by simp), Nat.le_trans (named_len _) (by simp)⟩
theorem InoD.norm_len (a : InoD) : a.norm.ps.length ≤ a.ps.length ∧ a.norm.xs.length ≤ a.xs.length := ⟨listed_len _, named_len _⟩
end Go.Proofs.YtebpacmhdkgfeaaGreat

namespace Go.Proofs.YtebpacmhdkgfeaaGreat
open Go.RowKit
set_option maxHeartbeats 8000000
set_option maxRecDepth 20000
theorem strB (a b : ByteArray) {r : Bool} (h : decide (a = b) = r) : (a.toList == b.toList) = r := by
 subst h
 rw [Bool.eq_iff_iff]
 simp only [beq_iff_eq, decide_eq_true_eq]
 constructor
 ·intro h
  have h2 : a.data.toList = b.data.toList := by rw [← Lib.toList_data, ← Lib.toList_data]; exact h
  cases a; cases b
  simpa using h2
 ·rintro rfl; rfl
theorem dn_false {α : Type} {lt : α → α → Bool} {g : α → α} {f : α → α → α} {x : α} {R L l : List α} {dn : Bool} (e : dn = false) (h : R = L ++ Stab.rins lt g f x dn l) : R = L ++ Stab.rins lt g f x false l := e ▸ h
set_option maxHeartbeats 16000000 in
theorem ref11_put (v : Value) (ps : List Pce) (x : Pce) (w : World) (h : encPc.R w v ps) (hz : ∀ p ∈ ps, p.Z) (hx : x.Z) (hn : ps.length ≤ 1000000000) :
  Calls Tryz.prog 173 #[v, .agg (Pce.cells x).toArray] w fun e w' => ∃ u, e = .returned u ∧ Loc w NoM w' [row encPc w.heap.size 61 u (Stab.rins Pce.lt _root_.id Pce.top x false ps)] := by
 have hL := (Loc.nil w NoM).rowOff encPc w.heap.size 61
 obtain ⟨ao, c0, rfl, hel⟩ := R_elem h
 have HZ := kD hz
 have HX := kD hx
 clear h hz hx
 unfold Pce.cells
 go_enter Tryz.func173, Tryz.ntmps173
 go_wp2_with (first | ((with_reducible refine gate (N := 3) rfl ?_); (refine lJ rfl hL rfl rfl cy ?_; clear hL; intro g3 w3 hL)))
 go_loopw [5, 6, 11] (fun s d i wr => ∃ (k : Nat) (vs : Value) (dn : Bool) (L : List Pce), k ≤ ps.length ∧ i = .int .i64 k ∧ d = .bool dn ∧ s = vs ∧ L.length ≤ 2 * k ∧ Hid (Stab.rins Pce.lt _root_.id Pce.top x false ps = L ++ Stab.rins Pce.lt _root_.id Pce.top x dn (ps.drop k)) ∧ Loc w NoM wr [var g3 [.int .i64 x.idx, .int .i64 x.at_.boot, .int .i64 x.at_.n, .string x.data] 61, row encPc w.heap.size 61 vs L]) (fun _ _ i _ => ps.length - (intOf i).toNat)
 case atStart => exact ⟨0, _, false, [], by omega, rfl, rfl, rfl, by simp, kD (Stab.ins_start _ _ _ _), hL⟩
 case round =>
  clear hL
  obtain ⟨k, vs, dn, L, hk, rfl, rfl, rfl, hlen, HS, hL⟩ := hrel
  by_cases hlt : k < ps.length
  ·obtain ⟨g, off, rfl, hr⟩ := hel k hlt
   have hzp := kD (HZ.out _ (List.getElem_mem hlt))
   have HE1 := kD (fun h => Stab.ins_same HS.out hlt h)
   have HE2 := kD (fun h e => Stab.ins_newI (dn_false e HS.out) hlt h)
   have HE3 := kD (fun h => Stab.ins_skip HS.out hlt h)
   have hrW0 : World.rangeAt _ g (off + k * 4) (Pce.cells ps[k]) := range_below hr hL.below
   clear hr
   generalize ps[k] = p at *
   have hrW : World.rangeAt _ g (off + k * 4) [.int .i64 p.idx, .int .i64 p.at_.boot, .int .i64 p.at_.n, .string p.data] := hrW0
   clear hrW0
   by_cases h1 : p.idx = x.idx
   ·have q1 : (p.idx == x.idx) = true := by simpa using h1
    have HP := kD (fun wx => ref11_piece p x wx hzp.out HX.out)
    have HS2 := HE1.out (Pce.eqv_iff.2 h1)
    have HS3 := kD HS2
    clear HS HE1 HE2 HE3 HS2 h1
    go_wp2_with (first
     | ((with_reducible refine qF rfl rfl ?_); refine lL rfl rfl rfl rfl hlt ?_) | ((with_reducible refine gate (N := 14) rfl ?_); refine lK rfl rfl rfl hrW (by rfl) ?_) | ((with_reducible refine gate (N := 8) rfl ?_); (refine lI rfl hL rfl cy ?_; clear hL; intro g8 w8 hL))
     | (go_at_call 203; (with_reducible refine (HP.out _).mono ?_); rintro e w5 ⟨⟨c, ec, rfl⟩, hb5⟩; have HC := kD ec; clear ec; have hL := hL.call hb5; clear hb5)
     | ((with_reducible refine gate (N := 38) rfl ?_); refine lM (cs := [.int .i64 c.idx, .int .i64 c.at_.boot, .int .i64 c.at_.n, .string c.data]) rfl hL rfl rfl rfl (by kernel_rfl) ?_; clear hL; intro gq wq hL)
     | ((with_reducible refine gate (N := 39) rfl ?_); refine ev_app1L (E := encPc) c rfl hL rfl rfl rfl mx (fun _ => sx) rfl rfl rfl (by first | omega | (simp; omega)) hL.size ?_; clear hL; intro ao' c' wq hL)
     | ((with_reducible refine qB rfl rfl ?_); (first | (refine lC rfl hL rfl rfl vM (by rfl) ?_) | (refine lA rfl hL rfl rfl vM (by rfl) ?_))) | ((with_reducible refine qC rfl rfl ?_); (refine lH rfl hL rfl rfl rfl cy (by rfl) ?_); clear hL; intro wq hL))
    have HS2 := kD HS3.out
    rw [← HC.out] at HS2
    go_roundw
    case rel => exact ⟨k + 1, _, true, _, by omega, by go_num, rfl, rfl, by simp; omega, HS2, hL.sub (by repeat (first | exact List.nil_sublist _ | with_reducible apply List.Sublist.cons_cons | with_reducible apply List.Sublist.cons))⟩
    case measure => simp [intOf]; omega
   ·have q1 : (p.idx == x.idx) = false := by simpa using h1
    cases dn
    ·by_cases h2 : x.idx < p.idx
     ·have q2 : decide (p.idx > x.idx) = true := decide_eq_true h2
      have HS2 := kD (HE2.out (Pce.eqv_false h1) rfl ((Pce.lt_iff _ _).2 h2))
      clear HS HE1 HE2 HE3 h1 h2
      go_wp2_with (first
       | ((with_reducible refine qF rfl rfl ?_); refine lL rfl rfl rfl rfl hlt ?_) | ((with_reducible refine gate (N := 14) rfl ?_); refine lK rfl rfl rfl hrW (by rfl) ?_) | ((with_reducible refine gate (N := 8) rfl ?_); (refine lI rfl hL rfl cy ?_; clear hL; intro g8 w8 hL))
       | ((with_reducible refine gate (N := 34) rfl ?_); refine lM (cs := [.int .i64 x.idx, .int .i64 x.at_.boot, .int .i64 x.at_.n, .string x.data]) rfl hL rfl rfl rfl (by kernel_rfl) ?_; clear hL; intro gq wq hL)
       | ((with_reducible refine gate (N := 35) rfl ?_); refine ev_app1L (E := encPc) x rfl hL rfl rfl rfl mx (fun _ => sx) rfl rfl rfl (by first | omega | (simp; omega)) hL.size ?_; clear hL; intro ao' c' wq hL)
       | ((with_reducible refine gate (N := 38) rfl ?_); refine lM (cs := [.int .i64 p.idx, .int .i64 p.at_.boot, .int .i64 p.at_.n, .string p.data]) rfl hL rfl rfl rfl (by kernel_rfl) ?_; clear hL; intro gq wq hL)
       | ((with_reducible refine gate (N := 39) rfl ?_); refine ev_app1L (E := encPc) p rfl hL rfl rfl rfl mx (fun _ => sx) rfl rfl rfl (by first | omega | (simp; omega)) hL.size ?_; clear hL; intro ao' c' wq hL)
       | ((with_reducible refine qB rfl rfl ?_); (first | (refine lC rfl hL rfl rfl vM (by rfl) ?_) | (refine lA rfl hL rfl rfl vM (by rfl) ?_))) | ((with_reducible refine qC rfl rfl ?_); (refine lH rfl hL rfl rfl rfl cy (by rfl) ?_); clear hL; intro wq hL) | ((with_reducible refine qA rfl rfl ?_ ?_); (exact wz rfl rfl rfl (by with_reducible rfl)); (refine lD (wz rfl rfl rfl rfl) hL rfl rfl vM (by rfl) ?_)))
      simp only [List.length_append, List.length_singleton] at hL
      go_roundw
      case rel => exact ⟨k + 1, _, true, _, by omega, by go_num, rfl, rfl, by simp; omega, HS2, hL.sub (by repeat (first | exact List.nil_sublist _ | with_reducible apply List.Sublist.cons_cons | with_reducible apply List.Sublist.cons))⟩
      case measure => simp [intOf]; omega
     ·have q2 : decide (p.idx > x.idx) = false := decide_eq_false h2
      have HS2 := kD (HE3.out (Pce.eqv_false h1) (.inr (Pce.lt_false h2)))
      clear HS HE1 HE2 HE3 h1 h2
      go_wp2_with (first
       | ((with_reducible refine qF rfl rfl ?_); refine lL rfl rfl rfl rfl hlt ?_) | ((with_reducible refine gate (N := 14) rfl ?_); refine lK rfl rfl rfl hrW (by rfl) ?_) | ((with_reducible refine gate (N := 8) rfl ?_); (refine lI rfl hL rfl cy ?_; clear hL; intro g8 w8 hL))
       | ((with_reducible refine gate (N := 38) rfl ?_); refine lM (cs := [.int .i64 p.idx, .int .i64 p.at_.boot, .int .i64 p.at_.n, .string p.data]) rfl hL rfl rfl rfl (by kernel_rfl) ?_; clear hL; intro gq wq hL)
       | ((with_reducible refine gate (N := 39) rfl ?_); refine ev_app1L (E := encPc) p rfl hL rfl rfl rfl mx (fun _ => sx) rfl rfl rfl (by first | omega | (simp; omega)) hL.size ?_; clear hL; intro ao' c' wq hL)
       | ((with_reducible refine qB rfl rfl ?_); (first | (refine lC rfl hL rfl rfl vM (by rfl) ?_) | (refine lA rfl hL rfl rfl vM (by rfl) ?_))) | ((with_reducible refine qC rfl rfl ?_); (refine lH rfl hL rfl rfl rfl cy (by rfl) ?_); clear hL; intro wq hL) | ((with_reducible refine qA rfl rfl ?_ ?_); (exact wz rfl rfl rfl (by with_reducible rfl)); (refine lD (wz rfl rfl rfl rfl) hL rfl rfl vM (by rfl) ?_)))
      go_roundw
      case rel => exact ⟨k + 1, _, false, _, by omega, by go_num, rfl, rfl, by simp; omega, HS2, hL.sub (by repeat (first | exact List.nil_sublist _ | with_reducible apply List.Sublist.cons_cons | with_reducible apply List.Sublist.cons))⟩
      case measure => simp [intOf]; omega
    ·have HS2 := kD (HE3.out (Pce.eqv_false h1) (.inl rfl))
     clear HS HE1 HE2 HE3 h1
     go_wp2_with (first
      | ((with_reducible refine qF rfl rfl ?_); refine lL rfl rfl rfl rfl hlt ?_) | ((with_reducible refine gate (N := 14) rfl ?_); refine lK rfl rfl rfl hrW (by rfl) ?_) | ((with_reducible refine gate (N := 8) rfl ?_); (refine lI rfl hL rfl cy ?_; clear hL; intro g8 w8 hL))
      | ((with_reducible refine gate (N := 38) rfl ?_); refine lM (cs := [.int .i64 p.idx, .int .i64 p.at_.boot, .int .i64 p.at_.n, .string p.data]) rfl hL rfl rfl rfl (by kernel_rfl) ?_; clear hL; intro gq wq hL)
      | ((with_reducible refine gate (N := 39) rfl ?_); refine ev_app1L (E := encPc) p rfl hL rfl rfl rfl mx (fun _ => sx) rfl rfl rfl (by first | omega | (simp; omega)) hL.size ?_; clear hL; intro ao' c' wq hL)
      | ((with_reducible refine qB rfl rfl ?_); (first | (refine lC rfl hL rfl rfl vM (by rfl) ?_) | (refine lA rfl hL rfl rfl vM (by rfl) ?_))) | ((with_reducible refine qC rfl rfl ?_); (refine lH rfl hL rfl rfl rfl cy (by rfl) ?_); clear hL; intro wq hL))
     go_roundw
     case rel => exact ⟨k + 1, _, true, _, by omega, by go_num, rfl, rfl, by simp; omega, HS2, hL.sub (by repeat (first | exact List.nil_sublist _ | with_reducible apply List.Sublist.cons_cons | with_reducible apply List.Sublist.cons))⟩
     case measure => simp [intOf]; omega
  ·cases dn
   ·have HB := kD (Stab.ins_lastI HS.out (by omega))
    clear HS
    have hk0 : ¬ k < ps.length := hlt
    go_wp2_with (first
     | ((with_reducible refine qF rfl rfl ?_); refine lL rfl rfl rfl rfl hlt ?_) | ((with_reducible refine gate (N := 14) rfl ?_); refine lK rfl rfl rfl hrW (by rfl) ?_) | ((with_reducible refine gate (N := 8) rfl ?_); (refine lI rfl hL rfl cy ?_; clear hL; intro g8 w8 hL))
     | ((with_reducible refine gate (N := 45) rfl ?_); refine lM (cs := [.int .i64 x.idx, .int .i64 x.at_.boot, .int .i64 x.at_.n, .string x.data]) rfl hL rfl rfl rfl (by kernel_rfl) ?_; clear hL; intro gq wq hL)
     | ((with_reducible refine gate (N := 46) rfl ?_); refine ev_app1L (E := encPc) x rfl hL rfl rfl rfl mx (fun _ => sx) rfl rfl rfl (by first | omega | (simp; omega)) hL.size ?_; clear hL; intro ao' c' wq hL)
     | ((with_reducible refine qB rfl rfl ?_); (refine lA rfl hL rfl rfl vM (by rfl) ?_)))
    go_ret
    exact ⟨_, rfl, by rw [HB.out]; exact hL.sub (by repeat (first | exact List.nil_sublist _ | apply List.Sublist.cons_cons | apply List.Sublist.cons))⟩
   ·have HB := kD (Stab.ins_done HS.out (by omega))
    clear HS
    have hk0 : ¬ k < ps.length := hlt
    go_wp2_with fail
    go_ret
    exact ⟨_, rfl, by rw [HB.out]; exact hL.sub (by repeat (first | exact List.nil_sublist _ | apply List.Sublist.cons_cons | apply List.Sublist.cons))⟩
set_option maxHeartbeats 16000000 in
theorem ref11_name (v : Value) (ps : List Xat) (x : Xat) (w : World) (h : encXt.R w v ps) (hz : ∀ p ∈ ps, p.Z) (hx : x.Z) (hn : ps.length ≤ 1000000000) :
  Calls Tryz.prog 174 #[v, .agg (Xat.cells x).toArray] w fun e w' => ∃ u, e = .returned u ∧ Loc w NoM w' [row encXt w.heap.size 64 u (Stab.rins Xat.lt _root_.id Xat.top x false ps)] := by
 have hL := (Loc.nil w NoM).rowOff encXt w.heap.size 64
 obtain ⟨ao, c0, rfl, hel⟩ := R_elem h
 have HZ := kD hz
 have HX := kD hx
 clear h hz hx
 unfold Xat.cells
 go_enter Tryz.func174, Tryz.ntmps174
 go_wp2_with (first | ((with_reducible refine gate (N := 3) rfl ?_); (refine lJ rfl hL rfl rfl cy ?_; clear hL; intro g3 w3 hL)))
 go_loopw [5, 6, 11] (fun s d i wr => ∃ (k : Nat) (vs : Value) (dn : Bool) (L : List Xat), k ≤ ps.length ∧ i = .int .i64 k ∧ d = .bool dn ∧ s = vs ∧ L.length ≤ 2 * k ∧ Hid (Stab.rins Xat.lt _root_.id Xat.top x false ps = L ++ Stab.rins Xat.lt _root_.id Xat.top x dn (ps.drop k)) ∧ Loc w NoM wr [var g3 [.string x.name, .int .i64 x.at_.boot, .int .i64 x.at_.n, .string x.val, .bool x.gone] 64, row encXt w.heap.size 64 vs L]) (fun _ _ i _ => ps.length - (intOf i).toNat)
 case atStart => exact ⟨0, _, false, [], by omega, rfl, rfl, rfl, by simp, kD (Stab.ins_start _ _ _ _), hL⟩
 case round =>
  clear hL
  obtain ⟨k, vs, dn, L, hk, rfl, rfl, rfl, hlen, HS, hL⟩ := hrel
  by_cases hlt : k < ps.length
  ·obtain ⟨g, off, rfl, hr⟩ := hel k hlt
   have hzp := kD (HZ.out _ (List.getElem_mem hlt))
   have HE1 := kD (fun h => Stab.ins_same HS.out hlt h)
   have HE2 := kD (fun h e => Stab.ins_newI (dn_false e HS.out) hlt h)
   have HE3 := kD (fun h => Stab.ins_skip HS.out hlt h)
   have hrW0 : World.rangeAt _ g (off + k * 5) (Xat.cells ps[k]) := range_below hr hL.below
   clear hr
   generalize ps[k] = p at *
   have hrW : World.rangeAt _ g (off + k * 5) [.string p.name, .int .i64 p.at_.boot, .int .i64 p.at_.n, .string p.val, .bool p.gone] := hrW0
   clear hrW0
   by_cases h1 : p.name = x.name
   ·have q1 := strB p.name x.name (decide_eq_true h1)
    have HP := kD (fun wx => ref11_xattr p x wx hzp.out.2 HX.out.2)
    have HS2 := HE1.out (Xat.eqv_iff.2 h1)
    have HS3 := kD HS2
    clear HS HE1 HE2 HE3 HS2 h1
    go_wp2_with (first
     | ((with_reducible refine qF rfl rfl ?_); refine lL rfl rfl rfl rfl hlt ?_) | ((with_reducible refine gate (N := 14) rfl ?_); refine lK rfl rfl rfl hrW (by rfl) ?_) | ((with_reducible refine gate (N := 8) rfl ?_); (refine lI rfl hL rfl cy ?_; clear hL; intro g8 w8 hL))
     | (go_at_call 204; (with_reducible refine (HP.out _).mono ?_); rintro e w5 ⟨⟨c, ec, rfl⟩, hb5⟩; have HC := kD ec; clear ec; have hL := hL.call hb5; clear hb5)
     | ((with_reducible refine gate (N := 38) rfl ?_); refine lM (cs := [.string c.name, .int .i64 c.at_.boot, .int .i64 c.at_.n, .string c.val, .bool c.gone]) rfl hL rfl rfl rfl (by kernel_rfl) ?_; clear hL; intro gq wq hL)
     | ((with_reducible refine gate (N := 39) rfl ?_); refine ev_app1L (E := encXt) c rfl hL rfl rfl rfl mx (fun _ => sx) rfl rfl rfl (by first | omega | (simp; omega)) hL.size ?_; clear hL; intro ao' c' wq hL)
     | ((with_reducible refine qB rfl rfl ?_); (first | (refine lC rfl hL rfl rfl vM (by rfl) ?_) | (refine lA rfl hL rfl rfl vM (by rfl) ?_))) | ((with_reducible refine qC rfl rfl ?_); (refine lH rfl hL rfl rfl rfl cy (by rfl) ?_); clear hL; intro wq hL))
    have HS2 := kD HS3.out
    rw [← HC.out] at HS2
    go_roundw
    case rel => exact ⟨k + 1, _, true, _, by omega, by go_num, rfl, rfl, by simp; omega, HS2, hL.sub (by repeat (first | exact List.nil_sublist _ | with_reducible apply List.Sublist.cons_cons | with_reducible apply List.Sublist.cons))⟩
    case measure => simp [intOf]; omega
   ·have q1 := strB p.name x.name (decide_eq_false h1)
    cases dn
    ·by_cases h2 : slt x.name p.name = true
     ·have HQ := kD (fun wx => ref01_less x.name p.name wx HX.out.1 hzp.out.1); rw [h2] at HQ
      have HS2 := kD (HE2.out (Xat.eqv_false h1) rfl ((Xat.lt_iff _ _).2 h2))
      clear HS HE1 HE2 HE3 h1 h2
      go_wp2_with (first
       | ((with_reducible refine qF rfl rfl ?_); refine lL rfl rfl rfl rfl hlt ?_) | ((with_reducible refine gate (N := 14) rfl ?_); refine lK rfl rfl rfl hrW (by rfl) ?_) | ((with_reducible refine gate (N := 8) rfl ?_); (refine lI rfl hL rfl cy ?_; clear hL; intro g8 w8 hL))
       | (go_at_call 170; (with_reducible refine (HQ.out _).mono ?_); rintro e w5 ⟨rfl, hb5⟩; have hL := hL.call hb5; clear hb5)
       | ((with_reducible refine gate (N := 34) rfl ?_); refine lM (cs := [.string x.name, .int .i64 x.at_.boot, .int .i64 x.at_.n, .string x.val, .bool x.gone]) rfl hL rfl rfl rfl (by kernel_rfl) ?_; clear hL; intro gq wq hL)
       | ((with_reducible refine gate (N := 35) rfl ?_); refine ev_app1L (E := encXt) x rfl hL rfl rfl rfl mx (fun _ => sx) rfl rfl rfl (by first | omega | (simp; omega)) hL.size ?_; clear hL; intro ao' c' wq hL)
       | ((with_reducible refine gate (N := 38) rfl ?_); refine lM (cs := [.string p.name, .int .i64 p.at_.boot, .int .i64 p.at_.n, .string p.val, .bool p.gone]) rfl hL rfl rfl rfl (by kernel_rfl) ?_; clear hL; intro gq wq hL)
       | ((with_reducible refine gate (N := 39) rfl ?_); refine ev_app1L (E := encXt) p rfl hL rfl rfl rfl mx (fun _ => sx) rfl rfl rfl (by first | omega | (simp; omega)) hL.size ?_; clear hL; intro ao' c' wq hL)
       | ((with_reducible refine qB rfl rfl ?_); (first | (refine lC rfl hL rfl rfl vM (by rfl) ?_) | (refine lA rfl hL rfl rfl vM (by rfl) ?_))) | ((with_reducible refine qC rfl rfl ?_); (refine lH rfl hL rfl rfl rfl cy (by rfl) ?_); clear hL; intro wq hL) | ((with_reducible refine qA rfl rfl ?_ ?_); (exact wz rfl rfl rfl (by with_reducible rfl)); (refine lD (wz rfl rfl rfl rfl) hL rfl rfl vM (by rfl) ?_)))
      simp only [List.length_append, List.length_singleton] at hL
      go_roundw
      case rel => exact ⟨k + 1, _, true, _, by omega, by go_num, rfl, rfl, by simp; omega, HS2, hL.sub (by repeat (first | exact List.nil_sublist _ | with_reducible apply List.Sublist.cons_cons | with_reducible apply List.Sublist.cons))⟩
      case measure => simp [intOf]; omega
     ·have HQ := kD (fun wx => ref01_less x.name p.name wx HX.out.1 hzp.out.1); rw [Bool.eq_false_iff.2 h2] at HQ
      have HS2 := kD (HE3.out (Xat.eqv_false h1) (.inr (Xat.lt_false (Bool.eq_false_iff.2 h2))))
      clear HS HE1 HE2 HE3 h1 h2
      go_wp2_with (first
       | ((with_reducible refine qF rfl rfl ?_); refine lL rfl rfl rfl rfl hlt ?_) | ((with_reducible refine gate (N := 14) rfl ?_); refine lK rfl rfl rfl hrW (by rfl) ?_) | ((with_reducible refine gate (N := 8) rfl ?_); (refine lI rfl hL rfl cy ?_; clear hL; intro g8 w8 hL))
       | (go_at_call 170; (with_reducible refine (HQ.out _).mono ?_); rintro e w5 ⟨rfl, hb5⟩; have hL := hL.call hb5; clear hb5)
       | ((with_reducible refine gate (N := 38) rfl ?_); refine lM (cs := [.string p.name, .int .i64 p.at_.boot, .int .i64 p.at_.n, .string p.val, .bool p.gone]) rfl hL rfl rfl rfl (by kernel_rfl) ?_; clear hL; intro gq wq hL)
       | ((with_reducible refine gate (N := 39) rfl ?_); refine ev_app1L (E := encXt) p rfl hL rfl rfl rfl mx (fun _ => sx) rfl rfl rfl (by first | omega | (simp; omega)) hL.size ?_; clear hL; intro ao' c' wq hL)
       | ((with_reducible refine qB rfl rfl ?_); (first | (refine lC rfl hL rfl rfl vM (by rfl) ?_) | (refine lA rfl hL rfl rfl vM (by rfl) ?_))) | ((with_reducible refine qC rfl rfl ?_); (refine lH rfl hL rfl rfl rfl cy (by rfl) ?_); clear hL; intro wq hL) | ((with_reducible refine qA rfl rfl ?_ ?_); (exact wz rfl rfl rfl (by with_reducible rfl)); (refine lD (wz rfl rfl rfl rfl) hL rfl rfl vM (by rfl) ?_)))
      go_roundw
      case rel => exact ⟨k + 1, _, false, _, by omega, by go_num, rfl, rfl, by simp; omega, HS2, hL.sub (by repeat (first | exact List.nil_sublist _ | with_reducible apply List.Sublist.cons_cons | with_reducible apply List.Sublist.cons))⟩
      case measure => simp [intOf]; omega
    ·have HS2 := kD (HE3.out (Xat.eqv_false h1) (.inl rfl))
     clear HS HE1 HE2 HE3 h1
     go_wp2_with (first
      | ((with_reducible refine qF rfl rfl ?_); refine lL rfl rfl rfl rfl hlt ?_) | ((with_reducible refine gate (N := 14) rfl ?_); refine lK rfl rfl rfl hrW (by rfl) ?_) | ((with_reducible refine gate (N := 8) rfl ?_); (refine lI rfl hL rfl cy ?_; clear hL; intro g8 w8 hL))
      | ((with_reducible refine gate (N := 38) rfl ?_); refine lM (cs := [.string p.name, .int .i64 p.at_.boot, .int .i64 p.at_.n, .string p.val, .bool p.gone]) rfl hL rfl rfl rfl (by kernel_rfl) ?_; clear hL; intro gq wq hL)
      | ((with_reducible refine gate (N := 39) rfl ?_); refine ev_app1L (E := encXt) p rfl hL rfl rfl rfl mx (fun _ => sx) rfl rfl rfl (by first | omega | (simp; omega)) hL.size ?_; clear hL; intro ao' c' wq hL)
      | ((with_reducible refine qB rfl rfl ?_); (first | (refine lC rfl hL rfl rfl vM (by rfl) ?_) | (refine lA rfl hL rfl rfl vM (by rfl) ?_))) | ((with_reducible refine qC rfl rfl ?_); (refine lH rfl hL rfl rfl rfl cy (by rfl) ?_); clear hL; intro wq hL))
     go_roundw
     case rel => exact ⟨k + 1, _, true, _, by omega, by go_num, rfl, rfl, by simp; omega, HS2, hL.sub (by repeat (first | exact List.nil_sublist _ | with_reducible apply List.Sublist.cons_cons | with_reducible apply List.Sublist.cons))⟩
     case measure => simp [intOf]; omega
  ·cases dn
   ·have HB := kD (Stab.ins_lastI HS.out (by omega))
    clear HS
    have hk0 : ¬ k < ps.length := hlt
    go_wp2_with (first
     | ((with_reducible refine qF rfl rfl ?_); refine lL rfl rfl rfl rfl hlt ?_) | ((with_reducible refine gate (N := 14) rfl ?_); refine lK rfl rfl rfl hrW (by rfl) ?_) | ((with_reducible refine gate (N := 8) rfl ?_); (refine lI rfl hL rfl cy ?_; clear hL; intro g8 w8 hL))
     | ((with_reducible refine gate (N := 45) rfl ?_); refine lM (cs := [.string x.name, .int .i64 x.at_.boot, .int .i64 x.at_.n, .string x.val, .bool x.gone]) rfl hL rfl rfl rfl (by kernel_rfl) ?_; clear hL; intro gq wq hL)
     | ((with_reducible refine gate (N := 46) rfl ?_); refine ev_app1L (E := encXt) x rfl hL rfl rfl rfl mx (fun _ => sx) rfl rfl rfl (by first | omega | (simp; omega)) hL.size ?_; clear hL; intro ao' c' wq hL)
     | ((with_reducible refine qB rfl rfl ?_); (refine lA rfl hL rfl rfl vM (by rfl) ?_)))
    go_ret
    exact ⟨_, rfl, by rw [HB.out]; exact hL.sub (by repeat (first | exact List.nil_sublist _ | apply List.Sublist.cons_cons | apply List.Sublist.cons))⟩
   ·have HB := kD (Stab.ins_done HS.out (by omega))
    clear HS
    have hk0 : ¬ k < ps.length := hlt
    go_wp2_with fail
    go_ret
    exact ⟨_, rfl, by rw [HB.out]; exact hL.sub (by repeat (first | exact List.nil_sublist _ | apply List.Sublist.cons_cons | apply List.Sublist.cons))⟩
set_option maxHeartbeats 16000000 in
theorem ref11_link (v : Value) (ps : List Lnk) (x : Lnk) (w : World) (h : encK.R w v ps) (hz : ∀ p ∈ ps, p.Z) (hx : x.Z) (hn : ps.length ≤ 1000000000) :
  Calls Tryz.prog 41 #[v, .agg (Lnk.cells x).toArray] w fun e w' => ∃ u, e = .returned u ∧ Loc w NoM w' [row encK w.heap.size 46 u (Stab.rins Lnk.lt _root_.id Lnk.one x false ps)] := by
 have hL := (Loc.nil w NoM).rowOff encK w.heap.size 46
 obtain ⟨ao, c0, rfl, hel⟩ := R_elem h
 have HZ := kD hz
 have HX := kD hx
 clear h hz hx
 unfold Lnk.cells
 go_enter Tryz.func41, Tryz.ntmps41
 go_wp2_with (first | ((with_reducible refine gate (N := 3) rfl ?_); (refine lJ rfl hL rfl rfl cy ?_; clear hL; intro g3 w3 hL)))
 go_loopw [5, 6, 11] (fun s d i wr => ∃ (k : Nat) (vs : Value) (dn : Bool) (L : List Lnk), k ≤ ps.length ∧ i = .int .i64 k ∧ d = .bool dn ∧ s = vs ∧ L.length ≤ 2 * k ∧ Hid (Stab.rins Lnk.lt _root_.id Lnk.one x false ps = L ++ Stab.rins Lnk.lt _root_.id Lnk.one x dn (ps.drop k)) ∧ Loc w NoM wr [var g3 [.int .i64 x.id.boot, .int .i64 x.id.n, .int .i64 x.node.boot, .int .i64 x.node.n, .int .i64 x.at_.boot, .int .i64 x.at_.n, .int .i64 x.parent.boot, .int .i64 x.parent.n, .string x.name, .int .i64 x.alive.a0, .int .i64 x.alive.a1, .int .i64 x.alive.a2, .int .i64 x.alive.a3, .int .i64 x.alive.a4, .int .i64 x.alive.a5, .int .i64 x.alive.a6, .int .i64 x.alive.a7, .int .i64 x.dead.a0, .int .i64 x.dead.a1, .int .i64 x.dead.a2, .int .i64 x.dead.a3, .int .i64 x.dead.a4, .int .i64 x.dead.a5, .int .i64 x.dead.a6, .int .i64 x.dead.a7] 46, row encK w.heap.size 46 vs L]) (fun _ _ i _ => ps.length - (intOf i).toNat)
 case atStart => exact ⟨0, _, false, [], by omega, rfl, rfl, rfl, by simp, kD (Stab.ins_start _ _ _ _), hL⟩
 case round =>
  clear hL
  obtain ⟨k, vs, dn, L, hk, rfl, rfl, rfl, hlen, HS, hL⟩ := hrel
  by_cases hlt : k < ps.length
  ·obtain ⟨g, off, rfl, hr⟩ := hel k hlt
   have hzp := kD (HZ.out _ (List.getElem_mem hlt))
   have HE1 := kD (fun h => Stab.ins_same HS.out hlt h)
   have HE2 := kD (fun h e => Stab.ins_newI (dn_false e HS.out) hlt h)
   have HE3 := kD (fun h => Stab.ins_skip HS.out hlt h)
   have hrW0 : World.rangeAt _ g (off + k * 25) (Lnk.cells ps[k]) := range_below hr hL.below
   clear hr
   generalize ps[k] = p at *
   have hrW : World.rangeAt _ g (off + k * 25) [.int .i64 p.id.boot, .int .i64 p.id.n, .int .i64 p.node.boot, .int .i64 p.node.n, .int .i64 p.at_.boot, .int .i64 p.at_.n, .int .i64 p.parent.boot, .int .i64 p.parent.n, .string p.name, .int .i64 p.alive.a0, .int .i64 p.alive.a1, .int .i64 p.alive.a2, .int .i64 p.alive.a3, .int .i64 p.alive.a4, .int .i64 p.alive.a5, .int .i64 p.alive.a6, .int .i64 p.alive.a7, .int .i64 p.dead.a0, .int .i64 p.dead.a1, .int .i64 p.dead.a2, .int .i64 p.dead.a3, .int .i64 p.dead.a4, .int .i64 p.dead.a5, .int .i64 p.dead.a6, .int .i64 p.dead.a7] := hrW0
   clear hrW0
   by_cases h1 : p.id = x.id
   ·have q1 := stampE p.id x.id (decide_eq_true h1)
    have HP := kD (fun wx => ref11_link1 p x wx hzp.out HX.out)
    have HS2 := HE1.out (Lnk.eqv_iff.2 h1)
    have HS3 := kD HS2
    clear HS HE1 HE2 HE3 HS2 h1
    go_wp2_with (first
     | ((with_reducible refine qF rfl rfl ?_); refine lL rfl rfl rfl rfl hlt ?_) | ((with_reducible refine gate (N := 14) rfl ?_); refine lK rfl rfl rfl hrW (by rfl) ?_) | ((with_reducible refine gate (N := 8) rfl ?_); (refine lI rfl hL rfl cy ?_; clear hL; intro g8 w8 hL))
     | (go_at_call 104; (with_reducible refine (HP.out _).mono ?_); rintro e w5 ⟨⟨c, ec, rfl⟩, hb5⟩; have HC := kD ec; clear ec; have hL := hL.call hb5; clear hb5)
     | ((with_reducible refine gate (N := 38) rfl ?_); refine lM (cs := [.int .i64 c.id.boot, .int .i64 c.id.n, .int .i64 c.node.boot, .int .i64 c.node.n, .int .i64 c.at_.boot, .int .i64 c.at_.n, .int .i64 c.parent.boot, .int .i64 c.parent.n, .string c.name, .int .i64 c.alive.a0, .int .i64 c.alive.a1, .int .i64 c.alive.a2, .int .i64 c.alive.a3, .int .i64 c.alive.a4, .int .i64 c.alive.a5, .int .i64 c.alive.a6, .int .i64 c.alive.a7, .int .i64 c.dead.a0, .int .i64 c.dead.a1, .int .i64 c.dead.a2, .int .i64 c.dead.a3, .int .i64 c.dead.a4, .int .i64 c.dead.a5, .int .i64 c.dead.a6, .int .i64 c.dead.a7]) rfl hL rfl rfl rfl (by kernel_rfl) ?_; clear hL; intro gq wq hL)
     | ((with_reducible refine gate (N := 39) rfl ?_); refine ev_app1L (E := encK) c rfl hL rfl rfl rfl mx (fun _ => sx) rfl rfl rfl (by first | omega | (simp; omega)) hL.size ?_; clear hL; intro ao' c' wq hL)
     | ((with_reducible refine qB rfl rfl ?_); (first | (refine lA rfl hL rfl rfl vM (by rfl) ?_) | (refine lF rfl hL rfl rfl vM SegC.seg ?_))) | ((with_reducible refine qC rfl rfl ?_); (refine lH rfl hL rfl rfl rfl cy (by rfl) ?_); clear hL; intro wq hL))
    have HS2 := kD HS3.out
    rw [← HC.out] at HS2
    go_roundw
    case rel => exact ⟨k + 1, _, true, _, by omega, by go_num, rfl, rfl, by simp; omega, HS2, hL.sub (by repeat (first | exact List.nil_sublist _ | with_reducible apply List.Sublist.cons_cons | with_reducible apply List.Sublist.cons))⟩
    case measure => simp [intOf]; omega
   ·have q1 := stampE p.id x.id (decide_eq_false h1)
    cases dn
    ·by_cases h2 : x.id.lss p.id
     ·have HQ := kD (fun wx => ref09_less x.id p.id wx); rw [Mk.lssB_true h2] at HQ
      have HS2 := kD (HE2.out (Lnk.eqv_false h1) rfl ((Lnk.lt_iff _ _).2 h2))
      clear HS HE1 HE2 HE3 h1 h2
      go_wp2_with (first
       | ((with_reducible refine qF rfl rfl ?_); refine lL rfl rfl rfl rfl hlt ?_) | ((with_reducible refine gate (N := 14) rfl ?_); refine lK rfl rfl rfl hrW (by rfl) ?_) | ((with_reducible refine gate (N := 8) rfl ?_); (refine lI rfl hL rfl cy ?_; clear hL; intro g8 w8 hL))
       | (go_at_call 103; (with_reducible refine (HQ.out _).mono ?_); rintro e w5 ⟨rfl, hb5⟩; have hL := hL.call hb5; clear hb5)
       | ((with_reducible refine gate (N := 34) rfl ?_); refine lM (cs := [.int .i64 x.id.boot, .int .i64 x.id.n, .int .i64 x.node.boot, .int .i64 x.node.n, .int .i64 x.at_.boot, .int .i64 x.at_.n, .int .i64 x.parent.boot, .int .i64 x.parent.n, .string x.name, .int .i64 x.alive.a0, .int .i64 x.alive.a1, .int .i64 x.alive.a2, .int .i64 x.alive.a3, .int .i64 x.alive.a4, .int .i64 x.alive.a5, .int .i64 x.alive.a6, .int .i64 x.alive.a7, .int .i64 x.dead.a0, .int .i64 x.dead.a1, .int .i64 x.dead.a2, .int .i64 x.dead.a3, .int .i64 x.dead.a4, .int .i64 x.dead.a5, .int .i64 x.dead.a6, .int .i64 x.dead.a7]) rfl hL rfl rfl rfl (by kernel_rfl) ?_; clear hL; intro gq wq hL)
       | ((with_reducible refine gate (N := 35) rfl ?_); refine ev_app1L (E := encK) x rfl hL rfl rfl rfl mx (fun _ => sx) rfl rfl rfl (by first | omega | (simp; omega)) hL.size ?_; clear hL; intro ao' c' wq hL)
       | ((with_reducible refine gate (N := 38) rfl ?_); refine lM (cs := [.int .i64 p.id.boot, .int .i64 p.id.n, .int .i64 p.node.boot, .int .i64 p.node.n, .int .i64 p.at_.boot, .int .i64 p.at_.n, .int .i64 p.parent.boot, .int .i64 p.parent.n, .string p.name, .int .i64 p.alive.a0, .int .i64 p.alive.a1, .int .i64 p.alive.a2, .int .i64 p.alive.a3, .int .i64 p.alive.a4, .int .i64 p.alive.a5, .int .i64 p.alive.a6, .int .i64 p.alive.a7, .int .i64 p.dead.a0, .int .i64 p.dead.a1, .int .i64 p.dead.a2, .int .i64 p.dead.a3, .int .i64 p.dead.a4, .int .i64 p.dead.a5, .int .i64 p.dead.a6, .int .i64 p.dead.a7]) rfl hL rfl rfl rfl (by kernel_rfl) ?_; clear hL; intro gq wq hL)
       | ((with_reducible refine gate (N := 39) rfl ?_); refine ev_app1L (E := encK) p rfl hL rfl rfl rfl mx (fun _ => sx) rfl rfl rfl (by first | omega | (simp; omega)) hL.size ?_; clear hL; intro ao' c' wq hL)
       | ((with_reducible refine qB rfl rfl ?_); (first | (refine lA rfl hL rfl rfl vM (by rfl) ?_) | (refine lF rfl hL rfl rfl vM SegC.seg ?_))) | ((with_reducible refine qC rfl rfl ?_); (refine lH rfl hL rfl rfl rfl cy (by rfl) ?_); clear hL; intro wq hL) | ((with_reducible refine qA rfl rfl ?_ ?_); (exact wz rfl rfl rfl (by with_reducible rfl)); (refine lE (wz rfl rfl rfl rfl) hL rfl rfl vM SegC.seg ?_)))
      simp only [List.length_append, List.length_singleton] at hL
      go_roundw
      case rel => exact ⟨k + 1, _, true, _, by omega, by go_num, rfl, rfl, by simp; omega, HS2, hL.sub (by repeat (first | exact List.nil_sublist _ | with_reducible apply List.Sublist.cons_cons | with_reducible apply List.Sublist.cons))⟩
      case measure => simp [intOf]; omega
     ·have HQ := kD (fun wx => ref09_less x.id p.id wx); rw [Mk.lssB_not h2] at HQ
      have HS2 := kD (HE3.out (Lnk.eqv_false h1) (.inr (Lnk.lt_false h2)))
      clear HS HE1 HE2 HE3 h1 h2
      go_wp2_with (first
       | ((with_reducible refine qF rfl rfl ?_); refine lL rfl rfl rfl rfl hlt ?_) | ((with_reducible refine gate (N := 14) rfl ?_); refine lK rfl rfl rfl hrW (by rfl) ?_) | ((with_reducible refine gate (N := 8) rfl ?_); (refine lI rfl hL rfl cy ?_; clear hL; intro g8 w8 hL))
       | (go_at_call 103; (with_reducible refine (HQ.out _).mono ?_); rintro e w5 ⟨rfl, hb5⟩; have hL := hL.call hb5; clear hb5)
       | ((with_reducible refine gate (N := 38) rfl ?_); refine lM (cs := [.int .i64 p.id.boot, .int .i64 p.id.n, .int .i64 p.node.boot, .int .i64 p.node.n, .int .i64 p.at_.boot, .int .i64 p.at_.n, .int .i64 p.parent.boot, .int .i64 p.parent.n, .string p.name, .int .i64 p.alive.a0, .int .i64 p.alive.a1, .int .i64 p.alive.a2, .int .i64 p.alive.a3, .int .i64 p.alive.a4, .int .i64 p.alive.a5, .int .i64 p.alive.a6, .int .i64 p.alive.a7, .int .i64 p.dead.a0, .int .i64 p.dead.a1, .int .i64 p.dead.a2, .int .i64 p.dead.a3, .int .i64 p.dead.a4, .int .i64 p.dead.a5, .int .i64 p.dead.a6, .int .i64 p.dead.a7]) rfl hL rfl rfl rfl (by kernel_rfl) ?_; clear hL; intro gq wq hL)
       | ((with_reducible refine gate (N := 39) rfl ?_); refine ev_app1L (E := encK) p rfl hL rfl rfl rfl mx (fun _ => sx) rfl rfl rfl (by first | omega | (simp; omega)) hL.size ?_; clear hL; intro ao' c' wq hL)
       | ((with_reducible refine qB rfl rfl ?_); (first | (refine lA rfl hL rfl rfl vM (by rfl) ?_) | (refine lF rfl hL rfl rfl vM SegC.seg ?_))) | ((with_reducible refine qC rfl rfl ?_); (refine lH rfl hL rfl rfl rfl cy (by rfl) ?_); clear hL; intro wq hL) | ((with_reducible refine qA rfl rfl ?_ ?_); (exact wz rfl rfl rfl (by with_reducible rfl)); (refine lE (wz rfl rfl rfl rfl) hL rfl rfl vM SegC.seg ?_)))
      go_roundw
      case rel => exact ⟨k + 1, _, false, _, by omega, by go_num, rfl, rfl, by simp; omega, HS2, hL.sub (by repeat (first | exact List.nil_sublist _ | with_reducible apply List.Sublist.cons_cons | with_reducible apply List.Sublist.cons))⟩
      case measure => simp [intOf]; omega
    ·have HS2 := kD (HE3.out (Lnk.eqv_false h1) (.inl rfl))
     clear HS HE1 HE2 HE3 h1
     go_wp2_with (first
      | ((with_reducible refine qF rfl rfl ?_); refine lL rfl rfl rfl rfl hlt ?_) | ((with_reducible refine gate (N := 14) rfl ?_); refine lK rfl rfl rfl hrW (by rfl) ?_) | ((with_reducible refine gate (N := 8) rfl ?_); (refine lI rfl hL rfl cy ?_; clear hL; intro g8 w8 hL))
      | ((with_reducible refine gate (N := 38) rfl ?_); refine lM (cs := [.int .i64 p.id.boot, .int .i64 p.id.n, .int .i64 p.node.boot, .int .i64 p.node.n, .int .i64 p.at_.boot, .int .i64 p.at_.n, .int .i64 p.parent.boot, .int .i64 p.parent.n, .string p.name, .int .i64 p.alive.a0, .int .i64 p.alive.a1, .int .i64 p.alive.a2, .int .i64 p.alive.a3, .int .i64 p.alive.a4, .int .i64 p.alive.a5, .int .i64 p.alive.a6, .int .i64 p.alive.a7, .int .i64 p.dead.a0, .int .i64 p.dead.a1, .int .i64 p.dead.a2, .int .i64 p.dead.a3, .int .i64 p.dead.a4, .int .i64 p.dead.a5, .int .i64 p.dead.a6, .int .i64 p.dead.a7]) rfl hL rfl rfl rfl (by kernel_rfl) ?_; clear hL; intro gq wq hL)
      | ((with_reducible refine gate (N := 39) rfl ?_); refine ev_app1L (E := encK) p rfl hL rfl rfl rfl mx (fun _ => sx) rfl rfl rfl (by first | omega | (simp; omega)) hL.size ?_; clear hL; intro ao' c' wq hL)
      | ((with_reducible refine qB rfl rfl ?_); (first | (refine lA rfl hL rfl rfl vM (by rfl) ?_) | (refine lF rfl hL rfl rfl vM SegC.seg ?_))) | ((with_reducible refine qC rfl rfl ?_); (refine lH rfl hL rfl rfl rfl cy (by rfl) ?_); clear hL; intro wq hL))
     go_roundw
     case rel => exact ⟨k + 1, _, true, _, by omega, by go_num, rfl, rfl, by simp; omega, HS2, hL.sub (by repeat (first | exact List.nil_sublist _ | with_reducible apply List.Sublist.cons_cons | with_reducible apply List.Sublist.cons))⟩
     case measure => simp [intOf]; omega
  ·cases dn
   ·have HB := kD (Stab.ins_lastI HS.out (by omega))
    clear HS
    have hk0 : ¬ k < ps.length := hlt
    go_wp2_with (first
     | ((with_reducible refine qF rfl rfl ?_); refine lL rfl rfl rfl rfl hlt ?_) | ((with_reducible refine gate (N := 14) rfl ?_); refine lK rfl rfl rfl hrW (by rfl) ?_) | ((with_reducible refine gate (N := 8) rfl ?_); (refine lI rfl hL rfl cy ?_; clear hL; intro g8 w8 hL))
     | ((with_reducible refine gate (N := 45) rfl ?_); refine lM (cs := [.int .i64 x.id.boot, .int .i64 x.id.n, .int .i64 x.node.boot, .int .i64 x.node.n, .int .i64 x.at_.boot, .int .i64 x.at_.n, .int .i64 x.parent.boot, .int .i64 x.parent.n, .string x.name, .int .i64 x.alive.a0, .int .i64 x.alive.a1, .int .i64 x.alive.a2, .int .i64 x.alive.a3, .int .i64 x.alive.a4, .int .i64 x.alive.a5, .int .i64 x.alive.a6, .int .i64 x.alive.a7, .int .i64 x.dead.a0, .int .i64 x.dead.a1, .int .i64 x.dead.a2, .int .i64 x.dead.a3, .int .i64 x.dead.a4, .int .i64 x.dead.a5, .int .i64 x.dead.a6, .int .i64 x.dead.a7]) rfl hL rfl rfl rfl (by kernel_rfl) ?_; clear hL; intro gq wq hL)
     | ((with_reducible refine gate (N := 46) rfl ?_); refine ev_app1L (E := encK) x rfl hL rfl rfl rfl mx (fun _ => sx) rfl rfl rfl (by first | omega | (simp; omega)) hL.size ?_; clear hL; intro ao' c' wq hL)
     | ((with_reducible refine qB rfl rfl ?_); (refine lA rfl hL rfl rfl vM (by rfl) ?_)))
    go_ret
    exact ⟨_, rfl, by rw [HB.out]; exact hL.sub (by repeat (first | exact List.nil_sublist _ | apply List.Sublist.cons_cons | apply List.Sublist.cons))⟩
   ·have HB := kD (Stab.ins_done HS.out (by omega))
    clear HS
    have hk0 : ¬ k < ps.length := hlt
    go_wp2_with fail
    go_ret
    exact ⟨_, rfl, by rw [HB.out]; exact hL.sub (by repeat (first | exact List.nil_sublist _ | apply List.Sublist.cons_cons | apply List.Sublist.cons))⟩
end Go.Proofs.YtebpacmhdkgfeaaGreat

namespace Go.Proofs.YtebpacmhdkgfeaaGreat
open Go.RowKit
set_option maxHeartbeats 16000000
set_option maxRecDepth 20000
section
variable {P : Program} {ops : Array Oper} {rest : List Oper} {o : Oper} {a : Act} {Q : Exit → Act → World → Prop} {W : World}
theorem ev_maxI {x y : Operand} {ats : Array TypeId} {m n : Int} (hg : o.guard = none) (ho : o.op = .call { callee := .builtin .max, args := #[x, y], argTypes := ats }) (hx : a.eval x = .int .i64 m) (hy : a.eval y = .int .i64 n) (h : wpList Tryz.prog ops Q rest (a.put o.dst (.int .i64 (imax m n))) W) : wpList Tryz.prog ops Q (o :: rest) a W :=
 event hg (v := .int .i64 (imax m n)) (w1 := W) (by simp [execOp, ho, resolve, invoke, builtin, hx, hy, run_maxI]) h
end
theorem listed_step (P l : List Pce) (k : Nat) (hk : k < l.length) : listedD (P ++ l.take (k + 1)) = Stab.rins Pce.lt _root_.id Pce.top l[k] false (listedD (P ++ l.take k)) := by
 rw [← List.take_append_getElem hk, ← List.append_assoc]
 exact Stab.rfold_snoc _ _ _ _
theorem named_step (P l : List Xat) (k : Nat) (hk : k < l.length) : namedD (P ++ l.take (k + 1)) = Stab.rins Xat.lt _root_.id Xat.top l[k] false (namedD (P ++ l.take k)) := by
 rw [← List.take_append_getElem hk, ← List.append_assoc]
 exact Stab.rfold_snoc _ _ _ _
theorem listed_part {P l : List Pce} {k N : Nat} (h : P.length + l.length ≤ N) : (listedD (P ++ l.take k)).length ≤ N := by
 have := listed_len (P ++ l.take k)
 rw [List.length_append, List.length_take] at this
 omega
theorem named_part {P l : List Xat} {k N : Nat} (h : P.length + l.length ≤ N) : (namedD (P ++ l.take k)).length ≤ N := by
 have := named_len (P ++ l.take k)
 rw [List.length_append, List.length_take] at this
 omega
theorem listed_partZ {P l : List Pce} {k : Nat} (h : ∀ p ∈ P, p.Z) (h' : ∀ p ∈ l, p.Z) : ∀ p ∈ listedD (P ++ l.take k), p.Z := listed_Z fun p hp => (List.mem_append.1 hp).elim (h p) fun hp => h' p (List.mem_of_mem_take hp)
theorem named_partZ {P l : List Xat} {k : Nat} (h : ∀ p ∈ P, p.Z) (h' : ∀ p ∈ l, p.Z) : ∀ p ∈ namedD (P ++ l.take k), p.Z := named_Z fun p hp => (List.mem_append.1 hp).elim (h p) fun hp => h' p (List.mem_of_mem_take hp)
theorem ref11_node2 (a b : Ino) (da db : InoD) (w : World) (hoa : a.Ok w da) (hob : b.Ok w db) (hp : da.ps.length + db.ps.length ≤ 100000000) (hx : da.xs.length + db.xs.length ≤ 100000000) (hza : da.Z) (hzb : db.Z) :
  Calls Tryz.prog 102 #[.agg (Ino.cells a).toArray, .agg (Ino.cells b).toArray] w fun e w' => ∃ c : Ino, e = .returned (.agg (Ino.cells c).toArray) ∧ c.hd = (da.one db).hd ∧
   Loc w NoM w' [row encPc w.heap.size 61 c.p.val (da.one db).ps, row encXt w.heap.size 64 c.x.val (da.one db).xs] := by
 have hL := Loc.nil w NoM
 obtain ⟨ha, ⟨a1, n1, c1⟩, ⟨a2, n2, c2⟩⟩ := a
 obtain ⟨hb, ⟨b1, m1, e1⟩, ⟨b2, m2, e2⟩⟩ := b
 obtain ⟨ha', pa, xa⟩ := da
 obtain ⟨hb', pb, xb⟩ := db
 obtain ⟨h1, HPA, HXA⟩ := hoa
 obtain ⟨h2, HPB, HXB⟩ := hob
 obtain ⟨zt1, zp1, zx1⟩ := hza
 obtain ⟨zt2, zp2, zx2⟩ := hzb
 simp only at h1 h2 HPA HXA HPB HXB hp hx zt1 zp1 zx1 zt2 zp2 zx2
 subst h1 h2
 have ZP1 := kD zp1; have ZP2 := kD zp2; have ZX1 := kD zx1; have ZX2 := kD zx2
 have HN1 := kD hp; have HN2 := kD hx
 obtain ⟨qa1, ca1, ea1, hpa⟩ := R_elem HPA
 obtain ⟨qa2, ca2, ea2, hxa⟩ := R_elem HXA
 obtain ⟨qb1, cb1, eb1, hpb⟩ := R_elem HPB
 obtain ⟨qb2, cb2, eb2, hxb⟩ := R_elem HXB
 unfold Sl.val at ea1 ea2 eb1 eb2
 injection ea1 with i1 i2 i3
 injection ea2 with j1 j2 j3
 injection eb1 with k1 k2 k3
 injection eb2 with l1 l2 l3
 subst i1 i2 i3 j1 j2 j3 k1 k2 k3 l1 l2 l3
 clear HPA HXA HPB HXB zp1 zp2 zx1 zx2 hp hx
 have hga := kD (fun wx => ref11_attr ha.attr hb.attr wx)
 have hgs := kD (fun wx => ref11_size ha.size hb.size wx)
 have hls := kD (fun wx => ref01_less ha.text hb.text wx zt1 zt2)
 have HO : Hid (∀ (k : Int) (t : ByteArray) (at_ : Atr) (sz : Siz), k = imax ha.kind hb.kind → t = smax ha.text hb.text → at_ = ha.attr.top hb.attr → sz = ha.size.top hb.size → (⟨ha.id, k, t, at_, sz⟩ : IHd) = (InoD.one ⟨ha, pa, xa⟩ ⟨hb, pb, xb⟩).hd) := kD (by rintro k t at_ sz rfl rfl rfl rfl; rfl)
 have HPP : Hid ((InoD.one ⟨ha, pa, xa⟩ ⟨hb, pb, xb⟩).ps = listedD (pa ++ pb)) := kD rfl
 have HXX : Hid ((InoD.one ⟨ha, pa, xa⟩ ⟨hb, pb, xb⟩).xs = namedD (xa ++ xb)) := kD rfl
 generalize InoD.one ⟨ha, pa, xa⟩ ⟨hb, pb, xb⟩ = d at *
 clear zt1 zt2
 unfold Ino.cells
 simp only
 replace hpa : ∀ (i : Nat) (hi : i < pa.length), ∃ g off, a1 = some ⟨g, off, none⟩ ∧ w.rangeAt g (off + i * 4) (Pce.cells pa[i]) := hpa
 replace hxa : ∀ (i : Nat) (hi : i < xa.length), ∃ g off, a2 = some ⟨g, off, none⟩ ∧ w.rangeAt g (off + i * 5) (Xat.cells xa[i]) := hxa
 replace hpb : ∀ (i : Nat) (hi : i < pb.length), ∃ g off, b1 = some ⟨g, off, none⟩ ∧ w.rangeAt g (off + i * 4) (Pce.cells pb[i]) := hpb
 replace hxb : ∀ (i : Nat) (hi : i < xb.length), ∃ g off, b2 = some ⟨g, off, none⟩ ∧ w.rangeAt g (off + i * 5) (Xat.cells xb[i]) := hxb
 obtain ⟨r, hr⟩ : ∃ r, slt ha.text hb.text = r := ⟨_, rfl⟩
 rw [hr] at hls
 cases r
 ·have HTT : Hid (ha.text = smax ha.text hb.text) := kD (by unfold smax; rw [hr]; rfl)
  clear hr
  go_enter Tryz.func102, Tryz.ntmps102
  go_wp2_with (first
   | ((with_reducible refine gate (N := 2) rfl ?_); (refine lJ rfl hL rfl rfl cy ?_; clear hL; intro g2 w2 hL)) | ((with_reducible refine gate (N := 3) rfl ?_); (refine lJ rfl hL rfl rfl cy ?_; clear hL; intro g3 w3 hL)) | ((with_reducible refine gate (N := 4) rfl ?_); (refine lI rfl hL rfl cy ?_; clear hL; intro g4 w4 hL)) | ((with_reducible refine gate (N := 5) rfl ?_); (refine lI rfl hL rfl cy ?_; clear hL; intro g5 w5 hL))
   | ((with_reducible refine gate (N := 20) rfl ?_); refine ev_maxI rfl rfl rfl rfl ?_)
   | (go_at_call 170; (with_reducible refine (hls.out _).mono ?_); rintro e w13 ⟨rfl, hb13⟩; have hL := hL.call hb13; clear hb13)
   | (go_at_call 171; (with_reducible refine (hga.out _).mono ?_); rintro e w14 ⟨⟨ca, eca, rfl⟩, hb14⟩; have HCA := kD eca; clear eca; have hL := hL.call hb14; clear hb14)
   | (go_at_call 172; (with_reducible refine (hgs.out _).mono ?_); rintro e w15 ⟨⟨cs, ecs, rfl⟩, hb15⟩; have HCS := kD ecs; clear ecs; have hL := hL.call hb15; clear hb15)
   | ((with_reducible refine qB rfl rfl ?_); (first | (refine lC rfl hL rfl rfl vM (by rfl) ?_) | (refine lF rfl hL rfl rfl vM SegC.seg ?_))) | ((with_reducible refine qC rfl rfl ?_); (refine lH rfl hL rfl rfl rfl cy (by rfl) ?_); clear hL; intro wq hL))
  go_loopw [47] (fun i wr => ∃ (k : Nat) (s : Sl) (T : ByteArray), k ≤ pa.length ∧ i = .int .i64 k ∧ Hid (T = smax ha.text hb.text) ∧ Loc w NoM wr [row encPc w.heap.size 61 s.val (listedD (([] : List Pce) ++ pa.take k)), row encXt w.heap.size 64 (.slice none 0 0) [], var g5 [.int .i64 ha.id.boot, .int .i64 ha.id.n, .int .i64 (imax ha.kind hb.kind), .string T, .int .i64 ca.at_.boot, .int .i64 ca.at_.n, .int .i64 ca.mode, .int .u64 ca.time, .int .i64 cs.at_.boot, .int .i64 cs.at_.n, .int .i64 cs.n, .slice s.a s.n s.c, .slice none 0 0] 58, var g4 [.int .i64 0, .int .i64 0, .int .i64 0, .string ByteArray.empty, .int .i64 0, .int .i64 0, .int .i64 0, .int .u64 0, .int .i64 0, .int .i64 0, .int .i64 0, .slice none 0 0, .slice none 0 0] 58, var g3 [.int .i64 hb.id.boot, .int .i64 hb.id.n, .int .i64 hb.kind, .string hb.text, .int .i64 hb.attr.at_.boot, .int .i64 hb.attr.at_.n, .int .i64 hb.attr.mode, .int .u64 hb.attr.time, .int .i64 hb.size.at_.boot, .int .i64 hb.size.at_.n, .int .i64 hb.size.n, .slice b1 pb.length e1, .slice b2 xb.length e2] 58, var g2 [.int .i64 ha.id.boot, .int .i64 ha.id.n, .int .i64 ha.kind, .string ha.text, .int .i64 ha.attr.at_.boot, .int .i64 ha.attr.at_.n, .int .i64 ha.attr.mode, .int .u64 ha.attr.time, .int .i64 ha.size.at_.boot, .int .i64 ha.size.at_.n, .int .i64 ha.size.n, .slice a1 pa.length c1, .slice a2 xa.length c2] 58]) (fun i _ => pa.length - (intOf i).toNat)
  case atStart => exact ⟨0, ⟨none, 0, 0⟩, _, by omega, rfl, HTT, (hL.rowOff encXt w.heap.size 64).rowOff encPc w.heap.size 61⟩
  case round =>
   clear hL
   obtain ⟨k, s, T, hk, rfl, HT, hL⟩ := hrel
   by_cases hlt : k < pa.length
   ·obtain ⟨g, off, rfl, hr⟩ := hpa k hlt
    have hzp := kD (ZP1.out _ (List.getElem_mem hlt))
    have HS := kD (listed_step ([] : List Pce) pa k hlt)
    have hbn : pa.length ≤ 100000000 := by have := HN1.out; omega
    have hln : (listedD (([] : List Pce) ++ pa.take k)).length ≤ 100000000 := listed_part (by have := HN1.out; (try simp only [List.length_nil]); omega)
    have hlz := kD (listed_partZ (P := ([] : List Pce)) (l := pa) (k := k) (by simp) ZP1.out)
    have hrW0 : World.rangeAt _ g (off + k * 4) (Pce.cells pa[k]) := range_below hr hL.below
    clear hr
    generalize pa[k] = p at *
    generalize listedD (([] : List Pce) ++ pa.take k) = L at *
    have hrW : World.rangeAt _ g (off + k * 4) [.int .i64 p.idx, .int .i64 p.at_.boot, .int .i64 p.at_.n, .string p.data] := hrW0
    clear hrW0
    go_wp2_with (first
     | ((with_reducible refine qF rfl rfl ?_); refine lL rfl rfl rfl rfl hlt ?_) | ((with_reducible refine gate (N := 50) rfl ?_); refine lK rfl rfl rfl hrW (by rfl) ?_) | ((with_reducible refine gate (N := 7) rfl ?_); (refine lI rfl hL rfl cy ?_; clear hL; intro g7 w7 hL))
     | (go_at_call 173; have hq := ref11_put (.slice s.a s.n s.c) L p _ (hL.own (E := encPc) (base := w.heap.size) (e := 61) (v := s.val) (xs := L) mx).read hlz.out hzp.out (Nat.le_trans hln (by decide)); (refine hq.mono ?_); rintro e w5 ⟨u, rfl, hL5⟩; clear hq; obtain ⟨ua, uc, rfl, -⟩ := R_elem (hL5.own (.head _)).read; replace hL := hL.takeRow hL5; clear hL5)
     | ((with_reducible refine qB rfl rfl ?_); (first | (refine lC rfl hL rfl rfl vM (by rfl) ?_) | (refine lA rfl hL rfl rfl vM (by rfl) ?_))) | ((with_reducible refine qC rfl rfl ?_); (refine lH rfl hL rfl rfl rfl cy (by rfl) ?_); clear hL; intro wq hL))
    go_roundw
    case rel => exact ⟨k + 1, ⟨ua, _, uc⟩, T, by omega, by go_num, HT, by rw [HS.out]; exact hL.sub (by repeat (first | exact List.nil_sublist _ | apply List.Sublist.cons_cons | apply List.Sublist.cons))⟩
    case measure => simp [intOf]; omega
   ·obtain rfl : k = pa.length := by omega
    rw [List.take_length, List.nil_append] at hL
    obtain ⟨sp, hsp⟩ : ∃ q, q = s := ⟨_, rfl⟩
    subst hsp
    clear hlt hk
    go_wp2_with (first | ((with_reducible refine qB rfl rfl ?_); (refine lC rfl hL rfl rfl vM (by rfl) ?_)))
    go_loopw [60] (fun i wr => ∃ (k : Nat) (s : Sl), k ≤ pb.length ∧ i = .int .i64 k ∧ Loc w NoM wr [row encPc w.heap.size 61 s.val (listedD (pa ++ pb.take k)), row encXt w.heap.size 64 (.slice none 0 0) [], var g5 [.int .i64 ha.id.boot, .int .i64 ha.id.n, .int .i64 (imax ha.kind hb.kind), .string T, .int .i64 ca.at_.boot, .int .i64 ca.at_.n, .int .i64 ca.mode, .int .u64 ca.time, .int .i64 cs.at_.boot, .int .i64 cs.at_.n, .int .i64 cs.n, .slice s.a s.n s.c, .slice none 0 0] 58, var g4 [.int .i64 0, .int .i64 0, .int .i64 0, .string ByteArray.empty, .int .i64 0, .int .i64 0, .int .i64 0, .int .u64 0, .int .i64 0, .int .i64 0, .int .i64 0, .slice none 0 0, .slice none 0 0] 58, var g3 [.int .i64 hb.id.boot, .int .i64 hb.id.n, .int .i64 hb.kind, .string hb.text, .int .i64 hb.attr.at_.boot, .int .i64 hb.attr.at_.n, .int .i64 hb.attr.mode, .int .u64 hb.attr.time, .int .i64 hb.size.at_.boot, .int .i64 hb.size.at_.n, .int .i64 hb.size.n, .slice b1 pb.length e1, .slice b2 xb.length e2] 58, var g2 [.int .i64 ha.id.boot, .int .i64 ha.id.n, .int .i64 ha.kind, .string ha.text, .int .i64 ha.attr.at_.boot, .int .i64 ha.attr.at_.n, .int .i64 ha.attr.mode, .int .u64 ha.attr.time, .int .i64 ha.size.at_.boot, .int .i64 ha.size.at_.n, .int .i64 ha.size.n, .slice a1 pa.length c1, .slice a2 xa.length c2] 58]) (fun i _ => pb.length - (intOf i).toNat)
    case atStart => exact ⟨0, sp, by omega, rfl, by rw [List.take_zero, List.append_nil]; exact hL⟩
    case round =>
     clear hL
     obtain ⟨k, s, hk, rfl, hL⟩ := hrel
     by_cases hlt : k < pb.length
     ·obtain ⟨g, off, rfl, hr⟩ := hpb k hlt
      have hzp := kD (ZP2.out _ (List.getElem_mem hlt))
      have HS := kD (listed_step pa pb k hlt)
      have hbn : pb.length ≤ 100000000 := by have := HN1.out; omega
      have hln : (listedD (pa ++ pb.take k)).length ≤ 100000000 := listed_part (by have := HN1.out; (try simp only [List.length_nil]); omega)
      have hlz := kD (listed_partZ (P := pa) (l := pb) (k := k) ZP1.out ZP2.out)
      have hrW0 : World.rangeAt _ g (off + k * 4) (Pce.cells pb[k]) := range_below hr hL.below
      clear hr
      generalize pb[k] = p at *
      generalize listedD (pa ++ pb.take k) = L at *
      have hrW : World.rangeAt _ g (off + k * 4) [.int .i64 p.idx, .int .i64 p.at_.boot, .int .i64 p.at_.n, .string p.data] := hrW0
      clear hrW0
      go_wp2_with (first
       | ((with_reducible refine qF rfl rfl ?_); refine lL rfl rfl rfl rfl hlt ?_) | ((with_reducible refine gate (N := 63) rfl ?_); refine lK rfl rfl rfl hrW (by rfl) ?_) | ((with_reducible refine gate (N := 9) rfl ?_); (refine lI rfl hL rfl cy ?_; clear hL; intro g9 w9 hL))
       | (go_at_call 173; have hq := ref11_put (.slice s.a s.n s.c) L p _ (hL.own (E := encPc) (base := w.heap.size) (e := 61) (v := s.val) (xs := L) mx).read hlz.out hzp.out (Nat.le_trans hln (by decide)); (refine hq.mono ?_); rintro e w5 ⟨u, rfl, hL5⟩; clear hq; obtain ⟨ua, uc, rfl, -⟩ := R_elem (hL5.own (.head _)).read; replace hL := hL.takeRow hL5; clear hL5)
       | ((with_reducible refine qB rfl rfl ?_); (first | (refine lC rfl hL rfl rfl vM (by rfl) ?_) | (refine lA rfl hL rfl rfl vM (by rfl) ?_))) | ((with_reducible refine qC rfl rfl ?_); (refine lH rfl hL rfl rfl rfl cy (by rfl) ?_); clear hL; intro wq hL))
      go_roundw
      case rel => exact ⟨k + 1, ⟨ua, _, uc⟩, by omega, by go_num, by rw [HS.out]; exact hL.sub (by repeat (first | exact List.nil_sublist _ | apply List.Sublist.cons_cons | apply List.Sublist.cons))⟩
      case measure => simp [intOf]; omega
     ·obtain rfl : k = pb.length := by omega
      rw [List.take_length] at hL
      obtain ⟨sp, hsp⟩ : ∃ q, q = s := ⟨_, rfl⟩
      subst hsp
      clear hlt hk
      go_wp2_with (first | ((with_reducible refine qB rfl rfl ?_); (refine lC rfl hL rfl rfl vM (by rfl) ?_)))
      go_loopw [73] (fun i wr => ∃ (k : Nat) (s : Sl), k ≤ xa.length ∧ i = .int .i64 k ∧ Loc w NoM wr [row encXt w.heap.size 64 s.val (namedD (([] : List Xat) ++ xa.take k)), row encPc w.heap.size 61 sp.val (listedD (pa ++ pb)), var g5 [.int .i64 ha.id.boot, .int .i64 ha.id.n, .int .i64 (imax ha.kind hb.kind), .string T, .int .i64 ca.at_.boot, .int .i64 ca.at_.n, .int .i64 ca.mode, .int .u64 ca.time, .int .i64 cs.at_.boot, .int .i64 cs.at_.n, .int .i64 cs.n, .slice sp.a sp.n sp.c, .slice s.a s.n s.c] 58, var g4 [.int .i64 0, .int .i64 0, .int .i64 0, .string ByteArray.empty, .int .i64 0, .int .i64 0, .int .i64 0, .int .u64 0, .int .i64 0, .int .i64 0, .int .i64 0, .slice none 0 0, .slice none 0 0] 58, var g3 [.int .i64 hb.id.boot, .int .i64 hb.id.n, .int .i64 hb.kind, .string hb.text, .int .i64 hb.attr.at_.boot, .int .i64 hb.attr.at_.n, .int .i64 hb.attr.mode, .int .u64 hb.attr.time, .int .i64 hb.size.at_.boot, .int .i64 hb.size.at_.n, .int .i64 hb.size.n, .slice b1 pb.length e1, .slice b2 xb.length e2] 58, var g2 [.int .i64 ha.id.boot, .int .i64 ha.id.n, .int .i64 ha.kind, .string ha.text, .int .i64 ha.attr.at_.boot, .int .i64 ha.attr.at_.n, .int .i64 ha.attr.mode, .int .u64 ha.attr.time, .int .i64 ha.size.at_.boot, .int .i64 ha.size.at_.n, .int .i64 ha.size.n, .slice a1 pa.length c1, .slice a2 xa.length c2] 58]) (fun i _ => xa.length - (intOf i).toNat)
      case atStart => exact ⟨0, ⟨none, 0, 0⟩, by omega, rfl, hL.comm⟩
      case round =>
       clear hL
       obtain ⟨k, s, hk, rfl, hL⟩ := hrel
       by_cases hlt : k < xa.length
       ·obtain ⟨g, off, rfl, hr⟩ := hxa k hlt
        have hzp := kD (ZX1.out _ (List.getElem_mem hlt))
        have HS := kD (named_step ([] : List Xat) xa k hlt)
        have hbn : xa.length ≤ 100000000 := by have := HN2.out; omega
        have hln : (namedD (([] : List Xat) ++ xa.take k)).length ≤ 100000000 := named_part (by have := HN2.out; (try simp only [List.length_nil]); omega)
        have hlz := kD (named_partZ (P := ([] : List Xat)) (l := xa) (k := k) (by simp) ZX1.out)
        have hrW0 : World.rangeAt _ g (off + k * 5) (Xat.cells xa[k]) := range_below hr hL.below
        clear hr
        generalize xa[k] = p at *
        generalize namedD (([] : List Xat) ++ xa.take k) = L at *
        have hrW : World.rangeAt _ g (off + k * 5) [.string p.name, .int .i64 p.at_.boot, .int .i64 p.at_.n, .string p.val, .bool p.gone] := hrW0
        clear hrW0
        go_wp2_with (first
         | ((with_reducible refine qF rfl rfl ?_); refine lL rfl rfl rfl rfl hlt ?_) | ((with_reducible refine gate (N := 76) rfl ?_); refine lK rfl rfl rfl hrW (by rfl) ?_) | ((with_reducible refine gate (N := 11) rfl ?_); (refine lI rfl hL rfl cy ?_; clear hL; intro g11 w11 hL))
         | (go_at_call 174; have hq := ref11_name (.slice s.a s.n s.c) L p _ (hL.own (E := encXt) (base := w.heap.size) (e := 64) (v := s.val) (xs := L) mx).read hlz.out hzp.out (Nat.le_trans hln (by decide)); (refine hq.mono ?_); rintro e w5 ⟨u, rfl, hL5⟩; clear hq; obtain ⟨ua, uc, rfl, -⟩ := R_elem (hL5.own (.head _)).read; replace hL := hL.takeRow hL5; clear hL5)
         | ((with_reducible refine qB rfl rfl ?_); (first | (refine lC rfl hL rfl rfl vM (by rfl) ?_) | (refine lA rfl hL rfl rfl vM (by rfl) ?_))) | ((with_reducible refine qC rfl rfl ?_); (refine lH rfl hL rfl rfl rfl cy (by rfl) ?_); clear hL; intro wq hL))
        go_roundw
        case rel => exact ⟨k + 1, ⟨ua, _, uc⟩, by omega, by go_num, by rw [HS.out]; exact hL.sub (by repeat (first | exact List.nil_sublist _ | apply List.Sublist.cons_cons | apply List.Sublist.cons))⟩
        case measure => simp [intOf]; omega
       ·obtain rfl : k = xa.length := by omega
        rw [List.take_length, List.nil_append] at hL
        obtain ⟨sx, hsx⟩ : ∃ q, q = s := ⟨_, rfl⟩
        subst hsx
        clear hlt hk
        go_wp2_with (first | ((with_reducible refine qB rfl rfl ?_); (refine lC rfl hL rfl rfl vM (by rfl) ?_)))
        go_loopw [86] (fun i wr => ∃ (k : Nat) (s : Sl), k ≤ xb.length ∧ i = .int .i64 k ∧ Loc w NoM wr [row encXt w.heap.size 64 s.val (namedD (xa ++ xb.take k)), row encPc w.heap.size 61 sp.val (listedD (pa ++ pb)), var g5 [.int .i64 ha.id.boot, .int .i64 ha.id.n, .int .i64 (imax ha.kind hb.kind), .string T, .int .i64 ca.at_.boot, .int .i64 ca.at_.n, .int .i64 ca.mode, .int .u64 ca.time, .int .i64 cs.at_.boot, .int .i64 cs.at_.n, .int .i64 cs.n, .slice sp.a sp.n sp.c, .slice s.a s.n s.c] 58, var g4 [.int .i64 0, .int .i64 0, .int .i64 0, .string ByteArray.empty, .int .i64 0, .int .i64 0, .int .i64 0, .int .u64 0, .int .i64 0, .int .i64 0, .int .i64 0, .slice none 0 0, .slice none 0 0] 58, var g3 [.int .i64 hb.id.boot, .int .i64 hb.id.n, .int .i64 hb.kind, .string hb.text, .int .i64 hb.attr.at_.boot, .int .i64 hb.attr.at_.n, .int .i64 hb.attr.mode, .int .u64 hb.attr.time, .int .i64 hb.size.at_.boot, .int .i64 hb.size.at_.n, .int .i64 hb.size.n, .slice b1 pb.length e1, .slice b2 xb.length e2] 58, var g2 [.int .i64 ha.id.boot, .int .i64 ha.id.n, .int .i64 ha.kind, .string ha.text, .int .i64 ha.attr.at_.boot, .int .i64 ha.attr.at_.n, .int .i64 ha.attr.mode, .int .u64 ha.attr.time, .int .i64 ha.size.at_.boot, .int .i64 ha.size.at_.n, .int .i64 ha.size.n, .slice a1 pa.length c1, .slice a2 xa.length c2] 58]) (fun i _ => xb.length - (intOf i).toNat)
        case atStart => exact ⟨0, sx, by omega, rfl, by rw [List.take_zero, List.append_nil]; exact hL⟩
        case round =>
         clear hL
         obtain ⟨k, s, hk, rfl, hL⟩ := hrel
         by_cases hlt : k < xb.length
         ·obtain ⟨g, off, rfl, hr⟩ := hxb k hlt
          have hzp := kD (ZX2.out _ (List.getElem_mem hlt))
          have HS := kD (named_step xa xb k hlt)
          have hbn : xb.length ≤ 100000000 := by have := HN2.out; omega
          have hln : (namedD (xa ++ xb.take k)).length ≤ 100000000 := named_part (by have := HN2.out; (try simp only [List.length_nil]); omega)
          have hlz := kD (named_partZ (P := xa) (l := xb) (k := k) ZX1.out ZX2.out)
          have hrW0 : World.rangeAt _ g (off + k * 5) (Xat.cells xb[k]) := range_below hr hL.below
          clear hr
          generalize xb[k] = p at *
          generalize namedD (xa ++ xb.take k) = L at *
          have hrW : World.rangeAt _ g (off + k * 5) [.string p.name, .int .i64 p.at_.boot, .int .i64 p.at_.n, .string p.val, .bool p.gone] := hrW0
          clear hrW0
          go_wp2_with (first
           | ((with_reducible refine qF rfl rfl ?_); refine lL rfl rfl rfl rfl hlt ?_) | ((with_reducible refine gate (N := 89) rfl ?_); refine lK rfl rfl rfl hrW (by rfl) ?_) | ((with_reducible refine gate (N := 13) rfl ?_); (refine lI rfl hL rfl cy ?_; clear hL; intro g13 w13 hL))
           | (go_at_call 174; have hq := ref11_name (.slice s.a s.n s.c) L p _ (hL.own (E := encXt) (base := w.heap.size) (e := 64) (v := s.val) (xs := L) mx).read hlz.out hzp.out (Nat.le_trans hln (by decide)); (refine hq.mono ?_); rintro e w5 ⟨u, rfl, hL5⟩; clear hq; obtain ⟨ua, uc, rfl, -⟩ := R_elem (hL5.own (.head _)).read; replace hL := hL.takeRow hL5; clear hL5)
           | ((with_reducible refine qB rfl rfl ?_); (first | (refine lC rfl hL rfl rfl vM (by rfl) ?_) | (refine lA rfl hL rfl rfl vM (by rfl) ?_))) | ((with_reducible refine qC rfl rfl ?_); (refine lH rfl hL rfl rfl rfl cy (by rfl) ?_); clear hL; intro wq hL))
          go_roundw
          case rel => exact ⟨k + 1, ⟨ua, _, uc⟩, by omega, by go_num, by rw [HS.out]; exact hL.sub (by repeat (first | exact List.nil_sublist _ | apply List.Sublist.cons_cons | apply List.Sublist.cons))⟩
          case measure => simp [intOf]; omega
         ·obtain rfl : k = xb.length := by omega
          rw [List.take_length] at hL
          obtain ⟨sx, hsx⟩ : ∃ q, q = s := ⟨_, rfl⟩
          subst hsx
          clear hlt hk
          go_wp2_with (first | ((with_reducible refine qB rfl rfl ?_); (refine lA rfl hL rfl rfl vM (by rfl) ?_)) | ((with_reducible refine qC rfl rfl ?_); (refine lH rfl hL rfl rfl rfl cy (by rfl) ?_); clear hL; intro wq hL))
          refine bodyPost_ret (res_cell rfl hL _ rfl vM (by rfl)) rfl ⟨⟨⟨ha.id, imax ha.kind hb.kind, T, ca, cs⟩, sp, sx⟩, rfl, HO.out _ T ca cs rfl HT.out HCA.out HCS.out, ?_⟩
          rw [HPP.out, HXX.out]
          have hF : Loc w NoM _ [row encXt w.heap.size 64 sx.val (namedD (xa ++ xb)), row encPc w.heap.size 61 sp.val (listedD (pa ++ pb))] := hL.sub (by repeat (first | exact List.nil_sublist _ | apply List.Sublist.cons_cons | apply List.Sublist.cons))
          exact hF.comm
 ·have HTT : Hid (hb.text = smax ha.text hb.text) := kD (by unfold smax; rw [hr]; rfl)
  clear hr
  go_enter Tryz.func102, Tryz.ntmps102
  go_wp2_with (first
   | ((with_reducible refine gate (N := 2) rfl ?_); (refine lJ rfl hL rfl rfl cy ?_; clear hL; intro g2 w2 hL)) | ((with_reducible refine gate (N := 3) rfl ?_); (refine lJ rfl hL rfl rfl cy ?_; clear hL; intro g3 w3 hL)) | ((with_reducible refine gate (N := 4) rfl ?_); (refine lI rfl hL rfl cy ?_; clear hL; intro g4 w4 hL)) | ((with_reducible refine gate (N := 5) rfl ?_); (refine lI rfl hL rfl cy ?_; clear hL; intro g5 w5 hL))
   | ((with_reducible refine gate (N := 20) rfl ?_); refine ev_maxI rfl rfl rfl rfl ?_)
   | (go_at_call 170; (with_reducible refine (hls.out _).mono ?_); rintro e w13 ⟨rfl, hb13⟩; have hL := hL.call hb13; clear hb13)
   | (go_at_call 171; (with_reducible refine (hga.out _).mono ?_); rintro e w14 ⟨⟨ca, eca, rfl⟩, hb14⟩; have HCA := kD eca; clear eca; have hL := hL.call hb14; clear hb14)
   | (go_at_call 172; (with_reducible refine (hgs.out _).mono ?_); rintro e w15 ⟨⟨cs, ecs, rfl⟩, hb15⟩; have HCS := kD ecs; clear ecs; have hL := hL.call hb15; clear hb15)
   | ((with_reducible refine qB rfl rfl ?_); (first | (refine lC rfl hL rfl rfl vM (by rfl) ?_) | (refine lF rfl hL rfl rfl vM SegC.seg ?_))) | ((with_reducible refine qC rfl rfl ?_); (refine lH rfl hL rfl rfl rfl cy (by rfl) ?_); clear hL; intro wq hL))
  go_loopw [47] (fun i wr => ∃ (k : Nat) (s : Sl) (T : ByteArray), k ≤ pa.length ∧ i = .int .i64 k ∧ Hid (T = smax ha.text hb.text) ∧ Loc w NoM wr [row encPc w.heap.size 61 s.val (listedD (([] : List Pce) ++ pa.take k)), row encXt w.heap.size 64 (.slice none 0 0) [], var g5 [.int .i64 ha.id.boot, .int .i64 ha.id.n, .int .i64 (imax ha.kind hb.kind), .string T, .int .i64 ca.at_.boot, .int .i64 ca.at_.n, .int .i64 ca.mode, .int .u64 ca.time, .int .i64 cs.at_.boot, .int .i64 cs.at_.n, .int .i64 cs.n, .slice s.a s.n s.c, .slice none 0 0] 58, var g4 [.int .i64 0, .int .i64 0, .int .i64 0, .string ByteArray.empty, .int .i64 0, .int .i64 0, .int .i64 0, .int .u64 0, .int .i64 0, .int .i64 0, .int .i64 0, .slice none 0 0, .slice none 0 0] 58, var g3 [.int .i64 hb.id.boot, .int .i64 hb.id.n, .int .i64 hb.kind, .string hb.text, .int .i64 hb.attr.at_.boot, .int .i64 hb.attr.at_.n, .int .i64 hb.attr.mode, .int .u64 hb.attr.time, .int .i64 hb.size.at_.boot, .int .i64 hb.size.at_.n, .int .i64 hb.size.n, .slice b1 pb.length e1, .slice b2 xb.length e2] 58, var g2 [.int .i64 ha.id.boot, .int .i64 ha.id.n, .int .i64 ha.kind, .string ha.text, .int .i64 ha.attr.at_.boot, .int .i64 ha.attr.at_.n, .int .i64 ha.attr.mode, .int .u64 ha.attr.time, .int .i64 ha.size.at_.boot, .int .i64 ha.size.at_.n, .int .i64 ha.size.n, .slice a1 pa.length c1, .slice a2 xa.length c2] 58]) (fun i _ => pa.length - (intOf i).toNat)
  case atStart => exact ⟨0, ⟨none, 0, 0⟩, _, by omega, rfl, HTT, (hL.rowOff encXt w.heap.size 64).rowOff encPc w.heap.size 61⟩
  case round =>
   clear hL
   obtain ⟨k, s, T, hk, rfl, HT, hL⟩ := hrel
   by_cases hlt : k < pa.length
   ·obtain ⟨g, off, rfl, hr⟩ := hpa k hlt
    have hzp := kD (ZP1.out _ (List.getElem_mem hlt))
    have HS := kD (listed_step ([] : List Pce) pa k hlt)
    have hbn : pa.length ≤ 100000000 := by have := HN1.out; omega
    have hln : (listedD (([] : List Pce) ++ pa.take k)).length ≤ 100000000 := listed_part (by have := HN1.out; (try simp only [List.length_nil]); omega)
    have hlz := kD (listed_partZ (P := ([] : List Pce)) (l := pa) (k := k) (by simp) ZP1.out)
    have hrW0 : World.rangeAt _ g (off + k * 4) (Pce.cells pa[k]) := range_below hr hL.below
    clear hr
    generalize pa[k] = p at *
    generalize listedD (([] : List Pce) ++ pa.take k) = L at *
    have hrW : World.rangeAt _ g (off + k * 4) [.int .i64 p.idx, .int .i64 p.at_.boot, .int .i64 p.at_.n, .string p.data] := hrW0
    clear hrW0
    go_wp2_with (first
     | ((with_reducible refine qF rfl rfl ?_); refine lL rfl rfl rfl rfl hlt ?_) | ((with_reducible refine gate (N := 50) rfl ?_); refine lK rfl rfl rfl hrW (by rfl) ?_) | ((with_reducible refine gate (N := 7) rfl ?_); (refine lI rfl hL rfl cy ?_; clear hL; intro g7 w7 hL))
     | (go_at_call 173; have hq := ref11_put (.slice s.a s.n s.c) L p _ (hL.own (E := encPc) (base := w.heap.size) (e := 61) (v := s.val) (xs := L) mx).read hlz.out hzp.out (Nat.le_trans hln (by decide)); (refine hq.mono ?_); rintro e w5 ⟨u, rfl, hL5⟩; clear hq; obtain ⟨ua, uc, rfl, -⟩ := R_elem (hL5.own (.head _)).read; replace hL := hL.takeRow hL5; clear hL5)
     | ((with_reducible refine qB rfl rfl ?_); (first | (refine lC rfl hL rfl rfl vM (by rfl) ?_) | (refine lA rfl hL rfl rfl vM (by rfl) ?_))) | ((with_reducible refine qC rfl rfl ?_); (refine lH rfl hL rfl rfl rfl cy (by rfl) ?_); clear hL; intro wq hL))
    go_roundw
    case rel => exact ⟨k + 1, ⟨ua, _, uc⟩, T, by omega, by go_num, HT, by rw [HS.out]; exact hL.sub (by repeat (first | exact List.nil_sublist _ | apply List.Sublist.cons_cons | apply List.Sublist.cons))⟩
    case measure => simp [intOf]; omega
   ·obtain rfl : k = pa.length := by omega
    rw [List.take_length, List.nil_append] at hL
    obtain ⟨sp, hsp⟩ : ∃ q, q = s := ⟨_, rfl⟩
    subst hsp
    clear hlt hk
    go_wp2_with (first | ((with_reducible refine qB rfl rfl ?_); (refine lC rfl hL rfl rfl vM (by rfl) ?_)))
    go_loopw [60] (fun i wr => ∃ (k : Nat) (s : Sl), k ≤ pb.length ∧ i = .int .i64 k ∧ Loc w NoM wr [row encPc w.heap.size 61 s.val (listedD (pa ++ pb.take k)), row encXt w.heap.size 64 (.slice none 0 0) [], var g5 [.int .i64 ha.id.boot, .int .i64 ha.id.n, .int .i64 (imax ha.kind hb.kind), .string T, .int .i64 ca.at_.boot, .int .i64 ca.at_.n, .int .i64 ca.mode, .int .u64 ca.time, .int .i64 cs.at_.boot, .int .i64 cs.at_.n, .int .i64 cs.n, .slice s.a s.n s.c, .slice none 0 0] 58, var g4 [.int .i64 0, .int .i64 0, .int .i64 0, .string ByteArray.empty, .int .i64 0, .int .i64 0, .int .i64 0, .int .u64 0, .int .i64 0, .int .i64 0, .int .i64 0, .slice none 0 0, .slice none 0 0] 58, var g3 [.int .i64 hb.id.boot, .int .i64 hb.id.n, .int .i64 hb.kind, .string hb.text, .int .i64 hb.attr.at_.boot, .int .i64 hb.attr.at_.n, .int .i64 hb.attr.mode, .int .u64 hb.attr.time, .int .i64 hb.size.at_.boot, .int .i64 hb.size.at_.n, .int .i64 hb.size.n, .slice b1 pb.length e1, .slice b2 xb.length e2] 58, var g2 [.int .i64 ha.id.boot, .int .i64 ha.id.n, .int .i64 ha.kind, .string ha.text, .int .i64 ha.attr.at_.boot, .int .i64 ha.attr.at_.n, .int .i64 ha.attr.mode, .int .u64 ha.attr.time, .int .i64 ha.size.at_.boot, .int .i64 ha.size.at_.n, .int .i64 ha.size.n, .slice a1 pa.length c1, .slice a2 xa.length c2] 58]) (fun i _ => pb.length - (intOf i).toNat)
    case atStart => exact ⟨0, sp, by omega, rfl, by rw [List.take_zero, List.append_nil]; exact hL⟩
    case round =>
     clear hL
     obtain ⟨k, s, hk, rfl, hL⟩ := hrel
     by_cases hlt : k < pb.length
     ·obtain ⟨g, off, rfl, hr⟩ := hpb k hlt
      have hzp := kD (ZP2.out _ (List.getElem_mem hlt))
      have HS := kD (listed_step pa pb k hlt)
      have hbn : pb.length ≤ 100000000 := by have := HN1.out; omega
      have hln : (listedD (pa ++ pb.take k)).length ≤ 100000000 := listed_part (by have := HN1.out; (try simp only [List.length_nil]); omega)
      have hlz := kD (listed_partZ (P := pa) (l := pb) (k := k) ZP1.out ZP2.out)
      have hrW0 : World.rangeAt _ g (off + k * 4) (Pce.cells pb[k]) := range_below hr hL.below
      clear hr
      generalize pb[k] = p at *
      generalize listedD (pa ++ pb.take k) = L at *
      have hrW : World.rangeAt _ g (off + k * 4) [.int .i64 p.idx, .int .i64 p.at_.boot, .int .i64 p.at_.n, .string p.data] := hrW0
      clear hrW0
      go_wp2_with (first
       | ((with_reducible refine qF rfl rfl ?_); refine lL rfl rfl rfl rfl hlt ?_) | ((with_reducible refine gate (N := 63) rfl ?_); refine lK rfl rfl rfl hrW (by rfl) ?_) | ((with_reducible refine gate (N := 9) rfl ?_); (refine lI rfl hL rfl cy ?_; clear hL; intro g9 w9 hL))
       | (go_at_call 173; have hq := ref11_put (.slice s.a s.n s.c) L p _ (hL.own (E := encPc) (base := w.heap.size) (e := 61) (v := s.val) (xs := L) mx).read hlz.out hzp.out (Nat.le_trans hln (by decide)); (refine hq.mono ?_); rintro e w5 ⟨u, rfl, hL5⟩; clear hq; obtain ⟨ua, uc, rfl, -⟩ := R_elem (hL5.own (.head _)).read; replace hL := hL.takeRow hL5; clear hL5)
       | ((with_reducible refine qB rfl rfl ?_); (first | (refine lC rfl hL rfl rfl vM (by rfl) ?_) | (refine lA rfl hL rfl rfl vM (by rfl) ?_))) | ((with_reducible refine qC rfl rfl ?_); (refine lH rfl hL rfl rfl rfl cy (by rfl) ?_); clear hL; intro wq hL))
      go_roundw
      case rel => exact ⟨k + 1, ⟨ua, _, uc⟩, by omega, by go_num, by rw [HS.out]; exact hL.sub (by repeat (first | exact List.nil_sublist _ | apply List.Sublist.cons_cons | apply List.Sublist.cons))⟩
      case measure => simp [intOf]; omega
     ·obtain rfl : k = pb.length := by omega
      rw [List.take_length] at hL
      obtain ⟨sp, hsp⟩ : ∃ q, q = s := ⟨_, rfl⟩
      subst hsp
      clear hlt hk
      go_wp2_with (first | ((with_reducible refine qB rfl rfl ?_); (refine lC rfl hL rfl rfl vM (by rfl) ?_)))
      go_loopw [73] (fun i wr => ∃ (k : Nat) (s : Sl), k ≤ xa.length ∧ i = .int .i64 k ∧ Loc w NoM wr [row encXt w.heap.size 64 s.val (namedD (([] : List Xat) ++ xa.take k)), row encPc w.heap.size 61 sp.val (listedD (pa ++ pb)), var g5 [.int .i64 ha.id.boot, .int .i64 ha.id.n, .int .i64 (imax ha.kind hb.kind), .string T, .int .i64 ca.at_.boot, .int .i64 ca.at_.n, .int .i64 ca.mode, .int .u64 ca.time, .int .i64 cs.at_.boot, .int .i64 cs.at_.n, .int .i64 cs.n, .slice sp.a sp.n sp.c, .slice s.a s.n s.c] 58, var g4 [.int .i64 0, .int .i64 0, .int .i64 0, .string ByteArray.empty, .int .i64 0, .int .i64 0, .int .i64 0, .int .u64 0, .int .i64 0, .int .i64 0, .int .i64 0, .slice none 0 0, .slice none 0 0] 58, var g3 [.int .i64 hb.id.boot, .int .i64 hb.id.n, .int .i64 hb.kind, .string hb.text, .int .i64 hb.attr.at_.boot, .int .i64 hb.attr.at_.n, .int .i64 hb.attr.mode, .int .u64 hb.attr.time, .int .i64 hb.size.at_.boot, .int .i64 hb.size.at_.n, .int .i64 hb.size.n, .slice b1 pb.length e1, .slice b2 xb.length e2] 58, var g2 [.int .i64 ha.id.boot, .int .i64 ha.id.n, .int .i64 ha.kind, .string ha.text, .int .i64 ha.attr.at_.boot, .int .i64 ha.attr.at_.n, .int .i64 ha.attr.mode, .int .u64 ha.attr.time, .int .i64 ha.size.at_.boot, .int .i64 ha.size.at_.n, .int .i64 ha.size.n, .slice a1 pa.length c1, .slice a2 xa.length c2] 58]) (fun i _ => xa.length - (intOf i).toNat)
      case atStart => exact ⟨0, ⟨none, 0, 0⟩, by omega, rfl, hL.comm⟩
      case round =>
       clear hL
       obtain ⟨k, s, hk, rfl, hL⟩ := hrel
       by_cases hlt : k < xa.length
       ·obtain ⟨g, off, rfl, hr⟩ := hxa k hlt
        have hzp := kD (ZX1.out _ (List.getElem_mem hlt))
        have HS := kD (named_step ([] : List Xat) xa k hlt)
        have hbn : xa.length ≤ 100000000 := by have := HN2.out; omega
        have hln : (namedD (([] : List Xat) ++ xa.take k)).length ≤ 100000000 := named_part (by have := HN2.out; (try simp only [List.length_nil]); omega)
        have hlz := kD (named_partZ (P := ([] : List Xat)) (l := xa) (k := k) (by simp) ZX1.out)
        have hrW0 : World.rangeAt _ g (off + k * 5) (Xat.cells xa[k]) := range_below hr hL.below
        clear hr
        generalize xa[k] = p at *
        generalize namedD (([] : List Xat) ++ xa.take k) = L at *
        have hrW : World.rangeAt _ g (off + k * 5) [.string p.name, .int .i64 p.at_.boot, .int .i64 p.at_.n, .string p.val, .bool p.gone] := hrW0
        clear hrW0
        go_wp2_with (first
         | ((with_reducible refine qF rfl rfl ?_); refine lL rfl rfl rfl rfl hlt ?_) | ((with_reducible refine gate (N := 76) rfl ?_); refine lK rfl rfl rfl hrW (by rfl) ?_) | ((with_reducible refine gate (N := 11) rfl ?_); (refine lI rfl hL rfl cy ?_; clear hL; intro g11 w11 hL))
         | (go_at_call 174; have hq := ref11_name (.slice s.a s.n s.c) L p _ (hL.own (E := encXt) (base := w.heap.size) (e := 64) (v := s.val) (xs := L) mx).read hlz.out hzp.out (Nat.le_trans hln (by decide)); (refine hq.mono ?_); rintro e w5 ⟨u, rfl, hL5⟩; clear hq; obtain ⟨ua, uc, rfl, -⟩ := R_elem (hL5.own (.head _)).read; replace hL := hL.takeRow hL5; clear hL5)
         | ((with_reducible refine qB rfl rfl ?_); (first | (refine lC rfl hL rfl rfl vM (by rfl) ?_) | (refine lA rfl hL rfl rfl vM (by rfl) ?_))) | ((with_reducible refine qC rfl rfl ?_); (refine lH rfl hL rfl rfl rfl cy (by rfl) ?_); clear hL; intro wq hL))
        go_roundw
        case rel => exact ⟨k + 1, ⟨ua, _, uc⟩, by omega, by go_num, by rw [HS.out]; exact hL.sub (by repeat (first | exact List.nil_sublist _ | apply List.Sublist.cons_cons | apply List.Sublist.cons))⟩
        case measure => simp [intOf]; omega
       ·obtain rfl : k = xa.length := by omega
        rw [List.take_length, List.nil_append] at hL
        obtain ⟨sx, hsx⟩ : ∃ q, q = s := ⟨_, rfl⟩
        subst hsx
        clear hlt hk
        go_wp2_with (first | ((with_reducible refine qB rfl rfl ?_); (refine lC rfl hL rfl rfl vM (by rfl) ?_)))
        go_loopw [86] (fun i wr => ∃ (k : Nat) (s : Sl), k ≤ xb.length ∧ i = .int .i64 k ∧ Loc w NoM wr [row encXt w.heap.size 64 s.val (namedD (xa ++ xb.take k)), row encPc w.heap.size 61 sp.val (listedD (pa ++ pb)), var g5 [.int .i64 ha.id.boot, .int .i64 ha.id.n, .int .i64 (imax ha.kind hb.kind), .string T, .int .i64 ca.at_.boot, .int .i64 ca.at_.n, .int .i64 ca.mode, .int .u64 ca.time, .int .i64 cs.at_.boot, .int .i64 cs.at_.n, .int .i64 cs.n, .slice sp.a sp.n sp.c, .slice s.a s.n s.c] 58, var g4 [.int .i64 0, .int .i64 0, .int .i64 0, .string ByteArray.empty, .int .i64 0, .int .i64 0, .int .i64 0, .int .u64 0, .int .i64 0, .int .i64 0, .int .i64 0, .slice none 0 0, .slice none 0 0] 58, var g3 [.int .i64 hb.id.boot, .int .i64 hb.id.n, .int .i64 hb.kind, .string hb.text, .int .i64 hb.attr.at_.boot, .int .i64 hb.attr.at_.n, .int .i64 hb.attr.mode, .int .u64 hb.attr.time, .int .i64 hb.size.at_.boot, .int .i64 hb.size.at_.n, .int .i64 hb.size.n, .slice b1 pb.length e1, .slice b2 xb.length e2] 58, var g2 [.int .i64 ha.id.boot, .int .i64 ha.id.n, .int .i64 ha.kind, .string ha.text, .int .i64 ha.attr.at_.boot, .int .i64 ha.attr.at_.n, .int .i64 ha.attr.mode, .int .u64 ha.attr.time, .int .i64 ha.size.at_.boot, .int .i64 ha.size.at_.n, .int .i64 ha.size.n, .slice a1 pa.length c1, .slice a2 xa.length c2] 58]) (fun i _ => xb.length - (intOf i).toNat)
        case atStart => exact ⟨0, sx, by omega, rfl, by rw [List.take_zero, List.append_nil]; exact hL⟩
        case round =>
         clear hL
         obtain ⟨k, s, hk, rfl, hL⟩ := hrel
         by_cases hlt : k < xb.length
         ·obtain ⟨g, off, rfl, hr⟩ := hxb k hlt
          have hzp := kD (ZX2.out _ (List.getElem_mem hlt))
          have HS := kD (named_step xa xb k hlt)
          have hbn : xb.length ≤ 100000000 := by have := HN2.out; omega
          have hln : (namedD (xa ++ xb.take k)).length ≤ 100000000 := named_part (by have := HN2.out; (try simp only [List.length_nil]); omega)
          have hlz := kD (named_partZ (P := xa) (l := xb) (k := k) ZX1.out ZX2.out)
          have hrW0 : World.rangeAt _ g (off + k * 5) (Xat.cells xb[k]) := range_below hr hL.below
          clear hr
          generalize xb[k] = p at *
          generalize namedD (xa ++ xb.take k) = L at *
          have hrW : World.rangeAt _ g (off + k * 5) [.string p.name, .int .i64 p.at_.boot, .int .i64 p.at_.n, .string p.val, .bool p.gone] := hrW0
          clear hrW0
          go_wp2_with (first
           | ((with_reducible refine qF rfl rfl ?_); refine lL rfl rfl rfl rfl hlt ?_) | ((with_reducible refine gate (N := 89) rfl ?_); refine lK rfl rfl rfl hrW (by rfl) ?_) | ((with_reducible refine gate (N := 13) rfl ?_); (refine lI rfl hL rfl cy ?_; clear hL; intro g13 w13 hL))
           | (go_at_call 174; have hq := ref11_name (.slice s.a s.n s.c) L p _ (hL.own (E := encXt) (base := w.heap.size) (e := 64) (v := s.val) (xs := L) mx).read hlz.out hzp.out (Nat.le_trans hln (by decide)); (refine hq.mono ?_); rintro e w5 ⟨u, rfl, hL5⟩; clear hq; obtain ⟨ua, uc, rfl, -⟩ := R_elem (hL5.own (.head _)).read; replace hL := hL.takeRow hL5; clear hL5)
           | ((with_reducible refine qB rfl rfl ?_); (first | (refine lC rfl hL rfl rfl vM (by rfl) ?_) | (refine lA rfl hL rfl rfl vM (by rfl) ?_))) | ((with_reducible refine qC rfl rfl ?_); (refine lH rfl hL rfl rfl rfl cy (by rfl) ?_); clear hL; intro wq hL))
          go_roundw
          case rel => exact ⟨k + 1, ⟨ua, _, uc⟩, by omega, by go_num, by rw [HS.out]; exact hL.sub (by repeat (first | exact List.nil_sublist _ | apply List.Sublist.cons_cons | apply List.Sublist.cons))⟩
          case measure => simp [intOf]; omega
         ·obtain rfl : k = xb.length := by omega
          rw [List.take_length] at hL
          obtain ⟨sx, hsx⟩ : ∃ q, q = s := ⟨_, rfl⟩
          subst hsx
          clear hlt hk
          go_wp2_with (first | ((with_reducible refine qB rfl rfl ?_); (refine lA rfl hL rfl rfl vM (by rfl) ?_)) | ((with_reducible refine qC rfl rfl ?_); (refine lH rfl hL rfl rfl rfl cy (by rfl) ?_); clear hL; intro wq hL))
          refine bodyPost_ret (res_cell rfl hL _ rfl vM (by rfl)) rfl ⟨⟨⟨ha.id, imax ha.kind hb.kind, T, ca, cs⟩, sp, sx⟩, rfl, HO.out _ T ca cs rfl HT.out HCA.out HCS.out, ?_⟩
          rw [HPP.out, HXX.out]
          have hF : Loc w NoM _ [row encXt w.heap.size 64 sx.val (namedD (xa ++ xb)), row encPc w.heap.size 61 sp.val (listedD (pa ++ pb))] := hL.sub (by repeat (first | exact List.nil_sublist _ | apply List.Sublist.cons_cons | apply List.Sublist.cons))
          exact hF.comm
end Go.Proofs.YtebpacmhdkgfeaaGreat

namespace Go.Proofs.YtebpacmhdkgfeaaGreat
open Go.RowKit
set_option maxHeartbeats 16000000
set_option maxRecDepth 20000
theorem mem_new {L New ns : List Nd} {y : Nd} (h : ∀ n ∈ L, n ∈ New ∨ n ∈ ns) : ∀ n ∈ L ++ [y], n ∈ (y :: New) ∨ n ∈ ns := fun n hn => (List.mem_append.1 hn).elim (fun hn => (h n hn).imp (.tail _) fun h => h) fun hn => .inl (by rw [List.mem_singleton.1 hn]; exact .head _)
theorem mem_old {L New ns : List Nd} {y : Nd} (h : ∀ n ∈ L, n ∈ New ∨ n ∈ ns) (hy : y ∈ ns) : ∀ n ∈ L ++ [y], n ∈ New ∨ n ∈ ns := fun n hn => (List.mem_append.1 hn).elim (h n) fun hn => .inr (by rw [List.mem_singleton.1 hn]; exact hy)
theorem ref11_node1 (v : Value) (ns : List Nd) (x : Ino) (d : InoD) (w w00 : World) (h : encN.R w v ns) (hO : ∀ n ∈ ns, n.s.Ok w n.d) (hx : x.Ok w d) (hz : ∀ n ∈ ns, n.d.Z) (hzd : d.Z) (hl : ∀ n ∈ ns, n.d.ps.length + d.ps.length ≤ 100000000 ∧ n.d.xs.length + d.xs.length ≤ 100000000) (hld : d.ps.length + d.ps.length ≤ 100000000 ∧ d.xs.length + d.xs.length ≤ 100000000) (hn : ns.length ≤ 1000000000) :
  Calls Tryz.prog 40 #[v, .agg (Ino.cells x).toArray] w fun e w' => ∃ u, e = .returned u ∧ ∃ F New L, L.map (·.d) = Stab.rins InoD.lt InoD.norm InoD.one d false (ns.map (·.d)) ∧ (∀ n ∈ L, n ∈ New ∨ n ∈ ns) ∧ Loc w NoM w' [row encN w.heap.size 58 u L, nest w00 F New] := by
 have hL := Loc.nil w NoM
 obtain ⟨ao, c0, rfl, hel⟩ := R_elem h
 obtain ⟨xh, ⟨xp, xpn, xpc⟩, ⟨xx, xxn, xxc⟩⟩ := x
 have HO := kD hO; have HX := kD hx; have HZ := kD hz; have HZD := kD hzd; have HLN := kD hl; have HLD := kD hld
 have hk2 : d.hd.id = xh.id := by rw [← hx.hd]
 have HK2 := kD hk2
 clear h hO hx hz hzd hl hld hk2
 replace hel : ∀ (i : Nat) (hi : i < ns.length), ∃ g off, ao = some ⟨g, off, none⟩ ∧ w.rangeAt g (off + i * 13) (Ino.cells ns[i].s) := hel
 unfold Ino.cells
 simp only
 go_enter Tryz.func40, Tryz.ntmps40
 go_wp2_with (first | ((with_reducible refine gate (N := 3) rfl ?_); (refine lJ rfl hL rfl rfl cy ?_; clear hL; intro g3 w3 hL)))
 go_loopw [5, 6, 11] (fun s dd i wr => ∃ (k : Nat) (vs : Value) (dn : Bool) (L : List Nd) (F : Nat → Prop) (New : List Nd), k ≤ ns.length ∧ i = .int .i64 k ∧ dd = .bool dn ∧ s = vs ∧ L.length ≤ 2 * k ∧ Hid (Stab.rins InoD.lt InoD.norm InoD.one d false (ns.map (·.d)) = L.map (·.d) ++ Stab.rins InoD.lt InoD.norm InoD.one d dn ((ns.map (·.d)).drop k)) ∧ Hid (∀ n ∈ L, n ∈ New ∨ n ∈ ns) ∧ Loc w NoM wr [nest w00 F New, row encN w.heap.size 58 vs L, var g3 [.int .i64 xh.id.boot, .int .i64 xh.id.n, .int .i64 xh.kind, .string xh.text, .int .i64 xh.attr.at_.boot, .int .i64 xh.attr.at_.n, .int .i64 xh.attr.mode, .int .u64 xh.attr.time, .int .i64 xh.size.at_.boot, .int .i64 xh.size.at_.n, .int .i64 xh.size.n, .slice xp xpn xpc, .slice xx xxn xxc] 58]) (fun _ _ i _ => ns.length - (intOf i).toNat)
 case atStart => exact ⟨0, _, false, [], (fun _ => False), [], by omega, rfl, rfl, rfl, by simp, kD (Stab.ins_start _ _ _ _), kD (by simp), (hL.rowOff encN w.heap.size 58).nestOld (w00 := w00) (L := []) (by simp)⟩
 case round =>
  clear hL
  obtain ⟨k, vs, dn, L, F, New, hk, rfl, rfl, rfl, hlen, HS, HM, hL⟩ := hrel
  by_cases hlt : k < ns.length
  ·obtain ⟨g, off, rfl, hr⟩ := hel k hlt
   have hlt' : k < (ns.map (·.d)).length := by rw [List.length_map]; exact hlt
   have HZP := kD (HZ.out _ (List.getElem_mem hlt))
   have HLP := kD (HLN.out _ (List.getElem_mem hlt))
   have HOP := kD (HO.out _ (List.getElem_mem hlt))
   have HMP := kD (List.getElem_mem hlt)
   have hk1 : ns[k].d.hd.id = ns[k].s.hd.id := by rw [HOP.out.hd]
   have he1 := fun h => Stab.ins_same HS.out hlt' h
   have he2 := fun h e => Stab.ins_new (dn_false e HS.out) hlt' h
   have he3 := fun h => Stab.ins_skip HS.out hlt' h
   simp only [List.getElem_map] at he1 he2 he3
   have HE1 := kD he1; have HE2 := kD he2; have HE3 := kD he3
   have HK1 := kD hk1
   have hrW0 : World.rangeAt _ g (off + k * 13) (Ino.cells ns[k].s) := range_below hr hL.below
   clear hr he1 he2 he3 hk1
   generalize ns[k] = n at *
   have hrW : World.rangeAt _ g (off + k * 13) [.int .i64 n.s.hd.id.boot, .int .i64 n.s.hd.id.n, .int .i64 n.s.hd.kind, .string n.s.hd.text, .int .i64 n.s.hd.attr.at_.boot, .int .i64 n.s.hd.attr.at_.n, .int .i64 n.s.hd.attr.mode, .int .u64 n.s.hd.attr.time, .int .i64 n.s.hd.size.at_.boot, .int .i64 n.s.hd.size.at_.n, .int .i64 n.s.hd.size.n, .slice n.s.p.a n.s.p.n n.s.p.c, .slice n.s.x.a n.s.x.n n.s.x.c] := hrW0
   clear hrW0
   by_cases h1 : n.s.hd.id = xh.id
   ·have q1 := stampE n.s.hd.id xh.id (decide_eq_true h1)
    have HS2 := kD (HE1.out (InoD.eqv_iff.2 (by rw [HK1.out, HK2.out]; exact h1)))
    clear HS HE1 HE2 HE3 h1
    go_wp2_with (first
     | ((with_reducible refine qF rfl rfl ?_); refine lL rfl rfl rfl rfl hlt ?_) | ((with_reducible refine gate (N := 14) rfl ?_); refine lK rfl rfl rfl hrW (by rfl) ?_) | ((with_reducible refine gate (N := 8) rfl ?_); (refine lI rfl hL rfl cy ?_; clear hL; intro g8 w8 hL))
     | (go_at_call 102; have hq := ref11_node2 n.s ⟨xh, ⟨xp, xpn, xpc⟩, ⟨xx, xxn, xxc⟩⟩ n.d d _ (HOP.out.below hL.below) (HX.out.below hL.below) HLP.out.1 HLP.out.2 HZP.out HZD.out; (refine hq.mono ?_); rintro e w5 ⟨c, rfl, hch, hL5⟩; clear hq; have HCH := kD hch; clear hch; replace hL5 := ((hL5.weakRow hL.size).comm.weakRow hL.size).comm; replace hL := hL.takeAll hL5; simp only [List.cons_append, List.nil_append] at hL; clear hL5)
     | ((with_reducible refine gate (N := 40) rfl ?_); refine lM (cs := Ino.cells c) rfl hL rfl rfl rfl (by kernel_rfl) ?_; clear hL; intro gq wq hL)
     | ((with_reducible refine gate (N := 41) rfl ?_); refine ev_app1L (E := encN) (⟨c, n.d.one d⟩ : Nd) rfl hL rfl rfl rfl mx (fun _ => sx) rfl rfl rfl (by first | omega | (simp; omega)) hL.size ?_; clear hL; intro ao' c' wq hL)
     | ((with_reducible refine qB rfl rfl ?_); (first | (refine lA rfl hL rfl rfl vM (by rfl) ?_) | (refine lF rfl hL rfl rfl vM SegC.seg ?_))) | ((with_reducible refine qC rfl rfl ?_); (first | (refine lH rfl hL rfl rfl rfl cy (by rfl) ?_) | (refine lG rfl hL rfl rfl rfl cy (by rfl) (by rfl) ?_)); clear hL; intro wq hL))
    have hN : Loc w NoM _ [row encPc w.heap.size 61 c.p.val (n.d.one d).ps, row encXt w.heap.size 64 c.x.val (n.d.one d).xs, nest w00 F New, row encN w.heap.size 58 (.slice ao' (L.length + 1) c') (L ++ [⟨c, n.d.one d⟩]), var g3 [.int .i64 xh.id.boot, .int .i64 xh.id.n, .int .i64 xh.kind, .string xh.text, .int .i64 xh.attr.at_.boot, .int .i64 xh.attr.at_.n, .int .i64 xh.attr.mode, .int .u64 xh.attr.time, .int .i64 xh.size.at_.boot, .int .i64 xh.size.at_.n, .int .i64 xh.size.n, .slice xp xpn xpc, .slice xx xxn xxc] 58] := hL.sub (by repeat (first | exact List.nil_sublist _ | apply List.Sublist.cons_cons | apply List.Sublist.cons))
    obtain ⟨F2, hL2⟩ := Loc.nestNew (i := c) (d := n.d.one d) hN HCH.out
    go_roundw
    case rel => exact ⟨k + 1, _, true, _, F2, _, by omega, by go_num, rfl, rfl, by simp; omega, kD (by rw [List.map_append]; exact HS2.out), kD (mem_new HM.out), hL2⟩
    case measure => simp [intOf]; omega
   ·have q1 := stampE n.s.hd.id xh.id (decide_eq_false h1)
    have HN1 : Hid (Stab.eqv InoD.lt n.d d = false) := kD (InoD.eqv_false (by rw [HK1.out, HK2.out]; exact h1))
    clear h1 HE1
    cases dn
    ·by_cases h2 : xh.id.lss n.s.hd.id
     ·have HQ := kD (fun wx => ref09_less xh.id n.s.hd.id wx); rw [Mk.lssB_true h2] at HQ
      have HS2 := kD (HE2.out HN1.out rfl ((InoD.lt_iff _ _).2 (by rw [HK1.out, HK2.out]; exact h2)))
      clear HS HE2 HE3 h2
      go_wp2_with (first
       | ((with_reducible refine qF rfl rfl ?_); refine lL rfl rfl rfl rfl hlt ?_) | ((with_reducible refine gate (N := 14) rfl ?_); refine lK rfl rfl rfl hrW (by rfl) ?_) | ((with_reducible refine gate (N := 8) rfl ?_); (refine lI rfl hL rfl cy ?_; clear hL; intro g8 w8 hL))
       | (go_at_call 103; (with_reducible refine (HQ.out _).mono ?_); rintro e w5 ⟨rfl, hb5⟩; have hL := hL.call hb5; clear hb5)
       | (go_at_call 102; have hq := ref11_node2 ⟨xh, ⟨xp, xpn, xpc⟩, ⟨xx, xxn, xxc⟩⟩ ⟨xh, ⟨xp, xpn, xpc⟩, ⟨xx, xxn, xxc⟩⟩ d d _ (HX.out.below hL.below) (HX.out.below hL.below) HLD.out.1 HLD.out.2 HZD.out HZD.out; (refine hq.mono ?_); rintro e w5 ⟨c, rfl, hch, hL5⟩; clear hq; rw [InoD.one_self] at hch hL5; have HCH := kD hch; clear hch; replace hL5 := ((hL5.weakRow hL.size).comm.weakRow hL.size).comm; replace hL := hL.takeAll hL5; simp only [List.cons_append, List.nil_append] at hL; clear hL5)
       | ((with_reducible refine gate (N := 36) rfl ?_); refine lM (cs := Ino.cells c) rfl hL rfl rfl rfl (by kernel_rfl) ?_; clear hL; intro gq wq hL)
       | ((with_reducible refine gate (N := 37) rfl ?_); refine ev_app1L (E := encN) (⟨c, d.norm⟩ : Nd) rfl hL rfl rfl rfl mx (fun _ => sx) rfl rfl rfl (by first | omega | (simp; omega)) hL.size ?_; clear hL; intro ao' c' wq hL)
       | ((with_reducible refine gate (N := 40) rfl ?_); refine lM (cs := [.int .i64 n.s.hd.id.boot, .int .i64 n.s.hd.id.n, .int .i64 n.s.hd.kind, .string n.s.hd.text, .int .i64 n.s.hd.attr.at_.boot, .int .i64 n.s.hd.attr.at_.n, .int .i64 n.s.hd.attr.mode, .int .u64 n.s.hd.attr.time, .int .i64 n.s.hd.size.at_.boot, .int .i64 n.s.hd.size.at_.n, .int .i64 n.s.hd.size.n, .slice n.s.p.a n.s.p.n n.s.p.c, .slice n.s.x.a n.s.x.n n.s.x.c]) rfl hL rfl rfl rfl (by kernel_rfl) ?_; clear hL; intro gq wq hL)
       | ((with_reducible refine gate (N := 41) rfl ?_); refine ev_app1L (E := encN) n rfl hL rfl rfl rfl mx (fun _ => sx) rfl rfl rfl (by first | omega | (simp; omega)) hL.size ?_; clear hL; intro ao' c' wq hL)
       | ((with_reducible refine qB rfl rfl ?_); (first | (refine lA rfl hL rfl rfl vM (by rfl) ?_) | (refine lF rfl hL rfl rfl vM SegC.seg ?_))) | ((with_reducible refine qC rfl rfl ?_); (refine lH rfl hL rfl rfl rfl cy (by rfl) ?_); clear hL; intro wq hL) | ((with_reducible refine qA rfl rfl ?_ ?_); (exact wz rfl rfl rfl (by with_reducible rfl)); (refine lE (wz rfl rfl rfl rfl) hL rfl rfl vM SegC.seg ?_)))
      simp only [List.length_append, List.length_singleton] at hL
      have hN : Loc w NoM _ [row encPc w.heap.size 61 c.p.val (d.norm).ps, row encXt w.heap.size 64 c.x.val (d.norm).xs, nest w00 F New, row encN w.heap.size 58 (.slice ao' (L.length + 1 + 1) c') (L ++ [⟨c, d.norm⟩] ++ [n]), var g3 [.int .i64 xh.id.boot, .int .i64 xh.id.n, .int .i64 xh.kind, .string xh.text, .int .i64 xh.attr.at_.boot, .int .i64 xh.attr.at_.n, .int .i64 xh.attr.mode, .int .u64 xh.attr.time, .int .i64 xh.size.at_.boot, .int .i64 xh.size.at_.n, .int .i64 xh.size.n, .slice xp xpn xpc, .slice xx xxn xxc] 58] := hL.sub (by repeat (first | exact List.nil_sublist _ | apply List.Sublist.cons_cons | apply List.Sublist.cons))
      obtain ⟨F2, hL2⟩ := Loc.nestNew (i := c) (d := d.norm) hN HCH.out
      go_roundw
      case rel => exact ⟨k + 1, _, true, _, F2, _, by omega, by go_num, rfl, rfl, by simp; omega, kD (by rw [List.map_append, List.map_append]; exact HS2.out), kD (mem_old (mem_new HM.out) HMP.out), hL2⟩
      case measure => simp [intOf]; omega
     ·have HQ := kD (fun wx => ref09_less xh.id n.s.hd.id wx); rw [Mk.lssB_not h2] at HQ
      have HS2 := kD (HE3.out HN1.out (.inr (InoD.lt_false (by rw [HK1.out, HK2.out]; exact h2))))
      clear HS HE2 HE3 h2
      go_wp2_with (first
       | ((with_reducible refine qF rfl rfl ?_); refine lL rfl rfl rfl rfl hlt ?_) | ((with_reducible refine gate (N := 14) rfl ?_); refine lK rfl rfl rfl hrW (by rfl) ?_) | ((with_reducible refine gate (N := 8) rfl ?_); (refine lI rfl hL rfl cy ?_; clear hL; intro g8 w8 hL))
       | (go_at_call 103; (with_reducible refine (HQ.out _).mono ?_); rintro e w5 ⟨rfl, hb5⟩; have hL := hL.call hb5; clear hb5)
       | ((with_reducible refine gate (N := 40) rfl ?_); refine lM (cs := [.int .i64 n.s.hd.id.boot, .int .i64 n.s.hd.id.n, .int .i64 n.s.hd.kind, .string n.s.hd.text, .int .i64 n.s.hd.attr.at_.boot, .int .i64 n.s.hd.attr.at_.n, .int .i64 n.s.hd.attr.mode, .int .u64 n.s.hd.attr.time, .int .i64 n.s.hd.size.at_.boot, .int .i64 n.s.hd.size.at_.n, .int .i64 n.s.hd.size.n, .slice n.s.p.a n.s.p.n n.s.p.c, .slice n.s.x.a n.s.x.n n.s.x.c]) rfl hL rfl rfl rfl (by kernel_rfl) ?_; clear hL; intro gq wq hL)
       | ((with_reducible refine gate (N := 41) rfl ?_); refine ev_app1L (E := encN) n rfl hL rfl rfl rfl mx (fun _ => sx) rfl rfl rfl (by first | omega | (simp; omega)) hL.size ?_; clear hL; intro ao' c' wq hL)
       | ((with_reducible refine qB rfl rfl ?_); (first | (refine lA rfl hL rfl rfl vM (by rfl) ?_) | (refine lF rfl hL rfl rfl vM SegC.seg ?_))) | ((with_reducible refine qC rfl rfl ?_); (refine lH rfl hL rfl rfl rfl cy (by rfl) ?_); clear hL; intro wq hL) | ((with_reducible refine qA rfl rfl ?_ ?_); (exact wz rfl rfl rfl (by with_reducible rfl)); (refine lE (wz rfl rfl rfl rfl) hL rfl rfl vM SegC.seg ?_)))
      go_roundw
      case rel => exact ⟨k + 1, _, false, _, F, New, by omega, by go_num, rfl, rfl, by simp; omega, kD (by rw [List.map_append]; exact HS2.out), kD (mem_old HM.out HMP.out), hL.sub (by repeat (first | exact List.nil_sublist _ | with_reducible apply List.Sublist.cons_cons | with_reducible apply List.Sublist.cons))⟩
      case measure => simp [intOf]; omega
    ·have HS2 := kD (HE3.out HN1.out (.inl rfl))
     clear HS HE2 HE3
     go_wp2_with (first
      | ((with_reducible refine qF rfl rfl ?_); refine lL rfl rfl rfl rfl hlt ?_) | ((with_reducible refine gate (N := 14) rfl ?_); refine lK rfl rfl rfl hrW (by rfl) ?_) | ((with_reducible refine gate (N := 8) rfl ?_); (refine lI rfl hL rfl cy ?_; clear hL; intro g8 w8 hL))
      | ((with_reducible refine gate (N := 40) rfl ?_); refine lM (cs := [.int .i64 n.s.hd.id.boot, .int .i64 n.s.hd.id.n, .int .i64 n.s.hd.kind, .string n.s.hd.text, .int .i64 n.s.hd.attr.at_.boot, .int .i64 n.s.hd.attr.at_.n, .int .i64 n.s.hd.attr.mode, .int .u64 n.s.hd.attr.time, .int .i64 n.s.hd.size.at_.boot, .int .i64 n.s.hd.size.at_.n, .int .i64 n.s.hd.size.n, .slice n.s.p.a n.s.p.n n.s.p.c, .slice n.s.x.a n.s.x.n n.s.x.c]) rfl hL rfl rfl rfl (by kernel_rfl) ?_; clear hL; intro gq wq hL)
      | ((with_reducible refine gate (N := 41) rfl ?_); refine ev_app1L (E := encN) n rfl hL rfl rfl rfl mx (fun _ => sx) rfl rfl rfl (by first | omega | (simp; omega)) hL.size ?_; clear hL; intro ao' c' wq hL)
      | ((with_reducible refine qB rfl rfl ?_); (first | (refine lA rfl hL rfl rfl vM (by rfl) ?_) | (refine lF rfl hL rfl rfl vM SegC.seg ?_))) | ((with_reducible refine qC rfl rfl ?_); (refine lH rfl hL rfl rfl rfl cy (by rfl) ?_); clear hL; intro wq hL))
     go_roundw
     case rel => exact ⟨k + 1, _, true, _, F, New, by omega, by go_num, rfl, rfl, by simp; omega, kD (by rw [List.map_append]; exact HS2.out), kD (mem_old HM.out HMP.out), hL.sub (by repeat (first | exact List.nil_sublist _ | with_reducible apply List.Sublist.cons_cons | with_reducible apply List.Sublist.cons))⟩
     case measure => simp [intOf]; omega
  ·have hk9 : (ns.map (·.d)).length ≤ k := by rw [List.length_map]; omega
   cases dn
   ·have HB := kD (Stab.ins_last HS.out hk9)
    clear HS hk9
    have hk0 : ¬ k < ns.length := hlt
    go_wp2_with (first
     | ((with_reducible refine qF rfl rfl ?_); refine lL rfl rfl rfl rfl hlt ?_) | ((with_reducible refine gate (N := 14) rfl ?_); refine lK rfl rfl rfl hrW (by rfl) ?_) | ((with_reducible refine gate (N := 8) rfl ?_); (refine lI rfl hL rfl cy ?_; clear hL; intro g8 w8 hL))
     | (go_at_call 102; have hq := ref11_node2 ⟨xh, ⟨xp, xpn, xpc⟩, ⟨xx, xxn, xxc⟩⟩ ⟨xh, ⟨xp, xpn, xpc⟩, ⟨xx, xxn, xxc⟩⟩ d d _ (HX.out.below hL.below) (HX.out.below hL.below) HLD.out.1 HLD.out.2 HZD.out HZD.out; (refine hq.mono ?_); rintro e w5 ⟨c, rfl, hch, hL5⟩; clear hq; rw [InoD.one_self] at hch hL5; have HCH := kD hch; clear hch; replace hL5 := ((hL5.weakRow hL.size).comm.weakRow hL.size).comm; replace hL := hL.takeAll hL5; simp only [List.cons_append, List.nil_append] at hL; clear hL5)
     | ((with_reducible refine gate (N := 49) rfl ?_); refine lM (cs := Ino.cells c) rfl hL rfl rfl rfl (by kernel_rfl) ?_; clear hL; intro gq wq hL)
     | ((with_reducible refine gate (N := 50) rfl ?_); refine ev_app1L (E := encN) (⟨c, d.norm⟩ : Nd) rfl hL rfl rfl rfl mx (fun _ => sx) rfl rfl rfl (by first | omega | (simp; omega)) hL.size ?_; clear hL; intro ao' c' wq hL)
     | ((with_reducible refine qB rfl rfl ?_); (refine lA rfl hL rfl rfl vM (by rfl) ?_)))
    have hN : Loc w NoM _ [row encPc w.heap.size 61 c.p.val (d.norm).ps, row encXt w.heap.size 64 c.x.val (d.norm).xs, nest w00 F New, row encN w.heap.size 58 (.slice ao' (L.length + 1) c') (L ++ [⟨c, d.norm⟩]), var g3 [.int .i64 xh.id.boot, .int .i64 xh.id.n, .int .i64 xh.kind, .string xh.text, .int .i64 xh.attr.at_.boot, .int .i64 xh.attr.at_.n, .int .i64 xh.attr.mode, .int .u64 xh.attr.time, .int .i64 xh.size.at_.boot, .int .i64 xh.size.at_.n, .int .i64 xh.size.n, .slice xp xpn xpc, .slice xx xxn xxc] 58] := hL.sub (by repeat (first | exact List.nil_sublist _ | apply List.Sublist.cons_cons | apply List.Sublist.cons))
    obtain ⟨F2, hL2⟩ := Loc.nestNew (i := c) (d := d.norm) hN HCH.out
    have hF : Loc w NoM _ [nest w00 F2 (⟨c, d.norm⟩ :: New), row encN w.heap.size 58 (.slice ao' (L.length + 1) c') (L ++ [⟨c, d.norm⟩])] := hL2.sub (by repeat (first | exact List.nil_sublist _ | apply List.Sublist.cons_cons | apply List.Sublist.cons))
    go_ret
    exact ⟨_, rfl, F2, _, _, by rw [HB.out, List.map_append]; rfl, mem_new HM.out, hF.comm⟩
   ·have HB := kD (Stab.ins_done HS.out hk9)
    clear HS hk9
    have hk0 : ¬ k < ns.length := hlt
    go_wp2_with fail
    have hF : Loc w NoM _ [nest w00 F New, row encN w.heap.size 58 _ L] := hL.sub (by repeat (first | exact List.nil_sublist _ | apply List.Sublist.cons_cons | apply List.Sublist.cons))
    go_ret
    exact ⟨_, rfl, F, _, _, HB.out.symm, HM.out, hF.comm⟩
end Go.Proofs.YtebpacmhdkgfeaaGreat

namespace Go.Proofs.YtebpacmhdkgfeaaGreat
open Go.RowKit
set_option maxHeartbeats 16000000
set_option maxRecDepth 20000
namespace Loc
variable {w00 w0 w : World} {l : List Item} {F1 F2 : Nat → Prop} {L1 L2 L' : List Nd} {r : Item}
theorem nestJoin0 (h : Loc w0 NoM w (nest w00 F1 L1 :: nest w00 F2 L2 :: l)) (hO : ∀ n ∈ L', n ∈ L1 ∨ n ∈ L2) : Loc w0 NoM w (nest w00 (fun k => F1 k ∨ F2 k) L' :: l) := by
 have ha := h.apart
 have h1 := h.get (.head _)
 have h2 := h.get (.tail _ (.head _))
 rw [List.pairwise_cons, List.pairwise_cons] at ha
 obtain ⟨a1, a2, a3⟩ := ha
 refine ⟨h.mod, fun j hj => ?_, fun j hj k hk => ?_, List.pairwise_cons.2 ⟨fun j hj k hk => ?_, a3⟩⟩
 ·rcases List.mem_cons.1 hj with rfl | hj
  ·exact nest_at ⟨fun k hk => hk.elim (h1.1 k) (h2.1 k), fun w' hz hb h0 n hn => (hO n hn).elim (h1.2 w' hz (fun k hk => hb k (.inl hk)) h0 n) (h2.2 w' hz (fun k hk => hb k (.inr hk)) h0 n)⟩
  ·exact h.at_ j (.tail _ (.tail _ hj))
 ·rcases List.mem_cons.1 hj with rfl | hj
  ·exact hk.elim (h.new _ (.head _) k) (h.new _ (.tail _ (.head _)) k)
  ·exact h.new j (.tail _ (.tail _ hj)) k hk
 ·exact hk.elim (a1 j (.tail _ hj) k) (a2 j hj k)
theorem nestJoin (h : Loc w0 NoM w (r :: nest w00 F1 L1 :: nest w00 F2 L2 :: l)) (hO : ∀ n ∈ L', n ∈ L1 ∨ n ∈ L2) : Loc w0 NoM w (r :: nest w00 (fun k => F1 k ∨ F2 k) L' :: l) :=
 ((h.perm (List.perm_middle (a := r) (l₁ := [nest w00 F1 L1, nest w00 F2 L2]) (l₂ := l)).symm).nestJoin0 hO).comm
end Loc
theorem nodes_step (P l : List Nd) (k : Nat) (hk : k < l.length) : Stab.rfold InoD.lt InoD.norm InoD.one ((P ++ l.take (k + 1)).map (·.d)) = Stab.rins InoD.lt InoD.norm InoD.one l[k].d false (Stab.rfold InoD.lt InoD.norm InoD.one ((P ++ l.take k).map (·.d))) := by
 rw [← List.take_append_getElem hk, ← List.append_assoc, List.map_append (l₂ := [l[k]])]
 exact Stab.rfold_snoc _ _ _ _
theorem links_step (P l : List Lnk) (k : Nat) (hk : k < l.length) : linksD (P ++ l.take (k + 1)) = Stab.rins Lnk.lt _root_.id Lnk.one l[k] false (linksD (P ++ l.take k)) := by
 rw [← List.take_append_getElem hk, ← List.append_assoc]
 exact Stab.rfold_snoc _ _ _ _
theorem links_part {P l : List Lnk} {k N : Nat} (h : P.length + l.length ≤ N) : (linksD (P ++ l.take k)).length ≤ N := by
 have := links_len (P ++ l.take k)
 rw [List.length_append, List.length_take] at this
 omega
theorem links_partZ {P l : List Lnk} {k : Nat} (h : ∀ p ∈ P, p.Z) (h' : ∀ p ∈ l, p.Z) : ∀ p ∈ linksD (P ++ l.take k), p.Z := Stab.rfold_all (fun _ h => h) (fun _ _ h k => Lnk.Z_one h k) _ fun p hp => (List.mem_append.1 hp).elim (h p) fun hp => h' p (List.mem_of_mem_take hp)
theorem nodes_lens (B : Nat) (l : List InoD) (h : ∀ x ∈ l, x.ps.length ≤ B ∧ x.xs.length ≤ B) : ∀ y ∈ Stab.rfold InoD.lt InoD.norm InoD.one l, y.ps.length ≤ B * l.length ∧ y.xs.length ≤ B * l.length := by
 have key : ∀ n (l : List InoD), l.length = n → (∀ x ∈ l, x.ps.length ≤ B ∧ x.xs.length ≤ B) → ∀ y ∈ Stab.rfold InoD.lt InoD.norm InoD.one l, y.ps.length ≤ B * n ∧ y.xs.length ≤ B * n := fun n => by
  induction n with
  | zero => intro l hn _ y hy; rw [List.eq_nil_of_length_eq_zero hn] at hy; cases hy
  | succ n ih =>
   intro l hn hl
   obtain ⟨l', x, rfl⟩ : ∃ l' x, l = l' ++ [x] := ⟨l.dropLast, l.getLast (by intro e; rw [e] at hn; cases hn), (List.dropLast_concat_getLast _).symm⟩
   have h1 := ih l' (by simpa using hn) fun x hx => hl x (List.mem_append.2 (.inl hx))
   have h2 := hl x (List.mem_append.2 (.inr (.head _)))
   rw [Stab.rfold_snoc, Nat.mul_succ]
   have h3 := InoD.norm_len x
   refine Stab.rins_all (by omega) false _ (fun y hy => by have := h1 y hy; omega) fun y hy => ?_
   have h4 := InoD.one_len y x
   have h5 := h1 y hy
   omega
 exact key _ l rfl h
theorem nodes_partL {B N : Nat} {P l L : List Nd} {k : Nat} (e : L.map (·.d) = Stab.rfold InoD.lt InoD.norm InoD.one ((P ++ l.take k).map (·.d))) (hB : ∀ n ∈ P ++ l, n.d.ps.length ≤ B ∧ n.d.xs.length ≤ B) (hn : B * (P.length + l.length) ≤ N) : ∀ n ∈ L, n.d.ps.length ≤ N ∧ n.d.xs.length ≤ N := fun n hn' => by
 have h1 := nodes_lens B ((P ++ l.take k).map (·.d)) (fun x hx => by
  obtain ⟨n, hn, rfl⟩ := List.mem_map.1 hx
  exact hB n ((List.mem_append.1 hn).elim (fun h => List.mem_append.2 (.inl h)) fun h => List.mem_append.2 (.inr (List.mem_of_mem_take h)))) n.d (by rw [← e]; exact List.mem_map.2 ⟨n, hn', rfl⟩)
 have h2 : B * ((P ++ l.take k).map (·.d)).length ≤ B * (P.length + l.length) := Nat.mul_le_mul_left _ (by rw [List.length_map, List.length_append, List.length_take]; omega)
 omega
theorem nodes_partZ {P l L : List Nd} {k : Nat} (e : L.map (·.d) = Stab.rfold InoD.lt InoD.norm InoD.one ((P ++ l.take k).map (·.d))) (hB : ∀ n ∈ P ++ l, n.d.Z) : ∀ n ∈ L, n.d.Z := fun n hn' =>
 Stab.rfold_all (fun _ h => InoD.Z_norm h) (fun _ _ h k => InoD.Z_one h k) ((P ++ l.take k).map (·.d)) (fun x hx => by
  obtain ⟨n, hn, rfl⟩ := List.mem_map.1 hx
  exact hB n ((List.mem_append.1 hn).elim (fun h => List.mem_append.2 (.inl h)) fun h => List.mem_append.2 (.inr (List.mem_of_mem_take h)))) n.d (by rw [← e]; exact List.mem_map.2 ⟨n, hn', rfl⟩)
theorem nodes_partN {P l L : List Nd} {k N : Nat} (e : L.map (·.d) = Stab.rfold InoD.lt InoD.norm InoD.one ((P ++ l.take k).map (·.d))) (hn : P.length + l.length ≤ N) : L.length ≤ N := by
 have h1 := Stab.rfold_len (lt := InoD.lt) InoD.norm InoD.one ((P ++ l.take k).map (·.d))
 rw [← e, List.length_map, List.length_map, List.length_append, List.length_take] at h1
 omega
theorem ref11_states0 (s t : Sta) (ds dt : StaD) (w00 w : World) (hb00 : Below w00.heap.size w00 w) (hs : s.Ok w ds) (ht : t.Ok w dt) (B : Nat) (hB : ∀ n ∈ ds.nodes ++ dt.nodes, n.ps.length ≤ B ∧ n.xs.length ≤ B) (hn : ds.nodes.length + dt.nodes.length ≤ 1000000) (hBn : B * (ds.nodes.length + dt.nodes.length) ≤ 10000000) (hB0 : B ≤ 10000000) (hl : ds.links.length + dt.links.length ≤ 100000000) (hz : ∀ n ∈ ds.nodes ++ dt.nodes, n.Z) (hzl : ∀ l ∈ ds.links ++ dt.links, l.Z) :
  Calls Tryz.prog 12 #[.agg (Sta.cells s).toArray, .agg (Sta.cells t).toArray] w fun e w' => ∃ r : Sta, e = .returned (.agg (Sta.cells r).toArray) ∧ r.seen = (ds.join dt).seen ∧ ∃ F L, L.map (·.d) = (ds.join dt).nodes ∧ Loc w NoM w' [row encN w.heap.size 58 r.nodes.val L, row encK w.heap.size 46 r.links.val (ds.join dt).links, nest w00 F L] := by
 have hL := Loc.nil w NoM
 obtain ⟨sv, ⟨a1, n1, c1⟩, ⟨a2, n2, c2⟩⟩ := s
 obtain ⟨tv, ⟨b1, m1, e1⟩, ⟨b2, m2, e2⟩⟩ := t
 obtain ⟨sv', dn, dl⟩ := ds
 obtain ⟨tv', en, el⟩ := dt
 obtain ⟨h1, ⟨ns, hns, hno, hnd⟩, hlk⟩ := hs
 obtain ⟨h2, ⟨ms, hms, hmo, hmd⟩, hmk⟩ := ht
 simp only at h1 h2 hnd hmd hns hms hlk hmk hB hn hBn hl hz hzl
 subst h1 h2 hnd hmd
 obtain ⟨qa1, ca1, ea1, hpa⟩ := R_elem hns
 obtain ⟨qa2, ca2, ea2, hxa⟩ := R_elem hlk
 obtain ⟨qb1, cb1, eb1, hpb⟩ := R_elem hms
 obtain ⟨qb2, cb2, eb2, hxb⟩ := R_elem hmk
 unfold Sl.val at ea1 ea2 eb1 eb2
 injection ea1 with i1 i2 i3
 injection ea2 with j1 j2 j3
 injection eb1 with k1 k2 k3
 injection eb2 with l1 l2 l3
 subst i1 i2 i3 j1 j2 j3 k1 k2 k3 l1 l2 l3
 have HSO := kD hno; have HTO := kD hmo
 have HBO : Hid (∀ n ∈ ns ++ ms, n.d.ps.length ≤ B ∧ n.d.xs.length ≤ B) := kD fun n hn => hB n.d (by rw [← List.map_append]; exact List.mem_map.2 ⟨n, hn, rfl⟩)
 have HZO : Hid (∀ n ∈ ns ++ ms, n.d.Z) := kD fun n hn => hz n.d (by rw [← List.map_append]; exact List.mem_map.2 ⟨n, hn, rfl⟩)
 rw [List.length_map, List.length_map] at hn hBn
 have HN := kD hn; have HBN := kD hBn; have HLN := kD hl; have HB0 := kD hB0
 have ZL1 : Hid (∀ l ∈ dl, l.Z) := kD fun l h => hzl l (List.mem_append.2 (.inl h))
 have ZL2 : Hid (∀ l ∈ el, l.Z) := kD fun l h => hzl l (List.mem_append.2 (.inr h))
 have HSJ : Hid ((StaD.join ⟨sv, ns.map (·.d), dl⟩ ⟨tv, ms.map (·.d), el⟩).seen = sv.join tv) := kD rfl
 have HNJ : Hid ((StaD.join ⟨sv, ns.map (·.d), dl⟩ ⟨tv, ms.map (·.d), el⟩).nodes = Stab.rfold InoD.lt InoD.norm InoD.one ((ns ++ ms).map (·.d))) := kD (by rw [nodes_doc, List.map_append]; rfl)
 have HLJ : Hid ((StaD.join ⟨sv, ns.map (·.d), dl⟩ ⟨tv, ms.map (·.d), el⟩).links = linksD (dl ++ el)) := kD rfl
 generalize StaD.join ⟨sv, ns.map (·.d), dl⟩ ⟨tv, ms.map (·.d), el⟩ = dj at *
 have hvj := kD (fun wx => ref09_join sv tv wx)
 clear hns hno hlk hms hmo hmk hB hn hBn hB0 hl hz hzl
 replace hpa : ∀ (i : Nat) (hi : i < ns.length), ∃ g off, a1 = some ⟨g, off, none⟩ ∧ w.rangeAt g (off + i * 13) (Ino.cells ns[i].s) := hpa
 replace hxa : ∀ (i : Nat) (hi : i < dl.length), ∃ g off, a2 = some ⟨g, off, none⟩ ∧ w.rangeAt g (off + i * 25) (Lnk.cells dl[i]) := hxa
 replace hpb : ∀ (i : Nat) (hi : i < ms.length), ∃ g off, b1 = some ⟨g, off, none⟩ ∧ w.rangeAt g (off + i * 13) (Ino.cells ms[i].s) := hpb
 replace hxb : ∀ (i : Nat) (hi : i < el.length), ∃ g off, b2 = some ⟨g, off, none⟩ ∧ w.rangeAt g (off + i * 25) (Lnk.cells el[i]) := hxb
 unfold Sta.cells
 simp only
 go_enter Tryz.func12, Tryz.ntmps12
 go_wp2_with (first
  | ((with_reducible refine gate (N := 2) rfl ?_); (refine lJ rfl hL rfl rfl cy ?_; clear hL; intro g2 w2 hL)) | ((with_reducible refine gate (N := 3) rfl ?_); (refine lJ rfl hL rfl rfl cy ?_; clear hL; intro g3 w3 hL)) | ((with_reducible refine gate (N := 4) rfl ?_); (refine lI rfl hL rfl cy ?_; clear hL; intro g4 w4 hL)) | ((with_reducible refine gate (N := 5) rfl ?_); (refine lI rfl hL rfl cy ?_; clear hL; intro g5 w5 hL))
  | (go_at_call 39; (with_reducible refine (hvj.out _).mono ?_); rintro e w9 ⟨⟨jv, ejv, rfl⟩, hb9⟩; have HJV := kD ejv; clear ejv; have hL := hL.call hb9; clear hb9)
  | ((with_reducible refine qB rfl rfl ?_); (first | (refine lC rfl hL rfl rfl vM (by rfl) ?_) | (refine lF rfl hL rfl rfl vM SegC.seg ?_))) | ((with_reducible refine qC rfl rfl ?_); (refine lH rfl hL rfl rfl rfl cy (by rfl) ?_); clear hL; intro wq hL))
 go_loopw [23] (fun i wr => ∃ (k : Nat) (s : Sl) (F : Nat → Prop) (L : List Nd), k ≤ ns.length ∧ i = .int .i64 k ∧ Hid (L.map (·.d) = Stab.rfold InoD.lt InoD.norm InoD.one ((([] : List Nd) ++ ns.take k).map (·.d))) ∧ Loc w NoM wr [row encN w.heap.size 58 s.val L, nest w00 F L, row encK w.heap.size 46 (.slice none 0 0) [], var g5 [.int .i64 jv.a0, .int .i64 jv.a1, .int .i64 jv.a2, .int .i64 jv.a3, .int .i64 jv.a4, .int .i64 jv.a5, .int .i64 jv.a6, .int .i64 jv.a7, .slice s.a s.n s.c, .slice none 0 0] 27, var g4 [.int .i64 0, .int .i64 0, .int .i64 0, .int .i64 0, .int .i64 0, .int .i64 0, .int .i64 0, .int .i64 0, .slice none 0 0, .slice none 0 0] 27, var g3 [.int .i64 tv.a0, .int .i64 tv.a1, .int .i64 tv.a2, .int .i64 tv.a3, .int .i64 tv.a4, .int .i64 tv.a5, .int .i64 tv.a6, .int .i64 tv.a7, .slice b1 ms.length e1, .slice b2 el.length e2] 27, var g2 [.int .i64 sv.a0, .int .i64 sv.a1, .int .i64 sv.a2, .int .i64 sv.a3, .int .i64 sv.a4, .int .i64 sv.a5, .int .i64 sv.a6, .int .i64 sv.a7, .slice a1 ns.length c1, .slice a2 dl.length c2] 27]) (fun i _ => ns.length - (intOf i).toNat)
 case atStart => exact ⟨0, ⟨none, 0, 0⟩, (fun _ => False), [], by omega, rfl, kD rfl, ((hL.rowOff encK w.heap.size 46).nestOld (w00 := w00) (L := []) (by simp)).rowOff encN w.heap.size 58⟩
 case round =>
  clear hL
  obtain ⟨k, s, F, L, hk, rfl, HD, hL⟩ := hrel
  by_cases hlt : k < ns.length
  ·obtain ⟨g, off, rfl, hr⟩ := hpa k hlt
   have HMP := kD (List.getElem_mem hlt)
   have hbn : ns.length ≤ 1000000 := by have := HN.out; omega
   have HST := kD (nodes_step ([] : List Nd) ns k hlt)
   have HPL := kD (nodes_partL (N := 10000000) (P := []) (l := ns) (k := k) HD.out (fun n hn => HBO.out n (List.mem_append.2 (.inl hn))) (by have := HBN.out; have h9 : B * (([] : List Nd).length + ns.length) ≤ B * (ns.length + ms.length) := Nat.mul_le_mul_left _ (by simp only [List.length_nil]; omega); omega))
   have HPZ := kD (nodes_partZ (P := []) (l := ns) (k := k) HD.out (fun n hn => HZO.out n (List.mem_append.2 (.inl hn))))
   have HPN := kD (nodes_partN (N := 1000000) (P := []) (l := ns) (k := k) HD.out (by have := HN.out; simp only [List.length_nil]; omega))
   have HEL := kD (HBO.out _ (List.mem_append.2 (.inl HMP.out)))
   have HEZ := kD (HZO.out _ (List.mem_append.2 (.inl HMP.out)))
   have HEO := kD (HSO.out _ HMP.out)
   have hrW0 : World.rangeAt _ g (off + k * 13) (Ino.cells ns[k].s) := range_below hr hL.below
   clear hr
   rw [← HD.out] at HST
   clear HD
   generalize ns[k] = n at *
   have hrW : World.rangeAt _ g (off + k * 13) [.int .i64 n.s.hd.id.boot, .int .i64 n.s.hd.id.n, .int .i64 n.s.hd.kind, .string n.s.hd.text, .int .i64 n.s.hd.attr.at_.boot, .int .i64 n.s.hd.attr.at_.n, .int .i64 n.s.hd.attr.mode, .int .u64 n.s.hd.attr.time, .int .i64 n.s.hd.size.at_.boot, .int .i64 n.s.hd.size.at_.n, .int .i64 n.s.hd.size.n, .slice n.s.p.a n.s.p.n n.s.p.c, .slice n.s.x.a n.s.x.n n.s.x.c] := hrW0
   clear hrW0
   go_wp2_with (first
    | ((with_reducible refine qF rfl rfl ?_); refine lL rfl rfl rfl rfl hlt ?_) | ((with_reducible refine gate (N := 26) rfl ?_); refine lK rfl rfl rfl hrW (by rfl) ?_) | ((with_reducible refine gate (N := 7) rfl ?_); (refine lI rfl hL rfl cy ?_; clear hL; intro g7 w7 hL))
    | (go_at_call 40; have hq := ref11_node1 (.slice s.a s.n s.c) L n.s n.d _ w00 (hL.own (E := encN) (base := w.heap.size) (e := 58) (v := s.val) (xs := L) mx).read (hL.nested (w00 := w00) (F := F) (L := L) hb00 mx) (HEO.out.below hL.below) HPZ.out HEZ.out (fun n' hn' => by have h1 := HPL.out n' hn'; have h2 := HEL.out; have h3 := HB0.out; omega) (by have h2 := HEL.out; have h3 := HB0.out; omega) (Nat.le_trans HPN.out (by decide)); (refine hq.mono ?_); rintro e w5 ⟨u, rfl, F1, New, L1, hd1, hm1, hL5⟩; clear hq; obtain ⟨ua, uc, rfl, -⟩ := R_elem (hL5.own (.head _)).read; have HD1 := kD hd1; have HM1 := kD hm1; replace hL := hL.takeAll (hL5.weakRow hL.size); simp only [List.cons_append, List.nil_append] at hL; clear hL5 hd1 hm1)
    | ((with_reducible refine qB rfl rfl ?_); (first | (refine lC rfl hL rfl rfl vM (by rfl) ?_) | (refine lA rfl hL rfl rfl vM (by rfl) ?_))) | ((with_reducible refine qC rfl rfl ?_); (refine lH rfl hL rfl rfl rfl cy (by rfl) ?_); clear hL; intro wq hL))
   have hN : Loc w NoM _ [row encN w.heap.size 58 (.slice ua L1.length uc) L1, nest w00 F1 New, nest w00 F L, row encK w.heap.size 46 (.slice none 0 0) [], var g5 _ _, var g4 _ _, var g3 _ _, var g2 _ _] := hL.sub (by repeat (first | exact List.nil_sublist _ | apply List.Sublist.cons_cons | apply List.Sublist.cons))
   replace hN := hN.nestJoin (L' := L1) HM1.out
   go_roundw
   case rel => exact ⟨k + 1, ⟨ua, _, uc⟩, _, L1, by omega, by go_num, kD (HD1.out.trans HST.out.symm), hN⟩
   case measure => simp [intOf]; omega
  ·obtain rfl : k = ns.length := by omega
   rw [List.take_length, List.nil_append] at HD
   obtain ⟨sn, hsn⟩ : ∃ q, q = s := ⟨_, rfl⟩
   subst hsn
   obtain ⟨LN, hln⟩ : ∃ q, q = L := ⟨_, rfl⟩
   subst hln
   clear hlt hk
   go_wp2_with (first | ((with_reducible refine qB rfl rfl ?_); (refine lC rfl hL rfl rfl vM (by rfl) ?_)))
   go_loopw [36] (fun i wr => ∃ (k : Nat) (s : Sl) (F : Nat → Prop) (L : List Nd), k ≤ ms.length ∧ i = .int .i64 k ∧ Hid (L.map (·.d) = Stab.rfold InoD.lt InoD.norm InoD.one ((ns ++ ms.take k).map (·.d))) ∧ Loc w NoM wr [row encN w.heap.size 58 s.val L, nest w00 F L, row encK w.heap.size 46 (.slice none 0 0) [], var g5 [.int .i64 jv.a0, .int .i64 jv.a1, .int .i64 jv.a2, .int .i64 jv.a3, .int .i64 jv.a4, .int .i64 jv.a5, .int .i64 jv.a6, .int .i64 jv.a7, .slice s.a s.n s.c, .slice none 0 0] 27, var g4 [.int .i64 0, .int .i64 0, .int .i64 0, .int .i64 0, .int .i64 0, .int .i64 0, .int .i64 0, .int .i64 0, .slice none 0 0, .slice none 0 0] 27, var g3 [.int .i64 tv.a0, .int .i64 tv.a1, .int .i64 tv.a2, .int .i64 tv.a3, .int .i64 tv.a4, .int .i64 tv.a5, .int .i64 tv.a6, .int .i64 tv.a7, .slice b1 ms.length e1, .slice b2 el.length e2] 27, var g2 [.int .i64 sv.a0, .int .i64 sv.a1, .int .i64 sv.a2, .int .i64 sv.a3, .int .i64 sv.a4, .int .i64 sv.a5, .int .i64 sv.a6, .int .i64 sv.a7, .slice a1 ns.length c1, .slice a2 dl.length c2] 27]) (fun i _ => ms.length - (intOf i).toNat)
   case atStart => exact ⟨0, sn, F, LN, by omega, rfl, by rw [List.take_zero, List.append_nil]; exact HD, hL⟩
   case round =>
    clear hL
    obtain ⟨k, s, F, L, hk, rfl, HD, hL⟩ := hrel
    by_cases hlt : k < ms.length
    ·obtain ⟨g, off, rfl, hr⟩ := hpb k hlt
     have HMP := kD (List.getElem_mem hlt)
     have hbn : ms.length ≤ 1000000 := by have := HN.out; omega
     have HST := kD (nodes_step ns ms k hlt)
     have HPL := kD (nodes_partL (N := 10000000) (P := ns) (l := ms) (k := k) HD.out HBO.out HBN.out)
     have HPZ := kD (nodes_partZ (P := ns) (l := ms) (k := k) HD.out HZO.out)
     have HPN := kD (nodes_partN (N := 1000000) (P := ns) (l := ms) (k := k) HD.out HN.out)
     have HEL := kD (HBO.out _ (List.mem_append.2 (.inr HMP.out)))
     have HEZ := kD (HZO.out _ (List.mem_append.2 (.inr HMP.out)))
     have HEO := kD (HTO.out _ HMP.out)
     have hrW0 : World.rangeAt _ g (off + k * 13) (Ino.cells ms[k].s) := range_below hr hL.below
     clear hr
     rw [← HD.out] at HST
     clear HD
     generalize ms[k] = n at *
     have hrW : World.rangeAt _ g (off + k * 13) [.int .i64 n.s.hd.id.boot, .int .i64 n.s.hd.id.n, .int .i64 n.s.hd.kind, .string n.s.hd.text, .int .i64 n.s.hd.attr.at_.boot, .int .i64 n.s.hd.attr.at_.n, .int .i64 n.s.hd.attr.mode, .int .u64 n.s.hd.attr.time, .int .i64 n.s.hd.size.at_.boot, .int .i64 n.s.hd.size.at_.n, .int .i64 n.s.hd.size.n, .slice n.s.p.a n.s.p.n n.s.p.c, .slice n.s.x.a n.s.x.n n.s.x.c] := hrW0
     clear hrW0
     go_wp2_with (first
      | ((with_reducible refine qF rfl rfl ?_); refine lL rfl rfl rfl rfl hlt ?_) | ((with_reducible refine gate (N := 39) rfl ?_); refine lK rfl rfl rfl hrW (by rfl) ?_) | ((with_reducible refine gate (N := 9) rfl ?_); (refine lI rfl hL rfl cy ?_; clear hL; intro g9 w9 hL))
      | (go_at_call 40; have hq := ref11_node1 (.slice s.a s.n s.c) L n.s n.d _ w00 (hL.own (E := encN) (base := w.heap.size) (e := 58) (v := s.val) (xs := L) mx).read (hL.nested (w00 := w00) (F := F) (L := L) hb00 mx) (HEO.out.below hL.below) HPZ.out HEZ.out (fun n' hn' => by have h1 := HPL.out n' hn'; have h2 := HEL.out; have h3 := HB0.out; omega) (by have h2 := HEL.out; have h3 := HB0.out; omega) (Nat.le_trans HPN.out (by decide)); (refine hq.mono ?_); rintro e w5 ⟨u, rfl, F1, New, L1, hd1, hm1, hL5⟩; clear hq; obtain ⟨ua, uc, rfl, -⟩ := R_elem (hL5.own (.head _)).read; have HD1 := kD hd1; have HM1 := kD hm1; replace hL := hL.takeAll (hL5.weakRow hL.size); simp only [List.cons_append, List.nil_append] at hL; clear hL5 hd1 hm1)
      | ((with_reducible refine qB rfl rfl ?_); (first | (refine lC rfl hL rfl rfl vM (by rfl) ?_) | (refine lA rfl hL rfl rfl vM (by rfl) ?_))) | ((with_reducible refine qC rfl rfl ?_); (refine lH rfl hL rfl rfl rfl cy (by rfl) ?_); clear hL; intro wq hL))
     have hN : Loc w NoM _ [row encN w.heap.size 58 (.slice ua L1.length uc) L1, nest w00 F1 New, nest w00 F L, row encK w.heap.size 46 (.slice none 0 0) [], var g5 _ _, var g4 _ _, var g3 _ _, var g2 _ _] := hL.sub (by repeat (first | exact List.nil_sublist _ | apply List.Sublist.cons_cons | apply List.Sublist.cons))
     replace hN := hN.nestJoin (L' := L1) HM1.out
     go_roundw
     case rel => exact ⟨k + 1, ⟨ua, _, uc⟩, _, L1, by omega, by go_num, kD (HD1.out.trans HST.out.symm), hN⟩
     case measure => simp [intOf]; omega
    ·obtain rfl : k = ms.length := by omega
     rw [List.take_length] at HD
     obtain ⟨sn, hsn⟩ : ∃ q, q = s := ⟨_, rfl⟩
     subst hsn
     obtain ⟨LN, hln⟩ : ∃ q, q = L := ⟨_, rfl⟩
     subst hln
     clear hlt hk
     go_wp2_with (first | ((with_reducible refine qB rfl rfl ?_); (refine lC rfl hL rfl rfl vM (by rfl) ?_)))
     have hP : Loc w NoM _ [row encK w.heap.size 46 (.slice none 0 0) [], nest w00 F LN, row encN w.heap.size 58 sn.val LN, var g5 [.int .i64 jv.a0, .int .i64 jv.a1, .int .i64 jv.a2, .int .i64 jv.a3, .int .i64 jv.a4, .int .i64 jv.a5, .int .i64 jv.a6, .int .i64 jv.a7, .slice sn.a sn.n sn.c, .slice none 0 0] 27, var g4 [.int .i64 0, .int .i64 0, .int .i64 0, .int .i64 0, .int .i64 0, .int .i64 0, .int .i64 0, .int .i64 0, .slice none 0 0, .slice none 0 0] 27, var g3 [.int .i64 tv.a0, .int .i64 tv.a1, .int .i64 tv.a2, .int .i64 tv.a3, .int .i64 tv.a4, .int .i64 tv.a5, .int .i64 tv.a6, .int .i64 tv.a7, .slice b1 ms.length e1, .slice b2 el.length e2] 27, var g2 [.int .i64 sv.a0, .int .i64 sv.a1, .int .i64 sv.a2, .int .i64 sv.a3, .int .i64 sv.a4, .int .i64 sv.a5, .int .i64 sv.a6, .int .i64 sv.a7, .slice a1 ns.length c1, .slice a2 dl.length c2] 27] := (hL.perm (List.perm_middle (l₁ := [_, _]) (l₂ := [_, _, _, _]))).perm ((List.Perm.swap _ _ _).cons _)
     go_loopw [49] (fun i wr => ∃ (k : Nat) (s : Sl), k ≤ dl.length ∧ i = .int .i64 k ∧ Loc w NoM wr [row encK w.heap.size 46 s.val (linksD (([] : List Lnk) ++ dl.take k)), nest w00 F LN, row encN w.heap.size 58 sn.val LN, var g5 [.int .i64 jv.a0, .int .i64 jv.a1, .int .i64 jv.a2, .int .i64 jv.a3, .int .i64 jv.a4, .int .i64 jv.a5, .int .i64 jv.a6, .int .i64 jv.a7, .slice sn.a sn.n sn.c, .slice s.a s.n s.c] 27, var g4 [.int .i64 0, .int .i64 0, .int .i64 0, .int .i64 0, .int .i64 0, .int .i64 0, .int .i64 0, .int .i64 0, .slice none 0 0, .slice none 0 0] 27, var g3 [.int .i64 tv.a0, .int .i64 tv.a1, .int .i64 tv.a2, .int .i64 tv.a3, .int .i64 tv.a4, .int .i64 tv.a5, .int .i64 tv.a6, .int .i64 tv.a7, .slice b1 ms.length e1, .slice b2 el.length e2] 27, var g2 [.int .i64 sv.a0, .int .i64 sv.a1, .int .i64 sv.a2, .int .i64 sv.a3, .int .i64 sv.a4, .int .i64 sv.a5, .int .i64 sv.a6, .int .i64 sv.a7, .slice a1 ns.length c1, .slice a2 dl.length c2] 27]) (fun i _ => dl.length - (intOf i).toNat)
     case atStart => exact ⟨0, ⟨none, 0, 0⟩, by omega, rfl, hP⟩
     case round =>
      clear hL hP
      obtain ⟨k, s, hk, rfl, hL⟩ := hrel
      by_cases hlt : k < dl.length
      ·obtain ⟨g, off, rfl, hr⟩ := hxa k hlt
       have hzp := kD (ZL1.out _ (List.getElem_mem hlt))
       have HS := kD (links_step ([] : List Lnk) dl k hlt)
       have hbn : dl.length ≤ 100000000 := by have := HLN.out; omega
       have hln : (linksD (([] : List Lnk) ++ dl.take k)).length ≤ 100000000 := links_part (by have := HLN.out; (try simp only [List.length_nil]); omega)
       have hlz := kD (links_partZ (P := ([] : List Lnk)) (l := dl) (k := k) (by simp) ZL1.out)
       have hrW0 : World.rangeAt _ g (off + k * 25) (Lnk.cells dl[k]) := range_below hr hL.below
       clear hr
       generalize dl[k] = p at *
       generalize linksD (([] : List Lnk) ++ dl.take k) = L at *
       have hrW : World.rangeAt _ g (off + k * 25) [.int .i64 p.id.boot, .int .i64 p.id.n, .int .i64 p.node.boot, .int .i64 p.node.n, .int .i64 p.at_.boot, .int .i64 p.at_.n, .int .i64 p.parent.boot, .int .i64 p.parent.n, .string p.name, .int .i64 p.alive.a0, .int .i64 p.alive.a1, .int .i64 p.alive.a2, .int .i64 p.alive.a3, .int .i64 p.alive.a4, .int .i64 p.alive.a5, .int .i64 p.alive.a6, .int .i64 p.alive.a7, .int .i64 p.dead.a0, .int .i64 p.dead.a1, .int .i64 p.dead.a2, .int .i64 p.dead.a3, .int .i64 p.dead.a4, .int .i64 p.dead.a5, .int .i64 p.dead.a6, .int .i64 p.dead.a7] := hrW0
       clear hrW0
       go_wp2_with (first
        | ((with_reducible refine qF rfl rfl ?_); refine lL rfl rfl rfl rfl hlt ?_) | ((with_reducible refine gate (N := 52) rfl ?_); refine lK rfl rfl rfl hrW (by rfl) ?_) | ((with_reducible refine gate (N := 11) rfl ?_); (refine lI rfl hL rfl cy ?_; clear hL; intro g11 w11 hL))
        | (go_at_call 41; have hq := ref11_link (.slice s.a s.n s.c) L p _ (hL.own (E := encK) (base := w.heap.size) (e := 46) (v := s.val) (xs := L) mx).read hlz.out hzp.out (Nat.le_trans hln (by decide)); (refine hq.mono ?_); rintro e w5 ⟨u, rfl, hL5⟩; clear hq; obtain ⟨ua, uc, rfl, -⟩ := R_elem (hL5.own (.head _)).read; replace hL := hL.takeRow hL5; clear hL5)
        | ((with_reducible refine qB rfl rfl ?_); (first | (refine lC rfl hL rfl rfl vM (by rfl) ?_) | (refine lA rfl hL rfl rfl vM (by rfl) ?_))) | ((with_reducible refine qC rfl rfl ?_); (refine lH rfl hL rfl rfl rfl cy (by rfl) ?_); clear hL; intro wq hL))
       go_roundw
       case rel => exact ⟨k + 1, ⟨ua, _, uc⟩, by omega, by go_num, by rw [HS.out]; exact hL.sub (by repeat (first | exact List.nil_sublist _ | apply List.Sublist.cons_cons | apply List.Sublist.cons))⟩
       case measure => simp [intOf]; omega
      ·obtain rfl : k = dl.length := by omega
       rw [List.take_length, List.nil_append] at hL
       obtain ⟨sk, hsk⟩ : ∃ q, q = s := ⟨_, rfl⟩
       subst hsk
       clear hlt hk
       go_wp2_with (first | ((with_reducible refine qB rfl rfl ?_); (refine lC rfl hL rfl rfl vM (by rfl) ?_)))
       go_loopw [62] (fun i wr => ∃ (k : Nat) (s : Sl), k ≤ el.length ∧ i = .int .i64 k ∧ Loc w NoM wr [row encK w.heap.size 46 s.val (linksD (dl ++ el.take k)), nest w00 F LN, row encN w.heap.size 58 sn.val LN, var g5 [.int .i64 jv.a0, .int .i64 jv.a1, .int .i64 jv.a2, .int .i64 jv.a3, .int .i64 jv.a4, .int .i64 jv.a5, .int .i64 jv.a6, .int .i64 jv.a7, .slice sn.a sn.n sn.c, .slice s.a s.n s.c] 27, var g4 [.int .i64 0, .int .i64 0, .int .i64 0, .int .i64 0, .int .i64 0, .int .i64 0, .int .i64 0, .int .i64 0, .slice none 0 0, .slice none 0 0] 27, var g3 [.int .i64 tv.a0, .int .i64 tv.a1, .int .i64 tv.a2, .int .i64 tv.a3, .int .i64 tv.a4, .int .i64 tv.a5, .int .i64 tv.a6, .int .i64 tv.a7, .slice b1 ms.length e1, .slice b2 el.length e2] 27, var g2 [.int .i64 sv.a0, .int .i64 sv.a1, .int .i64 sv.a2, .int .i64 sv.a3, .int .i64 sv.a4, .int .i64 sv.a5, .int .i64 sv.a6, .int .i64 sv.a7, .slice a1 ns.length c1, .slice a2 dl.length c2] 27]) (fun i _ => el.length - (intOf i).toNat)
       case atStart => exact ⟨0, sk, by omega, rfl, by rw [List.take_zero, List.append_nil]; exact hL⟩
       case round =>
        clear hL
        obtain ⟨k, s, hk, rfl, hL⟩ := hrel
        by_cases hlt : k < el.length
        ·obtain ⟨g, off, rfl, hr⟩ := hxb k hlt
         have hzp := kD (ZL2.out _ (List.getElem_mem hlt))
         have HS := kD (links_step dl el k hlt)
         have hbn : el.length ≤ 100000000 := by have := HLN.out; omega
         have hln : (linksD (dl ++ el.take k)).length ≤ 100000000 := links_part (by have := HLN.out; (try simp only [List.length_nil]); omega)
         have hlz := kD (links_partZ (P := dl) (l := el) (k := k) ZL1.out ZL2.out)
         have hrW0 : World.rangeAt _ g (off + k * 25) (Lnk.cells el[k]) := range_below hr hL.below
         clear hr
         generalize el[k] = p at *
         generalize linksD (dl ++ el.take k) = L at *
         have hrW : World.rangeAt _ g (off + k * 25) [.int .i64 p.id.boot, .int .i64 p.id.n, .int .i64 p.node.boot, .int .i64 p.node.n, .int .i64 p.at_.boot, .int .i64 p.at_.n, .int .i64 p.parent.boot, .int .i64 p.parent.n, .string p.name, .int .i64 p.alive.a0, .int .i64 p.alive.a1, .int .i64 p.alive.a2, .int .i64 p.alive.a3, .int .i64 p.alive.a4, .int .i64 p.alive.a5, .int .i64 p.alive.a6, .int .i64 p.alive.a7, .int .i64 p.dead.a0, .int .i64 p.dead.a1, .int .i64 p.dead.a2, .int .i64 p.dead.a3, .int .i64 p.dead.a4, .int .i64 p.dead.a5, .int .i64 p.dead.a6, .int .i64 p.dead.a7] := hrW0
         clear hrW0
         go_wp2_with (first
          | ((with_reducible refine qF rfl rfl ?_); refine lL rfl rfl rfl rfl hlt ?_) | ((with_reducible refine gate (N := 65) rfl ?_); refine lK rfl rfl rfl hrW (by rfl) ?_) | ((with_reducible refine gate (N := 13) rfl ?_); (refine lI rfl hL rfl cy ?_; clear hL; intro g13 w13 hL))
          | (go_at_call 41; have hq := ref11_link (.slice s.a s.n s.c) L p _ (hL.own (E := encK) (base := w.heap.size) (e := 46) (v := s.val) (xs := L) mx).read hlz.out hzp.out (Nat.le_trans hln (by decide)); (refine hq.mono ?_); rintro e w5 ⟨u, rfl, hL5⟩; clear hq; obtain ⟨ua, uc, rfl, -⟩ := R_elem (hL5.own (.head _)).read; replace hL := hL.takeRow hL5; clear hL5)
          | ((with_reducible refine qB rfl rfl ?_); (first | (refine lC rfl hL rfl rfl vM (by rfl) ?_) | (refine lA rfl hL rfl rfl vM (by rfl) ?_))) | ((with_reducible refine qC rfl rfl ?_); (refine lH rfl hL rfl rfl rfl cy (by rfl) ?_); clear hL; intro wq hL))
         go_roundw
         case rel => exact ⟨k + 1, ⟨ua, _, uc⟩, by omega, by go_num, by rw [HS.out]; exact hL.sub (by repeat (first | exact List.nil_sublist _ | apply List.Sublist.cons_cons | apply List.Sublist.cons))⟩
         case measure => simp [intOf]; omega
        ·obtain rfl : k = el.length := by omega
         rw [List.take_length] at hL
         obtain ⟨sk, hsk⟩ : ∃ q, q = s := ⟨_, rfl⟩
         subst hsk
         clear hlt hk
         go_wp2_with (first | ((with_reducible refine qB rfl rfl ?_); (refine lA rfl hL rfl rfl vM (by rfl) ?_)) | ((with_reducible refine qC rfl rfl ?_); (refine lH rfl hL rfl rfl rfl cy (by rfl) ?_); clear hL; intro wq hL))
         have hF : Loc w NoM _ [row encK w.heap.size 46 sk.val (linksD (dl ++ el)), nest w00 F LN, row encN w.heap.size 58 sn.val LN] := hL.sub (by repeat (first | exact List.nil_sublist _ | apply List.Sublist.cons_cons | apply List.Sublist.cons))
         replace hF := hF.perm (((List.Perm.swap _ _ _).cons _).trans (((List.Perm.swap _ _ _)).trans (List.Perm.refl _)))
         refine bodyPost_ret (res_cell rfl hL _ rfl vM (by rfl)) rfl ⟨⟨jv, sn, sk⟩, rfl, by rw [HSJ.out]; exact HJV.out, F, LN, by rw [HNJ.out]; exact HD.out, ?_⟩
         rw [HLJ.out]
         exact hF
end Go.Proofs.YtebpacmhdkgfeaaGreat

namespace Go.Proofs.YtebpacmhdkgfeaaGreat
open Go.RowKit
section
variable {P : Program} {md : Region.Mode} {ops : Array Oper} {ol : List Oper} {o : Oper} {a : Act} {Q : Exit → Act → World → Prop} {S : World → Prop} {W w0 : World} {M : Nat → Prop} {l l' : List Item}
theorem heldThree {f i j k : Nat} {done : Array Bool} (r : Region.ready md ops done = [i, j, k]) (hi : wpOp P ops Q i (fun a' w' => S w' ∧ wpAnyH P md ops Q S f (done.setIfInBounds i true) a' w') a W)
  (hj : wpOp P ops Q j (fun a' w' => S w' ∧ wpAnyH P md ops Q S f (done.setIfInBounds j true) a' w') a W) (hk : wpOp P ops Q k (fun a' w' => S w' ∧ wpAnyH P md ops Q S f (done.setIfInBounds k true) a' w') a W) : wpAnyH P md ops Q S (f + 1) done a W :=
 wpAnyH_all r (by simp) fun x hx => by
  rcases List.mem_cons.1 hx with rfl | hx
  ·exact hi
  ·rcases List.mem_cons.1 hx with rfl | hx
   ·exact hj
   ·obtain rfl := List.mem_singleton.1 hx
    exact hk
theorem heldStoreAll {f i : Nat} {done : Array Bool} {ty : TypeId} {p x : Operand} {n g : Nat} {cs vs : List Value} {v : Value} {t : TypeId} [hn : SizeT P ty n] (hi : Nth ol i o) (r : Region.ready md ol.toArray done = [i]) (hg : o.guard = none) (hL : Loc w0 M W l) (ho : o.op = .store ty p x) (hp : a.eval p = .pointer (some ⟨g, 0, none⟩)) (hx : a.eval x = v)
  (hc : CellsOf v vs) [hs : SwapV g l vs cs t l'] (hl : vs.length = n) (hall : vs.length = cs.length) (H : ∀ w1, Loc w0 M w1 l' → S w1 ∧ wpAnyH P md ol.toArray Q S f (done.setIfInBounds i true) (a.put o.dst undef) w1) : wpAnyH P md ol.toArray Q S (f + 1) done a W := by
 obtain ⟨w1, h1, h2⟩ := run_storeL (P := P) (a := a) (o := o) hL ho hp hx hc hl hs.swp (SetAt.all hall)
 exact heldOne r (wpOp_skip hi.get hg h1 (H w1 h2))
end
theorem held4X {α β γ δ : Type} (I : α → β → γ → δ → World → Prop) {X : α → β → γ → δ → World → Prop} {G : Prop} (h : (∀ x y z u w, I x y z u w → X x y z u w) → G) (g : ∀ x y z u w, I x y z u w → X x y z u w) : G := h g
end Go.Proofs.YtebpacmhdkgfeaaGreat
