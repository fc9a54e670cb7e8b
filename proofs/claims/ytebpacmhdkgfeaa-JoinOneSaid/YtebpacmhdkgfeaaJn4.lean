/- Texts laid together: JoP, JoV, Held, MTail, Hld, Mrg0, ConcatPc, ConcatXt, Nest, ConcatN, JoLk, ConcatK. -/
import Derived.Test.YtebpacmhdkgfeaaJn3
import Derived.OrdersHeld
/- Chapter 11, plainly: how registers stand, what two inodes, links and states are as one. -/
namespace Go.Proofs.Ytebpacmhdkgfeaa
open Go.RowKit

theorem icmp_lt {a b : Int} : icmp a b < 0 ↔ a < b := by unfold icmp; split <;> (try split) <;> omega
theorem icmp_0 {a b : Int} : icmp a b = 0 ↔ a = b := by unfold icmp; split <;> (try split) <;> omega
theorem scmp_lt {a b : ByteArray} : scmp a b < 0 ↔ slt a b = true := by
  unfold scmp
  cases h : slt a b
  · cases h2 : slt b a <;> simp
  · simp
theorem scmp_0 {a b : ByteArray} : scmp a b = 0 ↔ a = b := by
  unfold scmp
  cases h : slt a b
  · cases h2 : slt b a
    · simp [slt_tri h h2]
    · simp only [Bool.false_eq_true, if_false, if_true]
      exact ⟨fun e => by omega, fun e => by rw [e, slt_irr] at h2; cases h2⟩
  · simp only [if_true]
    exact ⟨fun e => by omega, fun e => by rw [e, slt_irr] at h; cases h⟩
theorem orL_lt {x : Int} {t : List Int} : orL (x :: t) < 0 ↔ x < 0 ∨ x = 0 ∧ orL t < 0 := by
  rw [orL_cons]; split <;> omega
theorem orL_0 {x : Int} {t : List Int} : orL (x :: t) = 0 ↔ x = 0 ∧ orL t = 0 := by
  rw [orL_cons]; split <;> omega
theorem orL_nil_lt : orL [] < 0 ↔ False := by simp [orL]
theorem orL_nil_0 : orL [] = 0 ↔ True := by simp [orL]
def Mk.lss (a b : Mk) : Prop := a.boot < b.boot ∨ a.boot = b.boot ∧ a.n < b.n
theorem Mk.cmps_lt {a b : Mk} : a.cmps b < 0 ↔ a.lss b := by
  unfold Mk.cmps Mk.lss
  simp only [orL_lt, icmp_lt, icmp_0, orL_nil_lt, and_false, or_false]
theorem Mk.eq_iff {a b : Mk} : a = b ↔ a.boot = b.boot ∧ a.n = b.n := by
  obtain ⟨a1, a2⟩ := a; obtain ⟨b1, b2⟩ := b; simp
theorem Mk.cmps_0 {a b : Mk} : a.cmps b = 0 ↔ a = b := by
  unfold Mk.cmps
  simp only [orL_0, icmp_0, orL_nil_0, and_true, Mk.eq_iff]
theorem Atr.cmps_lt {a b : Atr} : a.cmps b < 0 ↔ a.at_.lss b.at_ ∨ a.at_ = b.at_ ∧ (a.mode < b.mode ∨ a.mode = b.mode ∧ a.time < b.time) := by
  unfold Atr.cmps
  simp only [orL_lt, icmp_lt, icmp_0, orL_nil_lt, and_false, or_false, Mk.cmps_lt, Mk.cmps_0]
theorem Siz.cmps_lt {a b : Siz} : a.cmps b < 0 ↔ a.at_.lss b.at_ ∨ a.at_ = b.at_ ∧ a.n < b.n := by
  unfold Siz.cmps
  simp only [orL_lt, icmp_lt, icmp_0, orL_nil_lt, and_false, or_false, Mk.cmps_lt, Mk.cmps_0]
theorem Pce.cmps_lt {a b : Pce} : a.cmps b < 0 ↔ a.at_.lss b.at_ ∨ a.at_ = b.at_ ∧ slt a.data b.data = true := by
  unfold Pce.cmps
  simp only [orL_lt, icmp_lt, icmp_0, scmp_lt, scmp_0, orL_nil_lt, and_false, or_false, Mk.cmps_lt, Mk.cmps_0]
theorem Xat.cmps_lt {a b : Xat} : a.cmps b < 0 ↔ a.at_.lss b.at_ ∨ a.at_ = b.at_ ∧ (flagI a.gone < flagI b.gone ∨ flagI a.gone = flagI b.gone ∧ slt a.val b.val = true) := by
  unfold Xat.cmps
  simp only [orL_lt, icmp_lt, icmp_0, scmp_lt, scmp_0, orL_nil_lt, and_false, or_false, Mk.cmps_lt, Mk.cmps_0]
theorem Lnk.cmps_lt {a b : Lnk} : a.cmps b < 0 ↔ a.at_.lss b.at_ ∨ a.at_ = b.at_ ∧ (a.parent.lss b.parent ∨ a.parent = b.parent ∧ slt a.name b.name = true) := by
  unfold Lnk.cmps
  simp only [orL_lt, icmp_lt, icmp_0, scmp_lt, scmp_0, orL_nil_lt, and_false, or_false, Mk.cmps_lt, Mk.cmps_0]

/-! ### Orders -/
theorem Mk.lss_asymm {a b : Mk} (h : a.lss b) : ¬ b.lss a := by unfold Mk.lss at *; omega
theorem Mk.lss_irr (a : Mk) : ¬ a.lss a := by unfold Mk.lss; omega
theorem Mk.lss_tri (a b : Mk) : a.lss b ∨ a = b ∨ b.lss a := by rw [Mk.eq_iff]; unfold Mk.lss; omega
theorem Mk.lss_trans {a b c : Mk} (h : a.lss b) (k : b.lss c) : a.lss c := by unfold Mk.lss at *; omega
theorem slt_cases (a b : ByteArray) : slt a b = true ∨ a = b ∨ slt b a = true := by
  cases h : slt a b
  · cases h2 : slt b a
    · exact .inr (.inl (slt_tri h h2))
    · exact .inr (.inr rfl)
  · exact .inl rfl
/-- An order by what a key is. -/
theorem ord_of {α κ : Type} {r : κ → κ → Prop} {lt : α → α → Bool} (k : α → κ) (hl : ∀ x y, lt x y = true ↔ r (k x) (k y)) (irr : ∀ a, ¬ r a a) (tri : ∀ a b, r a b ∨ a = b ∨ r b a) (tr : ∀ a b c, r a b → r b c → r a c) : Stab.Ord lt where
  asymm x y h := by
    cases h2 : lt y x
    · rfl
    · exact absurd (tr _ _ _ ((hl _ _).1 h) ((hl _ _).1 h2)) (irr _)
  part x y z h := by
    have h := (hl _ _).1 h
    rcases tri (k x) (k y) with h1 | h1 | h1
    · exact .inl ((hl _ _).2 h1)
    · exact .inr ((hl _ _).2 (h1 ▸ h))
    · exact .inr ((hl _ _).2 (tr _ _ _ h1 h))
theorem eqv_of {α κ : Type} {r : κ → κ → Prop} {lt : α → α → Bool} (k : α → κ) (hl : ∀ x y, lt x y = true ↔ r (k x) (k y)) (irr : ∀ a, ¬ r a a) (tri : ∀ a b, r a b ∨ a = b ∨ r b a) {x y : α} : Stab.eqv lt x y = true ↔ k x = k y := by
  rw [Stab.eqv_iff]
  constructor
  · rintro ⟨h1, h2⟩
    rcases tri (k x) (k y) with h | h | h
    · rw [(hl _ _).2 h] at h1; cases h1
    · exact h
    · rw [(hl _ _).2 h] at h2; cases h2
  · intro e
    have h0 : ¬ r (k x) (k y) := by rw [e]; exact irr _
    have h3 : ¬ r (k y) (k x) := by rw [e]; exact irr _
    constructor
    · cases h : lt x y
      · rfl
      · exact absurd ((hl _ _).1 h) h0
    · cases h : lt y x
      · rfl
      · exact absurd ((hl _ _).1 h) h3
abbrev Pce.lt (x y : Pce) : Bool := decide (icmp x.idx y.idx < 0)
abbrev Xat.lt (x y : Xat) : Bool := decide (scmp x.name y.name < 0)
abbrev Lnk.lt (x y : Lnk) : Bool := decide (x.id.cmps y.id < 0)
abbrev InoD.lt (x y : InoD) : Bool := decide (x.hd.id.cmps y.hd.id < 0)
theorem Pce.lt_iff (x y : Pce) : x.lt y = true ↔ x.idx < y.idx := by unfold Pce.lt; rw [decide_eq_true_eq, icmp_lt]
theorem Xat.lt_iff (x y : Xat) : x.lt y = true ↔ slt x.name y.name = true := by unfold Xat.lt; rw [decide_eq_true_eq, scmp_lt]
theorem Lnk.lt_iff (x y : Lnk) : x.lt y = true ↔ x.id.lss y.id := by unfold Lnk.lt; rw [decide_eq_true_eq, Mk.cmps_lt]
theorem InoD.lt_iff (x y : InoD) : x.lt y = true ↔ x.hd.id.lss y.hd.id := by unfold InoD.lt; rw [decide_eq_true_eq, Mk.cmps_lt]
theorem Pce.ord : Stab.Ord Pce.lt := ord_of (r := fun a b : Int => a < b) Pce.idx Pce.lt_iff (fun a => Int.lt_irrefl a) (fun a b => by omega) (fun a b c h k => by omega)
theorem Xat.ord : Stab.Ord Xat.lt := ord_of (r := fun a b : ByteArray => slt a b = true) Xat.name Xat.lt_iff (fun a => by simp [slt_irr]) slt_cases (fun a b c h k => slt_trans h k)
theorem Lnk.ord : Stab.Ord Lnk.lt := ord_of (r := Mk.lss) Lnk.id Lnk.lt_iff Mk.lss_irr Mk.lss_tri (fun _ _ _ h k => Mk.lss_trans h k)
theorem InoD.ord : Stab.Ord InoD.lt := ord_of (r := Mk.lss) (fun d : InoD => d.hd.id) InoD.lt_iff Mk.lss_irr Mk.lss_tri (fun _ _ _ h k => Mk.lss_trans h k)
theorem Pce.eqv_iff {x y : Pce} : Stab.eqv Pce.lt x y = true ↔ x.idx = y.idx := eqv_of (r := fun a b : Int => a < b) Pce.idx Pce.lt_iff (fun a => Int.lt_irrefl a) (fun a b => by omega)
theorem Xat.eqv_iff {x y : Xat} : Stab.eqv Xat.lt x y = true ↔ x.name = y.name := eqv_of (r := fun a b : ByteArray => slt a b = true) Xat.name Xat.lt_iff (fun a => by simp [slt_irr]) slt_cases
theorem Lnk.eqv_iff {x y : Lnk} : Stab.eqv Lnk.lt x y = true ↔ x.id = y.id := eqv_of (r := Mk.lss) Lnk.id Lnk.lt_iff Mk.lss_irr Mk.lss_tri
theorem InoD.eqv_iff {x y : InoD} : Stab.eqv InoD.lt x y = true ↔ x.hd.id = y.hd.id := eqv_of (r := Mk.lss) (fun d : InoD => d.hd.id) InoD.lt_iff Mk.lss_irr Mk.lss_tri

/-! ### Two as one -/
def imax (a b : Int) : Int := if a < b then b else a
def smax (a b : ByteArray) : ByteArray := if slt a b = true then b else a
def V8.join (a b : V8) : V8 := ⟨imax a.a0 b.a0, imax a.a1 b.a1, imax a.a2 b.a2, imax a.a3 b.a3, imax a.a4 b.a4, imax a.a5 b.a5, imax a.a6 b.a6, imax a.a7 b.a7⟩
def V8.within (a b : V8) : Bool := decide (a.a0 ≤ b.a0) && (decide (a.a1 ≤ b.a1) && (decide (a.a2 ≤ b.a2) && (decide (a.a3 ≤ b.a3) && (decide (a.a4 ≤ b.a4) && (decide (a.a5 ≤ b.a5) && (decide (a.a6 ≤ b.a6) && decide (a.a7 ≤ b.a7)))))))
def Lnk.one (a b : Lnk) : Lnk := ⟨a.id, a.node.top b.node, (a.top b).at_, (a.top b).parent, (a.top b).name, a.alive.join b.alive, a.dead.join b.dead⟩
def listedD (l : List Pce) : List Pce := Stab.rfold Pce.lt id Pce.top l
def namedD (l : List Xat) : List Xat := Stab.rfold Xat.lt id Xat.top l
def InoD.one (a b : InoD) : InoD := ⟨⟨a.hd.id, imax a.hd.kind b.hd.kind, smax a.hd.text b.hd.text, a.hd.attr.top b.hd.attr, a.hd.size.top b.hd.size⟩, listedD (a.ps ++ b.ps), namedD (a.xs ++ b.xs)⟩
def InoD.norm (a : InoD) : InoD := ⟨a.hd, listedD a.ps, namedD a.xs⟩
def linksD (l : List Lnk) : List Lnk := Stab.rfold Lnk.lt _root_.id Lnk.one l
def nodesD (l : List InoD) : List InoD := Stab.rfold InoD.lt id InoD.one l
def StaD.join (a b : StaD) : StaD := ⟨a.seen.join b.seen, (nodesD (a.nodes ++ b.nodes)).map InoD.norm, linksD (a.links ++ b.links)⟩
theorem Pce.top_idx {a b : Pce} (h : a.idx = b.idx) : (a.top b).idx = a.idx := by unfold Pce.top; split <;> simp [h]
theorem Xat.top_name {a b : Xat} (h : a.name = b.name) : (a.top b).name = a.name := by unfold Xat.top; split <;> simp [h]
theorem Pce.keeps : Stab.Keeps Pce.lt id Pce.top := ⟨fun x => Stab.eqv_refl Pce.ord x, fun p x h => Pce.eqv_iff.2 (Pce.top_idx (Pce.eqv_iff.1 h)).symm⟩
theorem Xat.keeps : Stab.Keeps Xat.lt id Xat.top := ⟨fun x => Stab.eqv_refl Xat.ord x, fun p x h => Xat.eqv_iff.2 (Xat.top_name (Xat.eqv_iff.1 h)).symm⟩
theorem Lnk.keeps : Stab.Keeps Lnk.lt _root_.id Lnk.one := ⟨fun x => Stab.eqv_refl Lnk.ord x, fun p x h => Lnk.eqv_iff.2 rfl⟩
theorem InoD.keeps : Stab.Keeps InoD.lt id InoD.one := ⟨fun x => Stab.eqv_refl InoD.ord x, fun p x h => InoD.eqv_iff.2 rfl⟩
theorem listed_folds (l : List Pce) : Stab.Folds Pce.lt id Pce.top l (listedD l) := Stab.rfold_folds Pce.ord Pce.keeps l
theorem named_folds (l : List Xat) : Stab.Folds Xat.lt id Xat.top l (namedD l) := Stab.rfold_folds Xat.ord Xat.keeps l
theorem links_folds (l : List Lnk) : Stab.Folds Lnk.lt _root_.id Lnk.one l (linksD l) := Stab.rfold_folds Lnk.ord Lnk.keeps l
theorem nodes_folds (l : List InoD) : Stab.Folds InoD.lt id InoD.one l (nodesD l) := Stab.rfold_folds InoD.ord InoD.keeps l
theorem listed_len (l : List Pce) : (listedD l).length ≤ l.length := Stab.rfold_len _ _ _
theorem named_len (l : List Xat) : (namedD l).length ≤ l.length := Stab.rfold_len _ _ _
theorem links_len (l : List Lnk) : (linksD l).length ≤ l.length := Stab.rfold_len _ _ _
theorem nodes_len (l : List InoD) : (nodesD l).length ≤ l.length := Stab.rfold_len _ _ _
/-- What stands for a class stands above all of it. -/
theorem foldl_dom {α : Type} {f : α → α → α} {R : α → α → Prop} (h1 : ∀ p y x, R p x → R (f p y) x) (h2 : ∀ p y, R (f p y) y) : ∀ (t : List α) (a x : α), (R a x ∨ x ∈ t) → R (t.foldl f a) x
  | [], a, x, h => h.elim id fun h => by cases h
  | y :: t, a, x, h => by
    refine foldl_dom h1 h2 t (f a y) x ?_
    rcases h with h | h
    · exact .inl (h1 _ _ _ h)
    · rcases List.mem_cons.1 h with rfl | h
      · exact .inl (h2 _ _)
      · exact .inr h
theorem Stab.Folds.dom {α : Type} {lt : α → α → Bool} {f : α → α → α} {R : α → α → Prop} (h0 : ∀ x, R x x) (h1 : ∀ p y x, R p x → R (f p y) x) (h2 : ∀ p y, R (f p y) y) {l k : List α} (h : Stab.Folds lt id f l k) {x p : α} (hx : x ∈ l) (hp : p ∈ k) (he : Stab.eqv lt x p = true) (ho : Stab.Ord lt) : R p x := by
  have e1 : p ∈ k.filter (Stab.eqv lt x) := List.mem_filter.2 ⟨hp, he⟩
  have e2 : x ∈ l.filter (Stab.eqv lt x) := List.mem_filter.2 ⟨hx, Stab.eqv_refl ho x⟩
  rw [h.cls x] at e1
  cases hl : l.filter (Stab.eqv lt x) with
  | nil => rw [hl] at e2; cases e2
  | cons a t =>
    rw [hl] at e1 e2
    rw [show p = t.foldl f a from by simpa [Stab.foldG] using e1]
    refine foldl_dom h1 h2 t a x ?_
    rcases List.mem_cons.1 e2 with rfl | e2
    · exact .inl (h0 _)
    · exact .inr e2
theorem Stab.Folds.has {α : Type} {lt : α → α → Bool} {f : α → α → α} {l k : List α} (ho : Stab.Ord lt) (h : Stab.Folds lt id f l k) {x : α} (hx : x ∈ l) : ∃ p ∈ k, Stab.eqv lt x p = true := by
  have e2 : x ∈ l.filter (Stab.eqv lt x) := List.mem_filter.2 ⟨hx, Stab.eqv_refl ho x⟩
  cases hl : l.filter (Stab.eqv lt x) with
  | nil => rw [hl] at e2; cases e2
  | cons a t =>
    have e1 : t.foldl f a ∈ k.filter (Stab.eqv lt x) := by rw [h.cls x, hl]; simp [Stab.foldG]
    exact ⟨_, List.mem_filter.1 e1⟩
/-! ### Above -/
theorem imax_l (a b : Int) : a ≤ imax a b := by unfold imax; split <;> omega
theorem imax_r (a b : Int) : b ≤ imax a b := by unfold imax; split <;> omega
theorem V8.within_iff {a b : V8} : a.within b = true ↔ a.a0 ≤ b.a0 ∧ a.a1 ≤ b.a1 ∧ a.a2 ≤ b.a2 ∧ a.a3 ≤ b.a3 ∧ a.a4 ≤ b.a4 ∧ a.a5 ≤ b.a5 ∧ a.a6 ≤ b.a6 ∧ a.a7 ≤ b.a7 := by
  unfold V8.within
  simp only [Bool.and_eq_true, decide_eq_true_eq]
theorem V8.within_refl (a : V8) : a.within a = true := V8.within_iff.2 (by omega)
theorem V8.within_l (a b : V8) : a.within (a.join b) = true := V8.within_iff.2 ⟨imax_l _ _, imax_l _ _, imax_l _ _, imax_l _ _, imax_l _ _, imax_l _ _, imax_l _ _, imax_l _ _⟩
theorem V8.within_r (a b : V8) : b.within (a.join b) = true := V8.within_iff.2 ⟨imax_r _ _, imax_r _ _, imax_r _ _, imax_r _ _, imax_r _ _, imax_r _ _, imax_r _ _, imax_r _ _⟩
theorem V8.within_trans {a b c : V8} (h : a.within b = true) (k : b.within c = true) : a.within c = true := by
  rw [V8.within_iff] at *
  omega
/-- What stands above another inode, link. -/
structure InoD.Above (p x : InoD) : Prop where
  kind : x.hd.kind ≤ p.hd.kind
  attr : ¬ p.hd.attr.at_.lss x.hd.attr.at_
  size : ¬ p.hd.size.at_.lss x.hd.size.at_
structure Lnk.Above (p x : Lnk) : Prop where
  at_ : ¬ p.at_.lss x.at_
  alive : x.alive.within p.alive = true
  dead : x.dead.within p.dead = true
theorem Atr.top_l (a b : Atr) {x : Mk} (h : ¬ a.at_.lss x) : ¬ (a.top b).at_.lss x := by
  unfold Atr.top
  split
  · rename_i h1
    rw [Atr.cmps_lt] at h1
    rcases h1 with h1 | ⟨h1, -⟩
    · exact fun h2 => h (Mk.lss_trans h1 h2)
    · rw [← h1]; exact h
  · exact h
theorem Atr.top_r (a b : Atr) : ¬ (a.top b).at_.lss b.at_ := by
  unfold Atr.top
  split
  · exact Mk.lss_irr _
  · rename_i h1
    rw [Atr.cmps_lt] at h1
    exact fun h => h1 (.inl h)
theorem Siz.top_l (a b : Siz) {x : Mk} (h : ¬ a.at_.lss x) : ¬ (a.top b).at_.lss x := by
  unfold Siz.top
  split
  · rename_i h1
    rw [Siz.cmps_lt] at h1
    rcases h1 with h1 | ⟨h1, -⟩
    · exact fun h2 => h (Mk.lss_trans h1 h2)
    · rw [← h1]; exact h
  · exact h
theorem Siz.top_r (a b : Siz) : ¬ (a.top b).at_.lss b.at_ := by
  unfold Siz.top
  split
  · exact Mk.lss_irr _
  · rename_i h1
    rw [Siz.cmps_lt] at h1
    exact fun h => h1 (.inl h)
theorem Lnk.top_l (a b : Lnk) {x : Mk} (h : ¬ a.at_.lss x) : ¬ (a.top b).at_.lss x := by
  unfold Lnk.top
  split
  · rename_i h1
    rw [Lnk.cmps_lt] at h1
    rcases h1 with h1 | ⟨h1, -⟩
    · exact fun h2 => h (Mk.lss_trans h1 h2)
    · rw [← h1]; exact h
  · exact h
theorem Lnk.top_r (a b : Lnk) : ¬ (a.top b).at_.lss b.at_ := by
  unfold Lnk.top
  split
  · exact Mk.lss_irr _
  · rename_i h1
    rw [Lnk.cmps_lt] at h1
    exact fun h => h1 (.inl h)
theorem InoD.above_self (x : InoD) : x.Above x := ⟨Int.le_refl _, Mk.lss_irr _, Mk.lss_irr _⟩
theorem InoD.above_l (p y x : InoD) (h : p.Above x) : (p.one y).Above x := { kind := Int.le_trans h.kind (imax_l _ _), attr := Atr.top_l p.hd.attr y.hd.attr h.attr, size := Siz.top_l p.hd.size y.hd.size h.size }
theorem InoD.above_r (p y : InoD) : (p.one y).Above y := { kind := imax_r _ _, attr := Atr.top_r p.hd.attr y.hd.attr, size := Siz.top_r p.hd.size y.hd.size }
theorem Lnk.above_self (x : Lnk) : x.Above x := ⟨Mk.lss_irr _, V8.within_refl _, V8.within_refl _⟩
theorem Lnk.above_l (p y x : Lnk) (h : p.Above x) : (p.one y).Above x := { at_ := Lnk.top_l p y h.at_, alive := V8.within_trans h.alive (V8.within_l p.alive y.alive), dead := V8.within_trans h.dead (V8.within_l p.dead y.dead) }
theorem Lnk.above_r (p y : Lnk) : (p.one y).Above y := { at_ := Lnk.top_r p y, alive := V8.within_r p.alive y.alive, dead := V8.within_r p.dead y.dead }
theorem nodes_above {l : List InoD} {x p : InoD} (hx : x ∈ l) (hp : p ∈ nodesD l) (he : x.hd.id = p.hd.id) : p.Above x :=
  (nodes_folds l).dom (R := InoD.Above) InoD.above_self InoD.above_l InoD.above_r hx hp (InoD.eqv_iff.2 he) InoD.ord
theorem links_above {l : List Lnk} {x p : Lnk} (hx : x ∈ l) (hp : p ∈ linksD l) (he : x.id = p.id) : p.Above x :=
  (links_folds l).dom (R := Lnk.Above) Lnk.above_self Lnk.above_l Lnk.above_r hx hp (Lnk.eqv_iff.2 he) Lnk.ord
theorem nodes_has {l : List InoD} {x : InoD} (hx : x ∈ l) : ∃ p ∈ nodesD l, p.hd.id = x.hd.id := by
  obtain ⟨p, hp, he⟩ := (nodes_folds l).has InoD.ord hx
  exact ⟨p, hp, (InoD.eqv_iff.1 he).symm⟩
theorem links_has {l : List Lnk} {x : Lnk} (hx : x ∈ l) : ∃ p ∈ linksD l, p.id = x.id := by
  obtain ⟨p, hp, he⟩ := (links_folds l).has Lnk.ord hx
  exact ⟨p, hp, (Lnk.eqv_iff.1 he).symm⟩
theorem nodes_of {l : List InoD} {p : InoD} (hp : p ∈ nodesD l) : ∃ x ∈ l, x.hd.id = p.hd.id := by
  obtain ⟨x, hx, he⟩ := (nodes_folds l).mem InoD.ord hp
  exact ⟨x, hx, (InoD.eqv_iff.1 he).symm⟩
end Go.Proofs.Ytebpacmhdkgfeaa

/- Package vector: two vectors as one. -/
namespace Go.Proofs.Ytebpacmhdkgfeaa
open Go.RowKit
set_option maxHeartbeats 2000000

theorem run_maxI (ts : Array TypeId) (t : TypeId) (x y : Int) (w : World) : (Builtin.max_ ts t #[.int .i64 x, .int .i64 y]).run Try.prog w = .ok (.int .i64 (imax x y)) w := by
  simp [Builtin.max_, Builtin.max2, imax, Sem.run, go_sem]
theorem run_maxS (ts : Array TypeId) (t : TypeId) (x y : ByteArray) (w : World) : (Builtin.max_ ts t #[.string x, .string y]).run Try.prog w = .ok (.string (smax x y)) w := by
  unfold Builtin.max_
  simp [Builtin.max2, smax, slt, Op.stringOp, asBool]
  by_cases h : Op.bytesLess x.toList y.toList = true <;> simp [h]
theorem y_maxI {ops : Array Oper} {o : Oper} {a : Act} {x y : Operand} {ats : Array TypeId} (m n : Int) (hg : o.guard = none) (ho : o.op = .call { callee := .builtin .max, args := #[x, y], argTypes := ats }) (hx : a.eval x = .int .i64 m) (hy : a.eval y = .int .i64 n) : Yields Try.prog ops o (.int .i64 (imax m n)) a :=
  .inl ⟨by simp [Region.wanted, hg], fun w => by simp [execOp, ho, resolve, invoke, builtin, hx, hy, run_maxI]⟩
theorem y_maxS {ops : Array Oper} {o : Oper} {a : Act} {x y : Operand} {ats : Array TypeId} (m n : ByteArray) (hg : o.guard = none) (ho : o.op = .call { callee := .builtin .max, args := #[x, y], argTypes := ats }) (hx : a.eval x = .string m) (hy : a.eval y = .string n) : Yields Try.prog ops o (.string (smax m n)) a :=
  .inl ⟨by simp [Region.wanted, hg], fun w => by simp [execOp, ho, resolve, invoke, builtin, hx, hy, run_maxS]⟩
set_option maxRecDepth 20000 in
theorem vec_join (a b : V8) (w : World) : Calls Try.prog 36 #[.agg #[.int .i64 a.a0, .int .i64 a.a1, .int .i64 a.a2, .int .i64 a.a3, .int .i64 a.a4, .int .i64 a.a5, .int .i64 a.a6, .int .i64 a.a7], .agg #[.int .i64 b.a0, .int .i64 b.a1, .int .i64 b.a2, .int .i64 b.a3, .int .i64 b.a4, .int .i64 b.a5, .int .i64 b.a6, .int .i64 b.a7]] w fun e w' => (∃ c, c = a.join b ∧ e = .returned (.agg #[.int .i64 c.a0, .int .i64 c.a1, .int .i64 c.a2, .int .i64 c.a3, .int .i64 c.a4, .int .i64 c.a5, .int .i64 c.a6, .int .i64 c.a7])) ∧ Below w.heap.size w w' := by
  have hL := Loc.nil w NoM
  obtain ⟨a0, a1, a2, a3, a4, a5, a6, a7⟩ := a
  obtain ⟨b0, b1, b2, b3, b4, b5, b6, b7⟩ := b
  have hmx := run_maxI
  have hx0 : ∀ w, (Instr.index 23 (.agg #[.int .i64 b0, .int .i64 b1, .int .i64 b2, .int .i64 b3, .int .i64 b4, .int .i64 b5, .int .i64 b6, .int .i64 b7]) (.int .i64 0)).run Try.prog w = .ok (.int .i64 b0) w := idx8 ⟨b0, b1, b2, b3, b4, b5, b6, b7⟩ 0 (by decide)
  have hx1 : ∀ w, (Instr.index 23 (.agg #[.int .i64 b0, .int .i64 b1, .int .i64 b2, .int .i64 b3, .int .i64 b4, .int .i64 b5, .int .i64 b6, .int .i64 b7]) (.int .i64 1)).run Try.prog w = .ok (.int .i64 b1) w := idx8 ⟨b0, b1, b2, b3, b4, b5, b6, b7⟩ 1 (by decide)
  have hx2 : ∀ w, (Instr.index 23 (.agg #[.int .i64 b0, .int .i64 b1, .int .i64 b2, .int .i64 b3, .int .i64 b4, .int .i64 b5, .int .i64 b6, .int .i64 b7]) (.int .i64 2)).run Try.prog w = .ok (.int .i64 b2) w := idx8 ⟨b0, b1, b2, b3, b4, b5, b6, b7⟩ 2 (by decide)
  have hx3 : ∀ w, (Instr.index 23 (.agg #[.int .i64 b0, .int .i64 b1, .int .i64 b2, .int .i64 b3, .int .i64 b4, .int .i64 b5, .int .i64 b6, .int .i64 b7]) (.int .i64 3)).run Try.prog w = .ok (.int .i64 b3) w := idx8 ⟨b0, b1, b2, b3, b4, b5, b6, b7⟩ 3 (by decide)
  have hx4 : ∀ w, (Instr.index 23 (.agg #[.int .i64 b0, .int .i64 b1, .int .i64 b2, .int .i64 b3, .int .i64 b4, .int .i64 b5, .int .i64 b6, .int .i64 b7]) (.int .i64 4)).run Try.prog w = .ok (.int .i64 b4) w := idx8 ⟨b0, b1, b2, b3, b4, b5, b6, b7⟩ 4 (by decide)
  have hx5 : ∀ w, (Instr.index 23 (.agg #[.int .i64 b0, .int .i64 b1, .int .i64 b2, .int .i64 b3, .int .i64 b4, .int .i64 b5, .int .i64 b6, .int .i64 b7]) (.int .i64 5)).run Try.prog w = .ok (.int .i64 b5) w := idx8 ⟨b0, b1, b2, b3, b4, b5, b6, b7⟩ 5 (by decide)
  have hx6 : ∀ w, (Instr.index 23 (.agg #[.int .i64 b0, .int .i64 b1, .int .i64 b2, .int .i64 b3, .int .i64 b4, .int .i64 b5, .int .i64 b6, .int .i64 b7]) (.int .i64 6)).run Try.prog w = .ok (.int .i64 b6) w := idx8 ⟨b0, b1, b2, b3, b4, b5, b6, b7⟩ 6 (by decide)
  have hx7 : ∀ w, (Instr.index 23 (.agg #[.int .i64 b0, .int .i64 b1, .int .i64 b2, .int .i64 b3, .int .i64 b4, .int .i64 b5, .int .i64 b6, .int .i64 b7]) (.int .i64 7)).run Try.prog w = .ok (.int .i64 b7) w := idx8 ⟨b0, b1, b2, b3, b4, b5, b6, b7⟩ 7 (by decide)
  go_enter Try.func36, Try.ntmps36
  go_wp2_with (first | ((with_reducible refine gate (N := 2) rfl ?_); (refine lJ rfl hL rfl rfl cy ?_; clear hL; intro g2 w2 hL)) | ((with_reducible refine gate (N := 3) rfl ?_); (refine lJ rfl hL rfl rfl cy ?_; clear hL; intro g3 w3 hL)) | ((with_reducible refine gate (N := 4) rfl ?_); (refine lI rfl hL rfl cy ?_; clear hL; intro g4 w4 hL)) | ((with_reducible refine qD rfl rfl ?_); (refine lI rfl hL rfl cy ?_; clear hL; intro gq wq hL)) | ((with_reducible refine qE rfl rfl ?_); (refine lJ rfl hL rfl rfl cy ?_; clear hL; intro gq wq hL)) | ((with_reducible refine qB rfl rfl ?_); (first | (refine lC rfl hL rfl rfl HasV.mem (by rfl) ?_) | (refine lA rfl hL rfl rfl HasV.mem (by rfl) ?_) | (refine lF rfl hL rfl rfl HasV.mem SegC.seg ?_))) | ((with_reducible refine qC rfl rfl ?_); (first | (refine lH rfl hL rfl rfl rfl cy (by rfl) ?_) | (refine lG rfl hL rfl rfl rfl cy (by rfl) (by rfl) ?_)); clear hL; intro wq hL) | ((with_reducible refine qA rfl rfl ?_ ?_); (exact wz rfl rfl rfl (by with_reducible rfl)); (first | (refine lD (wz rfl rfl rfl rfl) hL rfl rfl HasV.mem (by rfl) ?_) | (refine lB (wz rfl rfl rfl rfl) hL rfl rfl HasV.mem (by rfl) ?_) | (refine lE (wz rfl rfl rfl rfl) hL rfl rfl HasV.mem SegC.seg ?_))))
  refine wp_loop_rounds 9 ?_
  rw [rounds_succ]
  go_wp2_with (first | ((with_reducible refine qD rfl rfl ?_); (refine lI rfl hL rfl cy ?_; clear hL; intro gq wq hL)) | ((with_reducible refine qE rfl rfl ?_); (refine lJ rfl hL rfl rfl cy ?_; clear hL; intro gq wq hL)) | ((with_reducible refine qB rfl rfl ?_); (first | (refine lC rfl hL rfl rfl HasV.mem (by rfl) ?_) | (refine lA rfl hL rfl rfl HasV.mem (by rfl) ?_) | (refine lF rfl hL rfl rfl HasV.mem SegC.seg ?_))) | ((with_reducible refine qC rfl rfl ?_); (first | (refine lH rfl hL rfl rfl rfl cy (by rfl) ?_) | (refine lG rfl hL rfl rfl rfl cy (by rfl) (by rfl) ?_)); clear hL; intro wq hL) | ((with_reducible refine qA rfl rfl ?_ ?_); (exact wz rfl rfl rfl (by with_reducible rfl)); (first | (refine lD (wz rfl rfl rfl rfl) hL rfl rfl HasV.mem (by rfl) ?_) | (refine lB (wz rfl rfl rfl rfl) hL rfl rfl HasV.mem (by rfl) ?_) | (refine lE (wz rfl rfl rfl rfl) hL rfl rfl HasV.mem SegC.seg ?_))))
  rw [rounds_succ]
  go_wp2_with (first | ((with_reducible refine qD rfl rfl ?_); (refine lI rfl hL rfl cy ?_; clear hL; intro gq wq hL)) | ((with_reducible refine qE rfl rfl ?_); (refine lJ rfl hL rfl rfl cy ?_; clear hL; intro gq wq hL)) | ((with_reducible refine qB rfl rfl ?_); (first | (refine lC rfl hL rfl rfl HasV.mem (by rfl) ?_) | (refine lA rfl hL rfl rfl HasV.mem (by rfl) ?_) | (refine lF rfl hL rfl rfl HasV.mem SegC.seg ?_))) | ((with_reducible refine qC rfl rfl ?_); (first | (refine lH rfl hL rfl rfl rfl cy (by rfl) ?_) | (refine lG rfl hL rfl rfl rfl cy (by rfl) (by rfl) ?_)); clear hL; intro wq hL) | ((with_reducible refine qA rfl rfl ?_ ?_); (exact wz rfl rfl rfl (by with_reducible rfl)); (first | (refine lD (wz rfl rfl rfl rfl) hL rfl rfl HasV.mem (by rfl) ?_) | (refine lB (wz rfl rfl rfl rfl) hL rfl rfl HasV.mem (by rfl) ?_) | (refine lE (wz rfl rfl rfl rfl) hL rfl rfl HasV.mem SegC.seg ?_))))
  rw [rounds_succ]
  go_wp2_with (first | ((with_reducible refine qD rfl rfl ?_); (refine lI rfl hL rfl cy ?_; clear hL; intro gq wq hL)) | ((with_reducible refine qE rfl rfl ?_); (refine lJ rfl hL rfl rfl cy ?_; clear hL; intro gq wq hL)) | ((with_reducible refine qB rfl rfl ?_); (first | (refine lC rfl hL rfl rfl HasV.mem (by rfl) ?_) | (refine lA rfl hL rfl rfl HasV.mem (by rfl) ?_) | (refine lF rfl hL rfl rfl HasV.mem SegC.seg ?_))) | ((with_reducible refine qC rfl rfl ?_); (first | (refine lH rfl hL rfl rfl rfl cy (by rfl) ?_) | (refine lG rfl hL rfl rfl rfl cy (by rfl) (by rfl) ?_)); clear hL; intro wq hL) | ((with_reducible refine qA rfl rfl ?_ ?_); (exact wz rfl rfl rfl (by with_reducible rfl)); (first | (refine lD (wz rfl rfl rfl rfl) hL rfl rfl HasV.mem (by rfl) ?_) | (refine lB (wz rfl rfl rfl rfl) hL rfl rfl HasV.mem (by rfl) ?_) | (refine lE (wz rfl rfl rfl rfl) hL rfl rfl HasV.mem SegC.seg ?_))))
  rw [rounds_succ]
  go_wp2_with (first | ((with_reducible refine qD rfl rfl ?_); (refine lI rfl hL rfl cy ?_; clear hL; intro gq wq hL)) | ((with_reducible refine qE rfl rfl ?_); (refine lJ rfl hL rfl rfl cy ?_; clear hL; intro gq wq hL)) | ((with_reducible refine qB rfl rfl ?_); (first | (refine lC rfl hL rfl rfl HasV.mem (by rfl) ?_) | (refine lA rfl hL rfl rfl HasV.mem (by rfl) ?_) | (refine lF rfl hL rfl rfl HasV.mem SegC.seg ?_))) | ((with_reducible refine qC rfl rfl ?_); (first | (refine lH rfl hL rfl rfl rfl cy (by rfl) ?_) | (refine lG rfl hL rfl rfl rfl cy (by rfl) (by rfl) ?_)); clear hL; intro wq hL) | ((with_reducible refine qA rfl rfl ?_ ?_); (exact wz rfl rfl rfl (by with_reducible rfl)); (first | (refine lD (wz rfl rfl rfl rfl) hL rfl rfl HasV.mem (by rfl) ?_) | (refine lB (wz rfl rfl rfl rfl) hL rfl rfl HasV.mem (by rfl) ?_) | (refine lE (wz rfl rfl rfl rfl) hL rfl rfl HasV.mem SegC.seg ?_))))
  rw [rounds_succ]
  go_wp2_with (first | ((with_reducible refine qD rfl rfl ?_); (refine lI rfl hL rfl cy ?_; clear hL; intro gq wq hL)) | ((with_reducible refine qE rfl rfl ?_); (refine lJ rfl hL rfl rfl cy ?_; clear hL; intro gq wq hL)) | ((with_reducible refine qB rfl rfl ?_); (first | (refine lC rfl hL rfl rfl HasV.mem (by rfl) ?_) | (refine lA rfl hL rfl rfl HasV.mem (by rfl) ?_) | (refine lF rfl hL rfl rfl HasV.mem SegC.seg ?_))) | ((with_reducible refine qC rfl rfl ?_); (first | (refine lH rfl hL rfl rfl rfl cy (by rfl) ?_) | (refine lG rfl hL rfl rfl rfl cy (by rfl) (by rfl) ?_)); clear hL; intro wq hL) | ((with_reducible refine qA rfl rfl ?_ ?_); (exact wz rfl rfl rfl (by with_reducible rfl)); (first | (refine lD (wz rfl rfl rfl rfl) hL rfl rfl HasV.mem (by rfl) ?_) | (refine lB (wz rfl rfl rfl rfl) hL rfl rfl HasV.mem (by rfl) ?_) | (refine lE (wz rfl rfl rfl rfl) hL rfl rfl HasV.mem SegC.seg ?_))))
  rw [rounds_succ]
  go_wp2_with (first | ((with_reducible refine qD rfl rfl ?_); (refine lI rfl hL rfl cy ?_; clear hL; intro gq wq hL)) | ((with_reducible refine qE rfl rfl ?_); (refine lJ rfl hL rfl rfl cy ?_; clear hL; intro gq wq hL)) | ((with_reducible refine qB rfl rfl ?_); (first | (refine lC rfl hL rfl rfl HasV.mem (by rfl) ?_) | (refine lA rfl hL rfl rfl HasV.mem (by rfl) ?_) | (refine lF rfl hL rfl rfl HasV.mem SegC.seg ?_))) | ((with_reducible refine qC rfl rfl ?_); (first | (refine lH rfl hL rfl rfl rfl cy (by rfl) ?_) | (refine lG rfl hL rfl rfl rfl cy (by rfl) (by rfl) ?_)); clear hL; intro wq hL) | ((with_reducible refine qA rfl rfl ?_ ?_); (exact wz rfl rfl rfl (by with_reducible rfl)); (first | (refine lD (wz rfl rfl rfl rfl) hL rfl rfl HasV.mem (by rfl) ?_) | (refine lB (wz rfl rfl rfl rfl) hL rfl rfl HasV.mem (by rfl) ?_) | (refine lE (wz rfl rfl rfl rfl) hL rfl rfl HasV.mem SegC.seg ?_))))
  rw [rounds_succ]
  go_wp2_with (first | ((with_reducible refine qD rfl rfl ?_); (refine lI rfl hL rfl cy ?_; clear hL; intro gq wq hL)) | ((with_reducible refine qE rfl rfl ?_); (refine lJ rfl hL rfl rfl cy ?_; clear hL; intro gq wq hL)) | ((with_reducible refine qB rfl rfl ?_); (first | (refine lC rfl hL rfl rfl HasV.mem (by rfl) ?_) | (refine lA rfl hL rfl rfl HasV.mem (by rfl) ?_) | (refine lF rfl hL rfl rfl HasV.mem SegC.seg ?_))) | ((with_reducible refine qC rfl rfl ?_); (first | (refine lH rfl hL rfl rfl rfl cy (by rfl) ?_) | (refine lG rfl hL rfl rfl rfl cy (by rfl) (by rfl) ?_)); clear hL; intro wq hL) | ((with_reducible refine qA rfl rfl ?_ ?_); (exact wz rfl rfl rfl (by with_reducible rfl)); (first | (refine lD (wz rfl rfl rfl rfl) hL rfl rfl HasV.mem (by rfl) ?_) | (refine lB (wz rfl rfl rfl rfl) hL rfl rfl HasV.mem (by rfl) ?_) | (refine lE (wz rfl rfl rfl rfl) hL rfl rfl HasV.mem SegC.seg ?_))))
  rw [rounds_succ]
  go_wp2_with (first | ((with_reducible refine qD rfl rfl ?_); (refine lI rfl hL rfl cy ?_; clear hL; intro gq wq hL)) | ((with_reducible refine qE rfl rfl ?_); (refine lJ rfl hL rfl rfl cy ?_; clear hL; intro gq wq hL)) | ((with_reducible refine qB rfl rfl ?_); (first | (refine lC rfl hL rfl rfl HasV.mem (by rfl) ?_) | (refine lA rfl hL rfl rfl HasV.mem (by rfl) ?_) | (refine lF rfl hL rfl rfl HasV.mem SegC.seg ?_))) | ((with_reducible refine qC rfl rfl ?_); (first | (refine lH rfl hL rfl rfl rfl cy (by rfl) ?_) | (refine lG rfl hL rfl rfl rfl cy (by rfl) (by rfl) ?_)); clear hL; intro wq hL) | ((with_reducible refine qA rfl rfl ?_ ?_); (exact wz rfl rfl rfl (by with_reducible rfl)); (first | (refine lD (wz rfl rfl rfl rfl) hL rfl rfl HasV.mem (by rfl) ?_) | (refine lB (wz rfl rfl rfl rfl) hL rfl rfl HasV.mem (by rfl) ?_) | (refine lE (wz rfl rfl rfl rfl) hL rfl rfl HasV.mem SegC.seg ?_))))
  rw [rounds_succ]
  go_wp2_with (first | ((with_reducible refine qD rfl rfl ?_); (refine lI rfl hL rfl cy ?_; clear hL; intro gq wq hL)) | ((with_reducible refine qE rfl rfl ?_); (refine lJ rfl hL rfl rfl cy ?_; clear hL; intro gq wq hL)) | ((with_reducible refine qB rfl rfl ?_); (first | (refine lC rfl hL rfl rfl HasV.mem (by rfl) ?_) | (refine lA rfl hL rfl rfl HasV.mem (by rfl) ?_) | (refine lF rfl hL rfl rfl HasV.mem SegC.seg ?_))) | ((with_reducible refine qC rfl rfl ?_); (first | (refine lH rfl hL rfl rfl rfl cy (by rfl) ?_) | (refine lG rfl hL rfl rfl rfl cy (by rfl) (by rfl) ?_)); clear hL; intro wq hL) | ((with_reducible refine qA rfl rfl ?_ ?_); (exact wz rfl rfl rfl (by with_reducible rfl)); (first | (refine lD (wz rfl rfl rfl rfl) hL rfl rfl HasV.mem (by rfl) ?_) | (refine lB (wz rfl rfl rfl rfl) hL rfl rfl HasV.mem (by rfl) ?_) | (refine lE (wz rfl rfl rfl rfl) hL rfl rfl HasV.mem SegC.seg ?_))))
  exact bodyPost_ret (res_cell rfl hL _ rfl HasV.mem (by rfl)) rfl ⟨⟨_, rfl, rfl⟩, hL.below⟩
end Go.Proofs.Ytebpacmhdkgfeaa

/- Regions that draw their order, walked with one fact on the world that each operation keeps: loads of a variable may be taken first. Over any program. -/
namespace Go.Proofs.Ytebpacmhdkgfeaa
open Go.RowKit

section
variable {P : Program} {md : Region.Mode} {ops : Array Oper} {Q : Exit → Act → World → Prop} {S : World → Prop}
theorem region_held {id : Nat} {ol : List Oper} {Q : Exit → Act → World → Prop} {a : Act} {W w0 : World} {M : Nat → Prop} {l : List Item} (S : World → Prop) (hm : P.follows .mixedOrders = true) (hL : Loc w0 M W l)
    (h : ∀ w1, Loc w0 M w1 l → wpAnyH P .any ol.toArray Q S ol.toArray.size (Array.replicate ol.toArray.size false) a w1) : (Code.region id ol.toArray true).wp P Q a W :=
  wp_region_held (S := S) hm (h { W with drawn := W.drawn + 1 } ⟨⟨hL.mod.os, hL.mod.tape, hL.mod.output, hL.mod.size, hL.mod.block⟩, fun i hi => (hL.at_ i hi).keep (w' := { W with drawn := W.drawn + 1 }) (Nat.le_refl _) fun _ _ => rfl, hL.new, hL.apart⟩)
/-- One operation alone may come. -/
theorem heldOne {f i : Nat} {done : Array Bool} {a : Act} {w : World} (r : Region.ready md ops done = [i]) (h : wpOp P ops Q i (fun a' w' => S w' ∧ wpAnyH P md ops Q S f (done.setIfInBounds i true) a' w') a w) : wpAnyH P md ops Q S (f + 1) done a w :=
  wpAnyH_all r (by simp) fun x hx => by obtain rfl := List.mem_singleton.1 hx; exact h
theorem heldTake {ol : List Oper} {i : Nat} {oi : Oper} {v : Value} {fuel : Nat} {listed : Array Bool} {a : Act} {w : World} (hi : Nth ol i oi)
    (hs : Region.noSelect ol.toArray = true) (hf : Region.free md ol.toArray listed i = true) (hr : (Region.ready md ol.toArray listed).contains i = true)
    (hQ : ∀ c a w, Q (.panic c) (a.put oi.dst v) w → Q (.panic c) a w) (hy : YieldsIf P ol.toArray S oi v a) (hS : S w)
    (h : wpAnyH P md ol.toArray Q S fuel (listed.setIfInBounds i true) (a.put oi.dst v) w) : wpAnyH P md ol.toArray Q S (fuel + 1) listed a w := wpAnyH_take hi.get hs hf hr hQ hy hS h
theorem y_moveG {o : Oper} {a : Act} {x : Operand} (v : Value) (hw : Region.wanted o (yielded ops a.tmps) = true) (ho : o.op = .move x) (hx : a.eval x = v) : YieldsIf P ops S o v a :=
  .inl ⟨hw, fun w _ => by simp [execOp, ho, hx]⟩
theorem run_loadBox {o : Oper} {a : Act} {W : World} {ty : TypeId} {x : Operand} {n g : Nat} {cs : List Value} {t : TypeId} (ha : AggT P ty) (hn : SizeT P ty n) (hB : Box W g cs.toArray t) (ho : o.op = .load ty x) (hx : a.eval x = .pointer (some ⟨g, 0, none⟩))
    (hs : cs.length = n) : (execOp a.eval o).run P W = .ok (.value (.agg cs.toArray)) W := by
  obtain ⟨d, hu, hd⟩ := isRow_of ha.agg
  have hr : W.rangeAt g 0 cs := fun k v hv => by rw [hB.cell (0 + k)]; simpa using hv
  unfold execOp
  simp only [ho, hx, Instr.loadAt, Instr.sureAddr, Sem.run_bind, Sem.run_pure, Result.andThen_ok, run_loadVar_mid W g 0 ty cs d hr hu hd (by rw [hs]; exact hn.size)]
theorem y_loadG {o : Oper} {a : Act} {ty : TypeId} {x : Operand} {n g : Nat} {cs : List Value} {t : TypeId} (ha : AggT P ty) (hn : SizeT P ty n) (hB : ∀ w, S w → Box w g cs.toArray t) (hw : Region.wanted o (yielded ops a.tmps) = true) (ho : o.op = .load ty x) (hx : a.eval x = .pointer (some ⟨g, 0, none⟩))
    (hs : cs.length = n) : YieldsIf P ops S o (.agg cs.toArray) a := .inl ⟨hw, fun _ hS => run_loadBox ha hn (hB _ hS) ho hx hs⟩
theorem enter0 {o : Oper} {a : Act} {w : World} {f : FuncId} {fn : Func} {ats : Array TypeId} (hf : P.funcs[f]? = some fn) (hname : (fn.name == "runtime.NumGoroutine") = false) (hb : fn.body.isNone = false) (ho : o.op = .call { callee := .value (.func f), args := #[], argTypes := ats }) :
    (execOp a.eval o).run P w = .ok (.enter f #[]) w := by
  have e : a.eval (Operand.func f) = .func (.func f) #[] #[] := rfl
  simp [execOp, ho, resolve, invoke, e, Deferred.ofValue, enters hf hname hb]
theorem enter1 {o : Oper} {a : Act} {w : World} {x : Operand} {u : Value} {f : FuncId} {fn : Func} {ats : Array TypeId} (hf : P.funcs[f]? = some fn) (hname : (fn.name == "runtime.NumGoroutine") = false) (hb : fn.body.isNone = false) (ho : o.op = .call { callee := .value (.func f), args := #[x], argTypes := ats }) (hu : a.eval x = u) :
    (execOp a.eval o).run P w = .ok (.enter f #[u]) w := by
  have e : a.eval (Operand.func f) = .func (.func f) #[] #[] := rfl
  simp [execOp, ho, resolve, invoke, hu, e, Deferred.ofValue, enters hf hname hb]
theorem enter2 {o : Oper} {a : Act} {w : World} {x y : Operand} {u v : Value} {f : FuncId} {fn : Func} {ats : Array TypeId} (hf : P.funcs[f]? = some fn) (hname : (fn.name == "runtime.NumGoroutine") = false) (hb : fn.body.isNone = false) (ho : o.op = .call { callee := .value (.func f), args := #[x, y], argTypes := ats }) (hu : a.eval x = u) (hv : a.eval y = v) :
    (execOp a.eval o).run P w = .ok (.enter f #[u, v]) w := by
  have e : a.eval (Operand.func f) = .func (.func f) #[] #[] := rfl
  simp [execOp, ho, resolve, invoke, hu, hv, e, Deferred.ofValue, enters hf hname hb]
theorem heldCall {i : Nat} {o : Oper} {a : Act} {f : FuncId} {args : Array Value} {w : World} {R : Ending → World → Prop} {K : Act → World → Prop} (hi : ops[i]? = some o) (hw : Region.wanted o (yielded ops a.tmps) = true) (he : (execOp a.eval o).run P w = .ok (.enter f args) w)
    (hc : Calls P f args w R) (h : ∀ e w', R e w' → ∃ v, e = .returned v ∧ K (a.put o.dst v) w') : wpOp P ops Q i K a w := by
  unfold wpOp
  simp only [hi, hw, if_true]
  refine .inl ?_
  unfold Oper.wp
  rw [he]
  exact hc.mono fun e w' hr => by obtain ⟨v, e1, hk⟩ := h e w' hr; subst e1; exact hk
end
end Go.Proofs.Ytebpacmhdkgfeaa

/- Regions that draw their order: some operations that read and call what only makes new memory (the head, told by a list), and others that each wait for all of the head. Over any program. -/
namespace Go.Proofs.Ytebpacmhdkgfeaa
open Go.RowKit

section
variable {P : Program} {ops : Array Oper} {md : Region.Mode} {C : World → Prop}
def headM (P : Program) (md : Region.Mode) (ops : Array Oper) (C : World → Prop) (hd : Nat → Bool) (L : Array Bool → Act → Prop) : Nat → Array Bool → Act → Prop
  | 0, done, a => L done a
  | f + 1, done, a => Region.ready md ops done ≠ [] ∧ ∀ i ∈ Region.ready md ops done, hd i = true ∧ qOp P ops C i (headM P md ops C hd L f (done.setIfInBounds i true)) a
theorem wpAny_headM {g : Nat} {hd : Nat → Bool} {L : Array Bool → Act → Prop} {Q : Exit → Act → World → Prop} (hL : ∀ done a w, C w → L done a → wpAny P md ops Q g done a w) (f : Nat) :
    ∀ (done : Array Bool) (a : Act) (w : World), C w → headM P md ops C hd L f done a → wpAny P md ops Q (f + g) done a w := by
  induction f with
  | zero => intro done a w hw h; rw [Nat.zero_add]; exact hL _ _ _ hw h
  | succ f ih =>
    intro done a w hw h
    rw [Nat.succ_add]
    exact ⟨fun h0 => absurd h0 h.1, fun i hi => wpOp_of_qOp hw (fun a' w' hw' h' => ih _ a' w' hw' h') (h.2 i hi).2⟩
/-- How far a region has come: hd tells the head, tl what comes behind it; the rest is done. -/
structure MInv (md : Region.Mode) (ops : Array Oper) (hd tl : Nat → Bool) (done : Array Bool) : Prop where
  size : done.size = ops.size
  closed : ∀ j oj, ops[j]? = some oj → done.getD j false = true → ∀ e ∈ oj.after, Region.binds md e = true → done.getD e.on false = true
  rest : ∀ t, t < ops.size → hd t = false → tl t = false → done.getD t false = true
  tail : ∀ t, t < ops.size → tl t = true → done.getD t true = false
def sinkM (md : Region.Mode) (ops : Array Oper) (hd tl : Nat → Bool) : Bool :=
  (List.range ops.size).all fun i => !hd i || ((List.range ops.size).any fun j => decide (i < j) && (hd j && Region.waitsFor md ops j i)) || (List.range ops.size).all fun t => !tl t || Region.waitsFor md ops t i || (List.range ops.size).any fun u => tl u && Region.waitsFor md ops t u
theorem waitsM {hd tl : Nat → Bool} {done : Array Bool} (hs : sinkM md ops hd tl = true) (inv : MInv md ops hd tl done) (d : Nat) :
    ∀ i, ops.size - i = d → i < ops.size → hd i = true → done.getD i true = false → ∀ t, tl t = true → t ∉ Region.ready md ops done := by
  induction d using Nat.strongRecOn with
  | _ d ih =>
    intro i hdd hin hi hun t ht hr
    obtain ⟨_, ot, hot, hall⟩ := mem_ready.1 hr
    have htlt : t < ops.size := (Array.getElem?_eq_some_iff.1 hot).1
    have h1 := List.all_eq_true.1 hs i (List.mem_range.2 hin)
    rw [hi] at h1
    simp only [Bool.not_true, Bool.false_or, Bool.or_eq_true] at h1
    rcases h1 with h1 | h1
    · obtain ⟨j, hj, hj2⟩ := List.any_eq_true.1 h1
      simp only [Bool.and_eq_true, decide_eq_true_eq] at hj2
      obtain ⟨oj, hoj, e, he, hb, hon⟩ := Region.waitsFor_spec hj2.2.2
      have hjlt := List.mem_range.1 hj
      cases hl : done.getD j false with
      | true =>
        have h2 := inv.closed j oj hoj hl e he hb
        rw [hon, getD_both hun] at h2
        cases h2
      | false => exact ih (ops.size - j) (by omega) j rfl hjlt hj2.2.1 (getD_in (by rw [inv.size]; omega) hl) t ht hr
    · have h2 := List.all_eq_true.1 h1 t (List.mem_range.2 htlt)
      rw [ht] at h2
      simp only [Bool.not_true, Bool.false_or, Bool.or_eq_true] at h2
      rcases h2 with h2 | h2
      · obtain ⟨o', ho', e, he, hb, hon⟩ := Region.waitsFor_spec h2
        obtain rfl : o' = ot := Option.some.inj (ho'.symm.trans hot)
        have h3 := hall e he hb
        rw [hon, getD_both hun] at h3
        cases h3
      · obtain ⟨u, hu, hu2⟩ := List.any_eq_true.1 h2
        simp only [Bool.and_eq_true] at hu2
        obtain ⟨o', ho', e, he, hb, hon⟩ := Region.waitsFor_spec hu2.2
        obtain rfl : o' = ot := Option.some.inj (ho'.symm.trans hot)
        have h3 := hall e he hb
        rw [hon, getD_both (inv.tail u (List.mem_range.1 hu) hu2.1)] at h3
        cases h3
theorem MInv.ready {hd tl : Nat → Bool} {done : Array Bool} (hs : sinkM md ops hd tl = true) (inv : MInv md ops hd tl done) {i : Nat} (hi : hd i = true) (hr : i ∈ Region.ready md ops done) : ∀ j ∈ Region.ready md ops done, hd j = true := fun j hj => by
  obtain ⟨hju, oj, hoj, -⟩ := mem_ready.1 hj
  obtain ⟨hiu, oi, hoi, -⟩ := mem_ready.1 hr
  have hjlt : j < ops.size := (Array.getElem?_eq_some_iff.1 hoj).1
  have hilt : i < ops.size := (Array.getElem?_eq_some_iff.1 hoi).1
  cases h1 : hd j
  · cases h2 : tl j
    · have := inv.rest j hjlt h1 h2
      rw [getD_both hju] at this; cases this
    · exact absurd hj (waitsM hs inv _ i rfl hilt hi hiu j h2)
  · rfl
theorem MInv.set {hd tl : Nat → Bool} {done : Array Bool} (inv : MInv md ops hd tl done) {i : Nat} (hi : i ∈ Region.ready md ops done) (ht : tl i = false) : MInv md ops hd tl (done.setIfInBounds i true) := by
  obtain ⟨_, oi, hoi, hall⟩ := mem_ready.1 hi
  refine ⟨by simp [inv.size], fun j oj hj hl e he hb => ?_, fun t ht1 h1 h2 => getD_set_true (inv.rest t ht1 h1 h2), fun t ht1 h1 => ?_⟩
  · by_cases hij : i = j
    · subst hij
      obtain rfl : oi = oj := Option.some.inj (hoi.symm.trans hj)
      exact getD_set_true (hall e he hb)
    · rw [getD_set_ne false hij] at hl
      exact getD_set_true (inv.closed j oj hj hl e he hb)
  · have hne : i ≠ t := fun e => by subst e; rw [ht] at h1; cases h1
    rw [getD_set_ne true hne]
    exact inv.tail t ht1 h1
theorem headM_take {hd tl : Nat → Bool} {i : Nat} {oi : Oper} {v : Value} {L : Array Bool → Act → Prop} (hi : ops[i]? = some oi) (hsel : ∀ (j : Nat) (o : Oper) cs b, ops[j]? = some o → o.op ≠ .select cs b)
    (hs : sinkM md ops hd tl = true) (hdt : ∀ j, hd j = true → tl j = false) (hih : hd i = true) (hend : ∀ done a, L done a → ∀ j ∈ Region.ready md ops done, hd j = false) (f : Nat) :
    ∀ (done : Array Bool) (a : Act), MInv md ops hd tl done →
      (∀ j oj, ops[j]? = some oj → j ≠ i → done.getD j true = false → (∀ e ∈ oj.after, Region.binds md e = true → e.on ≠ i) → oi.apart ops oj = true) →
      i ∈ Region.ready md ops done → YieldsIn P ops C oi v a → headM P md ops C hd L f (done.setIfInBounds i true) (a.put oi.dst v) → headM P md ops C hd L (f + 1) done a := by
  induction f with
  | zero =>
    intro done a inv _ hr hy H
    refine ⟨fun h => (by rw [h] at hr; cases hr), fun j hj => ⟨inv.ready hs hih hr j hj, ?_⟩⟩
    by_cases hji : j = i
    · subst hji; exact hy.qOp hi H
    · have h1 := hend _ _ H j (ready_mono hj hji)
      rw [inv.ready hs hih hr j hj] at h1
      cases h1
  | succ f ih =>
    intro done a inv hfree hr hy H
    refine ⟨fun h => (by rw [h] at hr; cases hr), fun j hj => ⟨inv.ready hs hih hr j hj, ?_⟩⟩
    by_cases hji : j = i
    · subst hji; exact hy.qOp hi H
    · obtain ⟨hjun, oj, hoj, hall⟩ := mem_ready.1 hj
      have hnot : ∀ e ∈ oj.after, Region.binds md e = true → e.on ≠ i := fun e he hb heq => by
        have h1 := hall e he hb
        rw [heq, getD_both (mem_ready.1 hr).1] at h1
        cases h1
      have h2 := qOp_put hoj (hfree j oj hoj hji hjun hnot) (fun cs b => hsel i oi cs b hi) (fun cs b => hsel j oj cs b hoj) hy (H.2 j (ready_mono hj hji)).2
      refine qOp_mono (fun a' h3 => ih (done.setIfInBounds j true) a' (inv.set hj (hdt j (inv.ready hs hih hr j hj))) (fun q oq hq hqi hun hno => hfree q oq hq hqi ?_ hno) (ready_mono hr (Ne.symm hji)) h3.1 ?_) h2
      · by_cases hjk : j = q
        · subst hjk; exact hjun
        · rw [getD_set_ne true hjk] at hun; exact hun
      · rw [Array.setIfInBounds_comm _ _ hji]
        exact h3.2
/-- The head's operations, in the order of their list. -/
def pickL (o : Oper) (ol : List Oper) (hs : List Nat) : List Oper := hs.map fun i => ol.getD i o
def fin (hs : List Nat) (done : Array Bool) : Array Bool := hs.foldl (fun d i => d.setIfInBounds i true) done
def lexM (md : Region.Mode) (ops : Array Oper) : List Nat → Array Bool → Bool
  | [], _ => true
  | i :: hs, done => decide (i < ops.size) && (Region.ready md ops done).contains i && Region.free md ops done i && lexM md ops hs (done.setIfInBounds i true)
def closedM (md : Region.Mode) (ops : Array Oper) (hd tl : Nat → Bool) (done : Array Bool) : Bool :=
  decide (done.size = ops.size) && ((List.range ops.size).all fun j => !(done.getD j false) || (match ops[j]? with | some oj => oj.after.all fun e => !(Region.binds md e) || done.getD e.on false | none => true)) &&
    ((List.range ops.size).all fun t => hd t || tl t || done.getD t false) && (List.range ops.size).all fun t => !tl t || !(done.getD t true)
theorem closedM_spec {hd tl : Nat → Bool} {done : Array Bool} (h : closedM md ops hd tl done = true) : MInv md ops hd tl done := by
  simp only [closedM, Bool.and_eq_true, decide_eq_true_eq] at h
  obtain ⟨⟨⟨h1, h2⟩, h3⟩, h4⟩ := h
  refine ⟨h1, fun j oj hj hl e he hb => ?_, fun t ht a b => ?_, fun t ht a => ?_⟩
  · have h4 := List.all_eq_true.1 h2 j (List.mem_range.2 (Array.getElem?_eq_some_iff.1 hj).1)
    rw [hl, hj] at h4
    simp only [Bool.not_true, Bool.false_or] at h4
    have h5 := Array.all_eq_true'.1 h4 e he
    rw [hb] at h5
    simpa using h5
  · have h5 := List.all_eq_true.1 h3 t (List.mem_range.2 ht)
    rw [a, b] at h5
    simpa using h5
  · have h5 := List.all_eq_true.1 h4 t (List.mem_range.2 ht)
    rw [a] at h5
    simpa using h5
theorem headM_lex {ol : List Oper} {o0 : Oper} {hd tl : Nat → Bool} {dn : Array Bool} {L : Act → Prop} (hsel : Region.noSelect ol.toArray = true) (hs : sinkM md ol.toArray hd tl = true) (hdt : ∀ j, hd j = true → tl j = false) (hend : ∀ j ∈ Region.ready md ol.toArray dn, hd j = false) (hl : List Nat) :
    ∀ (done : Array Bool) (a : Act), (∀ i ∈ hl, hd i = true) → fin hl done = dn → MInv md ol.toArray hd tl done → lexM md ol.toArray hl done = true → wpQuiet P ol.toArray C L (pickL o0 ol hl) a →
    headM P md ol.toArray C hd (fun done' a' => done' = dn ∧ L a') hl.length done a := by
  induction hl with
  | nil => intro done a _ hf _ _ h; exact ⟨hf, h⟩
  | cons i hl ih =>
    intro done a hh hf inv hB h
    simp only [lexM, Bool.and_eq_true, decide_eq_true_eq] at hB
    obtain ⟨⟨⟨hlt, hr⟩, hfr⟩, hB'⟩ := hB
    have hlt' : i < ol.length := by simpa using hlt
    have h0 : ol.toArray[i]? = some (ol.getD i o0) := by simp [List.getD, hlt']
    have hr' : i ∈ Region.ready md ol.toArray done := by simpa using hr
    have hst : qOp P ol.toArray C i (wpQuiet P ol.toArray C L (pickL o0 ol hl)) a := by unfold qOp; simp only [h0]; exact h
    obtain ⟨v, hy, hK⟩ := yieldsIn_of_qOp h0 hst
    have hih := hh i (.head _)
    exact headM_take h0 (Region.noSelect_spec hsel) hs hdt hih (fun done' a' hL j hj => by rw [hL.1] at hj; exact hend j hj) hl.length done a inv (Region.free_spec h0 hfr) hr' hy
      (ih _ _ (fun j hj => hh j (.tail _ hj)) hf (inv.set hr' (hdt i hih)) hB' hK)
def mtailB (ops : Array Oper) (hl tl : List Nat) (done : Array Bool) : Bool :=
  Region.noSelect ops && sinkM .any ops (fun i => hl.contains i) (fun i => tl.contains i) && (hl.all fun i => !tl.contains i) && closedM .any ops (fun i => hl.contains i) (fun i => tl.contains i) done && ((Region.ready .any ops (fin hl done)).all fun j => !hl.contains j) && lexM .any ops hl done
theorem any_mtail {Q : Exit → Act → World → Prop} {a : Act} {w : World} {o0 : Oper} {ol : List Oper} {done : Array Bool} {f : Nat} (hl tl : List Nat) (g : Nat) (hf : hl.length + g = f) (hB : mtailB ol.toArray hl tl done = true)
    (h : wpQuiet P ol.toArray (fun w' => ∃ e : Ext w, w' = e.w) (fun a' => ∀ w', (∃ e : Ext w, w' = e.w) → wpAny P .any ol.toArray Q g (fin hl done) a' w') (pickL o0 ol hl) a) : wpAny P .any ol.toArray Q f done a w := by
  simp only [mtailB, Bool.and_eq_true] at hB
  obtain ⟨⟨⟨⟨⟨hsel, hs⟩, hdt⟩, hcl⟩, hend⟩, hlex⟩ := hB
  have H := headM_lex (P := P) (C := fun w' => ∃ e : Ext w, w' = e.w) (o0 := o0) (dn := fin hl done) hsel hs (fun j hj => by
    have := List.all_eq_true.1 hdt j (by simpa using hj)
    simpa using this) (fun j hj => by
    have := List.all_eq_true.1 hend j hj
    simpa using this) hl done a (fun i hi => by simpa using hi) rfl (closedM_spec hcl) hlex h
  have := wpAny_headM (Q := Q) (g := g) (fun done' a' w' hw' hL => by rw [hL.1]; exact hL.2 w' hw') _ _ _ w ⟨⟨w, Below.refl _ _⟩, rfl⟩ H
  rwa [hf] at this
end
section
variable {P : Program} {md : Region.Mode} {ol : List Oper} {o : Oper} {a : Act} {Q : Exit → Act → World → Prop} {W w0 : World} {M : Nat → Prop} {l l' : List Item}
theorem run_storeL {ty : TypeId} {p x : Operand} {n g j : Nat} {cs cs' vs : List Value} {v : Value} {t : TypeId} [hn : SizeT P ty n] (hL : Loc w0 M W l) (ho : o.op = .store ty p x) (hp : a.eval p = .pointer (some ⟨g, j, none⟩)) (hx : a.eval x = v)
    (hc : CellsOf v vs) (hl : vs.length = n) (hs : Swap (var g cs t) (var g cs' t) l l') (hcs : SetAt cs j vs cs') : ∃ w1, (execOp a.eval o).run P W = .ok .skip w1 ∧ Loc w0 M w1 l' := by
  obtain ⟨e1, e2⟩ := hcs.eq
  have hB := hL.box hs.mem
  have hcl : v.cells.toList = vs := by rw [hc.eq]
  have hst := run_storeCells_at P g j t v.cells.toList 0 cs.toArray W hB (by rw [hcl]; simpa using e2) (by rw [hcl]; exact hc.one)
  simp only [Nat.add_zero] at hst
  obtain ⟨i, hii, hsz⟩ := Option.map_eq_some_iff.1 hn.size
  have hvs : v.cells.size = n := by rw [hc.eq]; simpa using hl
  have hst2 : (storeVar ty ⟨g, j, none⟩ v).run P W = .ok () (W.setRow g cs'.toArray) := by
    rw [← e1]
    have e3 : (cs.toArray.toList.take j ++ v.cells.toList ++ cs.toArray.toList.drop (j + v.cells.toList.length)) = cs.take j ++ vs ++ cs.drop (j + vs.length) := by rw [hcl]
    rw [e3] at hst
    simp [storeVar, sizeOf, typeInfo, hii, hsz, hvs, hst]
  refine ⟨W.setRow g cs'.toArray, ?_, hL.put hs ⟨rfl, rfl, rfl, by simp, fun k _ hk => setRow_other W g k _ hk⟩ (setRow_heap W g cs.toArray cs'.toArray t (0, 0) hB)⟩
  unfold execOp
  simp only [ho, hp, hx, Instr.storeAt, Instr.sureAddr, Sem.run_bind, Sem.run_pure, Result.andThen_ok, hst2]
/-- The store that alone may come. -/
theorem wpAny_store {f i : Nat} {done : Array Bool} {ty : TypeId} {p x : Operand} {n g j : Nat} {cs cs' vs : List Value} {v : Value} {t : TypeId} [hn : SizeT P ty n] (hi : Nth ol i o) (r : Region.ready md ol.toArray done = [i]) (hg : o.guard = none) (hL : Loc w0 M W l) (ho : o.op = .store ty p x) (hp : a.eval p = .pointer (some ⟨g, j, none⟩)) (hx : a.eval x = v)
    (hc : CellsOf v vs) [hs : StoreC g l j vs cs cs' t l'] (hl : vs.length = n) (H : ∀ w1, Loc w0 M w1 l' → wpAny P md ol.toArray Q f (done.setIfInBounds i true) (a.put o.dst undef) w1) : wpAny P md ol.toArray Q (f + 1) done a W := by
  obtain ⟨w1, h1, h2⟩ := run_storeL (P := P) (a := a) (o := o) hL ho hp hx hc hl hs.swp hs.set
  exact wpAny_one r (wpOp_skip hi.get hg h1 (H w1 h2))
end
end Go.Proofs.Ytebpacmhdkgfeaa

/- Held boxes: loads of their parts; stores to variables, to rows and to parts of their elements, where the order is drawn. Over any program. -/
namespace Go.Proofs.Ytebpacmhdkgfeaa
open Go.RowKit

section
variable {P : Program} {md : Region.Mode} {ops : Array Oper} {ol : List Oper} {o : Oper} {a : Act} {Q : Exit → Act → World → Prop} {S : World → Prop} {W w0 : World} {M : Nat → Prop} {l l' : List Item}
theorem run_loadSegB {ty : TypeId} {x : Operand} {n g j : Nat} {cs vs : List Value} {t : TypeId} (ha : AggT P ty) (hn : SizeT P ty n) (hB : Box W g cs.toArray t) (ho : o.op = .load ty x) (hx : a.eval x = .pointer (some ⟨g, j, none⟩)) (hs : Seg cs j n vs) :
    (execOp a.eval o).run P W = .ok (.value (.agg vs.toArray)) W := by
  obtain ⟨d, hu, hd⟩ := isRow_of ha.agg
  unfold execOp
  simp only [ho, hx, Instr.loadAt, Instr.sureAddr, Sem.run_bind, Sem.run_pure, Result.andThen_ok, run_loadVar_mid W g j ty vs d (range_of_box hB hs) hu hd (by rw [hs.len]; exact hn.size)]
theorem run_loadCellB {ty : TypeId} {x : Operand} {g j : Nat} {cs : List Value} {v : Value} {t : TypeId} (hB : Box W g cs.toArray t) (ho : o.op = .load ty x) (hx : a.eval x = .pointer (some ⟨g, j, none⟩)) (ha : OneT P ty) (hv : cs[j]? = some v) :
    (execOp a.eval o).run P W = .ok (.value v) W := by
  have hc : W.cell? ⟨g, j, none⟩ = some v := by rw [hB.cell j]; simpa using hv
  unfold execOp
  simp only [ho, hx, Instr.loadAt, Instr.sureAddr, Sem.run_bind, Sem.run_pure, Result.andThen_ok, run_loadVar_cell ha W _ v hc]
theorem y_loadSeg {ty : TypeId} {x : Operand} {n g j : Nat} {cs vs : List Value} {t : TypeId} (hB : ∀ w, S w → Box w g cs.toArray t) (hw : Region.wanted o (yielded ops a.tmps) = true) (ho : o.op = .load ty x) (hx : a.eval x = .pointer (some ⟨g, j, none⟩)) (ha : AggT P ty) (hn : SizeT P ty n) (hs : Seg cs j n vs) :
    YieldsIf P ops S o (.agg vs.toArray) a := .inl ⟨hw, fun _ hS => run_loadSegB ha hn (hB _ hS) ho hx hs⟩
theorem y_loadCell {ty : TypeId} {x : Operand} {g j : Nat} {cs : List Value} {v : Value} {t : TypeId} (hB : ∀ w, S w → Box w g cs.toArray t) (hw : Region.wanted o (yielded ops a.tmps) = true) (ho : o.op = .load ty x) (hx : a.eval x = .pointer (some ⟨g, j, none⟩)) (ha : OneT P ty) (hv : cs[j]? = some v) :
    YieldsIf P ops S o v a := .inl ⟨hw, fun _ hS => run_loadCellB (hB _ hS) ho hx ha hv⟩
theorem y_loadAll {ty : TypeId} {x : Operand} {n g : Nat} {cs : List Value} {t : TypeId} (hB : ∀ w, S w → Box w g cs.toArray t) (hw : Region.wanted o (yielded ops a.tmps) = true) (ho : o.op = .load ty x) (hx : a.eval x = .pointer (some ⟨g, 0, none⟩)) (ha : AggT P ty) (hn : SizeT P ty n) (hs : cs.length = n) :
    YieldsIf P ops S o (.agg cs.toArray) a := y_loadG ha hn hB hw ho hx hs
theorem y_pure {v : Value} (hw : Region.wanted o (yielded ops a.tmps) = true) (hr : ∀ w, (execOp a.eval o).run P w = .ok (.value v) w) : YieldsIf P ops S o v a := .inl ⟨hw, fun w _ => hr w⟩
theorem heldStore {f i : Nat} {done : Array Bool} {ty : TypeId} {p x : Operand} {n g j : Nat} {cs cs' vs : List Value} {v : Value} {t : TypeId} [hn : SizeT P ty n] (hi : Nth ol i o) (r : Region.ready md ol.toArray done = [i]) (hg : o.guard = none) (hL : Loc w0 M W l) (ho : o.op = .store ty p x) (hp : a.eval p = .pointer (some ⟨g, j, none⟩)) (hx : a.eval x = v)
    (hc : CellsOf v vs) [hs : StoreC g l j vs cs cs' t l'] (hl : vs.length = n) (H : ∀ w1, Loc w0 M w1 l' → S w1 ∧ wpAnyH P md ol.toArray Q S f (done.setIfInBounds i true) (a.put o.dst undef) w1) : wpAnyH P md ol.toArray Q S (f + 1) done a W := by
  obtain ⟨w1, h1, h2⟩ := run_storeL (P := P) (a := a) (o := o) hL ho hp hx hc hl hs.swp hs.set
  exact heldOne r (wpOp_skip hi.get hg h1 (H w1 h2))
theorem heldStoreRow {α : Type} {E : Enc α} {T te' : TypeId} {f i k : Nat} {done : Array Bool} {p x : Operand} {base g n c : Nat} {xs : List α} {y : α} [hn : SizeT P T E.sz] (hi : Nth ol i o) (r : Region.ready md ol.toArray done = [i]) (hg : o.guard = none) (hL : Loc w0 M W l)
    (hs : Swap (row E base te' (.slice (some ⟨g, 0, none⟩) n c) xs) (row E base te' (.slice (some ⟨g, 0, none⟩) n c) (xs.set k y)) l l') (ho : o.op = .store T p x) (hp : a.eval p = .pointer (some ⟨g, k * E.sz, none⟩)) (hx : a.eval x = .agg (E.cells y).toArray) (hk : k < xs.length)
    (H : ∀ w1, Loc w0 M w1 l' → S w1 ∧ wpAnyH P md ol.toArray Q S f (done.setIfInBounds i true) (a.put o.dst undef) w1) : wpAnyH P md ol.toArray Q S (f + 1) done a W := by
  obtain ⟨w1, h1, h2⟩ := run_setRow (P := P) (a := a) (o := o) hL hs ho hp hx hk
  exact heldOne r (wpOp_skip hi.get hg h1 (H w1 h2))
theorem Enc.all_part {α : Type} (E : Enc α) (xs : List α) (i : Nat) {x : α} (hx : xs[i]? = some x) (y : α) (j : Nat) (v : Value) (hj : j < E.sz) (hy : E.cells y = (E.cells x).set j v) : E.all (xs.set i y) = (E.all xs).set (i * E.sz + j) v := by
  obtain ⟨hi, hxe⟩ := List.getElem?_eq_some_iff.1 hx
  have h1 := E.all_set xs i hi y
  have h2 := E.all_set xs i hi x
  rw [show xs.set i x = xs from by rw [← hxe]; exact List.set_getElem_self _] at h2
  have hlen : ((E.all xs).take (i * E.sz)).length = i * E.sz := by
    rw [List.length_take, E.all_length]
    have : (i + 1) * E.sz ≤ xs.length * E.sz := Nat.mul_le_mul_right _ hi
    rw [Nat.add_mul] at this; omega
  rw [h1, hy]
  conv => rhs; rw [h2]
  rw [List.append_assoc, List.append_assoc, List.set_append_right _ _ (by rw [hlen]; omega), hlen, Nat.add_sub_cancel_left, List.set_append_left _ _ (by rw [E.len]; exact hj)]
theorem O_part {α : Type} {E : Enc α} {w : World} {base g n c : Nat} {e : TypeId} {xs : List α} (h : E.O w base e (.slice (some ⟨g, 0, none⟩) n c) xs) (i : Nat) {x : α} (hx : xs[i]? = some x) (y : α) (j : Nat) (v : Value) (hj : j < E.sz) (hy : E.cells y = (E.cells x).set j v) (hv : v.oneCell' = true) :
    ∃ w1, (storeCells ⟨g, i * E.sz + j, none⟩ [v] 0).run P w = .ok () w1 ∧ E.O w1 base e (.slice (some ⟨g, 0, none⟩) n c) (xs.set i y) ∧ Mod (· = g) w w1 := by
  have hi : i < xs.length := (List.getElem?_eq_some_iff.1 hx).1
  obtain ⟨hl, h2⟩ := h
  rcases h2 with ⟨hn, _⟩ | ⟨g', cap, cur, hvv, hb, hg, hnc, hcm, hcs, htake⟩
  · cases hn
  · injection hvv with hv1 hv2 hv3
    injection hv1 with hv1
    injection hv1 with hv1
    subst hv1 hv2 hv3
    have hsz : i * E.sz + E.sz ≤ xs.length * E.sz := by
      have : (i + 1) * E.sz ≤ xs.length * E.sz := Nat.mul_le_mul_right _ hi
      rw [Nat.add_mul] at this; omega
    have hcap : xs.length * E.sz ≤ c * E.sz := Nat.mul_le_mul_right _ hnc
    have hst := run_storeCells_at P g (i * E.sz + j) e [v] 0 cur w hg (by simp only [List.length_singleton, hcs]; omega) (by simpa using hv)
    simp only [Nat.add_zero, List.length_singleton] at hst
    have hset : (cur.toList.take (i * E.sz + j) ++ [v] ++ cur.toList.drop (i * E.sz + j + 1)) = cur.toList.set (i * E.sz + j) v := by
      rw [List.set_eq_take_append_cons_drop, if_pos (by rw [Array.length_toList, hcs]; omega), List.append_assoc]
      rfl
    rw [hset] at hst
    refine ⟨_, hst, ⟨E.all_length _, .inr ⟨g, c, _, by rw [List.length_set], hb, setRow_heap w g cur _ e _ hg, by rw [List.length_set]; exact hnc, hcm, ?_, ?_⟩⟩, ⟨rfl, rfl, rfl, by simp, fun k _ hk => setRow_other w g k _ hk⟩⟩
    · simp only [List.size_toArray, List.length_set, Array.length_toList, hcs]
    · rw [List.length_set, E.all_part xs i hx y j v hj hy, ← htake, List.take_set]
theorem heldStorePart {α : Type} {E : Enc α} {T te' : TypeId} {f i k j : Nat} {done : Array Bool} {p x : Operand} {base g n c : Nat} {xs : List α} {y z : α} {v : Value} [hn : SizeT P T 1] (hi : Nth ol i o) (r : Region.ready md ol.toArray done = [i]) (hg : o.guard = none) (hL : Loc w0 M W l)
    (hs : Swap (row E base te' (.slice (some ⟨g, 0, none⟩) n c) xs) (row E base te' (.slice (some ⟨g, 0, none⟩) n c) (xs.set k y)) l l') (ho : o.op = .store T p x) (hp : a.eval p = .pointer (some ⟨g, k * E.sz + j, none⟩)) (hx : a.eval x = v) (hc : CellsOf v [v]) (hz : xs[k]? = some z) (hj : j < E.sz) (hy : E.cells y = (E.cells z).set j v)
    (H : ∀ w1, Loc w0 M w1 l' → S w1 ∧ wpAnyH P md ol.toArray Q S f (done.setIfInBounds i true) (a.put o.dst undef) w1) : wpAnyH P md ol.toArray Q S (f + 1) done a W := by
  obtain ⟨w1, hst, hO, hm⟩ := O_part (P := P) (hL.own hs.mem) k hz y j v hj hy (hc.one v (.head _))
  obtain ⟨inf, hii, hsz⟩ := Option.map_eq_some_iff.1 hn.size
  have hst2 : (storeVar T ⟨g, k * E.sz + j, none⟩ v).run P W = .ok () w1 := by
    simp [storeVar, sizeOf, typeInfo, hii, hsz, hc.eq, hst]
  refine heldOne r (wpOp_skip hi.get hg (w' := w1) ?_ (H w1 (hL.swap hs (hm.mono fun k' _ hk' => ?_) (row_at hO) fun _ hk => .inl hk)))
  · unfold execOp
    simp only [ho, hp, hx, Instr.storeAt, Instr.sureAddr, Sem.run_bind, Sem.run_pure, Result.andThen_ok, hst2]
  · show (Value.slice (some ⟨g, 0, none⟩) n c).ownBlock = some k'
    rw [hk']; rfl
theorem enter2T {w : World} {t : Tmp} {x y : Operand} {u v : Value} {f : FuncId} {fn : Func} {ats : Array TypeId} (hf : P.funcs[f]? = some fn) (hname : (fn.name == "runtime.NumGoroutine") = false) (hb : fn.body.isNone = false) (ho : o.op = .call { callee := .value (.tmp t), args := #[x, y], argTypes := ats }) (ht : a.eval (.tmp t) = .func (.func f) #[] #[]) (hu : a.eval x = u) (hv : a.eval y = v) :
    (execOp a.eval o).run P w = .ok (.enter f #[u, v]) w := by
  simp [execOp, ho, resolve, invoke, hu, hv, ht, Deferred.ofValue, enters hf hname hb]
theorem wpOp_lit {i : Nat} {K : Act → World → Prop} {t : TypeId} {n : Nat} {parts : Array (Nat × Operand)} {e : TypeId} {sz : Nat} {z : Value} {cs : List Value} [ht : SliceT P t e] [hz : ZeroT P e z] [hs : SizeT P e sz] (hi : Nth ol i o) (hg : o.guard = none) (hL : Loc w0 M W l) (ho : o.op = .buildSlice t n parts)
    (hn : decide (n * sz ≤ 16777216) = true) (h0 : decide (0 < n * sz) = true) (hfill : Instr.fill (fun i => some (i * sz, sz)) ((Array.range (n * sz)).map fun j => z.cells[j % z.cells.size]!) (parts.map fun (i, x) => (i, a.eval x)).toList = some cs.toArray)
    (H : ∀ g w1, Loc w0 M w1 (var g cs e :: l) → K (a.put o.dst (.slice (some ⟨g, 0, none⟩) n n)) w1) : wpOp P ol.toArray Q i K a W :=
  wpOp_runW hi.get (by simp [Region.wanted, hg]) (run_litL ho hn h0 hfill) (H _ _ (hL.callVar (bl_alloc (Below.refl _ _) _) (Box.new W _ e) (Nat.le_refl _)))
theorem wpOp_store {i : Nat} {K : Act → World → Prop} {ty : TypeId} {p x : Operand} {n g j : Nat} {cs cs' vs : List Value} {v : Value} {t : TypeId} [hn : SizeT P ty n] (hi : Nth ol i o) (hg : o.guard = none) (hL : Loc w0 M W l) (ho : o.op = .store ty p x) (hp : a.eval p = .pointer (some ⟨g, j, none⟩)) (hx : a.eval x = v)
    (hc : CellsOf v vs) [hs : StoreC g l j vs cs cs' t l'] (hl : vs.length = n) (H : ∀ w1, Loc w0 M w1 l' → K (a.put o.dst undef) w1) : wpOp P ol.toArray Q i K a W := by
  obtain ⟨w1, h1, h2⟩ := run_storeL (P := P) (a := a) (o := o) hL ho hp hx hc hl hs.swp hs.set
  exact wpOp_skip hi.get hg h1 (H w1 h2)
theorem wpOp_alloc {i : Nat} {K : Act → World → Prop} {t : TypeId} {z : Value} {cs : List Value} [hz : ZeroT P t z] (hi : Nth ol i o) (hg : o.guard = none) (hL : Loc w0 M W l) (ho : o.op = .alloc t) (hc : CellsOf z cs)
    (H : ∀ g w1, Loc w0 M w1 (var g cs t :: l) → K (a.put o.dst (.pointer (some ⟨g, 0, none⟩))) w1) : wpOp P ol.toArray Q i K a W := by
  refine wpOp_runW (v := .pointer (some ⟨W.heap.size, 0, none⟩)) (w' := W.alloc (.cells cs.toArray t)) hi.get (by simp [Region.wanted, hg]) ?_ (H _ _ (hL.callVar (bl_alloc (Below.refl _ _) _) (Box.new W _ t) (Nat.le_refl _)))
  obtain ⟨i, hi2, hzz⟩ := Option.map_eq_some_iff.1 hz.zero
  simp [execOp, ho, Instr.alloc, zeroValue, typeInfo, hi2, hzz, hc.eq, newVar, newRow]
theorem heldEitherX {f i j : Nat} {done : Array Bool} {α : Type} (I : α → World → Prop) {X : α → World → Prop} (r : Region.ready md ops done = [i, j]) (g : ∀ x w', I x w' → X x w') (hi : (∀ x w', I x w' → X x w') → wpOp P ops Q i (fun a' w' => S w' ∧ wpAnyH P md ops Q S f (done.setIfInBounds i true) a' w') a W)
    (hj : (∀ x w', I x w' → X x w') → wpOp P ops Q j (fun a' w' => S w' ∧ wpAnyH P md ops Q S f (done.setIfInBounds j true) a' w') a W) : wpAnyH P md ops Q S (f + 1) done a W :=
  wpAnyH_all r (by simp) fun x hx => by
    rcases List.mem_cons.1 hx with rfl | hx
    · exact hi g
    · obtain rfl := List.mem_singleton.1 hx
      exact hj g
theorem heldEitherXX {f i j : Nat} {done : Array Bool} {α β : Type} (I : α → β → World → Prop) {X : α → β → World → Prop} (r : Region.ready md ops done = [i, j]) (g : ∀ x y w', I x y w' → X x y w') (hi : (∀ x y w', I x y w' → X x y w') → wpOp P ops Q i (fun a' w' => S w' ∧ wpAnyH P md ops Q S f (done.setIfInBounds i true) a' w') a W)
    (hj : (∀ x y w', I x y w' → X x y w') → wpOp P ops Q j (fun a' w' => S w' ∧ wpAnyH P md ops Q S f (done.setIfInBounds j true) a' w') a W) : wpAnyH P md ops Q S (f + 1) done a W :=
  wpAnyH_all r (by simp) fun x hx => by
    rcases List.mem_cons.1 hx with rfl | hx
    · exact hi g
    · obtain rfl := List.mem_singleton.1 hx
      exact hj g
theorem heldEither3 {f i j : Nat} {done : Array Bool} {α β γ : Type} (I : α → β → γ → World → Prop) {X : α → β → γ → World → Prop} (r : Region.ready md ops done = [i, j]) (g : ∀ x y z w', I x y z w' → X x y z w') (hi : (∀ x y z w', I x y z w' → X x y z w') → wpOp P ops Q i (fun a' w' => S w' ∧ wpAnyH P md ops Q S f (done.setIfInBounds i true) a' w') a W)
    (hj : (∀ x y z w', I x y z w' → X x y z w') → wpOp P ops Q j (fun a' w' => S w' ∧ wpAnyH P md ops Q S f (done.setIfInBounds j true) a' w') a W) : wpAnyH P md ops Q S (f + 1) done a W :=
  wpAnyH_all r (by simp) fun x hx => by
    rcases List.mem_cons.1 hx with rfl | hx
    · exact hi g
    · obtain rfl := List.mem_singleton.1 hx
      exact hj g
theorem heldBoth {f i j : Nat} {done : Array Bool} (r : Region.ready md ops done = [i, j]) (hi : wpOp P ops Q i (fun a' w' => S w' ∧ wpAnyH P md ops Q S f (done.setIfInBounds i true) a' w') a W)
    (hj : wpOp P ops Q j (fun a' w' => S w' ∧ wpAnyH P md ops Q S f (done.setIfInBounds j true) a' w') a W) : wpAnyH P md ops Q S (f + 1) done a W :=
  wpAnyH_all r (by simp) fun x hx => by
    rcases List.mem_cons.1 hx with rfl | hx
    · exact hi
    · obtain rfl := List.mem_singleton.1 hx
      exact hj
/-- Two that may come: both ways lead to one place. -/
theorem heldEither {f i j : Nat} {done : Array Bool} {G : Prop} (r : Region.ready md ops done = [i, j]) (g : G) (hi : G → wpOp P ops Q i (fun a' w' => S w' ∧ wpAnyH P md ops Q S f (done.setIfInBounds i true) a' w') a W) (hj : G → wpOp P ops Q j (fun a' w' => S w' ∧ wpAnyH P md ops Q S f (done.setIfInBounds j true) a' w') a W) : wpAnyH P md ops Q S (f + 1) done a W :=
  wpAnyH_all r (by simp) fun x hx => by
    rcases List.mem_cons.1 hx with rfl | hx
    · exact hi g
    · obtain rfl := List.mem_singleton.1 hx
      exact hj g
end
end Go.Proofs.Ytebpacmhdkgfeaa

/- Rows of one's own: what they are; calls that turn them; two slices read. Over any program. -/
namespace Go.Proofs.Ytebpacmhdkgfeaa
open Go.RowKit

theorem R_none {α : Type} (E : Enc α) (w : World) : E.R w (.slice none 0 0) [] := (Enc.O.none (E := E) w 0 0).read
theorem own_casesG {α : Type} {E : Enc α} {w0 w : World} {M : Nat → Prop} {l : List Item} {u : Value} {xs : List α} {base : Nat} {te : TypeId} (hL : Loc w0 M w (row E base te u xs :: l)) : (u = .slice none 0 0 ∧ xs = []) ∨ ∃ g c, u = .slice (some ⟨g, 0, none⟩) xs.length c ∧ xs.length ≤ c ∧ c ≤ 9223372036854775807 ∧ base ≤ g := by
  have h := hL.own (E := E) (.head _)
  rcases h.2 with ⟨rfl, h0⟩ | ⟨g, c, cur, rfl, hb, hg, h1, h2, h3⟩
  · exact .inl ⟨rfl, List.eq_nil_of_length_eq_zero h0⟩
  · exact .inr ⟨g, c, rfl, h1, by unfold maxLen at h2; omega, hb⟩
theorem Loc.thenRowG {α : Type} {E : Enc α} {te : TypeId} {w0 w w1 : World} {g n c m d base : Nat} {xs ys : List α} (h : Loc w0 NoM w [row E base te (.slice (some ⟨g, 0, none⟩) n c) xs]) (h2 : Loc w (· = g) w1 [row E base te (.slice (some ⟨g, 0, none⟩) m d) ys]) (hg : w0.heap.size ≤ g) :
    Loc w0 NoM w1 [row E base te (.slice (some ⟨g, 0, none⟩) m d) ys] := by
  refine ⟨h.mod.trans h2.mod fun b hb e => ?_, h2.at_, fun i hi k hk => ?_, h2.apart⟩
  · have e' : b = g := e
    omega
  · rw [List.mem_singleton.1 hi] at hk
    have hk' : (Value.slice (some ⟨g, 0, none⟩) m d).ownBlock = some k := hk
    injection hk' with hk'
    subst hk'
    exact .inl hg
theorem Loc.rowNil' {w0 w : World} {M : Nat → Prop} {l : List Item} (h : Loc w0 M w l) {α : Type} (E : Enc α) (base : Nat) (e : TypeId) : Loc w0 M w (row E base e (.slice none 0 0) [] :: l) :=
  h.callNew (Below.refl _ _) (row_at (Enc.O.none _ _ _)) fun k hk => by cases hk
theorem two_rows {α : Type} {E : Enc α} {w : World} {s t : Sl} {xs ys : List α} (h1 : E.R w s.val xs) (h2 : E.R w t.val ys) : ∀ i (p : i < [s, t].length) (q : i < [xs, ys].length), E.R w [s, t][i].val [xs, ys][i]
  | 0, _, _ => h1
  | 1, _, _ => h2
  | i + 2, p, _ => by simp at p; omega
end Go.Proofs.Ytebpacmhdkgfeaa

/- slices.Grow of nil, and slices.Concat, at crannog/api.Piece. -/
namespace Go.Proofs.Ytebpacmhdkgfeaa.ConcatPc
open Go.RowKit

theorem row0 {w0 w : World} {M : Nat → Prop} {l : List Item} (h : Loc w0 M w l) {α : Type} (E : Enc α) (base : Nat) (e : TypeId) : Loc w0 M w (row E base e (.slice none 0 0) [] :: l) :=
  h.callNew (Below.refl _ _) (row_at (Enc.O.none _ _ _)) fun k hk => by cases hk
set_option maxHeartbeats 1000000 in
theorem growNil (n : Nat) (w : World) (hn : n ≤ 100000000000) :
    Calls Try.prog 149 #[.slice none 0 0, .int .i64 n] w fun e w' => ∃ v, e = .returned v ∧ Loc w NoM w' [row encPc w.heap.size 71 v []] := by
  have hL := Loc.nil w NoM
  have h0 : ¬ ((n : Int) < 0) := by omega
  by_cases hz : n = 0
  · subst hz
    have hL := row0 hL encPc w.heap.size 71
    go_enter Try.func149, Try.ntmps149
    go_wp2_with (first | ((with_reducible refine qD rfl rfl ?_); (refine lI rfl hL rfl cy ?_; clear hL; intro gq wq hL)) | ((with_reducible refine qE rfl rfl ?_); (refine lJ rfl hL rfl rfl cy ?_; clear hL; intro gq wq hL)) | ((with_reducible refine qB rfl rfl ?_); (first | (refine lC rfl hL rfl rfl HasV.mem (by rfl) ?_) | (refine lA rfl hL rfl rfl HasV.mem (by rfl) ?_) | (refine lF rfl hL rfl rfl HasV.mem SegC.seg ?_))) | ((with_reducible refine qC rfl rfl ?_); (first | (refine lH rfl hL rfl rfl rfl cy (by rfl) ?_) | (refine lG rfl hL rfl rfl rfl cy (by rfl) (by rfl) ?_)); clear hL; intro wq hL) | ((with_reducible refine qA rfl rfl ?_ ?_); (exact wz rfl rfl rfl (by with_reducible rfl)); (first | (refine lD (wz rfl rfl rfl rfl) hL rfl rfl HasV.mem (by rfl) ?_) | (refine lB (wz rfl rfl rfl rfl) hL rfl rfl HasV.mem (by rfl) ?_) | (refine lE (wz rfl rfl rfl rfl) hL rfl rfl HasV.mem SegC.seg ?_))))
    go_ret
    exact ⟨_, rfl, hL⟩
  · have h1 : (0 : Int) < (n : Int) := by omega
    go_enter Try.func149, Try.ntmps149
    go_wp2_with (first
      | ((with_reducible refine qD rfl rfl ?_); (refine lI rfl hL rfl cy ?_; clear hL; intro gq wq hL)) | ((with_reducible refine qE rfl rfl ?_); (refine lJ rfl hL rfl rfl cy ?_; clear hL; intro gq wq hL)) | ((with_reducible refine qB rfl rfl ?_); (first | (refine lC rfl hL rfl rfl HasV.mem (by rfl) ?_) | (refine lA rfl hL rfl rfl HasV.mem (by rfl) ?_) | (refine lF rfl hL rfl rfl HasV.mem SegC.seg ?_))) | ((with_reducible refine qC rfl rfl ?_); (first | (refine lH rfl hL rfl rfl rfl cy (by rfl) ?_) | (refine lG rfl hL rfl rfl rfl cy (by rfl) (by rfl) ?_)); clear hL; intro wq hL) | ((with_reducible refine qA rfl rfl ?_ ?_); (exact wz rfl rfl rfl (by with_reducible rfl)); (first | (refine lD (wz rfl rfl rfl rfl) hL rfl rfl HasV.mem (by rfl) ?_) | (refine lB (wz rfl rfl rfl rfl) hL rfl rfl HasV.mem (by rfl) ?_) | (refine lE (wz rfl rfl rfl rfl) hL rfl rfl HasV.mem SegC.seg ?_)))
      | (at_builtin; refine ev_growNil encPc w.heap.size rfl hL rfl rfl rfl Try.underlying3 rfl rfl (by omega) hn (Nat.le_refl _) ?_; clear hL; intro g G wq hG hG63 hL; have hG2 : (0 : Int) ≤ (G : Int) := by omega))
    go_ret
    exact ⟨_, rfl, hL⟩
/-- What k of the lists hold together. -/
def upto {α : Type} (xss : List (List α)) (k : Nat) : List α := (xss.take k).flatten
theorem upto_succ {α : Type} (xss : List (List α)) (k : Nat) (h : k < xss.length) : upto xss (k + 1) = upto xss k ++ xss[k] := by
  unfold upto
  rw [(List.take_append_getElem h).symm, List.flatten_append]
  simp
theorem upto_len {α : Type} (xss : List (List α)) (k : Nat) : (upto xss k).length ≤ xss.flatten.length := by
  have h : xss.flatten = upto xss k ++ (xss.drop k).flatten := by unfold upto; rw [← List.flatten_append, List.take_append_drop]
  rw [h, List.length_append]
  omega
set_option maxHeartbeats 2000000 in
theorem concat (v : Value) (ss : List Sl) (xss : List (List Pce)) (w : World) (h : encSl.R w v ss) (hl : ss.length = xss.length) (hx : ∀ i (h1 : i < ss.length) (h2 : i < xss.length), (encPc).R w ss[i].val xss[i]) (hn : xss.flatten.length ≤ 1000000000) (hm : ss.length ≤ 1000000000) :
    Calls Try.prog 98 #[v] w fun e w' => ∃ u, e = .returned u ∧ Loc w NoM w' [row encPc w.heap.size 71 u xss.flatten] := by
  have hL := Loc.nil w NoM
  obtain ⟨ao, c, rfl, hel⟩ := R_elem h
  have HX := Lib.hid hx
  have HL := Lib.hid hl
  clear hx h hl
  go_enter Try.func98, Try.ntmps98
  go_wp2_with (first | ((with_reducible refine qD rfl rfl ?_); (refine lI rfl hL rfl cy ?_; clear hL; intro gq wq hL)) | ((with_reducible refine qE rfl rfl ?_); (refine lJ rfl hL rfl rfl cy ?_; clear hL; intro gq wq hL)) | ((with_reducible refine qB rfl rfl ?_); (first | (refine lC rfl hL rfl rfl HasV.mem (by rfl) ?_) | (refine lA rfl hL rfl rfl HasV.mem (by rfl) ?_) | (refine lF rfl hL rfl rfl HasV.mem SegC.seg ?_))) | ((with_reducible refine qC rfl rfl ?_); (first | (refine lH rfl hL rfl rfl rfl cy (by rfl) ?_) | (refine lG rfl hL rfl rfl rfl cy (by rfl) (by rfl) ?_)); clear hL; intro wq hL) | ((with_reducible refine qA rfl rfl ?_ ?_); (exact wz rfl rfl rfl (by with_reducible rfl)); (first | (refine lD (wz rfl rfl rfl rfl) hL rfl rfl HasV.mem (by rfl) ?_) | (refine lB (wz rfl rfl rfl rfl) hL rfl rfl HasV.mem (by rfl) ?_) | (refine lE (wz rfl rfl rfl rfl) hL rfl rfl HasV.mem SegC.seg ?_))))
  go_loopw [3, 11] (fun s i wr => ∃ k : Nat, k ≤ ss.length ∧ i = .int .i64 k ∧ s = .int .i64 ((upto xss k).length : Nat) ∧ Loc w NoM wr []) (fun _ i _ => ss.length - (intOf i).toNat)
  case atStart => exact ⟨0, by omega, rfl, rfl, hL⟩
  case round =>
    clear hL
    obtain ⟨k, hk, rfl, rfl, hL⟩ := hrel
    by_cases hlt : k < ss.length
    · obtain ⟨g, off, rfl, hr⟩ := hel k hlt
      have hrW : wr.rangeAt g (off + k * 1) [.slice ss[k].a ss[k].n ss[k].c] := range_below hr hL.below
      clear hr
      have hlt2 : k < xss.length := by have := HL.out; omega
      have hR := HX.out k hlt hlt2
      obtain ⟨ao2, c2, e2, -⟩ := R_elem hR
      have HN : Hid ((upto xss (k + 1)).length = (upto xss k).length + ss[k].n) := Lib.hid (by
        rw [upto_succ xss k hlt2, List.length_append]
        have e3 : ss[k].n = xss[k].length := by unfold Sl.val at e2; injection e2
        rw [e3])
      have hb1 := upto_len xss (k + 1)
      rw [HN.out] at hb1
      generalize (upto xss k).length = N at *
      clear hR e2
      generalize ss[k].n = m at *
      generalize ss[k].a = aa at *
      generalize ss[k].c = cc at *
      have hb2 : N + m ≤ 1000000000 := by omega
      have hneg : ¬ ((N : Int) + (m : Int) < 0) := by omega
      go_wp2_with (first
        | ((with_reducible refine qF rfl rfl ?_); refine lL rfl rfl rfl rfl hlt ?_)
        | ((with_reducible refine gate (N := 14) rfl ?_); refine ev_loadR1 (v := .slice aa m cc) rfl rfl rfl hrW ?_)
        | ((with_reducible refine qD rfl rfl ?_); (refine lI rfl hL rfl cy ?_; clear hL; intro gq wq hL)) | ((with_reducible refine qE rfl rfl ?_); (refine lJ rfl hL rfl rfl cy ?_; clear hL; intro gq wq hL)) | ((with_reducible refine qB rfl rfl ?_); (first | (refine lC rfl hL rfl rfl HasV.mem (by rfl) ?_) | (refine lA rfl hL rfl rfl HasV.mem (by rfl) ?_) | (refine lF rfl hL rfl rfl HasV.mem SegC.seg ?_))) | ((with_reducible refine qC rfl rfl ?_); (first | (refine lH rfl hL rfl rfl rfl cy (by rfl) ?_) | (refine lG rfl hL rfl rfl rfl cy (by rfl) (by rfl) ?_)); clear hL; intro wq hL) | ((with_reducible refine qA rfl rfl ?_ ?_); (exact wz rfl rfl rfl (by with_reducible rfl)); (first | (refine lD (wz rfl rfl rfl rfl) hL rfl rfl HasV.mem (by rfl) ?_) | (refine lB (wz rfl rfl rfl rfl) hL rfl rfl HasV.mem (by rfl) ?_) | (refine lE (wz rfl rfl rfl rfl) hL rfl rfl HasV.mem SegC.seg ?_))))
      go_roundw
      case rel => exact ⟨k + 1, by omega, by go_num, by rw [HN.out]; go_num, hL⟩
      case measure => simp [intOf]; omega
    · obtain rfl : k = ss.length := by omega
      have hb1 := upto_len xss ss.length
      generalize (upto xss ss.length).length = N at *
      go_wp2_with (first
        | (go_at_call 149; (with_reducible refine (growNil N _ (by omega)).mono ?_); rintro e w3 ⟨v0, rfl, hL3⟩; have hL := hL.takeRow hL3; clear hL3)
        | ((with_reducible refine qD rfl rfl ?_); (refine lI rfl hL rfl cy ?_; clear hL; intro gq wq hL)) | ((with_reducible refine qE rfl rfl ?_); (refine lJ rfl hL rfl rfl cy ?_; clear hL; intro gq wq hL)) | ((with_reducible refine qB rfl rfl ?_); (first | (refine lC rfl hL rfl rfl HasV.mem (by rfl) ?_) | (refine lA rfl hL rfl rfl HasV.mem (by rfl) ?_) | (refine lF rfl hL rfl rfl HasV.mem SegC.seg ?_))) | ((with_reducible refine qC rfl rfl ?_); (first | (refine lH rfl hL rfl rfl rfl cy (by rfl) ?_) | (refine lG rfl hL rfl rfl rfl cy (by rfl) (by rfl) ?_)); clear hL; intro wq hL) | ((with_reducible refine qA rfl rfl ?_ ?_); (exact wz rfl rfl rfl (by with_reducible rfl)); (first | (refine lD (wz rfl rfl rfl rfl) hL rfl rfl HasV.mem (by rfl) ?_) | (refine lB (wz rfl rfl rfl rfl) hL rfl rfl HasV.mem (by rfl) ?_) | (refine lE (wz rfl rfl rfl rfl) hL rfl rfl HasV.mem SegC.seg ?_))))
      clear hb1 hk hlt
      go_loopw [6, 27] (fun s i wr => ∃ (k : Nat) (vs : Value), k ≤ ss.length ∧ i = .int .i64 k ∧ s = vs ∧ Loc w NoM wr [row encPc w.heap.size 71 vs (upto xss k)]) (fun _ i _ => ss.length - (intOf i).toNat)
      case atStart => exact ⟨0, _, by omega, rfl, rfl, hL⟩
      case round =>
        clear hL
        obtain ⟨k, vs, hk, rfl, rfl, hL⟩ := hrel
        by_cases hlt : k < ss.length
        · obtain ⟨g, off, rfl, hr⟩ := hel k hlt
          have hrW : wr.rangeAt g (off + k * 1) [.slice ss[k].a ss[k].n ss[k].c] := range_below hr hL.below
          clear hr
          have hlt2 : k < xss.length := by have := HL.out; omega
          have hR := Lib.hid ((HX.out k hlt hlt2).below hL.below)
          have HN := Lib.hid (upto_succ xss k hlt2)
          have hb1 := upto_len xss (k + 1)
          rw [HN.out, List.length_append] at hb1
          unfold Sl.val at hR
          generalize upto xss k = L at *
          generalize xss[k] = ys at *
          generalize ss[k].n = m at *
          generalize ss[k].a = aa at *
          generalize ss[k].c = cc at *
          go_wp2_with (first
            | ((with_reducible refine qF rfl rfl ?_); refine lL rfl rfl rfl rfl hlt ?_)
            | ((with_reducible refine gate (N := 30) rfl ?_); refine ev_loadR1 (v := .slice aa m cc) rfl rfl rfl hrW ?_)
            | ((with_reducible refine qD rfl rfl ?_); (refine lI rfl hL rfl cy ?_; clear hL; intro gq wq hL)) | ((with_reducible refine qE rfl rfl ?_); (refine lJ rfl hL rfl rfl cy ?_; clear hL; intro gq wq hL)) | ((with_reducible refine qB rfl rfl ?_); (first | (refine lC rfl hL rfl rfl HasV.mem (by rfl) ?_) | (refine lA rfl hL rfl rfl HasV.mem (by rfl) ?_) | (refine lF rfl hL rfl rfl HasV.mem SegC.seg ?_))) | ((with_reducible refine qC rfl rfl ?_); (first | (refine lH rfl hL rfl rfl rfl cy (by rfl) ?_) | (refine lG rfl hL rfl rfl rfl cy (by rfl) (by rfl) ?_)); clear hL; intro wq hL) | ((with_reducible refine qA rfl rfl ?_ ?_); (exact wz rfl rfl rfl (by with_reducible rfl)); (first | (refine lD (wz rfl rfl rfl rfl) hL rfl rfl HasV.mem (by rfl) ?_) | (refine lB (wz rfl rfl rfl rfl) hL rfl rfl HasV.mem (by rfl) ?_) | (refine lE (wz rfl rfl rfl rfl) hL rfl rfl HasV.mem SegC.seg ?_)))
            | (at_builtin; refine ev_appL (E := encPc) ys rfl hL rfl rfl rfl hR.out (fun _ => sx) rfl rfl (by omega) hL.size ?_; clear hL hR; intro v' wq hL))
          go_roundw
          case rel => exact ⟨k + 1, _, by omega, by go_num, rfl, by rw [HN.out]; exact hL⟩
          case measure => simp [intOf]; omega
        · obtain rfl : k = ss.length := by omega
          have HT := Lib.hid (show upto xss ss.length = xss.flatten from by unfold upto; rw [HL.out, List.take_length])
          rw [HT.out] at hL
          go_wp2
          go_ret
          exact ⟨_, rfl, hL⟩
end Go.Proofs.Ytebpacmhdkgfeaa.ConcatPc

/- slices.Grow of nil, and slices.Concat, at crannog/api.Xattr. -/
namespace Go.Proofs.Ytebpacmhdkgfeaa.ConcatXt
open Go.RowKit

theorem row0 {w0 w : World} {M : Nat → Prop} {l : List Item} (h : Loc w0 M w l) {α : Type} (E : Enc α) (base : Nat) (e : TypeId) : Loc w0 M w (row E base e (.slice none 0 0) [] :: l) :=
  h.callNew (Below.refl _ _) (row_at (Enc.O.none _ _ _)) fun k hk => by cases hk
set_option maxHeartbeats 1000000 in
theorem growNil (n : Nat) (w : World) (hn : n ≤ 100000000000) :
    Calls Try.prog 150 #[.slice none 0 0, .int .i64 n] w fun e w' => ∃ v, e = .returned v ∧ Loc w NoM w' [row encXt w.heap.size 73 v []] := by
  have hL := Loc.nil w NoM
  have h0 : ¬ ((n : Int) < 0) := by omega
  by_cases hz : n = 0
  · subst hz
    have hL := row0 hL encXt w.heap.size 73
    go_enter Try.func150, Try.ntmps150
    go_wp2_with (first | ((with_reducible refine qD rfl rfl ?_); (refine lI rfl hL rfl cy ?_; clear hL; intro gq wq hL)) | ((with_reducible refine qE rfl rfl ?_); (refine lJ rfl hL rfl rfl cy ?_; clear hL; intro gq wq hL)) | ((with_reducible refine qB rfl rfl ?_); (first | (refine lC rfl hL rfl rfl HasV.mem (by rfl) ?_) | (refine lA rfl hL rfl rfl HasV.mem (by rfl) ?_) | (refine lF rfl hL rfl rfl HasV.mem SegC.seg ?_))) | ((with_reducible refine qC rfl rfl ?_); (first | (refine lH rfl hL rfl rfl rfl cy (by rfl) ?_) | (refine lG rfl hL rfl rfl rfl cy (by rfl) (by rfl) ?_)); clear hL; intro wq hL) | ((with_reducible refine qA rfl rfl ?_ ?_); (exact wz rfl rfl rfl (by with_reducible rfl)); (first | (refine lD (wz rfl rfl rfl rfl) hL rfl rfl HasV.mem (by rfl) ?_) | (refine lB (wz rfl rfl rfl rfl) hL rfl rfl HasV.mem (by rfl) ?_) | (refine lE (wz rfl rfl rfl rfl) hL rfl rfl HasV.mem SegC.seg ?_))))
    go_ret
    exact ⟨_, rfl, hL⟩
  · have h1 : (0 : Int) < (n : Int) := by omega
    go_enter Try.func150, Try.ntmps150
    go_wp2_with (first
      | ((with_reducible refine qD rfl rfl ?_); (refine lI rfl hL rfl cy ?_; clear hL; intro gq wq hL)) | ((with_reducible refine qE rfl rfl ?_); (refine lJ rfl hL rfl rfl cy ?_; clear hL; intro gq wq hL)) | ((with_reducible refine qB rfl rfl ?_); (first | (refine lC rfl hL rfl rfl HasV.mem (by rfl) ?_) | (refine lA rfl hL rfl rfl HasV.mem (by rfl) ?_) | (refine lF rfl hL rfl rfl HasV.mem SegC.seg ?_))) | ((with_reducible refine qC rfl rfl ?_); (first | (refine lH rfl hL rfl rfl rfl cy (by rfl) ?_) | (refine lG rfl hL rfl rfl rfl cy (by rfl) (by rfl) ?_)); clear hL; intro wq hL) | ((with_reducible refine qA rfl rfl ?_ ?_); (exact wz rfl rfl rfl (by with_reducible rfl)); (first | (refine lD (wz rfl rfl rfl rfl) hL rfl rfl HasV.mem (by rfl) ?_) | (refine lB (wz rfl rfl rfl rfl) hL rfl rfl HasV.mem (by rfl) ?_) | (refine lE (wz rfl rfl rfl rfl) hL rfl rfl HasV.mem SegC.seg ?_)))
      | (at_builtin; refine ev_growNil encXt w.heap.size rfl hL rfl rfl rfl Try.underlying3 rfl rfl (by omega) hn (Nat.le_refl _) ?_; clear hL; intro g G wq hG hG63 hL; have hG2 : (0 : Int) ≤ (G : Int) := by omega))
    go_ret
    exact ⟨_, rfl, hL⟩
/-- What k of the lists hold together. -/
def upto {α : Type} (xss : List (List α)) (k : Nat) : List α := (xss.take k).flatten
theorem upto_succ {α : Type} (xss : List (List α)) (k : Nat) (h : k < xss.length) : upto xss (k + 1) = upto xss k ++ xss[k] := by
  unfold upto
  rw [(List.take_append_getElem h).symm, List.flatten_append]
  simp
theorem upto_len {α : Type} (xss : List (List α)) (k : Nat) : (upto xss k).length ≤ xss.flatten.length := by
  have h : xss.flatten = upto xss k ++ (xss.drop k).flatten := by unfold upto; rw [← List.flatten_append, List.take_append_drop]
  rw [h, List.length_append]
  omega
set_option maxHeartbeats 2000000 in
theorem concat (v : Value) (ss : List Sl) (xss : List (List Xat)) (w : World) (h : encSl.R w v ss) (hl : ss.length = xss.length) (hx : ∀ i (h1 : i < ss.length) (h2 : i < xss.length), (encXt).R w ss[i].val xss[i]) (hn : xss.flatten.length ≤ 1000000000) (hm : ss.length ≤ 1000000000) :
    Calls Try.prog 99 #[v] w fun e w' => ∃ u, e = .returned u ∧ Loc w NoM w' [row encXt w.heap.size 73 u xss.flatten] := by
  have hL := Loc.nil w NoM
  obtain ⟨ao, c, rfl, hel⟩ := R_elem h
  have HX := Lib.hid hx
  have HL := Lib.hid hl
  clear hx h hl
  go_enter Try.func99, Try.ntmps99
  go_wp2_with (first | ((with_reducible refine qD rfl rfl ?_); (refine lI rfl hL rfl cy ?_; clear hL; intro gq wq hL)) | ((with_reducible refine qE rfl rfl ?_); (refine lJ rfl hL rfl rfl cy ?_; clear hL; intro gq wq hL)) | ((with_reducible refine qB rfl rfl ?_); (first | (refine lC rfl hL rfl rfl HasV.mem (by rfl) ?_) | (refine lA rfl hL rfl rfl HasV.mem (by rfl) ?_) | (refine lF rfl hL rfl rfl HasV.mem SegC.seg ?_))) | ((with_reducible refine qC rfl rfl ?_); (first | (refine lH rfl hL rfl rfl rfl cy (by rfl) ?_) | (refine lG rfl hL rfl rfl rfl cy (by rfl) (by rfl) ?_)); clear hL; intro wq hL) | ((with_reducible refine qA rfl rfl ?_ ?_); (exact wz rfl rfl rfl (by with_reducible rfl)); (first | (refine lD (wz rfl rfl rfl rfl) hL rfl rfl HasV.mem (by rfl) ?_) | (refine lB (wz rfl rfl rfl rfl) hL rfl rfl HasV.mem (by rfl) ?_) | (refine lE (wz rfl rfl rfl rfl) hL rfl rfl HasV.mem SegC.seg ?_))))
  go_loopw [3, 11] (fun s i wr => ∃ k : Nat, k ≤ ss.length ∧ i = .int .i64 k ∧ s = .int .i64 ((upto xss k).length : Nat) ∧ Loc w NoM wr []) (fun _ i _ => ss.length - (intOf i).toNat)
  case atStart => exact ⟨0, by omega, rfl, rfl, hL⟩
  case round =>
    clear hL
    obtain ⟨k, hk, rfl, rfl, hL⟩ := hrel
    by_cases hlt : k < ss.length
    · obtain ⟨g, off, rfl, hr⟩ := hel k hlt
      have hrW : wr.rangeAt g (off + k * 1) [.slice ss[k].a ss[k].n ss[k].c] := range_below hr hL.below
      clear hr
      have hlt2 : k < xss.length := by have := HL.out; omega
      have hR := HX.out k hlt hlt2
      obtain ⟨ao2, c2, e2, -⟩ := R_elem hR
      have HN : Hid ((upto xss (k + 1)).length = (upto xss k).length + ss[k].n) := Lib.hid (by
        rw [upto_succ xss k hlt2, List.length_append]
        have e3 : ss[k].n = xss[k].length := by unfold Sl.val at e2; injection e2
        rw [e3])
      have hb1 := upto_len xss (k + 1)
      rw [HN.out] at hb1
      generalize (upto xss k).length = N at *
      clear hR e2
      generalize ss[k].n = m at *
      generalize ss[k].a = aa at *
      generalize ss[k].c = cc at *
      have hb2 : N + m ≤ 1000000000 := by omega
      have hneg : ¬ ((N : Int) + (m : Int) < 0) := by omega
      go_wp2_with (first
        | ((with_reducible refine qF rfl rfl ?_); refine lL rfl rfl rfl rfl hlt ?_)
        | ((with_reducible refine gate (N := 14) rfl ?_); refine ev_loadR1 (v := .slice aa m cc) rfl rfl rfl hrW ?_)
        | ((with_reducible refine qD rfl rfl ?_); (refine lI rfl hL rfl cy ?_; clear hL; intro gq wq hL)) | ((with_reducible refine qE rfl rfl ?_); (refine lJ rfl hL rfl rfl cy ?_; clear hL; intro gq wq hL)) | ((with_reducible refine qB rfl rfl ?_); (first | (refine lC rfl hL rfl rfl HasV.mem (by rfl) ?_) | (refine lA rfl hL rfl rfl HasV.mem (by rfl) ?_) | (refine lF rfl hL rfl rfl HasV.mem SegC.seg ?_))) | ((with_reducible refine qC rfl rfl ?_); (first | (refine lH rfl hL rfl rfl rfl cy (by rfl) ?_) | (refine lG rfl hL rfl rfl rfl cy (by rfl) (by rfl) ?_)); clear hL; intro wq hL) | ((with_reducible refine qA rfl rfl ?_ ?_); (exact wz rfl rfl rfl (by with_reducible rfl)); (first | (refine lD (wz rfl rfl rfl rfl) hL rfl rfl HasV.mem (by rfl) ?_) | (refine lB (wz rfl rfl rfl rfl) hL rfl rfl HasV.mem (by rfl) ?_) | (refine lE (wz rfl rfl rfl rfl) hL rfl rfl HasV.mem SegC.seg ?_))))
      go_roundw
      case rel => exact ⟨k + 1, by omega, by go_num, by rw [HN.out]; go_num, hL⟩
      case measure => simp [intOf]; omega
    · obtain rfl : k = ss.length := by omega
      have hb1 := upto_len xss ss.length
      generalize (upto xss ss.length).length = N at *
      go_wp2_with (first
        | (go_at_call 150; (with_reducible refine (growNil N _ (by omega)).mono ?_); rintro e w3 ⟨v0, rfl, hL3⟩; have hL := hL.takeRow hL3; clear hL3)
        | ((with_reducible refine qD rfl rfl ?_); (refine lI rfl hL rfl cy ?_; clear hL; intro gq wq hL)) | ((with_reducible refine qE rfl rfl ?_); (refine lJ rfl hL rfl rfl cy ?_; clear hL; intro gq wq hL)) | ((with_reducible refine qB rfl rfl ?_); (first | (refine lC rfl hL rfl rfl HasV.mem (by rfl) ?_) | (refine lA rfl hL rfl rfl HasV.mem (by rfl) ?_) | (refine lF rfl hL rfl rfl HasV.mem SegC.seg ?_))) | ((with_reducible refine qC rfl rfl ?_); (first | (refine lH rfl hL rfl rfl rfl cy (by rfl) ?_) | (refine lG rfl hL rfl rfl rfl cy (by rfl) (by rfl) ?_)); clear hL; intro wq hL) | ((with_reducible refine qA rfl rfl ?_ ?_); (exact wz rfl rfl rfl (by with_reducible rfl)); (first | (refine lD (wz rfl rfl rfl rfl) hL rfl rfl HasV.mem (by rfl) ?_) | (refine lB (wz rfl rfl rfl rfl) hL rfl rfl HasV.mem (by rfl) ?_) | (refine lE (wz rfl rfl rfl rfl) hL rfl rfl HasV.mem SegC.seg ?_))))
      clear hb1 hk hlt
      go_loopw [6, 27] (fun s i wr => ∃ (k : Nat) (vs : Value), k ≤ ss.length ∧ i = .int .i64 k ∧ s = vs ∧ Loc w NoM wr [row encXt w.heap.size 73 vs (upto xss k)]) (fun _ i _ => ss.length - (intOf i).toNat)
      case atStart => exact ⟨0, _, by omega, rfl, rfl, hL⟩
      case round =>
        clear hL
        obtain ⟨k, vs, hk, rfl, rfl, hL⟩ := hrel
        by_cases hlt : k < ss.length
        · obtain ⟨g, off, rfl, hr⟩ := hel k hlt
          have hrW : wr.rangeAt g (off + k * 1) [.slice ss[k].a ss[k].n ss[k].c] := range_below hr hL.below
          clear hr
          have hlt2 : k < xss.length := by have := HL.out; omega
          have hR := Lib.hid ((HX.out k hlt hlt2).below hL.below)
          have HN := Lib.hid (upto_succ xss k hlt2)
          have hb1 := upto_len xss (k + 1)
          rw [HN.out, List.length_append] at hb1
          unfold Sl.val at hR
          generalize upto xss k = L at *
          generalize xss[k] = ys at *
          generalize ss[k].n = m at *
          generalize ss[k].a = aa at *
          generalize ss[k].c = cc at *
          go_wp2_with (first
            | ((with_reducible refine qF rfl rfl ?_); refine lL rfl rfl rfl rfl hlt ?_)
            | ((with_reducible refine gate (N := 30) rfl ?_); refine ev_loadR1 (v := .slice aa m cc) rfl rfl rfl hrW ?_)
            | ((with_reducible refine qD rfl rfl ?_); (refine lI rfl hL rfl cy ?_; clear hL; intro gq wq hL)) | ((with_reducible refine qE rfl rfl ?_); (refine lJ rfl hL rfl rfl cy ?_; clear hL; intro gq wq hL)) | ((with_reducible refine qB rfl rfl ?_); (first | (refine lC rfl hL rfl rfl HasV.mem (by rfl) ?_) | (refine lA rfl hL rfl rfl HasV.mem (by rfl) ?_) | (refine lF rfl hL rfl rfl HasV.mem SegC.seg ?_))) | ((with_reducible refine qC rfl rfl ?_); (first | (refine lH rfl hL rfl rfl rfl cy (by rfl) ?_) | (refine lG rfl hL rfl rfl rfl cy (by rfl) (by rfl) ?_)); clear hL; intro wq hL) | ((with_reducible refine qA rfl rfl ?_ ?_); (exact wz rfl rfl rfl (by with_reducible rfl)); (first | (refine lD (wz rfl rfl rfl rfl) hL rfl rfl HasV.mem (by rfl) ?_) | (refine lB (wz rfl rfl rfl rfl) hL rfl rfl HasV.mem (by rfl) ?_) | (refine lE (wz rfl rfl rfl rfl) hL rfl rfl HasV.mem SegC.seg ?_)))
            | (at_builtin; refine ev_appL (E := encXt) ys rfl hL rfl rfl rfl hR.out (fun _ => sx) rfl rfl (by omega) hL.size ?_; clear hL hR; intro v' wq hL))
          go_roundw
          case rel => exact ⟨k + 1, _, by omega, by go_num, rfl, by rw [HN.out]; exact hL⟩
          case measure => simp [intOf]; omega
        · obtain rfl : k = ss.length := by omega
          have HT := Lib.hid (show upto xss ss.length = xss.flatten from by unfold upto; rw [HL.out, List.take_length])
          rw [HT.out] at hL
          go_wp2
          go_ret
          exact ⟨_, rfl, hL⟩
end Go.Proofs.Ytebpacmhdkgfeaa.ConcatXt

/- Inodes of a row, with what they lead to in blocks of one's own or of the caller's. -/
namespace Go.Proofs.Ytebpacmhdkgfeaa
open Go.RowKit

theorem R_keep {α : Type} {E : Enc α} {w w1 : World} {v : Value} {xs : List α} (h : E.R w v xs) (hb : ∀ a n c, v = .slice (some a) n c → w.heap[a.block]?.isSome = true → w1.heap[a.block]? = w.heap[a.block]?) : E.R w1 v xs := by
  obtain ⟨hl, a, c, rfl, hc, hm, h0⟩ := h
  refine ⟨hl, a, c, rfl, hc, hm, ?_⟩
  rcases h0 with h0 | ⟨a, rfl, hel⟩
  · exact .inl h0
  · refine .inr ⟨a, rfl, fun j u hu => ?_⟩
    have h1 := hel j u hu
    have hlt := World.block_lt_of_cell? w _ h1
    have hbk : (a.add j).block = a.block := by unfold Addr.add; split <;> rfl
    generalize a.add j = b at *
    have e : w1.heap[a.block]? = w.heap[a.block]? := hb a _ _ rfl (by
      have : a.block < w.heap.size := by omega
      simp [this])
    rw [← hbk] at e
    rw [← h1]
    unfold World.cell?
    rw [e]
theorem O_keep {α : Type} {E : Enc α} {w w1 : World} {base : Nat} {e : TypeId} {v : Value} {xs : List α} (h : E.O w base e v xs) (hz : w.heap.size ≤ w1.heap.size) (hb : ∀ k, v.ownBlock = some k → w1.heap[k]? = w.heap[k]?) : E.O w1 base e v xs := (row_at h).stay w1 hz hb
/-- What holds of inodes by the blocks of F, and by those below w0's end. -/
def nest (w0 : World) (F : Nat → Prop) (L : List Nd) : Item := ⟨F, fun w => (∀ k, F k → k < w.heap.size) ∧ ∀ w', w.heap.size ≤ w'.heap.size → (∀ k, F k → w'.heap[k]? = w.heap[k]?) → (∀ k, k < w0.heap.size → w'.heap[k]? = w0.heap[k]?) → ∀ n ∈ L, n.s.Ok w' n.d⟩
theorem nest_at {w0 w : World} {F : Nat → Prop} {L : List Nd} (h : (nest w0 F L).p w) : (nest w0 F L).At w :=
  ⟨h, fun k hk => h.1 k hk, fun w' hz hb => ⟨fun k hk => Nat.lt_of_lt_of_le (h.1 k hk) hz, fun w'' hz' hb' h0 => h.2 w'' (Nat.le_trans hz hz') (fun k hk => (hb' k hk).trans (hb k hk)) h0⟩⟩
theorem Ino.Ok.old {w0 w : World} {i : Ino} {d : InoD} (h : i.Ok w0 d) (hb : ∀ k, k < w0.heap.size → w.heap[k]? = w0.heap[k]?) : i.Ok w d := by
  have key : ∀ (a : Addr), w0.heap[a.block]?.isSome = true → w.heap[a.block]? = w0.heap[a.block]? := fun a ha => hb _ (by
    rcases Nat.lt_or_ge a.block w0.heap.size with h1 | h1
    · exact h1
    · rw [Array.getElem?_eq_none h1] at ha; cases ha)
  exact ⟨h.hd, R_keep h.ps fun a _ _ _ ha => key a ha, R_keep h.xs fun a _ _ _ ha => key a ha⟩
namespace Loc
variable {w00 w0 w w1 : World} {l : List Item} {F : Nat → Prop} {L : List Nd}
theorem nested (h : Loc w0 NoM w l) (hb : Below w00.heap.size w00 w0) (hm : nest w00 F L ∈ l) : ∀ n ∈ L, n.s.Ok w n.d :=
  (h.get hm).2 w (Nat.le_refl _) (fun _ _ => rfl) fun k hk => (h.mod.block k (Nat.lt_of_lt_of_le hk hb.size) fun e => e).trans (hb.block k hk)
/-- Nothing of one's own yet: all lies below. -/
theorem nestOld (h : Loc w0 NoM w l) (hO : ∀ n ∈ L, n.s.Ok w00 n.d) : Loc w0 NoM w (nest w00 (fun _ => False) L :: l) :=
  h.callNew (Below.refl _ _) (nest_at ⟨fun _ h => h.elim, fun w' _ _ h0 n hn => (hO n hn).old h0⟩) fun k hk => hk.elim
/-- Other inodes, of these or of the caller's. -/
theorem nestSub {L' : List Nd} (h : Loc w0 NoM w (nest w00 F L :: l)) (hO : ∀ n ∈ L', n ∈ L ∨ n.s.Ok w00 n.d) : Loc w0 NoM w (nest w00 F L' :: l) :=
  h.swap (.here _) (.refl _ _) (nest_at ⟨(h.get (.head _)).1, fun w' hz hb h0 n hn => (hO n hn).elim (fun hn => (h.get (.head _)).2 w' hz hb h0 n hn) fun hn => hn.old h0⟩) fun k hk => .inl hk
/-- A new one, whose rows are of one's own: these go into the nest. -/
theorem nestNew {e1 e2 : TypeId} {i : Ino} {d : InoD} {b1 b2 : Nat} (h : Loc w0 NoM w (row encPc b1 e1 i.p.val d.ps :: row encXt b2 e2 i.x.val d.xs :: nest w00 F L :: l)) (hh : i.hd = d.hd) :
    ∃ F', Loc w0 NoM w (nest w00 F' (⟨i, d⟩ :: L) :: l) := by
  have ha := h.apart
  have h1 := h.own (.head _)
  have h2 := h.own (.tail _ (.head _))
  have h3 := h.get (.tail _ (.tail _ (.head _)))
  refine ⟨fun k => F k ∨ i.p.val.ownBlock = some k ∨ i.x.val.ownBlock = some k, ?_⟩
  rw [List.pairwise_cons, List.pairwise_cons, List.pairwise_cons] at ha
  obtain ⟨a1, a2, a3, a4⟩ := ha
  refine ⟨h.mod, fun j hj => ?_, fun j hj k hk => ?_, List.pairwise_cons.2 ⟨fun j hj k hk => ?_, a4⟩⟩
  · rcases List.mem_cons.1 hj with rfl | hj
    · refine nest_at ⟨fun k hk => ?_, fun w' hz hb h0 n hn => ?_⟩
      · rcases hk with hk | hk | hk
        · exact h3.1 k hk
        · exact h1.lt k hk
        · exact h2.lt k hk
      · rcases List.mem_cons.1 hn with rfl | hn
        · exact ⟨hh, (O_keep h1 hz fun k hk => hb k (.inr (.inl hk))).read, (O_keep h2 hz fun k hk => hb k (.inr (.inr hk))).read⟩
        · exact h3.2 w' hz (fun k hk => hb k (.inl hk)) h0 n hn
    · exact h.at_ j (.tail _ (.tail _ (.tail _ hj)))
  · rcases List.mem_cons.1 hj with rfl | hj
    · rcases hk with hk | hk | hk
      · exact h.new _ (.tail _ (.tail _ (.head _))) k hk
      · exact h.new _ (.head _) k hk
      · exact h.new _ (.tail _ (.head _)) k hk
    · exact h.new j (.tail _ (.tail _ (.tail _ hj))) k hk
  · rcases hk with hk | hk | hk
    · exact a3 j hj k hk
    · exact a1 j (.tail _ (.tail _ hj)) k hk
    · exact a2 j (.tail _ hj) k hk
theorem nestSubAt {L' : List Nd} {l' : List Item} (h : Loc w0 NoM w l) (hs : Swap (nest w00 F L) (nest w00 F L') l l') (hO : ∀ n ∈ L', n ∈ L ∨ n.s.Ok w00 n.d) : Loc w0 NoM w l' :=
  h.swap hs (.refl _ _) (nest_at ⟨(h.get hs.mem).1, fun w' hz hb h0 n hn => (hO n hn).elim (fun hn => (h.get hs.mem).2 w' hz hb h0 n hn) fun hn => hn.old h0⟩) fun k hk => .inl hk
end Loc
theorem Loc.perm {w0 w : World} {M : Nat → Prop} {l l' : List Item} (h : Loc w0 M w l) (hp : l.Perm l') : Loc w0 M w l' :=
  ⟨h.mod, fun i hi => h.at_ i (hp.mem_iff.2 hi), fun i hi => h.new i (hp.mem_iff.2 hi), h.apart.perm hp fun h k h1 h2 => h k h2 h1⟩
theorem Loc.weakRow {α : Type} {E : Enc α} {w0 w : World} {M : Nat → Prop} {l : List Item} {base base' : Nat} {e : TypeId} {v : Value} {xs : List α} (h : Loc w0 M w (row E base e v xs :: l)) (hb : base' ≤ base) : Loc w0 M w (row E base' e v xs :: l) :=
  h.swap (.here _) (.refl _ _) (row_at ((h.own (.head _)).weaken hb)) fun _ hk => .inl hk
theorem own_casesM {α : Type} {E : Enc α} {w0 w : World} {M : Nat → Prop} {l : List Item} {u : Value} {xs : List α} {base : Nat} {te : TypeId} (hL : Loc w0 M w l) (hm : row E base te u xs ∈ l) : (u = .slice none 0 0 ∧ xs = []) ∨ ∃ g c, u = .slice (some ⟨g, 0, none⟩) xs.length c ∧ xs.length ≤ c ∧ c ≤ 9223372036854775807 ∧ base ≤ g := by
  have h := hL.own (E := E) hm
  rcases h.2 with ⟨rfl, h0⟩ | ⟨g, c, cur, rfl, hb, hg, h1, h2, h3⟩
  · exact .inl ⟨rfl, List.eq_nil_of_length_eq_zero h0⟩
  · exact .inr ⟨g, c, rfl, h1, by unfold maxLen at h2; omega, hb⟩
theorem Loc.takeAll {w0 w w1 : World} {M : Nat → Prop} {l l3 : List Item} (h : Loc w0 M w l) (h3 : Loc w NoM w1 l3) : Loc w0 M w1 (l3 ++ l) := by
  have h1 := h.call h3.below
  refine ⟨h1.mod, fun i hi => ?_, fun i hi k hk => ?_, List.pairwise_append.2 ⟨h3.apart, h1.apart, fun i hi j hj k hk hk' => ?_⟩⟩
  · rcases List.mem_append.1 hi with hi | hi
    · exact h3.at_ i hi
    · exact h1.at_ i hi
  · rcases List.mem_append.1 hi with hi | hi
    · rcases h3.new i hi k hk with h4 | h4
      · exact .inl (Nat.le_trans h.size h4)
      · exact h4.elim
    · exact h1.new i hi k hk
  · rcases h3.new i hi k hk with h4 | h4
    · have := (h.at_ j hj).lt k hk'; omega
    · exact h4.elim
end Go.Proofs.Ytebpacmhdkgfeaa

/- slices.Grow of nil, and slices.Concat, at crannog/api.Inode. -/
namespace Go.Proofs.Ytebpacmhdkgfeaa.ConcatN
open Go.RowKit

theorem row0 {w0 w : World} {M : Nat → Prop} {l : List Item} (h : Loc w0 M w l) {α : Type} (E : Enc α) (base : Nat) (e : TypeId) : Loc w0 M w (row E base e (.slice none 0 0) [] :: l) :=
  h.callNew (Below.refl _ _) (row_at (Enc.O.none _ _ _)) fun k hk => by cases hk
set_option maxHeartbeats 1000000 in
theorem growNil (n : Nat) (w : World) (hn : n ≤ 100000000000) :
    Calls Try.prog 145 #[.slice none 0 0, .int .i64 n] w fun e w' => ∃ v, e = .returned v ∧ Loc w NoM w' [row encN w.heap.size 43 v []] := by
  have hL := Loc.nil w NoM
  have h0 : ¬ ((n : Int) < 0) := by omega
  by_cases hz : n = 0
  · subst hz
    have hL := row0 hL encN w.heap.size 43
    go_enter Try.func145, Try.ntmps145
    go_wp2_with (first | ((with_reducible refine qD rfl rfl ?_); (refine lI rfl hL rfl cy ?_; clear hL; intro gq wq hL)) | ((with_reducible refine qE rfl rfl ?_); (refine lJ rfl hL rfl rfl cy ?_; clear hL; intro gq wq hL)) | ((with_reducible refine qB rfl rfl ?_); (first | (refine lC rfl hL rfl rfl HasV.mem (by rfl) ?_) | (refine lA rfl hL rfl rfl HasV.mem (by rfl) ?_) | (refine lF rfl hL rfl rfl HasV.mem SegC.seg ?_))) | ((with_reducible refine qC rfl rfl ?_); (first | (refine lH rfl hL rfl rfl rfl cy (by rfl) ?_) | (refine lG rfl hL rfl rfl rfl cy (by rfl) (by rfl) ?_)); clear hL; intro wq hL) | ((with_reducible refine qA rfl rfl ?_ ?_); (exact wz rfl rfl rfl (by with_reducible rfl)); (first | (refine lD (wz rfl rfl rfl rfl) hL rfl rfl HasV.mem (by rfl) ?_) | (refine lB (wz rfl rfl rfl rfl) hL rfl rfl HasV.mem (by rfl) ?_) | (refine lE (wz rfl rfl rfl rfl) hL rfl rfl HasV.mem SegC.seg ?_))))
    go_ret
    exact ⟨_, rfl, hL⟩
  · have h1 : (0 : Int) < (n : Int) := by omega
    go_enter Try.func145, Try.ntmps145
    go_wp2_with (first
      | ((with_reducible refine qD rfl rfl ?_); (refine lI rfl hL rfl cy ?_; clear hL; intro gq wq hL)) | ((with_reducible refine qE rfl rfl ?_); (refine lJ rfl hL rfl rfl cy ?_; clear hL; intro gq wq hL)) | ((with_reducible refine qB rfl rfl ?_); (first | (refine lC rfl hL rfl rfl HasV.mem (by rfl) ?_) | (refine lA rfl hL rfl rfl HasV.mem (by rfl) ?_) | (refine lF rfl hL rfl rfl HasV.mem SegC.seg ?_))) | ((with_reducible refine qC rfl rfl ?_); (first | (refine lH rfl hL rfl rfl rfl cy (by rfl) ?_) | (refine lG rfl hL rfl rfl rfl cy (by rfl) (by rfl) ?_)); clear hL; intro wq hL) | ((with_reducible refine qA rfl rfl ?_ ?_); (exact wz rfl rfl rfl (by with_reducible rfl)); (first | (refine lD (wz rfl rfl rfl rfl) hL rfl rfl HasV.mem (by rfl) ?_) | (refine lB (wz rfl rfl rfl rfl) hL rfl rfl HasV.mem (by rfl) ?_) | (refine lE (wz rfl rfl rfl rfl) hL rfl rfl HasV.mem SegC.seg ?_)))
      | (at_builtin; refine ev_growNil encN w.heap.size rfl hL rfl rfl rfl Try.underlying3 rfl rfl (by omega) hn (Nat.le_refl _) ?_; clear hL; intro g G wq hG hG63 hL; have hG2 : (0 : Int) ≤ (G : Int) := by omega))
    go_ret
    exact ⟨_, rfl, hL⟩
/-- What k of the lists hold together. -/
def upto {α : Type} (xss : List (List α)) (k : Nat) : List α := (xss.take k).flatten
theorem upto_succ {α : Type} (xss : List (List α)) (k : Nat) (h : k < xss.length) : upto xss (k + 1) = upto xss k ++ xss[k] := by
  unfold upto
  rw [(List.take_append_getElem h).symm, List.flatten_append]
  simp
theorem upto_len {α : Type} (xss : List (List α)) (k : Nat) : (upto xss k).length ≤ xss.flatten.length := by
  have h : xss.flatten = upto xss k ++ (xss.drop k).flatten := by unfold upto; rw [← List.flatten_append, List.take_append_drop]
  rw [h, List.length_append]
  omega
set_option maxHeartbeats 2000000 in
theorem concat (v : Value) (ss : List Sl) (xss : List (List Nd)) (w : World) (h : encSl.R w v ss) (hl : ss.length = xss.length) (hx : ∀ i (h1 : i < ss.length) (h2 : i < xss.length), (encN).R w ss[i].val xss[i]) (hn : xss.flatten.length ≤ 1000000000) (hm : ss.length ≤ 1000000000) :
    Calls Try.prog 90 #[v] w fun e w' => ∃ u, e = .returned u ∧ Loc w NoM w' [row encN w.heap.size 43 u xss.flatten] := by
  have hL := Loc.nil w NoM
  obtain ⟨ao, c, rfl, hel⟩ := R_elem h
  have HX := Lib.hid hx
  have HL := Lib.hid hl
  clear hx h hl
  go_enter Try.func90, Try.ntmps90
  go_wp2_with (first | ((with_reducible refine qD rfl rfl ?_); (refine lI rfl hL rfl cy ?_; clear hL; intro gq wq hL)) | ((with_reducible refine qE rfl rfl ?_); (refine lJ rfl hL rfl rfl cy ?_; clear hL; intro gq wq hL)) | ((with_reducible refine qB rfl rfl ?_); (first | (refine lC rfl hL rfl rfl HasV.mem (by rfl) ?_) | (refine lA rfl hL rfl rfl HasV.mem (by rfl) ?_) | (refine lF rfl hL rfl rfl HasV.mem SegC.seg ?_))) | ((with_reducible refine qC rfl rfl ?_); (first | (refine lH rfl hL rfl rfl rfl cy (by rfl) ?_) | (refine lG rfl hL rfl rfl rfl cy (by rfl) (by rfl) ?_)); clear hL; intro wq hL) | ((with_reducible refine qA rfl rfl ?_ ?_); (exact wz rfl rfl rfl (by with_reducible rfl)); (first | (refine lD (wz rfl rfl rfl rfl) hL rfl rfl HasV.mem (by rfl) ?_) | (refine lB (wz rfl rfl rfl rfl) hL rfl rfl HasV.mem (by rfl) ?_) | (refine lE (wz rfl rfl rfl rfl) hL rfl rfl HasV.mem SegC.seg ?_))))
  go_loopw [3, 11] (fun s i wr => ∃ k : Nat, k ≤ ss.length ∧ i = .int .i64 k ∧ s = .int .i64 ((upto xss k).length : Nat) ∧ Loc w NoM wr []) (fun _ i _ => ss.length - (intOf i).toNat)
  case atStart => exact ⟨0, by omega, rfl, rfl, hL⟩
  case round =>
    clear hL
    obtain ⟨k, hk, rfl, rfl, hL⟩ := hrel
    by_cases hlt : k < ss.length
    · obtain ⟨g, off, rfl, hr⟩ := hel k hlt
      have hrW : wr.rangeAt g (off + k * 1) [.slice ss[k].a ss[k].n ss[k].c] := range_below hr hL.below
      clear hr
      have hlt2 : k < xss.length := by have := HL.out; omega
      have hR := HX.out k hlt hlt2
      obtain ⟨ao2, c2, e2, -⟩ := R_elem hR
      have HN : Hid ((upto xss (k + 1)).length = (upto xss k).length + ss[k].n) := Lib.hid (by
        rw [upto_succ xss k hlt2, List.length_append]
        have e3 : ss[k].n = xss[k].length := by unfold Sl.val at e2; injection e2
        rw [e3])
      have hb1 := upto_len xss (k + 1)
      rw [HN.out] at hb1
      generalize (upto xss k).length = N at *
      clear hR e2
      generalize ss[k].n = m at *
      generalize ss[k].a = aa at *
      generalize ss[k].c = cc at *
      have hb2 : N + m ≤ 1000000000 := by omega
      have hneg : ¬ ((N : Int) + (m : Int) < 0) := by omega
      go_wp2_with (first
        | ((with_reducible refine qF rfl rfl ?_); refine lL rfl rfl rfl rfl hlt ?_)
        | ((with_reducible refine gate (N := 14) rfl ?_); refine ev_loadR1 (v := .slice aa m cc) rfl rfl rfl hrW ?_)
        | ((with_reducible refine qD rfl rfl ?_); (refine lI rfl hL rfl cy ?_; clear hL; intro gq wq hL)) | ((with_reducible refine qE rfl rfl ?_); (refine lJ rfl hL rfl rfl cy ?_; clear hL; intro gq wq hL)) | ((with_reducible refine qB rfl rfl ?_); (first | (refine lC rfl hL rfl rfl HasV.mem (by rfl) ?_) | (refine lA rfl hL rfl rfl HasV.mem (by rfl) ?_) | (refine lF rfl hL rfl rfl HasV.mem SegC.seg ?_))) | ((with_reducible refine qC rfl rfl ?_); (first | (refine lH rfl hL rfl rfl rfl cy (by rfl) ?_) | (refine lG rfl hL rfl rfl rfl cy (by rfl) (by rfl) ?_)); clear hL; intro wq hL) | ((with_reducible refine qA rfl rfl ?_ ?_); (exact wz rfl rfl rfl (by with_reducible rfl)); (first | (refine lD (wz rfl rfl rfl rfl) hL rfl rfl HasV.mem (by rfl) ?_) | (refine lB (wz rfl rfl rfl rfl) hL rfl rfl HasV.mem (by rfl) ?_) | (refine lE (wz rfl rfl rfl rfl) hL rfl rfl HasV.mem SegC.seg ?_))))
      go_roundw
      case rel => exact ⟨k + 1, by omega, by go_num, by rw [HN.out]; go_num, hL⟩
      case measure => simp [intOf]; omega
    · obtain rfl : k = ss.length := by omega
      have hb1 := upto_len xss ss.length
      generalize (upto xss ss.length).length = N at *
      go_wp2_with (first
        | (go_at_call 145; (with_reducible refine (growNil N _ (by omega)).mono ?_); rintro e w3 ⟨v0, rfl, hL3⟩; have hL := hL.takeRow hL3; clear hL3)
        | ((with_reducible refine qD rfl rfl ?_); (refine lI rfl hL rfl cy ?_; clear hL; intro gq wq hL)) | ((with_reducible refine qE rfl rfl ?_); (refine lJ rfl hL rfl rfl cy ?_; clear hL; intro gq wq hL)) | ((with_reducible refine qB rfl rfl ?_); (first | (refine lC rfl hL rfl rfl HasV.mem (by rfl) ?_) | (refine lA rfl hL rfl rfl HasV.mem (by rfl) ?_) | (refine lF rfl hL rfl rfl HasV.mem SegC.seg ?_))) | ((with_reducible refine qC rfl rfl ?_); (first | (refine lH rfl hL rfl rfl rfl cy (by rfl) ?_) | (refine lG rfl hL rfl rfl rfl cy (by rfl) (by rfl) ?_)); clear hL; intro wq hL) | ((with_reducible refine qA rfl rfl ?_ ?_); (exact wz rfl rfl rfl (by with_reducible rfl)); (first | (refine lD (wz rfl rfl rfl rfl) hL rfl rfl HasV.mem (by rfl) ?_) | (refine lB (wz rfl rfl rfl rfl) hL rfl rfl HasV.mem (by rfl) ?_) | (refine lE (wz rfl rfl rfl rfl) hL rfl rfl HasV.mem SegC.seg ?_))))
      clear hb1 hk hlt
      go_loopw [6, 27] (fun s i wr => ∃ (k : Nat) (vs : Value), k ≤ ss.length ∧ i = .int .i64 k ∧ s = vs ∧ Loc w NoM wr [row encN w.heap.size 43 vs (upto xss k)]) (fun _ i _ => ss.length - (intOf i).toNat)
      case atStart => exact ⟨0, _, by omega, rfl, rfl, hL⟩
      case round =>
        clear hL
        obtain ⟨k, vs, hk, rfl, rfl, hL⟩ := hrel
        by_cases hlt : k < ss.length
        · obtain ⟨g, off, rfl, hr⟩ := hel k hlt
          have hrW : wr.rangeAt g (off + k * 1) [.slice ss[k].a ss[k].n ss[k].c] := range_below hr hL.below
          clear hr
          have hlt2 : k < xss.length := by have := HL.out; omega
          have hR := Lib.hid ((HX.out k hlt hlt2).below hL.below)
          have HN := Lib.hid (upto_succ xss k hlt2)
          have hb1 := upto_len xss (k + 1)
          rw [HN.out, List.length_append] at hb1
          unfold Sl.val at hR
          generalize upto xss k = L at *
          generalize xss[k] = ys at *
          generalize ss[k].n = m at *
          generalize ss[k].a = aa at *
          generalize ss[k].c = cc at *
          go_wp2_with (first
            | ((with_reducible refine qF rfl rfl ?_); refine lL rfl rfl rfl rfl hlt ?_)
            | ((with_reducible refine gate (N := 30) rfl ?_); refine ev_loadR1 (v := .slice aa m cc) rfl rfl rfl hrW ?_)
            | ((with_reducible refine qD rfl rfl ?_); (refine lI rfl hL rfl cy ?_; clear hL; intro gq wq hL)) | ((with_reducible refine qE rfl rfl ?_); (refine lJ rfl hL rfl rfl cy ?_; clear hL; intro gq wq hL)) | ((with_reducible refine qB rfl rfl ?_); (first | (refine lC rfl hL rfl rfl HasV.mem (by rfl) ?_) | (refine lA rfl hL rfl rfl HasV.mem (by rfl) ?_) | (refine lF rfl hL rfl rfl HasV.mem SegC.seg ?_))) | ((with_reducible refine qC rfl rfl ?_); (first | (refine lH rfl hL rfl rfl rfl cy (by rfl) ?_) | (refine lG rfl hL rfl rfl rfl cy (by rfl) (by rfl) ?_)); clear hL; intro wq hL) | ((with_reducible refine qA rfl rfl ?_ ?_); (exact wz rfl rfl rfl (by with_reducible rfl)); (first | (refine lD (wz rfl rfl rfl rfl) hL rfl rfl HasV.mem (by rfl) ?_) | (refine lB (wz rfl rfl rfl rfl) hL rfl rfl HasV.mem (by rfl) ?_) | (refine lE (wz rfl rfl rfl rfl) hL rfl rfl HasV.mem SegC.seg ?_)))
            | (at_builtin; refine ev_appL (E := encN) ys rfl hL rfl rfl rfl hR.out (fun _ => sx) rfl rfl (by omega) hL.size ?_; clear hL hR; intro v' wq hL))
          go_roundw
          case rel => exact ⟨k + 1, _, by omega, by go_num, rfl, by rw [HN.out]; exact hL⟩
          case measure => simp [intOf]; omega
        · obtain rfl : k = ss.length := by omega
          have HT := Lib.hid (show upto xss ss.length = xss.flatten from by unfold upto; rw [HL.out, List.take_length])
          rw [HT.out] at hL
          go_wp2
          go_ret
          exact ⟨_, rfl, hL⟩
end Go.Proofs.Ytebpacmhdkgfeaa.ConcatN

/- Package join: two links of one Id as one. -/
namespace Go.Proofs.Ytebpacmhdkgfeaa
open Go.RowKit
set_option maxHeartbeats 4000000
set_option maxRecDepth 20000
theorem join_ext {W : World} {e : Ext W} (a b c : V8) (h : a.join b = c) : Calls Try.prog 36 #[.agg #[.int .i64 a.a0, .int .i64 a.a1, .int .i64 a.a2, .int .i64 a.a3, .int .i64 a.a4, .int .i64 a.a5, .int .i64 a.a6, .int .i64 a.a7], .agg #[.int .i64 b.a0, .int .i64 b.a1, .int .i64 b.a2, .int .i64 b.a3, .int .i64 b.a4, .int .i64 b.a5, .int .i64 b.a6, .int .i64 b.a7]] e.w fun en w'' => en = .returned (.agg #[.int .i64 c.a0, .int .i64 c.a1, .int .i64 c.a2, .int .i64 c.a3, .int .i64 c.a4, .int .i64 c.a5, .int .i64 c.a6, .int .i64 c.a7]) ∧ ∃ z : Ext W, w'' = z.w :=
  calls_ext ((vec_join a b e.w).mono fun _ _ ⟨⟨c', e1, e2⟩, hb⟩ => by subst e1; subst h; exact ⟨e2, hb⟩)
theorem join_link (a b : Lnk) (w : World) : Calls Try.prog 43 #[.agg (encK.cells a).toArray, .agg (encK.cells b).toArray] w fun e w' => (∃ c, c = a.one b ∧ e = .returned (.agg (encK.cells c).toArray)) ∧ Below w.heap.size w w' := by
  have hL := Loc.nil w NoM
  have hg := Lib.hid (fun wx => greater_Lnk a b wx)
  have hm := Lib.hid (fun wx => greater_Mk a.node b.node wx)
  have HO : Hid (∀ c, c = a.one b → c = ⟨a.id, a.node.top b.node, (a.top b).at_, (a.top b).parent, (a.top b).name, a.alive.join b.alive, a.dead.join b.dead⟩) := Lib.hid (fun c h => h)
  obtain ⟨al, h1⟩ : ∃ c, a.alive.join b.alive = c := ⟨_, rfl⟩
  obtain ⟨de, h2⟩ : ∃ c, a.dead.join b.dead = c := ⟨_, rfl⟩
  have HA := Lib.hid h1
  have HD := Lib.hid h2
  have HR : Hid (a.one b = ⟨a.id, a.node.top b.node, (a.top b).at_, (a.top b).parent, (a.top b).name, al, de⟩) := Lib.hid (by unfold Lnk.one; rw [h1, h2])
  clear h1 h2 HO
  generalize a.top b = p at *
  generalize a.node.top b.node = nd at *
  unfold encK Lnk.cells
  simp only
  go_enter Try.func43, Try.ntmps43
  go_wp2_with (first
    | ((with_reducible refine gate (N := 2) rfl ?_); (refine lJ rfl hL rfl rfl cy ?_; clear hL; intro g2 w2 hL)) | ((with_reducible refine gate (N := 3) rfl ?_); (refine lJ rfl hL rfl rfl cy ?_; clear hL; intro g3 w3 hL)) | ((with_reducible refine gate (N := 4) rfl ?_); (refine lI rfl hL rfl cy ?_; clear hL; intro g4 w4 hL)) | ((with_reducible refine gate (N := 5) rfl ?_); (refine lI rfl hL rfl cy ?_; clear hL; intro g5 w5 hL))
    | (go_at_call 102; (with_reducible refine (hg.out _).mono ?_); rintro e w9 ⟨⟨c, ec, rfl⟩, hb9⟩; have HE := Lib.hid ec; clear ec; have hL := hL.call hb9; clear hb9)
    | ((with_reducible refine qD rfl rfl ?_); (refine lI rfl hL rfl cy ?_; clear hL; intro gq wq hL)) | ((with_reducible refine qE rfl rfl ?_); (refine lJ rfl hL rfl rfl cy ?_; clear hL; intro gq wq hL)) | ((with_reducible refine qB rfl rfl ?_); (first | (refine lC rfl hL rfl rfl HasV.mem (by rfl) ?_) | (refine lA rfl hL rfl rfl HasV.mem (by rfl) ?_) | (refine lF rfl hL rfl rfl HasV.mem SegC.seg ?_))) | ((with_reducible refine qC rfl rfl ?_); (first | (refine lH rfl hL rfl rfl rfl cy (by rfl) ?_) | (refine lG rfl hL rfl rfl rfl cy (by rfl) (by rfl) ?_)); clear hL; intro wq hL) | ((with_reducible refine qA rfl rfl ?_ ?_); (exact wz rfl rfl rfl (by with_reducible rfl)); (first | (refine lD (wz rfl rfl rfl rfl) hL rfl rfl HasV.mem (by rfl) ?_) | (refine lB (wz rfl rfl rfl rfl) hL rfl rfl HasV.mem (by rfl) ?_) | (refine lE (wz rfl rfl rfl rfl) hL rfl rfl HasV.mem SegC.seg ?_))))
  obtain rfl : c = p := HE.out
  refine region_held (fun wx => Box wx g5 ([.int .i64 c.id.boot, .int .i64 c.id.n, .int .i64 c.node.boot, .int .i64 c.node.n, .int .i64 c.at_.boot, .int .i64 c.at_.n, .int .i64 c.parent.boot, .int .i64 c.parent.n, .string c.name, .int .i64 c.alive.a0, .int .i64 c.alive.a1, .int .i64 c.alive.a2, .int .i64 c.alive.a3, .int .i64 c.alive.a4, .int .i64 c.alive.a5, .int .i64 c.alive.a6, .int .i64 c.alive.a7, .int .i64 c.dead.a0, .int .i64 c.dead.a1, .int .i64 c.dead.a2, .int .i64 c.dead.a3, .int .i64 c.dead.a4, .int .i64 c.dead.a5, .int .i64 c.dead.a6, .int .i64 c.dead.a7] : List Value).toArray 48) (by kernel_rfl) hL ?_
  clear hL
  intro w10 hL
  refine heldTake (i := 0) nx (by kernel_rfl) (by kernel_rfl) (by kernel_rfl) (by exact fun _ _ _ h => h) (y_pure (v := .pointer (some ⟨g5, 4, none⟩)) (by rfl) (fun w => by simp [execOp, Instr.fieldAt, go_sem])) (hL.box HasV.mem) ?_
  (try simp only [Act.put, zs, zt, zu])
  refine heldTake (i := 1) nx (by kernel_rfl) (by kernel_rfl) (by kernel_rfl) (by exact fun _ _ _ h => h) (y_loadSeg (fun _ h => h) (by rfl) (by rfl) (by rfl) (by infer_instance) (by infer_instance) SegC.seg) (hL.box HasV.mem) ?_
  (try simp only [Act.put, zs, zt, zu])
  refine heldTake (i := 2) nx (by kernel_rfl) (by kernel_rfl) (by kernel_rfl) (by exact fun _ _ _ h => h) (y_pure (v := .pointer (some ⟨g5, 6, none⟩)) (by rfl) (fun w => by simp [execOp, Instr.fieldAt, go_sem])) (hL.box HasV.mem) ?_
  (try simp only [Act.put, zs, zt, zu])
  refine heldTake (i := 3) nx (by kernel_rfl) (by kernel_rfl) (by kernel_rfl) (by exact fun _ _ _ h => h) (y_loadSeg (fun _ h => h) (by rfl) (by rfl) (by rfl) (by infer_instance) (by infer_instance) SegC.seg) (hL.box HasV.mem) ?_
  (try simp only [Act.put, zs, zt, zu])
  refine heldTake (i := 4) nx (by kernel_rfl) (by kernel_rfl) (by kernel_rfl) (by exact fun _ _ _ h => h) (y_pure (v := .pointer (some ⟨g5, 8, none⟩)) (by rfl) (fun w => by simp [execOp, Instr.fieldAt, go_sem])) (hL.box HasV.mem) ?_
  (try simp only [Act.put, zs, zt, zu])
  refine heldTake (i := 5) nx (by kernel_rfl) (by kernel_rfl) (by kernel_rfl) (by exact fun _ _ _ h => h) (y_loadCell (fun _ h => h) (by rfl) (by rfl) (by rfl) (by infer_instance) (by rfl)) (hL.box HasV.mem) ?_
  (try simp only [Act.put, zs, zt, zu])
  refine heldTake (i := 6) nx (by kernel_rfl) (by kernel_rfl) (by kernel_rfl) (by exact fun _ _ _ h => h) (y_pure (v := .pointer (some ⟨g2, 4, none⟩)) (by rfl) (fun w => by simp [execOp, Instr.fieldAt, go_sem])) (hL.box HasV.mem) ?_
  (try simp only [Act.put, zs, zt, zu])
  refine heldStore (i := 7) nx (by kernel_rfl) rfl hL rfl (by rfl) (by rfl) cy (by rfl) ?_
  clear hL; intro w12 hL
  refine ⟨(hL.box HasV.mem), ?_⟩
  (try simp only [Act.put, zs, zt, zu])
  refine heldTake (i := 8) nx (by kernel_rfl) (by kernel_rfl) (by kernel_rfl) (by exact fun _ _ _ h => h) (y_pure (v := .pointer (some ⟨g2, 6, none⟩)) (by rfl) (fun w => by simp [execOp, Instr.fieldAt, go_sem])) (hL.box HasV.mem) ?_
  (try simp only [Act.put, zs, zt, zu])
  refine heldStore (i := 9) nx (by kernel_rfl) rfl hL rfl (by rfl) (by rfl) cy (by rfl) ?_
  clear hL; intro w13 hL
  refine ⟨(hL.box HasV.mem), ?_⟩
  (try simp only [Act.put, zs, zt, zu])
  refine heldTake (i := 10) nx (by kernel_rfl) (by kernel_rfl) (by kernel_rfl) (by exact fun _ _ _ h => h) (y_pure (v := .pointer (some ⟨g2, 8, none⟩)) (by rfl) (fun w => by simp [execOp, Instr.fieldAt, go_sem])) (hL.box HasV.mem) ?_
  (try simp only [Act.put, zs, zt, zu])
  refine heldStore (i := 11) nx (by kernel_rfl) rfl hL rfl (by rfl) (by rfl) cy (by rfl) ?_
  clear hL; intro w14 hL
  refine ⟨(hL.box HasV.mem), ?_⟩
  (try simp only [Act.put, zs, zt, zu])
  refine wpAnyH_done (by kernel_rfl) ?_ _
  go_wp2_with (first
    | (go_at_call 104; (with_reducible refine (hm.out _).mono ?_); rintro e w9 ⟨⟨c, rfl, rfl⟩, hb9⟩; have hL := hL.call hb9; clear hb9)
    | ((with_reducible refine qD rfl rfl ?_); (refine lI rfl hL rfl cy ?_; clear hL; intro gq wq hL)) | ((with_reducible refine qE rfl rfl ?_); (refine lJ rfl hL rfl rfl cy ?_; clear hL; intro gq wq hL)) | ((with_reducible refine qB rfl rfl ?_); (first | (refine lC rfl hL rfl rfl HasV.mem (by rfl) ?_) | (refine lA rfl hL rfl rfl HasV.mem (by rfl) ?_) | (refine lF rfl hL rfl rfl HasV.mem SegC.seg ?_))) | ((with_reducible refine qC rfl rfl ?_); (first | (refine lH rfl hL rfl rfl rfl cy (by rfl) ?_) | (refine lG rfl hL rfl rfl rfl cy (by rfl) (by rfl) ?_)); clear hL; intro wq hL) | ((with_reducible refine qA rfl rfl ?_ ?_); (exact wz rfl rfl rfl (by with_reducible rfl)); (first | (refine lD (wz rfl rfl rfl rfl) hL rfl rfl HasV.mem (by rfl) ?_) | (refine lB (wz rfl rfl rfl rfl) hL rfl rfl HasV.mem (by rfl) ?_) | (refine lE (wz rfl rfl rfl rfl) hL rfl rfl HasV.mem SegC.seg ?_))))
  (try simp only [Act.put, zs, zt, zu])
  refine region_any (by kernel_rfl) hL ?_
  clear hL
  intro w15 hL _ _
  refine any_mtail (o0 := default) [0, 1, 2, 3, 4, 5, 6, 7, 8, 9, 10] [11, 12, 13] 3 (by kernel_rfl) (by kernel_rfl) ?_
  simp only [pickL, List.map_cons, List.map_nil, List.getD_cons_zero, List.getD_cons_succ]
  repeat (first
    | (go_big_quiet_want; (first | refine qH hL rfl rfl HasV.mem (by rfl) ?_ | refine qG hL rfl rfl HasV.mem (by rfl) ?_ | refine qI hL rfl rfl HasV.mem SegC.seg ?_); go_big_quiet_on; simp only [Act.put, zs, zt, zu])
    | go_big_quiet_step (first | (go_at_call 36; with_reducible exact join_ext a.alive b.alive al HA.out) | (go_at_call 36; with_reducible exact join_ext a.dead b.dead de HD.out)))
  refine wpQuiet_nil ?_
  rintro _ ⟨⟨w16, hb16⟩, rfl⟩
  replace hL := hL.call hb16
  clear hb16
  refine wpAny_store (i := 11) nx (by kernel_rfl) rfl hL rfl (by rfl) (by rfl) cy (by rfl) ?_
  clear hL; intro w17 hL
  (try simp only [Act.put, zs, zt, zu])
  refine wpAny_takeN (i := 12) nx (by kernel_rfl) (by kernel_rfl) (by kernel_rfl) (by exact fun _ _ _ h => h) (v := .pointer (some ⟨g2, 17, none⟩)) (.inl ⟨by rfl, fun w => by simp [execOp, Instr.fieldAt, go_sem]⟩) ?_
  (try simp only [Act.put, zs, zt, zu])
  refine wpAny_store (i := 13) nx (by kernel_rfl) rfl hL rfl (by rfl) (by rfl) cy (by rfl) ?_
  clear hL; intro w18 hL
  (try simp only [Act.put, zs, zt, zu])
  refine wpAny_done (by kernel_rfl) ?_ _
  go_wp2_with (first | ((with_reducible refine qD rfl rfl ?_); (refine lI rfl hL rfl cy ?_; clear hL; intro gq wq hL)) | ((with_reducible refine qE rfl rfl ?_); (refine lJ rfl hL rfl rfl cy ?_; clear hL; intro gq wq hL)) | ((with_reducible refine qB rfl rfl ?_); (first | (refine lC rfl hL rfl rfl HasV.mem (by rfl) ?_) | (refine lA rfl hL rfl rfl HasV.mem (by rfl) ?_) | (refine lF rfl hL rfl rfl HasV.mem SegC.seg ?_))) | ((with_reducible refine qC rfl rfl ?_); (first | (refine lH rfl hL rfl rfl rfl cy (by rfl) ?_) | (refine lG rfl hL rfl rfl rfl cy (by rfl) (by rfl) ?_)); clear hL; intro wq hL) | ((with_reducible refine qA rfl rfl ?_ ?_); (exact wz rfl rfl rfl (by with_reducible rfl)); (first | (refine lD (wz rfl rfl rfl rfl) hL rfl rfl HasV.mem (by rfl) ?_) | (refine lB (wz rfl rfl rfl rfl) hL rfl rfl HasV.mem (by rfl) ?_) | (refine lE (wz rfl rfl rfl rfl) hL rfl rfl HasV.mem SegC.seg ?_))))
  refine bodyPost_ret (res_cell rfl hL _ rfl HasV.mem (by rfl)) rfl ⟨⟨_, HR.out.symm, rfl⟩, hL.below⟩
end Go.Proofs.Ytebpacmhdkgfeaa


/- slices.Grow of nil, and slices.Concat, at crannog/api.Link. -/
namespace Go.Proofs.Ytebpacmhdkgfeaa.ConcatK
open Go.RowKit

theorem row0 {w0 w : World} {M : Nat → Prop} {l : List Item} (h : Loc w0 M w l) {α : Type} (E : Enc α) (base : Nat) (e : TypeId) : Loc w0 M w (row E base e (.slice none 0 0) [] :: l) :=
  h.callNew (Below.refl _ _) (row_at (Enc.O.none _ _ _)) fun k hk => by cases hk
set_option maxHeartbeats 1000000 in
theorem growNil (n : Nat) (w : World) (hn : n ≤ 100000000000) :
    Calls Try.prog 151 #[.slice none 0 0, .int .i64 n] w fun e w' => ∃ v, e = .returned v ∧ Loc w NoM w' [row encK w.heap.size 48 v []] := by
  have hL := Loc.nil w NoM
  have h0 : ¬ ((n : Int) < 0) := by omega
  by_cases hz : n = 0
  · subst hz
    have hL := row0 hL encK w.heap.size 48
    go_enter Try.func151, Try.ntmps151
    go_wp2_with (first | ((with_reducible refine qD rfl rfl ?_); (refine lI rfl hL rfl cy ?_; clear hL; intro gq wq hL)) | ((with_reducible refine qE rfl rfl ?_); (refine lJ rfl hL rfl rfl cy ?_; clear hL; intro gq wq hL)) | ((with_reducible refine qB rfl rfl ?_); (first | (refine lC rfl hL rfl rfl HasV.mem (by rfl) ?_) | (refine lA rfl hL rfl rfl HasV.mem (by rfl) ?_) | (refine lF rfl hL rfl rfl HasV.mem SegC.seg ?_))) | ((with_reducible refine qC rfl rfl ?_); (first | (refine lH rfl hL rfl rfl rfl cy (by rfl) ?_) | (refine lG rfl hL rfl rfl rfl cy (by rfl) (by rfl) ?_)); clear hL; intro wq hL) | ((with_reducible refine qA rfl rfl ?_ ?_); (exact wz rfl rfl rfl (by with_reducible rfl)); (first | (refine lD (wz rfl rfl rfl rfl) hL rfl rfl HasV.mem (by rfl) ?_) | (refine lB (wz rfl rfl rfl rfl) hL rfl rfl HasV.mem (by rfl) ?_) | (refine lE (wz rfl rfl rfl rfl) hL rfl rfl HasV.mem SegC.seg ?_))))
    go_ret
    exact ⟨_, rfl, hL⟩
  · have h1 : (0 : Int) < (n : Int) := by omega
    go_enter Try.func151, Try.ntmps151
    go_wp2_with (first
      | ((with_reducible refine qD rfl rfl ?_); (refine lI rfl hL rfl cy ?_; clear hL; intro gq wq hL)) | ((with_reducible refine qE rfl rfl ?_); (refine lJ rfl hL rfl rfl cy ?_; clear hL; intro gq wq hL)) | ((with_reducible refine qB rfl rfl ?_); (first | (refine lC rfl hL rfl rfl HasV.mem (by rfl) ?_) | (refine lA rfl hL rfl rfl HasV.mem (by rfl) ?_) | (refine lF rfl hL rfl rfl HasV.mem SegC.seg ?_))) | ((with_reducible refine qC rfl rfl ?_); (first | (refine lH rfl hL rfl rfl rfl cy (by rfl) ?_) | (refine lG rfl hL rfl rfl rfl cy (by rfl) (by rfl) ?_)); clear hL; intro wq hL) | ((with_reducible refine qA rfl rfl ?_ ?_); (exact wz rfl rfl rfl (by with_reducible rfl)); (first | (refine lD (wz rfl rfl rfl rfl) hL rfl rfl HasV.mem (by rfl) ?_) | (refine lB (wz rfl rfl rfl rfl) hL rfl rfl HasV.mem (by rfl) ?_) | (refine lE (wz rfl rfl rfl rfl) hL rfl rfl HasV.mem SegC.seg ?_)))
      | (at_builtin; refine ev_growNil encK w.heap.size rfl hL rfl rfl rfl Try.underlying3 rfl rfl (by omega) hn (Nat.le_refl _) ?_; clear hL; intro g G wq hG hG63 hL; have hG2 : (0 : Int) ≤ (G : Int) := by omega))
    go_ret
    exact ⟨_, rfl, hL⟩
/-- What k of the lists hold together. -/
def upto {α : Type} (xss : List (List α)) (k : Nat) : List α := (xss.take k).flatten
theorem upto_succ {α : Type} (xss : List (List α)) (k : Nat) (h : k < xss.length) : upto xss (k + 1) = upto xss k ++ xss[k] := by
  unfold upto
  rw [(List.take_append_getElem h).symm, List.flatten_append]
  simp
theorem upto_len {α : Type} (xss : List (List α)) (k : Nat) : (upto xss k).length ≤ xss.flatten.length := by
  have h : xss.flatten = upto xss k ++ (xss.drop k).flatten := by unfold upto; rw [← List.flatten_append, List.take_append_drop]
  rw [h, List.length_append]
  omega
set_option maxHeartbeats 2000000 in
theorem concat (v : Value) (ss : List Sl) (xss : List (List Lnk)) (w : World) (h : encSl.R w v ss) (hl : ss.length = xss.length) (hx : ∀ i (h1 : i < ss.length) (h2 : i < xss.length), (encK).R w ss[i].val xss[i]) (hn : xss.flatten.length ≤ 1000000000) (hm : ss.length ≤ 1000000000) :
    Calls Try.prog 100 #[v] w fun e w' => ∃ u, e = .returned u ∧ Loc w NoM w' [row encK w.heap.size 48 u xss.flatten] := by
  have hL := Loc.nil w NoM
  obtain ⟨ao, c, rfl, hel⟩ := R_elem h
  have HX := Lib.hid hx
  have HL := Lib.hid hl
  clear hx h hl
  go_enter Try.func100, Try.ntmps100
  go_wp2_with (first | ((with_reducible refine qD rfl rfl ?_); (refine lI rfl hL rfl cy ?_; clear hL; intro gq wq hL)) | ((with_reducible refine qE rfl rfl ?_); (refine lJ rfl hL rfl rfl cy ?_; clear hL; intro gq wq hL)) | ((with_reducible refine qB rfl rfl ?_); (first | (refine lC rfl hL rfl rfl HasV.mem (by rfl) ?_) | (refine lA rfl hL rfl rfl HasV.mem (by rfl) ?_) | (refine lF rfl hL rfl rfl HasV.mem SegC.seg ?_))) | ((with_reducible refine qC rfl rfl ?_); (first | (refine lH rfl hL rfl rfl rfl cy (by rfl) ?_) | (refine lG rfl hL rfl rfl rfl cy (by rfl) (by rfl) ?_)); clear hL; intro wq hL) | ((with_reducible refine qA rfl rfl ?_ ?_); (exact wz rfl rfl rfl (by with_reducible rfl)); (first | (refine lD (wz rfl rfl rfl rfl) hL rfl rfl HasV.mem (by rfl) ?_) | (refine lB (wz rfl rfl rfl rfl) hL rfl rfl HasV.mem (by rfl) ?_) | (refine lE (wz rfl rfl rfl rfl) hL rfl rfl HasV.mem SegC.seg ?_))))
  go_loopw [3, 11] (fun s i wr => ∃ k : Nat, k ≤ ss.length ∧ i = .int .i64 k ∧ s = .int .i64 ((upto xss k).length : Nat) ∧ Loc w NoM wr []) (fun _ i _ => ss.length - (intOf i).toNat)
  case atStart => exact ⟨0, by omega, rfl, rfl, hL⟩
  case round =>
    clear hL
    obtain ⟨k, hk, rfl, rfl, hL⟩ := hrel
    by_cases hlt : k < ss.length
    · obtain ⟨g, off, rfl, hr⟩ := hel k hlt
      have hrW : wr.rangeAt g (off + k * 1) [.slice ss[k].a ss[k].n ss[k].c] := range_below hr hL.below
      clear hr
      have hlt2 : k < xss.length := by have := HL.out; omega
      have hR := HX.out k hlt hlt2
      obtain ⟨ao2, c2, e2, -⟩ := R_elem hR
      have HN : Hid ((upto xss (k + 1)).length = (upto xss k).length + ss[k].n) := Lib.hid (by
        rw [upto_succ xss k hlt2, List.length_append]
        have e3 : ss[k].n = xss[k].length := by unfold Sl.val at e2; injection e2
        rw [e3])
      have hb1 := upto_len xss (k + 1)
      rw [HN.out] at hb1
      generalize (upto xss k).length = N at *
      clear hR e2
      generalize ss[k].n = m at *
      generalize ss[k].a = aa at *
      generalize ss[k].c = cc at *
      have hb2 : N + m ≤ 1000000000 := by omega
      have hneg : ¬ ((N : Int) + (m : Int) < 0) := by omega
      go_wp2_with (first
        | ((with_reducible refine qF rfl rfl ?_); refine lL rfl rfl rfl rfl hlt ?_)
        | ((with_reducible refine gate (N := 14) rfl ?_); refine ev_loadR1 (v := .slice aa m cc) rfl rfl rfl hrW ?_)
        | ((with_reducible refine qD rfl rfl ?_); (refine lI rfl hL rfl cy ?_; clear hL; intro gq wq hL)) | ((with_reducible refine qE rfl rfl ?_); (refine lJ rfl hL rfl rfl cy ?_; clear hL; intro gq wq hL)) | ((with_reducible refine qB rfl rfl ?_); (first | (refine lC rfl hL rfl rfl HasV.mem (by rfl) ?_) | (refine lA rfl hL rfl rfl HasV.mem (by rfl) ?_) | (refine lF rfl hL rfl rfl HasV.mem SegC.seg ?_))) | ((with_reducible refine qC rfl rfl ?_); (first | (refine lH rfl hL rfl rfl rfl cy (by rfl) ?_) | (refine lG rfl hL rfl rfl rfl cy (by rfl) (by rfl) ?_)); clear hL; intro wq hL) | ((with_reducible refine qA rfl rfl ?_ ?_); (exact wz rfl rfl rfl (by with_reducible rfl)); (first | (refine lD (wz rfl rfl rfl rfl) hL rfl rfl HasV.mem (by rfl) ?_) | (refine lB (wz rfl rfl rfl rfl) hL rfl rfl HasV.mem (by rfl) ?_) | (refine lE (wz rfl rfl rfl rfl) hL rfl rfl HasV.mem SegC.seg ?_))))
      go_roundw
      case rel => exact ⟨k + 1, by omega, by go_num, by rw [HN.out]; go_num, hL⟩
      case measure => simp [intOf]; omega
    · obtain rfl : k = ss.length := by omega
      have hb1 := upto_len xss ss.length
      generalize (upto xss ss.length).length = N at *
      go_wp2_with (first
        | (go_at_call 151; (with_reducible refine (growNil N _ (by omega)).mono ?_); rintro e w3 ⟨v0, rfl, hL3⟩; have hL := hL.takeRow hL3; clear hL3)
        | ((with_reducible refine qD rfl rfl ?_); (refine lI rfl hL rfl cy ?_; clear hL; intro gq wq hL)) | ((with_reducible refine qE rfl rfl ?_); (refine lJ rfl hL rfl rfl cy ?_; clear hL; intro gq wq hL)) | ((with_reducible refine qB rfl rfl ?_); (first | (refine lC rfl hL rfl rfl HasV.mem (by rfl) ?_) | (refine lA rfl hL rfl rfl HasV.mem (by rfl) ?_) | (refine lF rfl hL rfl rfl HasV.mem SegC.seg ?_))) | ((with_reducible refine qC rfl rfl ?_); (first | (refine lH rfl hL rfl rfl rfl cy (by rfl) ?_) | (refine lG rfl hL rfl rfl rfl cy (by rfl) (by rfl) ?_)); clear hL; intro wq hL) | ((with_reducible refine qA rfl rfl ?_ ?_); (exact wz rfl rfl rfl (by with_reducible rfl)); (first | (refine lD (wz rfl rfl rfl rfl) hL rfl rfl HasV.mem (by rfl) ?_) | (refine lB (wz rfl rfl rfl rfl) hL rfl rfl HasV.mem (by rfl) ?_) | (refine lE (wz rfl rfl rfl rfl) hL rfl rfl HasV.mem SegC.seg ?_))))
      clear hb1 hk hlt
      go_loopw [6, 27] (fun s i wr => ∃ (k : Nat) (vs : Value), k ≤ ss.length ∧ i = .int .i64 k ∧ s = vs ∧ Loc w NoM wr [row encK w.heap.size 48 vs (upto xss k)]) (fun _ i _ => ss.length - (intOf i).toNat)
      case atStart => exact ⟨0, _, by omega, rfl, rfl, hL⟩
      case round =>
        clear hL
        obtain ⟨k, vs, hk, rfl, rfl, hL⟩ := hrel
        by_cases hlt : k < ss.length
        · obtain ⟨g, off, rfl, hr⟩ := hel k hlt
          have hrW : wr.rangeAt g (off + k * 1) [.slice ss[k].a ss[k].n ss[k].c] := range_below hr hL.below
          clear hr
          have hlt2 : k < xss.length := by have := HL.out; omega
          have hR := Lib.hid ((HX.out k hlt hlt2).below hL.below)
          have HN := Lib.hid (upto_succ xss k hlt2)
          have hb1 := upto_len xss (k + 1)
          rw [HN.out, List.length_append] at hb1
          unfold Sl.val at hR
          generalize upto xss k = L at *
          generalize xss[k] = ys at *
          generalize ss[k].n = m at *
          generalize ss[k].a = aa at *
          generalize ss[k].c = cc at *
          go_wp2_with (first
            | ((with_reducible refine qF rfl rfl ?_); refine lL rfl rfl rfl rfl hlt ?_)
            | ((with_reducible refine gate (N := 30) rfl ?_); refine ev_loadR1 (v := .slice aa m cc) rfl rfl rfl hrW ?_)
            | ((with_reducible refine qD rfl rfl ?_); (refine lI rfl hL rfl cy ?_; clear hL; intro gq wq hL)) | ((with_reducible refine qE rfl rfl ?_); (refine lJ rfl hL rfl rfl cy ?_; clear hL; intro gq wq hL)) | ((with_reducible refine qB rfl rfl ?_); (first | (refine lC rfl hL rfl rfl HasV.mem (by rfl) ?_) | (refine lA rfl hL rfl rfl HasV.mem (by rfl) ?_) | (refine lF rfl hL rfl rfl HasV.mem SegC.seg ?_))) | ((with_reducible refine qC rfl rfl ?_); (first | (refine lH rfl hL rfl rfl rfl cy (by rfl) ?_) | (refine lG rfl hL rfl rfl rfl cy (by rfl) (by rfl) ?_)); clear hL; intro wq hL) | ((with_reducible refine qA rfl rfl ?_ ?_); (exact wz rfl rfl rfl (by with_reducible rfl)); (first | (refine lD (wz rfl rfl rfl rfl) hL rfl rfl HasV.mem (by rfl) ?_) | (refine lB (wz rfl rfl rfl rfl) hL rfl rfl HasV.mem (by rfl) ?_) | (refine lE (wz rfl rfl rfl rfl) hL rfl rfl HasV.mem SegC.seg ?_)))
            | (at_builtin; refine ev_appL (E := encK) ys rfl hL rfl rfl rfl hR.out (fun _ => sx) rfl rfl (by omega) hL.size ?_; clear hL hR; intro v' wq hL))
          go_roundw
          case rel => exact ⟨k + 1, _, by omega, by go_num, rfl, by rw [HN.out]; exact hL⟩
          case measure => simp [intOf]; omega
        · obtain rfl : k = ss.length := by omega
          have HT := Lib.hid (show upto xss ss.length = xss.flatten from by unfold upto; rw [HL.out, List.take_length])
          rw [HT.out] at hL
          go_wp2
          go_ret
          exact ⟨_, rfl, hL⟩
end Go.Proofs.Ytebpacmhdkgfeaa.ConcatK
