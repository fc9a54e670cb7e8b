/- What an argument of cells holds: numbers, bools, strings, slices, in structs and arrays, however nested. Over any program. -/
import Derived.Test.YtebpacmhdkgfeaaDoorBase
import Derived.OpenShut
import Derived.Deep.Slices
import Derived.Deep.Fields
namespace Go.Proofs.YtebpacmhdkgfeaaDoor
open Go.ChangeShapes Go.WideShapes Go.RowKit Go.Deep

inductive Leg where
  | int (k : IntKind)
  | str
  | bool
  | sl (t : TypeId)
def Leg.is (S : TypeId → Value → Prop) (B : Nat) : Leg → Value → Prop
  | .int k, v => ∃ n, v = .int k n ∧ (Lit.int k n).wf = true
  | .str, v => ∃ s : ByteArray, v = .string s ∧ s.size ≤ B
  | .bool, v => ∃ b, v = .bool b
  | .sl t, v => S t v
def FitsR (S : TypeId → Value → Prop) (B : Nat) : List Leg → List Value → Prop
  | [], [] => True
  | l :: ls, v :: vs => l.is S B v ∧ FitsR S B ls vs
  | _, _ => False
theorem FitsR.length {S : TypeId → Value → Prop} {B : Nat} : ∀ {ls : List Leg} {vs : List Value}, FitsR S B ls vs → vs.length = ls.length
  | [], [], _ => rfl
  | _ :: _, _ :: _, h => by simp [FitsR.length h.2]
theorem FitsR.append {S : TypeId → Value → Prop} {B : Nat} : ∀ {a b : List Leg} {x y : List Value}, FitsR S B a x → FitsR S B b y → FitsR S B (a ++ b) (x ++ y)
  | [], _, [], _, _, h => h
  | _ :: _, _, _ :: _, _, h1, h2 => ⟨h1.1, FitsR.append h1.2 h2⟩
def legsF (P : Program) (rec : TypeId → Option (List Leg)) : List Field → Nat → Option (List Leg)
  | [], _ => some []
  | f :: fs, off => if f.offset = off then (match rec f.type with
    | some l => if P.cellsOf f.type = l.length then (match legsF P rec fs (off + l.length) with | some r => some (l ++ r) | none => none) else none
    | none => none) else none
def legsA (l : List Leg) : Nat → List Leg
  | 0 => []
  | n + 1 => l ++ legsA l n
def legs (P : Program) : Nat → TypeId → Option (List Leg)
  | 0, _ => none
  | n + 1, t => match P.underlying t with
    | some (.int k) => some [.int k]
    | some .string => some [.str]
    | some .bool => some [.bool]
    | some (.slice _) => some [.sl t]
    | some (.struct fs) => match legsF P (legs P n) fs.toList 0 with | some ls => if P.cellsOf t = ls.length then some ls else none | none => none
    | some (.array m e) => match legs P n e with | some l => if P.cellsOf e = l.length ∧ P.cellsOf t = m * l.length then some (legsA l m) else none | none => none
    | _ => none
theorem legsA_length (l : List Leg) (n : Nat) : (legsA l n).length = n * l.length := by
  induction n with
  | zero => simp [legsA]
  | succ n ih => simp [legsA, ih, Nat.add_mul, Nat.add_comm]
theorem legsF_fits {P : Program} {rec : TypeId → Option (List Leg)} {R : TypeId → List Value → Prop} {S : TypeId → Value → Prop} {B : Nat} (hrec : ∀ t l cs, rec t = some l → R t cs → FitsR S B l cs) (cs : List Value) :
    ∀ (fs : List Field) (off : Nat) (ls : List Leg), legsF P rec fs off = some ls → (∀ (i : Nat) f, fs[i]? = some f → R f.type ((cs.drop f.offset).take (P.cellsOf f.type))) → FitsR S B ls ((cs.drop off).take ls.length) := by
  intro fs
  induction fs with
  | nil =>
    intro off ls h _
    simp only [legsF, Option.some.injEq] at h
    subst h
    simp [FitsR]
  | cons f fs ih =>
    intro off ls h hf
    simp only [legsF] at h
    split at h
    · rename_i ho
      split at h
      · rename_i l hl
        split at h
        · rename_i hc
          split at h
          · rename_i r hr
            injection h with h
            subst h
            have h1 := hrec _ _ _ hl (hf 0 f rfl)
            have h2 := ih _ _ hr (fun i g hg => hf (i + 1) g (by simpa using hg))
            rw [ho, hc] at h1
            have e : (cs.drop off).take (l ++ r).length = (cs.drop off).take l.length ++ (cs.drop (off + l.length)).take r.length := by
              rw [List.length_append, List.take_add, List.drop_drop]
            rw [e]
            exact h1.append h2
          · cases h
        · cases h
      · cases h
    · cases h
/-- What is asked of all that is read, part by part: of a text that it is no longer than B. -/
structure Keep {H : Type} (K : DataW H → Prop) (B : Nat) : Prop where
  agg : ∀ l, K (.agg l) → ∀ d ∈ l, K d
  slice : ∀ l r, K (.slice l r) → ∀ d ∈ l, K d
  str : ∀ b : List UInt8, b.length ≤ maxLen → K (.lit (.string b)) → b.length ≤ B
theorem Keep.all {H : Type} : Keep (H := H) (fun _ => True) maxLen := ⟨fun _ _ _ _ => trivial, fun _ _ _ _ _ => trivial, fun _ h _ => h⟩
/-- A value that is trodden through as one of type t. -/
def TrodS {H : Type} (K : DataW H → Prop) (enc : TypeId × Value → H) (P : Program) (w : World) (base : Nat) (spare : Nat → Bool) (held : Bool) (t : TypeId) (v : Value) : Prop := ∃ (fuel : Nat) (x : DataW H × List MemPlace), DataW.trod enc P w base spare held fuel t [v] = some x ∧ K x.1
section
variable {H : Type} {enc : TypeId × Value → H} {P : Program} {w : World} {base : Nat} {spare : Nat → Bool} {held : Bool} {K : DataW H → Prop} {B : Nat}
theorem legs_fits (hK : Keep K B) : ∀ (n : Nat) (t : TypeId) (ls : List Leg) (fuel : Nat) (cs : List Value) (x : DataW H × List MemPlace), legs P n t = some ls → DataW.trod enc P w base spare held fuel t cs = some x → K x.1 → FitsR (TrodS K enc P w base spare held) B ls cs := by
  intro n
  induction n with
  | zero => intro t ls fuel cs x h; simp [legs] at h
  | succ n ih =>
    intro t ls fuel cs x h ht hx
    simp only [legs] at h
    split at h
    · rename_i k hu
      injection h with h; subst h
      obtain ⟨m, rfl, _, hw⟩ := DataW.trod_int hu ht
      exact ⟨⟨m, rfl, hw⟩, trivial⟩
    · rename_i hu
      injection h with h; subst h
      obtain ⟨s, rfl, rfl, hw⟩ := DataW.trod_string hu ht
      have e : s.data.toList.length = s.size := Array.length_toList
      exact ⟨⟨s, rfl, by rw [← e] at hw ⊢; exact hK.str _ hw hx⟩, trivial⟩
    · rename_i hu
      injection h with h; subst h
      obtain ⟨s, rfl, _⟩ := DataW.trod_bool hu ht
      exact ⟨⟨s, rfl⟩, trivial⟩
    · rename_i e hu
      injection h with h; subst h
      rcases open_slice hu ht with ⟨rfl, -⟩ | ⟨a, len, cap, m, n, D, Pl, rfl, -⟩
      · exact ⟨⟨fuel, x, ht, hx⟩, trivial⟩
      · exact ⟨⟨fuel, x, ht, hx⟩, trivial⟩
    · rename_i fs hu
      split at h
      · rename_i l hl
        split at h
        · rename_i hc
          injection h with h; subst h
          obtain ⟨xs, m, _, rfl, hlen, hxl, hf⟩ := DataW.trod_struct hu ht
          have h1 := legsF_fits (P := P) (R := fun t cs => ∃ x, DataW.trod enc P w base spare held m t cs = some x ∧ K x.1) (fun t l cs h1 h2 => h2.elim fun x hx => ih t l m cs x h1 hx.1 hx.2) cs fs.toList 0 l hl (fun i f hi => by
            have hi' : fs[i]? = some f := by simpa using hi
            have hlt : i < xs.length := by rw [hxl]; exact (Array.getElem?_eq_some_iff.1 hi').1
            exact ⟨xs[i], (hf i f hi').trans (List.getElem?_eq_getElem hlt), hK.agg _ hx _ (List.mem_map.2 ⟨_, List.getElem_mem hlt, rfl⟩)⟩)
          rw [List.drop_zero, List.take_of_length_le (by omega)] at h1
          exact h1
        · cases h
      · cases h
    · rename_i m e hu
      split at h
      · rename_i l hl
        split at h
        · rename_i hc
          injection h with h; subst h
          obtain ⟨xs, k, _, rfl, hlen, hxl, hf⟩ := DataW.trod_array hu ht
          have key : ∀ (q : Nat) (i : Nat), i + q = m → FitsR (TrodS K enc P w base spare held) B (legsA l q) ((cs.drop (i * l.length)).take (q * l.length)) := by
            intro q
            induction q with
            | zero => intro i _; simp [legsA, FitsR]
            | succ q ihq =>
              intro i hi
              have hlt : i < xs.length := by omega
              have h1 := ih e l k _ _ hl ((hf i (by omega)).trans (List.getElem?_eq_getElem hlt)) (hK.agg _ hx _ (List.mem_map.2 ⟨_, List.getElem_mem hlt, rfl⟩))
              rw [hc.1] at h1
              have h2 := ihq (i + 1) (by omega)
              have e2 : (cs.drop (i * l.length)).take ((q + 1) * l.length) = (cs.drop (i * l.length)).take l.length ++ (cs.drop ((i + 1) * l.length)).take (q * l.length) := by
                rw [Nat.add_mul, Nat.one_mul, Nat.add_comm (q * l.length), List.take_add, List.drop_drop, Nat.add_mul, Nat.one_mul]
              rw [e2]
              exact h1.append h2
          have h3 := key m 0 (by omega)
          rw [Nat.zero_mul, List.drop_zero, List.take_of_length_le (by omega)] at h3
          exact h3
        · cases h
      · cases h
    · cases h
/-- A slice whose elements open, each as one of a row. -/
theorem open_row {α : Type} (E : Enc α) {Good : α → Prop} {t e : TypeId} {v : Value} (hu : P.underlying t = some (.slice e)) (hC : P.cellsOf e = E.sz) (hK : Keep K B) (hel : ∀ fuel cs x, DataW.trod enc P w base spare held fuel e cs = some x → K x.1 → ∃ d, cs = E.cells d ∧ Good d)
    (h : TrodS K enc P w base spare held t v) : ∃ ds : List α, E.R w v ds ∧ ∀ d ∈ ds, Good d := by
  obtain ⟨fuel, x, h, hxK⟩ := h
  rcases open_slice hu h with ⟨h0, -⟩ | ⟨a, len, cap, m, n, D, Pl, hcs, hb, hl, hm, hmm, rfl, hi⟩
  · injection h0 with h0 _
    subst h0
    exact ⟨[], Enc.R.none w, by simp⟩
  · injection hcs with hcs _
    subst hcs
    have hlm : len ≤ m := by rw [hmm]; split <;> omega
    have key : ∀ q, q ≤ len → ∃ ds : List α, ds.length = q ∧ (∀ d ∈ ds, Good d) ∧ ∀ i, (hi : i < ds.length) → ∀ j, j < E.sz → w.cell? (a.add (i * E.sz + j)) = (E.cells ds[i])[j]? := by
      intro q
      induction q with
      | zero => intro _; exact ⟨[], rfl, by simp, fun i hi => by simp at hi⟩
      | succ q ih =>
        intro hq
        obtain ⟨ds, hds, hg, hd⟩ := ih (by omega)
        obtain ⟨cs', hc, ht⟩ := hi q (by omega)
        rw [hC] at hc
        obtain ⟨d, rfl, hgd⟩ := hel _ _ _ ht (hK.slice _ _ hxK _ (List.mem_map.2 ⟨q, List.mem_range.2 (by omega), rfl⟩))
        obtain ⟨_, h1, h2⟩ := World.cells?_some hc
        refine ⟨ds ++ [d], by simp [hds], fun d' hd' => ?_, fun i hi' j hj => ?_⟩
        · rcases List.mem_append.1 hd' with h | h
          · exact hg d' h
          · rw [List.mem_singleton.1 h]; exact hgd
        by_cases h3 : i < ds.length
        · rw [List.getElem_append_left h3]; exact hd i h3 j hj
        · have h4 : i = q := by simp at hi'; omega
          subst h4
          rw [← Go.Deep.add_add, h2 j hj]
          simp [hds]
    obtain ⟨ds, hds, hg, hd⟩ := key len (Nat.le_refl _)
    refine ⟨ds, ⟨by rw [Enc.all_length], some a, cap, by rw [hds], by omega, by simp only [maxLen] at hm; omega, .inr ⟨a, rfl, fun k u hu => ?_⟩⟩, hg⟩
    have hk : k < ds.length * E.sz := by have := (List.getElem?_eq_some_iff.1 hu).1; rw [Enc.all_length] at this; exact this
    have hp := E.pos
    have h1 : k / E.sz < ds.length := (Nat.div_lt_iff_lt_mul hp).2 hk
    have h2 := hd (k / E.sz) h1 (k % E.sz) (Nat.mod_lt _ hp)
    have h3 := E.all_get ds (k / E.sz) (k % E.sz) h1 (Nat.mod_lt _ hp)
    have e : k / E.sz * E.sz + k % E.sz = k := by rw [Nat.mul_comm]; exact Nat.div_add_mod k E.sz
    rw [e] at h2 h3
    rw [h2, ← hu, h3]
end
end Go.Proofs.YtebpacmhdkgfeaaDoor
