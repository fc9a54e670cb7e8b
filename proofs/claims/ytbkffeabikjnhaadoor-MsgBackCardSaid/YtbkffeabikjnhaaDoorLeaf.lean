/- What an argument of a type of plain cells holds: numbers, bools, strings, in structs and arrays, however nested. Over any program. -/
import Derived.Test.YtbkffeabikjnhaaDoorBase
import Derived.OpenShut
import Derived.Deep.Slices
import Derived.Deep.Fields
namespace Go.Proofs.YtbkffeabikjnhaaDoor
open Go.ChangeShapes Go.WideShapes Go.RowKit Go.Deep

inductive Leaf where
  | int (k : IntKind)
  | str
  | bool
def Leaf.is : Leaf → Value → Prop
  | .int k, v => ∃ n, v = .int k n ∧ (Lit.int k n).wf = true
  | .str, v => ∃ s : ByteArray, v = .string s ∧ s.size ≤ maxLen
  | .bool, v => ∃ b, v = .bool b
def Fits : List Leaf → List Value → Prop
  | [], [] => True
  | l :: ls, v :: vs => l.is v ∧ Fits ls vs
  | _, _ => False
theorem Fits.length : ∀ {ls : List Leaf} {vs : List Value}, Fits ls vs → vs.length = ls.length
  | [], [], _ => rfl
  | _ :: _, _ :: _, h => by simp [Fits.length h.2]
theorem Fits.append : ∀ {a b : List Leaf} {x y : List Value}, Fits a x → Fits b y → Fits (a ++ b) (x ++ y)
  | [], _, [], _, _, h => h
  | _ :: _, _, _ :: _, _, h1, h2 => ⟨h1.1, Fits.append h1.2 h2⟩
def leavesF (P : Program) (rec : TypeId → Option (List Leaf)) : List Field → Nat → Option (List Leaf)
  | [], _ => some []
  | f :: fs, off => if f.offset = off then (match rec f.type with
    | some l => if P.cellsOf f.type = l.length then (match leavesF P rec fs (off + l.length) with | some r => some (l ++ r) | none => none) else none
    | none => none) else none
def leavesA (l : List Leaf) : Nat → List Leaf
  | 0 => []
  | n + 1 => l ++ leavesA l n
def leaves (P : Program) : Nat → TypeId → Option (List Leaf)
  | 0, _ => none
  | n + 1, t => match P.underlying t with
    | some (.int k) => some [.int k]
    | some .string => some [.str]
    | some .bool => some [.bool]
    | some (.struct fs) => match leavesF P (leaves P n) fs.toList 0 with | some ls => if P.cellsOf t = ls.length then some ls else none | none => none
    | some (.array m e) => match leaves P n e with | some l => if P.cellsOf e = l.length ∧ P.cellsOf t = m * l.length then some (leavesA l m) else none | none => none
    | _ => none
theorem leavesA_length (l : List Leaf) (n : Nat) : (leavesA l n).length = n * l.length := by
  induction n with
  | zero => simp [leavesA]
  | succ n ih => simp [leavesA, ih, Nat.add_mul, Nat.add_comm]
theorem leavesF_fits {P : Program} {rec : TypeId → Option (List Leaf)} {R : TypeId → List Value → Prop} (hrec : ∀ t l cs, rec t = some l → R t cs → Fits l cs) (cs : List Value) :
    ∀ (fs : List Field) (off : Nat) (ls : List Leaf), leavesF P rec fs off = some ls → (∀ (i : Nat) f, fs[i]? = some f → R f.type ((cs.drop f.offset).take (P.cellsOf f.type))) → Fits ls ((cs.drop off).take ls.length) := by
  intro fs
  induction fs with
  | nil =>
    intro off ls h _
    simp only [leavesF, Option.some.injEq] at h
    subst h
    simp [Fits]
  | cons f fs ih =>
    intro off ls h hf
    simp only [leavesF] at h
    split at h
    · rename_i ho
      split at h
      · rename_i l hl
        split at h
        · rename_i hc
          split at h
          · rename_i r hr
            injection h with h
            subst h
            have h1 := hrec _ _ _ hl (hf 0 f rfl)
            have h2 := ih _ _ hr (fun i g hg => hf (i + 1) g (by simpa using hg))
            rw [ho, hc] at h1
            have e : (cs.drop off).take (l ++ r).length = (cs.drop off).take l.length ++ (cs.drop (off + l.length)).take r.length := by
              rw [List.length_append, List.take_add, List.drop_drop]
            rw [e]
            exact h1.append h2
          · cases h
        · cases h
      · cases h
    · cases h
section
variable {H : Type} {enc : TypeId × Value → H} {P : Program} {w : World} {base : Nat} {spare : Nat → Bool} {held : Bool}
theorem leaves_fits : ∀ (n : Nat) (t : TypeId) (ls : List Leaf) (fuel : Nat) (cs : List Value) (x : DataW H × List MemPlace), leaves P n t = some ls → DataW.trod enc P w base spare held fuel t cs = some x → Fits ls cs := by
  intro n
  induction n with
  | zero => intro t ls fuel cs x h; simp [leaves] at h
  | succ n ih =>
    intro t ls fuel cs x h ht
    simp only [leaves] at h
    split at h
    · rename_i k hu
      injection h with h; subst h
      obtain ⟨m, rfl, _, hw⟩ := DataW.trod_int hu ht
      exact ⟨⟨m, rfl, hw⟩, trivial⟩
    · rename_i hu
      injection h with h; subst h
      obtain ⟨s, rfl, _, hw⟩ := DataW.trod_string hu ht
      exact ⟨⟨s, rfl, hw⟩, trivial⟩
    · rename_i hu
      injection h with h; subst h
      obtain ⟨s, rfl, _⟩ := DataW.trod_bool hu ht
      exact ⟨⟨s, rfl⟩, trivial⟩
    · rename_i fs hu
      split at h
      · rename_i l hl
        split at h
        · rename_i hc
          injection h with h; subst h
          obtain ⟨xs, m, _, _, hlen, hxl, hf⟩ := DataW.trod_struct hu ht
          have h1 := leavesF_fits (P := P) (R := fun t cs => ∃ x, DataW.trod enc P w base spare held m t cs = some x) (fun t l cs h1 h2 => h2.elim fun x hx => ih t l m cs x h1 hx) cs fs.toList 0 l hl (fun i f hi => by
            have hi' : fs[i]? = some f := by simpa using hi
            have hlt : i < xs.length := by rw [hxl]; exact (Array.getElem?_eq_some_iff.1 hi').1
            exact ⟨xs[i], (hf i f hi').trans (List.getElem?_eq_getElem hlt)⟩)
          rw [List.drop_zero, List.take_of_length_le (by omega)] at h1
          exact h1
        · cases h
      · cases h
    · rename_i m e hu
      split at h
      · rename_i l hl
        split at h
        · rename_i hc
          injection h with h; subst h
          obtain ⟨xs, k, _, _, hlen, hxl, hf⟩ := DataW.trod_array hu ht
          have key : ∀ (q : Nat) (i : Nat), i + q = m → Fits (leavesA l q) ((cs.drop (i * l.length)).take (q * l.length)) := by
            intro q
            induction q with
            | zero => intro i _; simp [leavesA, Fits]
            | succ q ihq =>
              intro i hi
              have hlt : i < xs.length := by omega
              have h1 := ih e l k _ _ hl ((hf i (by omega)).trans (List.getElem?_eq_getElem hlt))
              rw [hc.1] at h1
              have h2 := ihq (i + 1) (by omega)
              have e2 : (cs.drop (i * l.length)).take ((q + 1) * l.length) = (cs.drop (i * l.length)).take l.length ++ (cs.drop ((i + 1) * l.length)).take (q * l.length) := by
                rw [Nat.add_mul, Nat.one_mul, Nat.add_comm (q * l.length), List.take_add, List.drop_drop, Nat.add_mul, Nat.one_mul]
              rw [e2]
              exact h1.append h2
          have h3 := key m 0 (by omega)
          rw [Nat.zero_mul, List.drop_zero, List.take_of_length_le (by omega)] at h3
          exact h3
        · cases h
      · cases h
    · cases h
end
end Go.Proofs.YtbkffeabikjnhaaDoor
