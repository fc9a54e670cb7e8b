/- Chapter 29: is a stamp, is a vector zero? -/
import Derived.Test.YtebpacmhdkgfeaaDoorSto7
import Derived.Test.YtebpacmhdkgfeaaDoorQTail
namespace Go.Proofs.YtebpacmhdkgfeaaDoor
open Go.RowKit

theorem stamp_ext {W : World} {e : Ext W} (ht : Tb W) (m : Mk) (hb : I64 m.boot) (hn : I64 m.n) : Calls Tryd.prog 23 #[m.val] e.w fun en w'' => en = .returned (.string m.text) ∧ ∃ x : Ext W, w'' = x.w :=
  calls_ext (story_stamp m _ hb hn (ht.below e.ok))
theorem stamp29_ext {W : World} {e : Ext W} (m : Mk) (hb : I64 m.boot) (hn : I64 m.n) : Calls Tryd.prog 27 #[m.val] e.w fun en w'' => en = .returned (.string m.text) ∧ ∃ x : Ext W, w'' = x.w :=
  calls_ext (ref29_stamp m _ hb hn)
/-- A line's words, by which there are. -/
def wordIf (b : Bool) (w : ByteArray) : List ByteArray := if b = true then [] else [w]
theorem joinB_le (n : Nat) (xs : List ByteArray) (hx : ∀ x ∈ xs, x.size ≤ n) : (joinB xs).size ≤ xs.length * (n + 1) := by
  have := joinB_size n xs hx xs.length (Nat.le_refl _)
  rwa [List.take_length] at this
theorem joinB_len (xs : List ByteArray) : (Lib.join (xs.map (·.data.toList)) ([44] : List UInt8)).length = (joinB xs).size := by
  unfold joinB
  exact List.size_toArray.symm
/-- append of one element, the outcome in a form of one's own. -/
theorem ev_app1M {P : Program} {ops : Array Oper} {rest : List Oper} {o : Oper} {a : Act} {Q : Exit → Act → World → Prop} {W w0 : World} {M : Nat → Prop} {l : List Item} {α : Type} {E : Enc α} {s x : Operand} {t e e2 : TypeId} {z : Value} {by_ : Nat} {base g c : Nat} {v : Value} {xs : List α} {cs : List Value} {f : Value → List Item} [ht : SliceT P t e] [hz : ZeroT P e z] [hsz : SizeT P e E.sz] [hb : BytesT P e by_]
    (y : α) (m : Nat) (ys : List α) (hgd : o.guard = none) (hL : Loc w0 M W l) (ho : o.op = .call { callee := .builtin .append, args := #[s, x], argTypes := #[t, t] }) (hs : a.eval s = v) (hx : a.eval x = .slice (some ⟨g, 0, none⟩) 1 c)
    (hm : var g cs e2 ∈ l) (hy : cs = E.cells y) (hys : xs ++ [y] = ys) (hmm : xs.length + 1 = m) (hsw : ∀ v', Swap (row E base e v xs) (row E base e v' ys) l (f v')) (hzc : z.cells.size = E.sz) (hby : decide (by_ ≤ 1000) = true) (h63 : m < 100000000000) (hbase : base ≤ W.heap.size)
    (h : ∀ ao c' w1, Loc w0 M w1 (f (.slice ao m c')) → wpList P ops Q rest (a.put o.dst (.slice ao m c')) w1) : wpList P ops Q (o :: rest) a W := by
  subst hys hmm
  exact ev_app1L (E := E) y hgd hL ho hs hx hm hsw hy hzc hby (by omega) hbase h
theorem join_b (v : Value) (xs : List ByteArray) (w : World) (base : Nat) (h : encS.O w base 9 v xs) (hlen : (joinB xs).size ≤ 140737488355328) (hN : xs.length ≤ 140737488355328) :
    Calls Tryd.prog 48 #[v, .string ⟨#[44]⟩] w fun e w' => e = .returned (.string (joinB xs)) ∧ Below w.heap.size w w' :=
  join_c v xs ⟨#[44]⟩ w base h (by show (Lib.join _ ([44] : List UInt8)).length ≤ _; rw [joinB_len]; exact hlen) hN
end Go.Proofs.YtebpacmhdkgfeaaDoor
