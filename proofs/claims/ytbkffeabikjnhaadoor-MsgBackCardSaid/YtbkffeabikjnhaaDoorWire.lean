/- Bytes of messages, and back: the plain law. -/
import Derived.Test.YtbkffeabikjnhaaDoorRead
namespace Go.Proofs.YtbkffeabikjnhaaDoor
open Go.RowKit

theorem putN_succ (x : Int) (n : Nat) : putN x (n + 1) = putN (x / 256) n ++ [u8 x] := by
  unfold putN
  rw [List.range_succ_eq_map, List.reverse_cons, List.map_append, ← List.map_reverse, List.map_map]
  congr 1
  · apply List.map_congr_left
    intro i _
    simp only [Function.comp]
    congr 1
    rw [show 8 * Nat.succ i = 8 + 8 * i from by omega, Int.pow_add, ← Int.ediv_ediv_of_nonneg (by decide)]
    rfl
  · simp
theorem numOf_putN : ∀ (n : Nat) (x : Int), 0 ≤ x → x < 256 ^ n → numOf (putN x n) = x
  | 0, x, h0, h1 => by
    have : x = 0 := by simp at h1; omega
    subst this; rfl
  | n + 1, x, h0, h1 => by
    rw [putN_succ, numOf_snoc, u8_val, numOf_putN n (x / 256) (by omega) (by rw [Int.pow_succ] at h1; omega)]
    omega
def encP (ps : List (Int × Nat)) : List UInt8 := ps.flatMap fun p => putN p.1 p.2
def wid (ps : List (Int × Nat)) (i : Nat) : Nat := ((ps.take i).map (·.2)).sum
theorem drop_encP : ∀ (ps : List (Int × Nat)) (i : Nat) (t : List UInt8), i ≤ ps.length → (encP ps ++ t).drop (wid ps i) = encP (ps.drop i) ++ t
  | ps, 0, t, _ => by simp [wid]
  | [], i + 1, t, h => by simp at h
  | p :: ps, i + 1, t, h => by
    have ih := drop_encP ps i t (by simpa using h)
    have e1 : wid (p :: ps) (i + 1) = (putN p.1 p.2).length + wid ps i := by simp [wid, putN_length]
    have e2 : encP (p :: ps) = putN p.1 p.2 ++ encP ps := by simp [encP]
    rw [e1, e2, List.append_assoc, List.drop_length_add_append, ih]
    simp
theorem num_enc (ps : List (Int × Nat)) (i : Nat) (x : Int) (n off : Nat) (t : List UInt8) (s : ByteArray) (hs : s.data.toList = encP ps ++ t) (hi : ps[i]? = some (x, n)) (ho : wid ps i = off) (h0 : 0 ≤ x) (h1 : x < 256 ^ n) : numAt s off n = x := by
  have hlt : i < ps.length := (List.getElem?_eq_some_iff.1 hi).1
  rw [numAt_def, hs, ← ho, drop_encP ps i t (by omega)]
  have e : ps.drop i = (x, n) :: ps.drop (i + 1) := by
    rw [List.drop_eq_getElem_cons hlt]
    congr 1
    exact (List.getElem?_eq_some_iff.1 hi).2
  have e2 : encP (ps.drop i) = putN x n ++ encP (ps.drop (i + 1)) := by rw [e]; simp [encP]
  rw [e2, List.append_assoc, List.take_append_of_le_length (by rw [putN_length]; exact Nat.le_refl _), List.take_of_length_le (by rw [putN_length]; exact Nat.le_refl _)]
  exact numOf_putN n x h0 h1

def Msg.headP (m : Msg) : List (Int × Nat) := [(m.kind, 1), (m.src, 1), (m.dst, 1), (m.vol, 1), (m.seen.a0, 6), (m.seen.a1, 6), (m.seen.a2, 6), (m.seen.a3, 6), (m.seen.a4, 6), (m.seen.a5, 6), (m.seen.a6, 6), (m.seen.a7, 6)]
def Mk.P (m : Mk) : List (Int × Nat) := [(m.boot, 6), (m.n, 6)]
def Msg.P (m : Msg) : List (Int × Nat) :=
  if m.kind = 1 then m.headP ++ m.base.P ++ m.mark.P ++ [(m.index, 2)]
  else if m.kind = 2 then m.headP ++ m.base.P ++ m.mark.P ++ [(m.index, 2), (m.total, 2), ((m.data.size : Int), 2)]
  else if m.kind = 4 then m.headP ++ m.mark.P
  else m.headP
def Msg.tail (m : Msg) : List UInt8 := if m.kind = 2 then m.data.data.toList else []
theorem encP_append (a b : List (Int × Nat)) : encP (a ++ b) = encP a ++ encP b := by simp [encP]
theorem Msg.encHead (m : Msg) : encP m.headP = m.headBytes := by simp [encP, Msg.headP, Msg.headBytes, V8.bytes, V8.list]
theorem Msg.bytesP (m : Msg) : m.bytes = encP m.P ++ m.tail := by
  unfold Msg.bytes Msg.P Msg.tail
  split
  · rename_i h; simp [encP_append, Msg.encHead, Mk.bytes, Mk.P, h]; simp [encP]
  · split
    · simp [encP_append, Msg.encHead, Mk.bytes, Mk.P]; simp [encP]
    · split
      · simp [encP_append, Msg.encHead, Mk.bytes, Mk.P]; simp [encP]
      · simp [Msg.encHead]
end Go.Proofs.YtbkffeabikjnhaaDoor
