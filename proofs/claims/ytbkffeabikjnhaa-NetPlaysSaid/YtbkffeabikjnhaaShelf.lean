/- slices.Clone and slices.Delete at lists of strings: the shelf's contracts, in the words of rows. -/
import Derived.Test.YtbkffeabikjnhaaProg
import Derived.Test.YtbkffeabikjnhaaEv
import Derived.Shelf.SlicesE.Delete
import Derived.Shelf.SlicesE.Clone
namespace Go.Proofs.Ytbkffeabikjnhaa
open Go.RowKit
open Go.Shelf Go.Sort
def sDelete_ren : Go.Shelf.Ren := ⟨fun | 45 => 37 | n => n, fun | 22 => 46 | 23 => 9 | 3 => 3 | 4 => 4 | 0 => 0 | n => n, fun | n => n⟩
theorem sDelete : Go.Proofs.SlLaysE.n45 Try.prog sDelete_ren := {
  mixed := by kernel_rfl
  f45 := ⟨Try.f37.name, by decide, Try.func37.trans (congrArg some (by kernel_rfl))⟩
  t0 := Try.underlying0
  a0 := Try.isAgg0
  z0 := Try.sizeOf0
  v0 := Try.zeroValue0
  t3 := Try.underlying3
  a3 := Try.isAgg3
  z3 := Try.sizeOf3
  v3 := Try.zeroValue3
  t4 := Try.underlying4
  a4 := Try.isAgg4
  z4 := Try.sizeOf4
  v4 := Try.zeroValue4
  t22 := Try.underlying46
  a22 := Try.isAgg46
  z22 := Try.sizeOf46
  v22 := Try.zeroValue46
  a23 := Try.isAgg9
  z23 := Try.sizeOf9 }

def sClone_ren : Go.Shelf.Ren := ⟨fun | 41 => 23 | n => n, fun | 22 => 46 | 23 => 9 | 4 => 4 | n => n, fun | n => n⟩
theorem sClone : Go.Proofs.SlLaysE0.n41 Try.prog sClone_ren := {
  mixed := by kernel_rfl
  f41 := ⟨Try.f23.name, by decide, Try.func23.trans (congrArg some (by kernel_rfl))⟩
  t4 := Try.underlying4
  a4 := Try.isAgg4
  z4 := Try.sizeOf4
  v4 := Try.zeroValue4
  t22 := Try.underlying46
  a22 := Try.isAgg46
  z22 := Try.sizeOf46
  v22 := Try.zeroValue46 }


theorem infoStr : (Try.prog.info? 9).map (fun i => (i.zero, i.size, i.bytes)) = some (some (.string ⟨#[]⟩), 1, 16) := by kernel_rfl
theorem addr0 (g j : Nat) : (⟨g, 0, none⟩ : Addr).add j = ⟨g, j, none⟩ := by unfold Addr.add; split <;> simp_all
theorem encS_all (xs : List ByteArray) : encS.all xs = xs.map Value.string := by
  induction xs with
  | nil => rfl
  | cons x xs ih => simp [Enc.all, encS] at ih ⊢; exact ih
theorem strs_clone (w : World) (base : Nat) (v : Value) (xs : List ByteArray) (h : encS.O w base 9 v xs) (hn : xs.length ≤ 1000000000) :
    Calls Try.prog 23 #[v] w fun e w' => ∃ v', e = .returned v' ∧ encS.O w' w.heap.size 9 v' xs ∧ Below w.heap.size w w' := by
  obtain ⟨i, hi, hz, hs, hb⟩ := info_parts infoStr
  unfold Enc.O at h
  rcases h.2 with ⟨rfl, h0⟩ | ⟨g, cap, cur, rfl, hbg, hg, h1, h2, h3, h4⟩
  · have hx : xs = [] := List.eq_nil_of_length_eq_zero h0
    subst hx
    refine (AnyE.slices_Clone_nil sClone 0 0 w).mono ?_
    rintro e w' ⟨rfl, rfl⟩
    exact ⟨_, rfl, Enc.O.none _ _ _, Below.refl _ _⟩
  · have hc := h.cells (g := g) rfl
    refine (AnyE.slices_Clone sClone i _ 1 16 hi hz hs hb (by simp [Value.cells]) (by decide) Try.sizeOf9 g 0 xs.length cap (encS.all xs) w (encS.all_length xs) (by simp only [maxLen]; omega) (by omega) ?_ (encS.all_one xs)).mono ?_
    · intro j u hu
      have := hc j u hu
      rw [addr0] at this
      rw [Nat.zero_add]
      exact this
    · rintro e w' ⟨v', rfl, ho, -, hb⟩
      exact ⟨v', rfl, ho, hb⟩
theorem strs_delete (w : World) (base : Nat) (v : Value) (xs : List ByteArray) (i : Nat) (h : encS.O w base 9 v xs) (hi : i < xs.length) :
    Calls Try.prog 37 #[v, .int .i64 i, .int .i64 ((i : Int) + 1)] w fun e w' => ∃ v', e = .returned v' ∧ encS.O w' base 9 v' (xs.take i ++ xs.drop (i + 1)) ∧ w.grownBy w' v.ownBlock ∧ v'.ownBlock = v.ownBlock := by
  obtain ⟨inf, hinf, hz, hs, hb⟩ := info_parts infoStr
  unfold Enc.O at h
  rcases h.2 with ⟨rfl, h0⟩ | ⟨g, cap, cur, rfl, hbg, hg, h1, h2, h3, h4⟩
  · omega
  · have hc := h.cells (g := g) rfl
    rw [encS_all] at hc h4
    have hH : Holds Value.string w g 0 xs.toArray := by
      intro j hj
      have hj' : j < xs.length := by simpa using hj
      have := hc j (.string xs[j]) (by simp [hj'])
      rw [addr0] at this
      rw [Nat.zero_add]
      refine ⟨?_, ?_⟩
      · rw [this]; simp [hj']
      · exact Box.frozen (cs := cur) (t := 9) hg j
    have hq := AnyE.slices_Delete sDelete Value.string (fun _ => rfl) ⟨#[]⟩ Try.zeroValue9 inf hinf hs g 0 cap i (i + 1) xs.toArray w hH (by simpa using h1) (by simp only [maxLen] at h2; omega) (by omega) (by simp; omega)
    simp only [List.size_toArray] at hq
    refine hq.mono ?_
    rintro e w' ⟨rfl, q, rfl⟩
    have hl : (xs.take i ++ xs.drop (i + 1)).length = xs.length - 1 := by simp; omega
    have hnn : xs.length - (i + 1 - i) = xs.length - 1 := by omega
    rw [hnn]
    have hheap : ∀ k, (putRow Value.string (Sort.ahead w q) g 0 (xs.take i ++ xs.drop (i + 1) ++ List.replicate (i + 1 - i) (⟨#[]⟩ : ByteArray)).toArray).heap[k]? = if g = k then some (.cells (putCells Value.string 0 (xs.take i ++ xs.drop (i + 1) ++ List.replicate (i + 1 - i) (⟨#[]⟩ : ByteArray)).toArray cur) 9 (0, 0)) else w.heap[k]? := by
      intro k
      show (w.heap.modify g _)[k]? = _
      rw [Array.getElem?_modify]
      by_cases hk : g = k
      · subst hk
        simp [hg, onCells]
      · simp [hk]
    refine ⟨.slice (some ⟨g, 0, none⟩) (xs.length - 1) cap, rfl, ⟨?_, .inr ⟨g, cap, _, by rw [hl], hbg, (hheap g).trans (if_pos rfl), by omega, h2, ?_, ?_⟩⟩, ⟨rfl, rfl, rfl, ?_, fun k _ hk => ?_⟩, rfl⟩
    · rw [encS.all_length]
    · simp [putCells, h3]
    · rw [encS_all, hl]
      apply List.ext_getElem?
      intro k
      have hcs : cur.size = cap := by simpa [encS] using h3
      by_cases hk : k < xs.length - 1
      · have hkc : k < cur.toList.length := by simp; omega
        have hkl : k < (xs.take i ++ xs.drop (i + 1)).length := by omega
        have hkd : k < (xs.take i ++ xs.drop (i + 1) ++ List.replicate (i + 1 - i) (⟨#[]⟩ : ByteArray)).length := by rw [List.length_append]; omega
        have hr : 0 ≤ k ∧ k < 0 + (xs.take i ++ xs.drop (i + 1) ++ List.replicate (i + 1 - i) (⟨#[]⟩ : ByteArray)).toArray.size := by rw [List.size_toArray]; omega
        have hd : (xs.take i ++ xs.drop (i + 1) ++ List.replicate (i + 1 - i) (⟨#[]⟩ : ByteArray)).toArray[k - 0]! = (xs.take i ++ xs.drop (i + 1))[k] := by
          rw [Nat.sub_zero, getElem!_pos _ k (by rw [List.size_toArray]; exact hkd), List.getElem_toArray, List.getElem_append_left hkl]
        simp only [encS, Nat.mul_one, List.getElem?_take, hk, if_true, putCells, Array.toList_mapIdx, List.getElem?_mapIdx]
        rw [List.getElem?_eq_getElem hkc, Option.map_some, if_pos hr, hd, List.getElem?_map, List.getElem?_eq_getElem hkl, Option.map_some]
      · rw [List.getElem?_eq_none (by simp [encS]; omega), List.getElem?_eq_none (by simp; omega)]
    · show w.heap.size ≤ (w.heap.modify g _).size
      simp
    · rw [hheap, if_neg (fun e => hk (by simp [Value.ownBlock, e]))]
end Go.Proofs.Ytbkffeabikjnhaa
