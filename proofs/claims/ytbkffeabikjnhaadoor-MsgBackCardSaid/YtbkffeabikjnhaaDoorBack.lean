/- What is got is put as it was. Plain. -/
import Derived.Test.YtbkffeabikjnhaaDoorGet2
namespace Go.Proofs.YtbkffeabikjnhaaDoor
open Go.RowKit

theorem putN_numOf : ∀ (l : List UInt8), putN (numOf l) l.length = l := by
  have key : ∀ k : List UInt8, putN (numOf k.reverse) k.length = k.reverse := by
    intro k
    induction k with
    | nil => rfl
    | cons c k ih =>
      have hc := c.toNat_lt
      rw [List.reverse_cons, List.length_cons, numOf_snoc, putN_succ]
      congr 1
      · rw [show (numOf k.reverse * 256 + (c.toNat : Int)) / 256 = numOf k.reverse from by omega]
        exact ih
      · congr 1
        apply UInt8.toNat_inj.1
        have := u8_val (numOf k.reverse * 256 + (c.toNat : Int))
        omega
  intro l
  have := key l.reverse
  simpa using this
theorem put_chunk (l : List UInt8) (off n : Nat) (h : off + n ≤ l.length) : putN (numOf ((l.drop off).take n)) n = (l.drop off).take n := by
  have hl : ((l.drop off).take n).length = n := by rw [List.length_take, List.length_drop]; omega
  have := putN_numOf ((l.drop off).take n)
  rw [hl] at this
  exact this
theorem take_chunk (l : List UInt8) (off n : Nat) : l.drop off = (l.drop off).take n ++ l.drop (off + n) := by
  rw [← List.drop_drop, List.take_append_drop]
theorem num_bytes {n : Nat} {s s' : ByteArray} {x : Int} (h : num? n s = some (x, s')) : s.data.toList = putN x n ++ s'.data.toList := by
  unfold num? at h
  split at h
  · rename_i hn
    simp only [Option.some.injEq, Prod.mk.injEq] at h
    obtain ⟨rfl, rfl⟩ := h
    have hl : s.data.toList.length = s.size := by rw [Array.length_toList]; rfl
    have := put_chunk s.data.toList 0 n (by omega)
    rw [List.drop_zero] at this
    rw [this, eat_list, List.take_append_drop]
  · cases h
theorem numAt_chunk {s : ByteArray} {off n : Nat} (h : off + n ≤ s.size) : s.data.toList.drop off = putN (numAt s off n) n ++ s.data.toList.drop (off + n) := by
  have hl : s.data.toList.length = s.size := by rw [Array.length_toList]; rfl
  unfold numAt
  rw [put_chunk _ _ _ (by omega)]
  exact take_chunk _ _ _
theorem mark_bytes {s s' : ByteArray} {x : Mk} (h : mark? s = some (x, s')) : s.data.toList = x.bytes ++ s'.data.toList := by
  unfold mark? at h
  split at h
  · rename_i hn
    simp only [Option.some.injEq, Prod.mk.injEq] at h
    obtain ⟨rfl, rfl⟩ := h
    have h1 := numAt_chunk (s := s) (off := 0) (n := 6) (by omega)
    have h2 := numAt_chunk (s := s) (off := 6) (n := 6) (by omega)
    rw [List.drop_zero] at h1
    rw [Nat.zero_add] at h1
    rw [h1, h2, eat_list]
    simp [Mk.bytes]
  · cases h
theorem vec_bytes {s s' : ByteArray} {x : V8} (h : vec? s = some (x, s')) : s.data.toList = x.bytes ++ s'.data.toList := by
  unfold vec? at h
  split at h
  · rename_i hn
    simp only [Option.some.injEq, Prod.mk.injEq] at h
    obtain ⟨rfl, rfl⟩ := h
    have hs := hn.1
    have h0 := numAt_chunk (s := s) (off := 0) (n := 6) (by omega)
    have h1 := numAt_chunk (s := s) (off := 6) (n := 6) (by omega)
    have h2 := numAt_chunk (s := s) (off := 12) (n := 6) (by omega)
    have h3 := numAt_chunk (s := s) (off := 18) (n := 6) (by omega)
    have h4 := numAt_chunk (s := s) (off := 24) (n := 6) (by omega)
    have h5 := numAt_chunk (s := s) (off := 30) (n := 6) (by omega)
    have h6 := numAt_chunk (s := s) (off := 36) (n := 6) (by omega)
    have h7 := numAt_chunk (s := s) (off := 42) (n := 6) (by omega)
    rw [List.drop_zero] at h0
    simp only [Nat.zero_add, Nat.reduceAdd] at h0 h1 h2 h3 h4 h5 h6 h7
    rw [h0, h1, h2, h3, h4, h5, h6, h7, eat_list]
    simp [V8.bytes, V8.list, seeV]
  · cases h
theorem text_bytes {most : Int} {s s' d : ByteArray} (h : text? most s = some (d, s')) : s.data.toList = putN d.size 2 ++ d.data.toList ++ s'.data.toList := by
  unfold text? at h
  cases hr : num? 2 s with
  | none => rw [hr] at h; cases h
  | some p =>
    obtain ⟨x, t⟩ := p
    have hb := num_bytes hr
    have hx : 0 ≤ x := by
      unfold num? at hr
      split at hr
      · simp only [Option.some.injEq, Prod.mk.injEq] at hr
        rw [← hr.1]; exact (numOf_bound _).1
      · cases hr
    rw [hr, Option.bind_some] at h
    split at h
    · cases h
    · split at h
      · rename_i hle
        simp only at hle
        simp only [Option.some.injEq, Prod.mk.injEq] at h
        obtain ⟨rfl, rfl⟩ := h
        have hsz : (t.extract 0 x.toNat).size = x.toNat := by rw [ByteArray.size_extract]; omega
        rw [hsz, Int.toNat_of_nonneg hx, hb, List.append_assoc]
        congr 1
        rw [eat_list, ByteArray.data_extract]
        simp
      · cases h
theorem getM_bytes {s s' : ByteArray} {m : Msg} (h : getM s = some (m, s')) : s.data.toList = m.bytes ++ s'.data.toList := by
  unfold getM at h
  simp only [Option.bind_eq_some_iff] at h
  obtain ⟨⟨k, t1⟩, h1, ⟨a, t2⟩, h2, ⟨b, t3⟩, h3, ⟨v, t4⟩, h4, ⟨n, t5⟩, h5, h⟩ := h
  simp only at h2 h3 h4 h5 h
  rw [num_bytes h1, num_bytes h2, num_bytes h3, num_bytes h4, vec_bytes h5]
  split at h
  · rename_i k1
    simp only [Option.bind_eq_some_iff] at h
    obtain ⟨⟨x, t6⟩, h6, ⟨y, t7⟩, h7, ⟨i, t8⟩, h8, h⟩ := h
    simp only [Option.some.injEq, Prod.mk.injEq] at h6 h7 h8 h
    obtain ⟨rfl, rfl⟩ := h
    rw [mark_bytes h6, mark_bytes h7, num_bytes h8]
    simp [Msg.bytes, k1, Msg.headBytes]
  · rename_i k1
    split at h
    · rename_i k2
      simp only [Option.bind_eq_some_iff] at h
      obtain ⟨⟨x, t6⟩, h6, ⟨y, t7⟩, h7, ⟨i, t8⟩, h8, ⟨t, t9⟩, h9, ⟨d, t10⟩, h10, h⟩ := h
      simp only [Option.some.injEq, Prod.mk.injEq] at h6 h7 h8 h9 h10 h
      obtain ⟨rfl, rfl⟩ := h
      rw [mark_bytes h6, mark_bytes h7, num_bytes h8, num_bytes h9, text_bytes h10]
      simp [Msg.bytes, k2, Msg.headBytes]
    · rename_i k2
      split at h
      · rename_i k4
        simp only [Option.bind_eq_some_iff] at h
        obtain ⟨⟨y, t6⟩, h6, h⟩ := h
        simp only [Option.some.injEq, Prod.mk.injEq] at h6 h
        obtain ⟨rfl, rfl⟩ := h
        rw [mark_bytes h6]
        simp [Msg.bytes, k4, Msg.headBytes]
      · rename_i k4
        simp only [Option.some.injEq, Prod.mk.injEq] at h
        obtain ⟨rfl, rfl⟩ := h
        simp [Msg.bytes, k1, k2, k4, Msg.headBytes]
theorem gotM_put {s : ByteArray} {k : Msg} (h : gotM s = some k) : k.ok = true ∧ k.putB = s := by
  unfold gotM at h
  split at h
  · rename_i ho
    simp only [Option.bind_eq_some_iff] at h
    obtain ⟨⟨m, r⟩, hg, h⟩ := h
    simp only at h
    split at h
    · rename_i hr
      simp only [Option.some.injEq] at h
      subst h
      refine ⟨hr.2, ?_⟩
      have hb := getM_bytes hg
      rw [hr.1] at hb
      simp only [List.append_nil, Array.toList_empty] at hb
      unfold openOk at ho
      simp only [Bool.and_eq_true, decide_eq_true_eq] at ho
      apply ba_ext
      rw [Msg.putB, if_pos hr.2, ← ho.2, hb]
    · cases h
  · cases h
theorem msg_Get (s : ByteArray) (w : World) (hs : s.size ≤ 10000000000) :
    Calls Tryd.prog 27 #[.string s] w fun e w' => ((∃ m, gotM s = some m ∧ e = .returned (.tuple #[m.val, .int .i64 0])) ∨ (gotM s = none ∧ e = .returned (.tuple #[exZ.val, .int .i64 201]))) ∧ Below w.heap.size w w' := by
  cases ho : openOk s
  · refine (msg_GetNo s w hs ho).mono fun e w' ⟨h1, h2⟩ => ⟨.inr ⟨by unfold gotM; simp [ho], h1⟩, h2⟩
  · have h8 : 8 ≤ s.size := by unfold openOk at ho; simp only [Bool.and_eq_true, decide_eq_true_eq] at ho; exact ho.1
    have hO := fun w => crc_open s w hs
    rw [ho, if_pos h8] at hO
    have hcs : (openCut s).size ≤ 10000000000 := by unfold openCut; rw [ByteArray.size_extract]; omega
    refine (get_walk s (openCut s) w hcs hO).mono fun e w' ⟨h1, h2⟩ => ⟨?_, h2⟩
    rcases h1 with ⟨m, hg, hok, he⟩ | ⟨hno, he⟩
    · exact .inl ⟨m, by unfold gotM; rw [if_pos ho, hg, Option.bind_some, if_pos ⟨rfl, hok⟩], he⟩
    · refine .inr ⟨?_, he⟩
      unfold gotM
      rw [if_pos ho]
      cases hg : getM (openCut s) with
      | none => rfl
      | some p =>
        obtain ⟨m, r⟩ := p
        rw [Option.bind_some]
        refine if_neg fun hc => ?_
        have e1 : r = ⟨#[]⟩ := hc.1
        subst e1
        have := hno m hg
        rw [this] at hc
        exact absurd hc.2 (by simp)
end Go.Proofs.YtbkffeabikjnhaaDoor
