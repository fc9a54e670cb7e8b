/- What Put wrote, looked at: the message. -/
import Derived.Test.YtbkffeabikjnhaaDoorWire
namespace Go.Proofs.YtbkffeabikjnhaaDoor
open Go.RowKit

theorem okN_bound {n : Int} (h : V8.okN n = true) : 0 ≤ n ∧ n < 256 ^ 6 := by
  simp [V8.okN] at h
  have : (256 : Int) ^ 6 = 281474976710656 := by decide
  omega
theorem Mk.ok_bound (m : Mk) (h : m.ok = true) : (0 ≤ m.boot ∧ m.boot < 256 ^ 6) ∧ (0 ≤ m.n ∧ m.n < 256 ^ 6) := by
  have e : (256 : Int) ^ 6 = 281474976710656 := by decide
  unfold Mk.ok at h
  split at h
  · simp at h; omega
  · simp at h; omega
/-- What a message that may be has. -/
structure Msg.Fits (m : Msg) : Prop where
  kind : 1 ≤ m.kind ∧ m.kind ≤ 4
  src : 0 ≤ m.src ∧ m.src < 8
  dst : 0 ≤ m.dst ∧ m.dst < 8
  vol : 0 ≤ m.vol ∧ m.vol < 3
  seen : m.seen.good = true
  base : m.base.ok = true
  mark : m.mark.ok = true
  bare : m = m.bare
  index : m.kind = 1 ∨ m.kind = 2 → 0 ≤ m.index ∧ m.index < 65536
  total : m.kind = 2 → 0 ≤ m.total ∧ m.total < 65536
  data : m.kind = 2 → m.data.size ≤ 512
theorem Msg.fits (m : Msg) (h : m.ok = true) : m.Fits := by
  have h1 : m.head = true := by simp [Msg.ok] at h; exact h.1
  have h2 : m.mid = true := by simp [Msg.ok] at h; exact h.2.1
  have h3 : m.kindOk = true := by simp [Msg.ok] at h; exact h.2.2
  simp [Msg.head] at h1
  simp [Msg.mid] at h2
  obtain ⟨g1, g2, g3, g4⟩ := h2
  refine ⟨by omega, by omega, by omega, by omega, g1, g2, g3, g4, ?_, ?_, ?_⟩
  · rintro (hk | hk)
    · simp [Msg.kindOk, hk] at h3; omega
    · simp [Msg.kindOk, hk] at h3; omega
  · intro hk; simp [Msg.kindOk, hk] at h3; omega
  · intro hk; simp [Msg.kindOk, hk] at h3; omega
theorem V8.good_at (v : V8) (h : v.good = true) : V8.okN v.a0 = true ∧ V8.okN v.a1 = true ∧ V8.okN v.a2 = true ∧ V8.okN v.a3 = true ∧ V8.okN v.a4 = true ∧ V8.okN v.a5 = true ∧ V8.okN v.a6 = true ∧ V8.okN v.a7 = true := by
  simpa [V8.good, V8.list] using h
theorem Msg.len2 (m : Msg) (hk : m.kind = 2) : m.bytes.length = 82 + m.data.size := by
  have hd : m.data.data.toList.length = m.data.size := by rw [Array.length_toList]; rfl
  simp only [Msg.bytes, hk, List.length_append, putN_length, Msg.headBytes_length, Mk.bytes, hd, if_neg (show ¬ (2 : Int) = 1 by decide), if_true]
attribute [local irreducible] numAt eat
set_option maxHeartbeats 2000000 in
theorem msgBody1 (m : Msg) (f : m.Fits) (hk : m.kind = 1) (gm : Nat) (s : ByteArray) (hsb : s.data.toList = m.bytes) : Body m s gm := by
  have hP : m.P = [(m.kind, 1), (m.src, 1), (m.dst, 1), (m.vol, 1), (m.seen.a0, 6), (m.seen.a1, 6), (m.seen.a2, 6), (m.seen.a3, 6), (m.seen.a4, 6), (m.seen.a5, 6), (m.seen.a6, 6), (m.seen.a7, 6), (m.base.boot, 6), (m.base.n, 6), (m.mark.boot, 6), (m.mark.n, 6), (m.index, 2)] := by simp [Msg.P, hk, Msg.headP, Mk.P]
  rw [m.bytesP] at hsb
  have hsz : s.size = m.bytes.length := by rw [m.bytesP, ← hsb, Array.length_toList]; rfl
  have p6 : (256 : Int) ^ 6 = 281474976710656 := by decide
  have p2 : (256 : Int) ^ 2 = 65536 := by decide
  have p1 : (256 : Int) ^ 1 = 256 := by decide
  obtain ⟨q0, q1, q2, q3, q4, q5, q6, q7⟩ := m.seen.good_at f.seen
  have e0 : numAt s 0 1 = m.kind := num_enc m.P 0 m.kind 1 0 m.tail s hsb (by rw [hP]; rfl) (by rw [hP]; simp [wid]) (by have := f.kind; omega) (by rw [p1]; have := f.kind; omega)
  have e1 : numAt s 1 1 = m.src := num_enc m.P 1 m.src 1 1 m.tail s hsb (by rw [hP]; rfl) (by rw [hP]; simp [wid]) (by have := f.src; omega) (by rw [p1]; have := f.src; omega)
  have e2 : numAt s 2 1 = m.dst := num_enc m.P 2 m.dst 1 2 m.tail s hsb (by rw [hP]; rfl) (by rw [hP]; simp [wid]) (by have := f.dst; omega) (by rw [p1]; have := f.dst; omega)
  have e3 : numAt s 3 1 = m.vol := num_enc m.P 3 m.vol 1 3 m.tail s hsb (by rw [hP]; rfl) (by rw [hP]; simp [wid]) (by have := f.vol; omega) (by rw [p1]; have := f.vol; omega)
  have e4 : numAt s 4 6 = m.seen.a0 := num_enc m.P 4 m.seen.a0 6 4 m.tail s hsb (by rw [hP]; rfl) (by rw [hP]; simp [wid]) (okN_bound q0).1 (okN_bound q0).2
  have e5 : numAt s 10 6 = m.seen.a1 := num_enc m.P 5 m.seen.a1 6 10 m.tail s hsb (by rw [hP]; rfl) (by rw [hP]; simp [wid]) (okN_bound q1).1 (okN_bound q1).2
  have e6 : numAt s 16 6 = m.seen.a2 := num_enc m.P 6 m.seen.a2 6 16 m.tail s hsb (by rw [hP]; rfl) (by rw [hP]; simp [wid]) (okN_bound q2).1 (okN_bound q2).2
  have e7 : numAt s 22 6 = m.seen.a3 := num_enc m.P 7 m.seen.a3 6 22 m.tail s hsb (by rw [hP]; rfl) (by rw [hP]; simp [wid]) (okN_bound q3).1 (okN_bound q3).2
  have e8 : numAt s 28 6 = m.seen.a4 := num_enc m.P 8 m.seen.a4 6 28 m.tail s hsb (by rw [hP]; rfl) (by rw [hP]; simp [wid]) (okN_bound q4).1 (okN_bound q4).2
  have e9 : numAt s 34 6 = m.seen.a5 := num_enc m.P 9 m.seen.a5 6 34 m.tail s hsb (by rw [hP]; rfl) (by rw [hP]; simp [wid]) (okN_bound q5).1 (okN_bound q5).2
  have e10 : numAt s 40 6 = m.seen.a6 := num_enc m.P 10 m.seen.a6 6 40 m.tail s hsb (by rw [hP]; rfl) (by rw [hP]; simp [wid]) (okN_bound q6).1 (okN_bound q6).2
  have e11 : numAt s 46 6 = m.seen.a7 := num_enc m.P 11 m.seen.a7 6 46 m.tail s hsb (by rw [hP]; rfl) (by rw [hP]; simp [wid]) (okN_bound q7).1 (okN_bound q7).2
  have e12 : numAt s 52 6 = m.base.boot := num_enc m.P 12 m.base.boot 6 52 m.tail s hsb (by rw [hP]; rfl) (by rw [hP]; simp [wid]) (m.base.ok_bound f.base).1.1 (m.base.ok_bound f.base).1.2
  have e13 : numAt s 58 6 = m.base.n := num_enc m.P 13 m.base.n 6 58 m.tail s hsb (by rw [hP]; rfl) (by rw [hP]; simp [wid]) (m.base.ok_bound f.base).2.1 (m.base.ok_bound f.base).2.2
  have e14 : numAt s 64 6 = m.mark.boot := num_enc m.P 14 m.mark.boot 6 64 m.tail s hsb (by rw [hP]; rfl) (by rw [hP]; simp [wid]) (m.mark.ok_bound f.mark).1.1 (m.mark.ok_bound f.mark).1.2
  have e15 : numAt s 70 6 = m.mark.n := num_enc m.P 15 m.mark.n 6 70 m.tail s hsb (by rw [hP]; rfl) (by rw [hP]; simp [wid]) (m.mark.ok_bound f.mark).2.1 (m.mark.ok_bound f.mark).2.2
  have e16 : numAt s 76 2 = m.index := num_enc m.P 16 m.index 2 76 m.tail s hsb (by rw [hP]; rfl) (by rw [hP]; simp [wid]) (f.index (by omega)).1 (by rw [p2]; exact (f.index (by omega)).2)
  have ev : seeV (eat s 4) = m.seen := by
    unfold seeV
    simp only [numAt_eat, Nat.reduceAdd]
    rw [e4, e5, e6, e7, e8, e9, e10, e11]
  have hlen : m.bytes.length = 78 := by
    rw [m.bytesP, hP]
    simp [encP, putN_length, Msg.tail, hk]
  have hb : m.bare = m := f.bare.symm
  have he : eat s (78) = ⟨#[]⟩ := by
    apply ba_ext
    rw [eat_list, List.drop_of_length_le (by rw [Array.length_toList]; show s.size ≤ _; omega)]
  intro g w he0 hx0 hn
  have hq := body1 g gm s w he0 hx0 hn (by omega) (by omega) (by rw [ev]; exact f.seen) (by rw [e0, hk])
  rw [he, ev, e0, e1, e2, e3, e12, e13, e14, e15, e16] at hq
  have hm : (⟨m.kind, m.src, m.dst, m.vol, ⟨m.base.boot, m.base.n⟩, ⟨m.mark.boot, m.mark.n⟩, m.index, 0, m.seen, ⟨#[]⟩⟩ : Msg) = m := by
    conv => rhs; rw [f.bare]
    simp [Msg.bare, hk]
  rw [hm] at hq
  exact hq
set_option maxHeartbeats 2000000 in
theorem msgBody2 (m : Msg) (f : m.Fits) (hk : m.kind = 2) (gm : Nat) (s : ByteArray) (hsb : s.data.toList = m.bytes) : Body m s gm := by
  have hP : m.P = [(m.kind, 1), (m.src, 1), (m.dst, 1), (m.vol, 1), (m.seen.a0, 6), (m.seen.a1, 6), (m.seen.a2, 6), (m.seen.a3, 6), (m.seen.a4, 6), (m.seen.a5, 6), (m.seen.a6, 6), (m.seen.a7, 6), (m.base.boot, 6), (m.base.n, 6), (m.mark.boot, 6), (m.mark.n, 6), (m.index, 2), (m.total, 2), ((m.data.size : Int), 2)] := by simp [Msg.P, hk, Msg.headP, Mk.P]
  rw [m.bytesP] at hsb
  have hsz : s.size = m.bytes.length := by rw [m.bytesP, ← hsb, Array.length_toList]; rfl
  have p6 : (256 : Int) ^ 6 = 281474976710656 := by decide
  have p2 : (256 : Int) ^ 2 = 65536 := by decide
  have p1 : (256 : Int) ^ 1 = 256 := by decide
  obtain ⟨q0, q1, q2, q3, q4, q5, q6, q7⟩ := m.seen.good_at f.seen
  have e0 : numAt s 0 1 = m.kind := num_enc m.P 0 m.kind 1 0 m.tail s hsb (by rw [hP]; rfl) (by rw [hP]; simp [wid]) (by have := f.kind; omega) (by rw [p1]; have := f.kind; omega)
  have e1 : numAt s 1 1 = m.src := num_enc m.P 1 m.src 1 1 m.tail s hsb (by rw [hP]; rfl) (by rw [hP]; simp [wid]) (by have := f.src; omega) (by rw [p1]; have := f.src; omega)
  have e2 : numAt s 2 1 = m.dst := num_enc m.P 2 m.dst 1 2 m.tail s hsb (by rw [hP]; rfl) (by rw [hP]; simp [wid]) (by have := f.dst; omega) (by rw [p1]; have := f.dst; omega)
  have e3 : numAt s 3 1 = m.vol := num_enc m.P 3 m.vol 1 3 m.tail s hsb (by rw [hP]; rfl) (by rw [hP]; simp [wid]) (by have := f.vol; omega) (by rw [p1]; have := f.vol; omega)
  have e4 : numAt s 4 6 = m.seen.a0 := num_enc m.P 4 m.seen.a0 6 4 m.tail s hsb (by rw [hP]; rfl) (by rw [hP]; simp [wid]) (okN_bound q0).1 (okN_bound q0).2
  have e5 : numAt s 10 6 = m.seen.a1 := num_enc m.P 5 m.seen.a1 6 10 m.tail s hsb (by rw [hP]; rfl) (by rw [hP]; simp [wid]) (okN_bound q1).1 (okN_bound q1).2
  have e6 : numAt s 16 6 = m.seen.a2 := num_enc m.P 6 m.seen.a2 6 16 m.tail s hsb (by rw [hP]; rfl) (by rw [hP]; simp [wid]) (okN_bound q2).1 (okN_bound q2).2
  have e7 : numAt s 22 6 = m.seen.a3 := num_enc m.P 7 m.seen.a3 6 22 m.tail s hsb (by rw [hP]; rfl) (by rw [hP]; simp [wid]) (okN_bound q3).1 (okN_bound q3).2
  have e8 : numAt s 28 6 = m.seen.a4 := num_enc m.P 8 m.seen.a4 6 28 m.tail s hsb (by rw [hP]; rfl) (by rw [hP]; simp [wid]) (okN_bound q4).1 (okN_bound q4).2
  have e9 : numAt s 34 6 = m.seen.a5 := num_enc m.P 9 m.seen.a5 6 34 m.tail s hsb (by rw [hP]; rfl) (by rw [hP]; simp [wid]) (okN_bound q5).1 (okN_bound q5).2
  have e10 : numAt s 40 6 = m.seen.a6 := num_enc m.P 10 m.seen.a6 6 40 m.tail s hsb (by rw [hP]; rfl) (by rw [hP]; simp [wid]) (okN_bound q6).1 (okN_bound q6).2
  have e11 : numAt s 46 6 = m.seen.a7 := num_enc m.P 11 m.seen.a7 6 46 m.tail s hsb (by rw [hP]; rfl) (by rw [hP]; simp [wid]) (okN_bound q7).1 (okN_bound q7).2
  have e12 : numAt s 52 6 = m.base.boot := num_enc m.P 12 m.base.boot 6 52 m.tail s hsb (by rw [hP]; rfl) (by rw [hP]; simp [wid]) (m.base.ok_bound f.base).1.1 (m.base.ok_bound f.base).1.2
  have e13 : numAt s 58 6 = m.base.n := num_enc m.P 13 m.base.n 6 58 m.tail s hsb (by rw [hP]; rfl) (by rw [hP]; simp [wid]) (m.base.ok_bound f.base).2.1 (m.base.ok_bound f.base).2.2
  have e14 : numAt s 64 6 = m.mark.boot := num_enc m.P 14 m.mark.boot 6 64 m.tail s hsb (by rw [hP]; rfl) (by rw [hP]; simp [wid]) (m.mark.ok_bound f.mark).1.1 (m.mark.ok_bound f.mark).1.2
  have e15 : numAt s 70 6 = m.mark.n := num_enc m.P 15 m.mark.n 6 70 m.tail s hsb (by rw [hP]; rfl) (by rw [hP]; simp [wid]) (m.mark.ok_bound f.mark).2.1 (m.mark.ok_bound f.mark).2.2
  have e16 : numAt s 76 2 = m.index := num_enc m.P 16 m.index 2 76 m.tail s hsb (by rw [hP]; rfl) (by rw [hP]; simp [wid]) (f.index (by omega)).1 (by rw [p2]; exact (f.index (by omega)).2)
  have e17 : numAt s 78 2 = m.total := num_enc m.P 17 m.total 2 78 m.tail s hsb (by rw [hP]; rfl) (by rw [hP]; simp [wid]) (f.total hk).1 (by rw [p2]; exact (f.total hk).2)
  have e18 : numAt s 80 2 = (m.data.size : Int) := num_enc m.P 18 (m.data.size : Int) 2 80 m.tail s hsb (by rw [hP]; rfl) (by rw [hP]; simp [wid]) (by omega) (by rw [p2]; have := f.data hk; omega)
  have ev : seeV (eat s 4) = m.seen := by
    unfold seeV
    simp only [numAt_eat, Nat.reduceAdd]
    rw [e4, e5, e6, e7, e8, e9, e10, e11]
  have hlen := m.len2 hk
  have hb : m.bare = m := f.bare.symm
  have he : eat s (82 + m.data.size) = ⟨#[]⟩ := by
    apply ba_ext
    rw [eat_list, List.drop_of_length_le (by rw [Array.length_toList]; show s.size ≤ _; omega)]
  intro g w he0 hx0 hn
  have hd := f.data hk
  have hq := body2 g gm s w he0 hx0 hn m.data.size e18 hd (by omega) (by omega) (by rw [ev]; exact f.seen) (by rw [e0, hk])
  have hx : (eat s 82).extract 0 m.data.size = m.data := by
    apply ba_ext
    have h1 : (eat s 82).data.toList = m.data.data.toList := by
      rw [eat_list, hsb, ← show wid m.P 19 = 82 from by rw [hP]; simp [wid], drop_encP m.P 19 m.tail (by rw [hP]; simp), hP]
      simp [encP, Msg.tail, hk]
    have h2 : (eat s 82).data = m.data.data := Array.ext' h1
    rw [ByteArray.data_extract, h2]
    show (m.data.data.extract 0 m.data.data.size).toList = _
    simp
    exact List.take_of_length_le (by rw [Array.length_toList]; exact Nat.le_refl _)
  rw [hx] at hq
  rw [he, ev, e0, e1, e2, e3, e12, e13, e14, e15, e16, e17] at hq
  have hm : (⟨m.kind, m.src, m.dst, m.vol, ⟨m.base.boot, m.base.n⟩, ⟨m.mark.boot, m.mark.n⟩, m.index, m.total, m.seen, m.data⟩ : Msg) = m := rfl
  rw [hm] at hq
  exact hq
set_option maxHeartbeats 2000000 in
theorem msgBody4 (m : Msg) (f : m.Fits) (hk : m.kind = 4) (gm : Nat) (s : ByteArray) (hsb : s.data.toList = m.bytes) : Body m s gm := by
  have hP : m.P = [(m.kind, 1), (m.src, 1), (m.dst, 1), (m.vol, 1), (m.seen.a0, 6), (m.seen.a1, 6), (m.seen.a2, 6), (m.seen.a3, 6), (m.seen.a4, 6), (m.seen.a5, 6), (m.seen.a6, 6), (m.seen.a7, 6), (m.mark.boot, 6), (m.mark.n, 6)] := by simp [Msg.P, hk, Msg.headP, Mk.P]
  rw [m.bytesP] at hsb
  have hsz : s.size = m.bytes.length := by rw [m.bytesP, ← hsb, Array.length_toList]; rfl
  have p6 : (256 : Int) ^ 6 = 281474976710656 := by decide
  have p2 : (256 : Int) ^ 2 = 65536 := by decide
  have p1 : (256 : Int) ^ 1 = 256 := by decide
  obtain ⟨q0, q1, q2, q3, q4, q5, q6, q7⟩ := m.seen.good_at f.seen
  have e0 : numAt s 0 1 = m.kind := num_enc m.P 0 m.kind 1 0 m.tail s hsb (by rw [hP]; rfl) (by rw [hP]; simp [wid]) (by have := f.kind; omega) (by rw [p1]; have := f.kind; omega)
  have e1 : numAt s 1 1 = m.src := num_enc m.P 1 m.src 1 1 m.tail s hsb (by rw [hP]; rfl) (by rw [hP]; simp [wid]) (by have := f.src; omega) (by rw [p1]; have := f.src; omega)
  have e2 : numAt s 2 1 = m.dst := num_enc m.P 2 m.dst 1 2 m.tail s hsb (by rw [hP]; rfl) (by rw [hP]; simp [wid]) (by have := f.dst; omega) (by rw [p1]; have := f.dst; omega)
  have e3 : numAt s 3 1 = m.vol := num_enc m.P 3 m.vol 1 3 m.tail s hsb (by rw [hP]; rfl) (by rw [hP]; simp [wid]) (by have := f.vol; omega) (by rw [p1]; have := f.vol; omega)
  have e4 : numAt s 4 6 = m.seen.a0 := num_enc m.P 4 m.seen.a0 6 4 m.tail s hsb (by rw [hP]; rfl) (by rw [hP]; simp [wid]) (okN_bound q0).1 (okN_bound q0).2
  have e5 : numAt s 10 6 = m.seen.a1 := num_enc m.P 5 m.seen.a1 6 10 m.tail s hsb (by rw [hP]; rfl) (by rw [hP]; simp [wid]) (okN_bound q1).1 (okN_bound q1).2
  have e6 : numAt s 16 6 = m.seen.a2 := num_enc m.P 6 m.seen.a2 6 16 m.tail s hsb (by rw [hP]; rfl) (by rw [hP]; simp [wid]) (okN_bound q2).1 (okN_bound q2).2
  have e7 : numAt s 22 6 = m.seen.a3 := num_enc m.P 7 m.seen.a3 6 22 m.tail s hsb (by rw [hP]; rfl) (by rw [hP]; simp [wid]) (okN_bound q3).1 (okN_bound q3).2
  have e8 : numAt s 28 6 = m.seen.a4 := num_enc m.P 8 m.seen.a4 6 28 m.tail s hsb (by rw [hP]; rfl) (by rw [hP]; simp [wid]) (okN_bound q4).1 (okN_bound q4).2
  have e9 : numAt s 34 6 = m.seen.a5 := num_enc m.P 9 m.seen.a5 6 34 m.tail s hsb (by rw [hP]; rfl) (by rw [hP]; simp [wid]) (okN_bound q5).1 (okN_bound q5).2
  have e10 : numAt s 40 6 = m.seen.a6 := num_enc m.P 10 m.seen.a6 6 40 m.tail s hsb (by rw [hP]; rfl) (by rw [hP]; simp [wid]) (okN_bound q6).1 (okN_bound q6).2
  have e11 : numAt s 46 6 = m.seen.a7 := num_enc m.P 11 m.seen.a7 6 46 m.tail s hsb (by rw [hP]; rfl) (by rw [hP]; simp [wid]) (okN_bound q7).1 (okN_bound q7).2
  have e12 : numAt s 52 6 = m.mark.boot := num_enc m.P 12 m.mark.boot 6 52 m.tail s hsb (by rw [hP]; rfl) (by rw [hP]; simp [wid]) (m.mark.ok_bound f.mark).1.1 (m.mark.ok_bound f.mark).1.2
  have e13 : numAt s 58 6 = m.mark.n := num_enc m.P 13 m.mark.n 6 58 m.tail s hsb (by rw [hP]; rfl) (by rw [hP]; simp [wid]) (m.mark.ok_bound f.mark).2.1 (m.mark.ok_bound f.mark).2.2
  have ev : seeV (eat s 4) = m.seen := by
    unfold seeV
    simp only [numAt_eat, Nat.reduceAdd]
    rw [e4, e5, e6, e7, e8, e9, e10, e11]
  have hlen : m.bytes.length = 64 := by
    rw [m.bytesP, hP]
    simp [encP, putN_length, Msg.tail, hk]
  have hb : m.bare = m := f.bare.symm
  have he : eat s (64) = ⟨#[]⟩ := by
    apply ba_ext
    rw [eat_list, List.drop_of_length_le (by rw [Array.length_toList]; show s.size ≤ _; omega)]
  intro g w he0 hx0 hn
  have hq := body4 g gm s w he0 hx0 hn (by omega) (by omega) (by rw [ev]; exact f.seen) (by rw [e0, hk])
  rw [he, ev, e0, e1, e2, e3, e12, e13] at hq
  have hm : (⟨m.kind, m.src, m.dst, m.vol, ⟨0, 0⟩, ⟨m.mark.boot, m.mark.n⟩, 0, 0, m.seen, ⟨#[]⟩⟩ : Msg) = m := by
    conv => rhs; rw [f.bare]
    simp [Msg.bare, hk]
  rw [hm] at hq
  exact hq
set_option maxHeartbeats 2000000 in
theorem msgBody3 (m : Msg) (f : m.Fits) (hk : m.kind = 3) (gm : Nat) (s : ByteArray) (hsb : s.data.toList = m.bytes) : Body m s gm := by
  have hP : m.P = [(m.kind, 1), (m.src, 1), (m.dst, 1), (m.vol, 1), (m.seen.a0, 6), (m.seen.a1, 6), (m.seen.a2, 6), (m.seen.a3, 6), (m.seen.a4, 6), (m.seen.a5, 6), (m.seen.a6, 6), (m.seen.a7, 6)] := by simp [Msg.P, hk, Msg.headP]
  rw [m.bytesP] at hsb
  have hsz : s.size = m.bytes.length := by rw [m.bytesP, ← hsb, Array.length_toList]; rfl
  have p6 : (256 : Int) ^ 6 = 281474976710656 := by decide
  have p2 : (256 : Int) ^ 2 = 65536 := by decide
  have p1 : (256 : Int) ^ 1 = 256 := by decide
  obtain ⟨q0, q1, q2, q3, q4, q5, q6, q7⟩ := m.seen.good_at f.seen
  have e0 : numAt s 0 1 = m.kind := num_enc m.P 0 m.kind 1 0 m.tail s hsb (by rw [hP]; rfl) (by rw [hP]; simp [wid]) (by have := f.kind; omega) (by rw [p1]; have := f.kind; omega)
  have e1 : numAt s 1 1 = m.src := num_enc m.P 1 m.src 1 1 m.tail s hsb (by rw [hP]; rfl) (by rw [hP]; simp [wid]) (by have := f.src; omega) (by rw [p1]; have := f.src; omega)
  have e2 : numAt s 2 1 = m.dst := num_enc m.P 2 m.dst 1 2 m.tail s hsb (by rw [hP]; rfl) (by rw [hP]; simp [wid]) (by have := f.dst; omega) (by rw [p1]; have := f.dst; omega)
  have e3 : numAt s 3 1 = m.vol := num_enc m.P 3 m.vol 1 3 m.tail s hsb (by rw [hP]; rfl) (by rw [hP]; simp [wid]) (by have := f.vol; omega) (by rw [p1]; have := f.vol; omega)
  have e4 : numAt s 4 6 = m.seen.a0 := num_enc m.P 4 m.seen.a0 6 4 m.tail s hsb (by rw [hP]; rfl) (by rw [hP]; simp [wid]) (okN_bound q0).1 (okN_bound q0).2
  have e5 : numAt s 10 6 = m.seen.a1 := num_enc m.P 5 m.seen.a1 6 10 m.tail s hsb (by rw [hP]; rfl) (by rw [hP]; simp [wid]) (okN_bound q1).1 (okN_bound q1).2
  have e6 : numAt s 16 6 = m.seen.a2 := num_enc m.P 6 m.seen.a2 6 16 m.tail s hsb (by rw [hP]; rfl) (by rw [hP]; simp [wid]) (okN_bound q2).1 (okN_bound q2).2
  have e7 : numAt s 22 6 = m.seen.a3 := num_enc m.P 7 m.seen.a3 6 22 m.tail s hsb (by rw [hP]; rfl) (by rw [hP]; simp [wid]) (okN_bound q3).1 (okN_bound q3).2
  have e8 : numAt s 28 6 = m.seen.a4 := num_enc m.P 8 m.seen.a4 6 28 m.tail s hsb (by rw [hP]; rfl) (by rw [hP]; simp [wid]) (okN_bound q4).1 (okN_bound q4).2
  have e9 : numAt s 34 6 = m.seen.a5 := num_enc m.P 9 m.seen.a5 6 34 m.tail s hsb (by rw [hP]; rfl) (by rw [hP]; simp [wid]) (okN_bound q5).1 (okN_bound q5).2
  have e10 : numAt s 40 6 = m.seen.a6 := num_enc m.P 10 m.seen.a6 6 40 m.tail s hsb (by rw [hP]; rfl) (by rw [hP]; simp [wid]) (okN_bound q6).1 (okN_bound q6).2
  have e11 : numAt s 46 6 = m.seen.a7 := num_enc m.P 11 m.seen.a7 6 46 m.tail s hsb (by rw [hP]; rfl) (by rw [hP]; simp [wid]) (okN_bound q7).1 (okN_bound q7).2
  have ev : seeV (eat s 4) = m.seen := by
    unfold seeV
    simp only [numAt_eat, Nat.reduceAdd]
    rw [e4, e5, e6, e7, e8, e9, e10, e11]
  have hlen : m.bytes.length = 52 := by
    rw [m.bytesP, hP]
    simp [encP, putN_length, Msg.tail, hk]
  have hb : m.bare = m := f.bare.symm
  have he : eat s (52) = ⟨#[]⟩ := by
    apply ba_ext
    rw [eat_list, List.drop_of_length_le (by rw [Array.length_toList]; show s.size ≤ _; omega)]
  intro g w he0 hx0 hn
  have hq := body3 g gm s w he0 hx0 hn (by omega) (by omega) (by rw [ev]; exact f.seen) (by rw [e0, hk])
  rw [he, ev, e0, e1, e2, e3] at hq
  have hm : (⟨m.kind, m.src, m.dst, m.vol, ⟨0, 0⟩, ⟨0, 0⟩, 0, 0, m.seen, ⟨#[]⟩⟩ : Msg) = m := by
    conv => rhs; rw [f.bare]
    simp [Msg.bare, hk]
  rw [hm] at hq
  exact hq
/-- The closure, on the bytes of any message that may be. -/
theorem msgBody (m : Msg) (h : m.ok = true) (gm : Nat) : Body m ⟨m.bytes.toArray⟩ gm := by
  have f := m.fits h
  have hk := f.kind
  by_cases k1 : m.kind = 1
  · exact msgBody1 m f k1 gm _ rfl
  · by_cases k2 : m.kind = 2
    · exact msgBody2 m f k2 gm _ rfl
    · by_cases k4 : m.kind = 4
      · exact msgBody4 m f k4 gm _ rfl
      · exact msgBody3 m f (by omega) gm _ rfl
end Go.Proofs.YtbkffeabikjnhaaDoor
