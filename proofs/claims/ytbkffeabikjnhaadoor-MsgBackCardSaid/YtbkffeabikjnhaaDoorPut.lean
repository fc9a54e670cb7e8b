/- Messages: Put. -/
import Derived.Test.YtbkffeabikjnhaaDoorChk2
import Derived.Test.YtbkffeabikjnhaaDoorSeal
namespace Go.Proofs.YtbkffeabikjnhaaDoor
open Go.RowKit

def Msg.code (m : Msg) : Int := if m.ok = true then 0 else 201
def Msg.headBytes (m : Msg) : List UInt8 := putN m.kind 1 ++ putN m.src 1 ++ putN m.dst 1 ++ putN m.vol 1 ++ m.seen.bytes
def Mk.bytes (m : Mk) : List UInt8 := putN m.boot 6 ++ putN m.n 6
def Msg.bytes (m : Msg) : List UInt8 :=
  if m.kind = 1 then m.headBytes ++ m.base.bytes ++ m.mark.bytes ++ putN m.index 2
  else if m.kind = 2 then m.headBytes ++ m.base.bytes ++ m.mark.bytes ++ putN m.index 2 ++ putN m.total 2 ++ putN m.data.size 2 ++ m.data.data.toList
  else if m.kind = 4 then m.headBytes ++ m.mark.bytes
  else m.headBytes

theorem V8.bytes_length (v : V8) : v.bytes.length = 48 := by simp [V8.bytes, V8.list, putN_length]
theorem Msg.headBytes_length (m : Msg) : m.headBytes.length = 52 := by simp [Msg.headBytes, putN_length, V8.bytes_length]

theorem Msg.bytes_le (m : Msg) (h : m.kind = 2 → m.data.size ≤ 512) : m.bytes.length ≤ 1000 := by
  have hd : m.data.data.toList.length = m.data.size := by rw [Array.length_toList]; rfl
  unfold Msg.bytes
  split
  · simp only [List.length_append, putN_length, Msg.headBytes_length, Mk.bytes]; omega
  · split
    · rename_i h2
      have := h h2
      simp only [List.length_append, putN_length, Msg.headBytes_length, Mk.bytes, hd]; omega
    · split
      · simp only [List.length_append, putN_length, Msg.headBytes_length, Mk.bytes]; omega
      · rw [Msg.headBytes_length]; omega
theorem msg_check (m : Msg) (w : World) :
    Calls Tryd.prog 17 #[m.val] w fun e w' => e = .returned (.int .i64 m.code) ∧ Below w.heap.size w w' := by
  have no : m.ok = false → m.code = 201 := fun h => by simp [Msg.code, h]
  cases h : m.head
  · rw [no (by simp [Msg.ok, h])]; exact check_headless m w h
  · cases h1 : m.seen.good
    · rw [no (by simp [Msg.ok, Msg.mid, h1])]; exact check_mid1 m w h h1
    · cases h2 : m.base.ok
      · rw [no (by simp [Msg.ok, Msg.mid, h2])]; exact check_mid2 m w h h1 h2
      · cases h3 : m.mark.ok
        · rw [no (by simp [Msg.ok, Msg.mid, h3])]; exact check_mid3 m w h h1 h2 h3
        · cases h4 : decide (m = m.bare)
          · rw [no (by simp only [Msg.ok, Msg.mid, h4, Bool.and_false, Bool.false_and])]; exact check_mid4 m w h h1 h2 h3 h4
          · have e : m.code = m.kcode := by simp only [Msg.code, Msg.ok, Msg.mid, Msg.kcode, h, h1, h2, h3, h4, Bool.true_and]
            rw [e]
            have hk : 1 ≤ m.kind ∧ m.kind ≤ 4 := by simp [Msg.head] at h; omega
            by_cases k1 : m.kind = 1
            · exact check_kind1 m w h h1 h2 h3 h4 k1 _ rfl
            · by_cases k2 : m.kind = 2
              · exact check_kind2 m w h h1 h2 h3 h4 k2 _ rfl
              · by_cases k4 : m.kind = 4
                · exact check_kind4 m w h h1 h2 h3 h4 k4 _ rfl
                · exact check_kind3 m w h h1 h2 h3 h4 (by omega) _ rfl

theorem nil_read (w : World) : encB.R w (.slice none 0 0) [] := Enc.R.none w

theorem msg_put1 (m : Msg) (w : World) (hok : m.ok = true) (hk : m.kind = 1) :
    Calls Tryd.prog 25 #[m.val] w fun e w' => e = .returned (.tuple #[.string ⟨(sealed m.bytes).toArray⟩, .int .i64 0]) ∧ Below w.heap.size w w' := by
  have HC : Hid (m.code = 0) := Lib.hid (by simp [Msg.code, hok])
  have HB : Hid (m.bytes = m.headBytes ++ putN m.base.boot 6 ++ putN m.base.n 6 ++ putN m.mark.boot 6 ++ putN m.mark.n 6 ++ putN m.index 2) := Lib.hid (by simp [Msg.bytes, hk, Mk.bytes])
  have HL : Hid (m.bytes.length ≤ 1000) := Lib.hid (m.bytes_le (by intro h; first | omega | (rw [hk] at h; cases h)))
  have b1 : (m.kind == 1) = true := by simp [hk]
  clear hok hk
  go_enter Tryd.func25, Tryd.ntmps25
  go_wp2_with (first
    | ((with_reducible refine gate (N := 1) rfl ?_); refine ev_box rfl 41 (.tmp 0) rfl (cs := m.arr) rfl ?_; intro g1 w1 hx1 hb1 hg1 hl1)
    | ((with_reducible refine gate (N := 6) rfl ?_); refine ev_load rfl 41 (.tmp 1) rfl rfl hx1 aggMsg sizeMsg ?_)
    | (go_at_call 17; (with_reducible refine (msg_check m _).mono ?_); rintro e w2 ⟨rfl, hb2⟩; rw [HC.out]; have hx2 := hx1.below hb2; have hc2 := hx2.cell)
    | (go_at_call 60; have hq := oct_put m.kind 1 (.slice none 0 0) [] w2 (by omega) (by omega) (nil_read _) (by simp); (with_reducible refine hq.mono ?_); rintro e w3 ⟨v3, rfl, ho3, hb3⟩; have hx3 := hx2.below hb3; clear hc2; have hc3 := hx3.cell))
  simp only [List.nil_append, show (1 : Int).toNat = 1 from rfl] at ho3
  have hl3 : (putN m.kind 1).length ≤ 1000000000 := by simp [putN_length]
  have hl4 : (putN m.kind 1 ++ putN m.src 1).length ≤ 1000000000 := by simp [putN_length]
  have hl5 : (putN m.kind 1 ++ putN m.src 1 ++ putN m.dst 1).length ≤ 1000000000 := by simp [putN_length]
  clear hx1 hx2
  go_region_held3 (fun w' => ∀ j, w'.cell? ⟨g1, j, none⟩ = m.arr[j]?) (first | assumption)
    (first
      | (go_at_call 60; have hq := oct_put m.src 1 v3 (putN m.kind 1) w3.drew (by omega) (by omega) ho3.read hl3; (with_reducible refine hq.mono ?_); rintro e w4 ⟨v4, rfl, ho4, hb4⟩; have hx4 := hx3.below (bl_of_drew hb4); have hc4 := hx4.cell)
      | (go_at_call 60; have hq := oct_put m.dst 1 v4 (putN m.kind 1 ++ putN m.src 1) w4 (by omega) (by omega) ho4.read hl4; (with_reducible refine hq.mono ?_); rintro e w5 ⟨v5, rfl, ho5, hb5⟩; have hx5 := hx4.below hb5; have hc5 := hx5.cell)
      | (go_at_call 60; have hq := oct_put m.vol 1 v5 (putN m.kind 1 ++ putN m.src 1 ++ putN m.dst 1) w5 (by omega) (by omega) ho5.read hl5; (with_reducible refine hq.mono ?_); rintro e w6 ⟨v6, rfl, ho6, hb6⟩; have hx6 := hx5.below hb6; have hc6 := hx6.cell))
  have HW6 := bl_then (bl_then (bl_then (bl_then hb1 hb2) hb3) (bl_of_drew hb4)) (bl_then hb5 hb6)
  have hr6 := ho6.read
  clear hb1 hb2 hb3 hb4 hb5 hb6 hx3 hx4 hx5 hc3 hc4 hc5 ho3 ho4 ho5 ho6 hl3 hl4 hl5
  have hl6 : (putN m.kind 1 ++ putN m.src 1 ++ putN m.dst 1 ++ putN m.vol 1).length ≤ 100000000 := by simp [putN_length]
  go_wp2_with (first
    | (go_at_call 61; have hq := vec_put m.seen v6 (putN m.kind 1 ++ putN m.src 1 ++ putN m.dst 1 ++ putN m.vol 1) w6 hr6 hl6; (with_reducible refine hq.mono ?_); rintro e w7 ⟨v7, rfl, hr7, hb7⟩; have hr7 : encB.R w7 v7 m.headBytes := hr7; have hx7 := hx6.below hb7; have HW7 := bl_then HW6 hb7; have hc7 := hx7.cell; clear hc6 hr6 hl6 hx6 HW6))
  have hl8 : (m.headBytes).length ≤ 100000000 := by simp [Msg.headBytes_length]
  have hl9 : (m.headBytes ++ putN m.base.boot 6 ++ putN m.base.n 6).length ≤ 100000000 := by simp [putN_length, Msg.headBytes_length]
  have hl10 : (m.headBytes ++ putN m.base.boot 6 ++ putN m.base.n 6 ++ putN m.mark.boot 6 ++ putN m.mark.n 6).length ≤ 1000000000 := by simp [putN_length, Msg.headBytes_length]
  go_region_held3 (fun w' => ∀ j, w'.cell? ⟨g1, j, none⟩ = m.arr[j]?) (first | assumption)
    (first
      | (go_at_call 62; have hq := put_mark m.base.boot m.base.n v7 (m.headBytes) w7.drew hr7 hl8; (with_reducible refine hq.mono ?_); rintro e w8 ⟨v8, rfl, ho8, hb8⟩; have hx8 := hx7.below (bl_of_drew hb8); have hc8 := hx8.cell)
      | (go_at_call 62; have hq := put_mark m.mark.boot m.mark.n v8 (m.headBytes ++ putN m.base.boot 6 ++ putN m.base.n 6) w8 ho8.read hl9; (with_reducible refine hq.mono ?_); rintro e w9 ⟨v9, rfl, ho9, hb9⟩; have hx9 := hx8.below hb9; have hc9 := hx9.cell)
      | (go_at_call 60; have hq := oct_put m.index 2 v9 (m.headBytes ++ putN m.base.boot 6 ++ putN m.base.n 6 ++ putN m.mark.boot 6 ++ putN m.mark.n 6) w9 (by omega) (by omega) ho9.read hl10; (with_reducible refine hq.mono ?_); rintro e w10 ⟨v10, rfl, ho10, hb10⟩; have hx10 := hx9.below hb10; have hc10 := hx10.cell))
  have HW := bl_then (bl_then (bl_then HW7 (bl_of_drew hb8)) hb9) hb10
  have hconv := conv_bytes (l := m.headBytes ++ putN m.base.boot 6 ++ putN m.base.n 6 ++ putN m.mark.boot 6 ++ putN m.mark.n 6 ++ putN m.index 2) (by simpa using ho10.read) 54 9 5 Tryd.underlying54 Tryd.underlying5 Tryd.underlying9
  rw [← HB.out] at hconv
  have hsz : (⟨m.bytes.toArray⟩ : ByteArray).size ≤ 10000000000 := by show m.bytes.toArray.size ≤ _; rw [List.size_toArray]; have := HL.out; omega
  clear HB hb8 hb9 hb10 hx7 hx8 hx9 hx10 hc7 hc8 hc9 hc10 ho8 ho9 ho10 hr7 hl8 hl9 hl10 HW7
  have hss : Calls Tryd.prog 64 #[.string ⟨m.bytes.toArray⟩] w10 fun e w' => e = .returned (.string ⟨(sealed m.bytes).toArray⟩) ∧ Below w10.heap.size w10 w' := crc_seal ⟨m.bytes.toArray⟩ w10 hsz
  have HS := hide hss
  clear hss hsz
  go_wp2_with (first | (go_at_call 64; (with_reducible refine (unhide HS).mono ?_); rintro e w20 ⟨rfl, hb20⟩))
  go_ret2
  exact ⟨rfl, bl_then HW hb20⟩
theorem msg_put2 (m : Msg) (w : World) (hok : m.ok = true) (hk : m.kind = 2) (hd : m.data.size ≤ 512) :
    Calls Tryd.prog 25 #[m.val] w fun e w' => e = .returned (.tuple #[.string ⟨(sealed m.bytes).toArray⟩, .int .i64 0]) ∧ Below w.heap.size w w' := by
  have HC : Hid (m.code = 0) := Lib.hid (by simp [Msg.code, hok])
  have HB : Hid (m.bytes = m.headBytes ++ putN m.base.boot 6 ++ putN m.base.n 6 ++ putN m.mark.boot 6 ++ putN m.mark.n 6 ++ putN m.index 2 ++ putN m.total 2 ++ putN m.data.size 2 ++ m.data.data.toList) := Lib.hid (by simp [Msg.bytes, hk, Mk.bytes])
  have HL : Hid (m.bytes.length ≤ 1000) := Lib.hid (m.bytes_le (by intro h; first | omega | (rw [hk] at h; cases h)))
  have b1 : (m.kind == 1) = false := by simp [hk]
  have b2 : (m.kind == 2) = true := by simp [hk]
  clear hok hk
  go_enter Tryd.func25, Tryd.ntmps25
  go_wp2_with (first
    | ((with_reducible refine gate (N := 1) rfl ?_); refine ev_box rfl 41 (.tmp 0) rfl (cs := m.arr) rfl ?_; intro g1 w1 hx1 hb1 hg1 hl1)
    | ((with_reducible refine gate (N := 6) rfl ?_); refine ev_load rfl 41 (.tmp 1) rfl rfl hx1 aggMsg sizeMsg ?_)
    | (go_at_call 17; (with_reducible refine (msg_check m _).mono ?_); rintro e w2 ⟨rfl, hb2⟩; rw [HC.out]; have hx2 := hx1.below hb2; have hc2 := hx2.cell)
    | (go_at_call 60; have hq := oct_put m.kind 1 (.slice none 0 0) [] w2 (by omega) (by omega) (nil_read _) (by simp); (with_reducible refine hq.mono ?_); rintro e w3 ⟨v3, rfl, ho3, hb3⟩; have hx3 := hx2.below hb3; clear hc2; have hc3 := hx3.cell))
  simp only [List.nil_append, show (1 : Int).toNat = 1 from rfl] at ho3
  have hl3 : (putN m.kind 1).length ≤ 1000000000 := by simp [putN_length]
  have hl4 : (putN m.kind 1 ++ putN m.src 1).length ≤ 1000000000 := by simp [putN_length]
  have hl5 : (putN m.kind 1 ++ putN m.src 1 ++ putN m.dst 1).length ≤ 1000000000 := by simp [putN_length]
  clear hx1 hx2
  go_region_held3 (fun w' => ∀ j, w'.cell? ⟨g1, j, none⟩ = m.arr[j]?) (first | assumption)
    (first
      | (go_at_call 60; have hq := oct_put m.src 1 v3 (putN m.kind 1) w3.drew (by omega) (by omega) ho3.read hl3; (with_reducible refine hq.mono ?_); rintro e w4 ⟨v4, rfl, ho4, hb4⟩; have hx4 := hx3.below (bl_of_drew hb4); have hc4 := hx4.cell)
      | (go_at_call 60; have hq := oct_put m.dst 1 v4 (putN m.kind 1 ++ putN m.src 1) w4 (by omega) (by omega) ho4.read hl4; (with_reducible refine hq.mono ?_); rintro e w5 ⟨v5, rfl, ho5, hb5⟩; have hx5 := hx4.below hb5; have hc5 := hx5.cell)
      | (go_at_call 60; have hq := oct_put m.vol 1 v5 (putN m.kind 1 ++ putN m.src 1 ++ putN m.dst 1) w5 (by omega) (by omega) ho5.read hl5; (with_reducible refine hq.mono ?_); rintro e w6 ⟨v6, rfl, ho6, hb6⟩; have hx6 := hx5.below hb6; have hc6 := hx6.cell))
  have HW6 := bl_then (bl_then (bl_then (bl_then hb1 hb2) hb3) (bl_of_drew hb4)) (bl_then hb5 hb6)
  have hr6 := ho6.read
  clear hb1 hb2 hb3 hb4 hb5 hb6 hx3 hx4 hx5 hc3 hc4 hc5 ho3 ho4 ho5 ho6 hl3 hl4 hl5
  have hl6 : (putN m.kind 1 ++ putN m.src 1 ++ putN m.dst 1 ++ putN m.vol 1).length ≤ 100000000 := by simp [putN_length]
  go_wp2_with (first
    | (go_at_call 61; have hq := vec_put m.seen v6 (putN m.kind 1 ++ putN m.src 1 ++ putN m.dst 1 ++ putN m.vol 1) w6 hr6 hl6; (with_reducible refine hq.mono ?_); rintro e w7 ⟨v7, rfl, hr7, hb7⟩; have hr7 : encB.R w7 v7 m.headBytes := hr7; have hx7 := hx6.below hb7; have HW7 := bl_then HW6 hb7; have hc7 := hx7.cell; clear hc6 hr6 hl6 hx6 HW6))
  have hl8 : (m.headBytes).length ≤ 100000000 := by simp [Msg.headBytes_length]
  have hl9 : (m.headBytes ++ putN m.base.boot 6 ++ putN m.base.n 6).length ≤ 100000000 := by simp [putN_length, Msg.headBytes_length]
  have hl10 : (m.headBytes ++ putN m.base.boot 6 ++ putN m.base.n 6 ++ putN m.mark.boot 6 ++ putN m.mark.n 6).length ≤ 1000000000 := by simp [putN_length, Msg.headBytes_length]
  have hl11 : (m.headBytes ++ putN m.base.boot 6 ++ putN m.base.n 6 ++ putN m.mark.boot 6 ++ putN m.mark.n 6 ++ putN m.index 2).length ≤ 1000000000 := by simp [putN_length, Msg.headBytes_length]
  have hl12 : (m.headBytes ++ putN m.base.boot 6 ++ putN m.base.n 6 ++ putN m.mark.boot 6 ++ putN m.mark.n 6 ++ putN m.index 2 ++ putN m.total 2).length ≤ 100000000 := by simp [putN_length, Msg.headBytes_length]
  go_region_held3 (fun w' => ∀ j, w'.cell? ⟨g1, j, none⟩ = m.arr[j]?) (first | assumption)
    (first
      | (go_at_call 62; have hq := put_mark m.base.boot m.base.n v7 (m.headBytes) w7.drew hr7 hl8; (with_reducible refine hq.mono ?_); rintro e w8 ⟨v8, rfl, ho8, hb8⟩; have hx8 := hx7.below (bl_of_drew hb8); have hc8 := hx8.cell)
      | (go_at_call 62; have hq := put_mark m.mark.boot m.mark.n v8 (m.headBytes ++ putN m.base.boot 6 ++ putN m.base.n 6) w8 ho8.read hl9; (with_reducible refine hq.mono ?_); rintro e w9 ⟨v9, rfl, ho9, hb9⟩; have hx9 := hx8.below hb9; have hc9 := hx9.cell)
      | (go_at_call 60; have hq := oct_put m.index 2 v9 (m.headBytes ++ putN m.base.boot 6 ++ putN m.base.n 6 ++ putN m.mark.boot 6 ++ putN m.mark.n 6) w9 (by omega) (by omega) ho9.read hl10; (with_reducible refine hq.mono ?_); rintro e w10 ⟨v10, rfl, ho10, hb10⟩; have hx10 := hx9.below hb10; have hc10 := hx10.cell)
      | (go_at_call 60; have hq := oct_put m.total 2 v10 (m.headBytes ++ putN m.base.boot 6 ++ putN m.base.n 6 ++ putN m.mark.boot 6 ++ putN m.mark.n 6 ++ putN m.index 2) w10 (by omega) (by omega) ho10.read hl11; (with_reducible refine hq.mono ?_); rintro e w11 ⟨v11, rfl, ho11, hb11⟩; have hx11 := hx10.below hb11; have hc11 := hx11.cell))
  have HW := bl_then (bl_then (bl_then (bl_then HW7 (bl_of_drew hb8)) hb9) hb10) hb11
  have hr11 : encB.R w11 v11 (m.headBytes ++ putN m.base.boot 6 ++ putN m.base.n 6 ++ putN m.mark.boot 6 ++ putN m.mark.n 6 ++ putN m.index 2 ++ putN m.total 2) := by simpa using ho11.read
  clear hb8 hb9 hb10 hb11 hx7 hx8 hx9 hx10 hc7 hc8 hc9 hc10 ho8 ho9 ho10 ho11 hr7 hl8 hl9 hl10 hl11 HW7
  go_wp2_with (first
    | (go_at_call 63; have hq := oct_text v11 m.data (m.headBytes ++ putN m.base.boot 6 ++ putN m.base.n 6 ++ putN m.mark.boot 6 ++ putN m.mark.n 6 ++ putN m.index 2 ++ putN m.total 2) w11 (by omega) hr11 hl12; (with_reducible refine hq.mono ?_); rintro e w12 ⟨v12, rfl, ho12, hb12⟩; have hx12 := hx11.below hb12; have HW12 := bl_then HW hb12; have hr12 := ho12.read; clear hc11 hx11 HW hr11 hl12 ho12; refine stop ?_))
  unfold Stop
  have hconv := conv_bytes (l := m.headBytes ++ putN m.base.boot 6 ++ putN m.base.n 6 ++ putN m.mark.boot 6 ++ putN m.mark.n 6 ++ putN m.index 2 ++ putN m.total 2 ++ putN m.data.size 2 ++ m.data.data.toList) hr12 54 9 5 Tryd.underlying54 Tryd.underlying5 Tryd.underlying9
  rw [← HB.out] at hconv
  have hsz : (⟨m.bytes.toArray⟩ : ByteArray).size ≤ 10000000000 := by show m.bytes.toArray.size ≤ _; rw [List.size_toArray]; have := HL.out; omega
  clear HB hb12 hx12 hr12
  have hss : Calls Tryd.prog 64 #[.string ⟨m.bytes.toArray⟩] w12 fun e w' => e = .returned (.string ⟨(sealed m.bytes).toArray⟩) ∧ Below w12.heap.size w12 w' := crc_seal ⟨m.bytes.toArray⟩ w12 hsz
  have HS := hide hss
  clear hss hsz
  go_wp2_with (first | (go_at_call 64; (with_reducible refine (unhide HS).mono ?_); rintro e w20 ⟨rfl, hb20⟩))
  go_ret2
  exact ⟨rfl, bl_then HW12 hb20⟩
theorem msg_put4 (m : Msg) (w : World) (hok : m.ok = true) (hk : m.kind = 4) :
    Calls Tryd.prog 25 #[m.val] w fun e w' => e = .returned (.tuple #[.string ⟨(sealed m.bytes).toArray⟩, .int .i64 0]) ∧ Below w.heap.size w w' := by
  have HC : Hid (m.code = 0) := Lib.hid (by simp [Msg.code, hok])
  have HB : Hid (m.bytes = m.headBytes ++ putN m.mark.boot 6 ++ putN m.mark.n 6) := Lib.hid (by simp [Msg.bytes, hk, Mk.bytes])
  have HL : Hid (m.bytes.length ≤ 1000) := Lib.hid (m.bytes_le (by intro h; first | omega | (rw [hk] at h; cases h)))
  have b1 : (m.kind == 1) = false := by simp [hk]
  have b2 : (m.kind == 2) = false := by simp [hk]
  have b4 : (m.kind == 4) = true := by simp [hk]
  clear hok hk
  go_enter Tryd.func25, Tryd.ntmps25
  go_wp2_with (first
    | ((with_reducible refine gate (N := 1) rfl ?_); refine ev_box rfl 41 (.tmp 0) rfl (cs := m.arr) rfl ?_; intro g1 w1 hx1 hb1 hg1 hl1)
    | ((with_reducible refine gate (N := 6) rfl ?_); refine ev_load rfl 41 (.tmp 1) rfl rfl hx1 aggMsg sizeMsg ?_)
    | (go_at_call 17; (with_reducible refine (msg_check m _).mono ?_); rintro e w2 ⟨rfl, hb2⟩; rw [HC.out]; have hx2 := hx1.below hb2; have hc2 := hx2.cell)
    | (go_at_call 60; have hq := oct_put m.kind 1 (.slice none 0 0) [] w2 (by omega) (by omega) (nil_read _) (by simp); (with_reducible refine hq.mono ?_); rintro e w3 ⟨v3, rfl, ho3, hb3⟩; have hx3 := hx2.below hb3; clear hc2; have hc3 := hx3.cell))
  simp only [List.nil_append, show (1 : Int).toNat = 1 from rfl] at ho3
  have hl3 : (putN m.kind 1).length ≤ 1000000000 := by simp [putN_length]
  have hl4 : (putN m.kind 1 ++ putN m.src 1).length ≤ 1000000000 := by simp [putN_length]
  have hl5 : (putN m.kind 1 ++ putN m.src 1 ++ putN m.dst 1).length ≤ 1000000000 := by simp [putN_length]
  clear hx1 hx2
  go_region_held3 (fun w' => ∀ j, w'.cell? ⟨g1, j, none⟩ = m.arr[j]?) (first | assumption)
    (first
      | (go_at_call 60; have hq := oct_put m.src 1 v3 (putN m.kind 1) w3.drew (by omega) (by omega) ho3.read hl3; (with_reducible refine hq.mono ?_); rintro e w4 ⟨v4, rfl, ho4, hb4⟩; have hx4 := hx3.below (bl_of_drew hb4); have hc4 := hx4.cell)
      | (go_at_call 60; have hq := oct_put m.dst 1 v4 (putN m.kind 1 ++ putN m.src 1) w4 (by omega) (by omega) ho4.read hl4; (with_reducible refine hq.mono ?_); rintro e w5 ⟨v5, rfl, ho5, hb5⟩; have hx5 := hx4.below hb5; have hc5 := hx5.cell)
      | (go_at_call 60; have hq := oct_put m.vol 1 v5 (putN m.kind 1 ++ putN m.src 1 ++ putN m.dst 1) w5 (by omega) (by omega) ho5.read hl5; (with_reducible refine hq.mono ?_); rintro e w6 ⟨v6, rfl, ho6, hb6⟩; have hx6 := hx5.below hb6; have hc6 := hx6.cell))
  have HW6 := bl_then (bl_then (bl_then (bl_then hb1 hb2) hb3) (bl_of_drew hb4)) (bl_then hb5 hb6)
  have hr6 := ho6.read
  clear hb1 hb2 hb3 hb4 hb5 hb6 hx3 hx4 hx5 hc3 hc4 hc5 ho3 ho4 ho5 ho6 hl3 hl4 hl5
  have hl6 : (putN m.kind 1 ++ putN m.src 1 ++ putN m.dst 1 ++ putN m.vol 1).length ≤ 100000000 := by simp [putN_length]
  go_wp2_with (first
    | (go_at_call 61; have hq := vec_put m.seen v6 (putN m.kind 1 ++ putN m.src 1 ++ putN m.dst 1 ++ putN m.vol 1) w6 hr6 hl6; (with_reducible refine hq.mono ?_); rintro e w7 ⟨v7, rfl, hr7, hb7⟩; have hr7 : encB.R w7 v7 m.headBytes := hr7; have hx7 := hx6.below hb7; have HW7 := bl_then HW6 hb7; have hc7 := hx7.cell; clear hc6 hr6 hl6 hx6 HW6)
    | (go_at_call 62; have hq := put_mark m.mark.boot m.mark.n v7 m.headBytes w7 hr7 (by rw [Msg.headBytes_length]; omega); (with_reducible refine hq.mono ?_); rintro e w8 ⟨v8, rfl, ho8, hb8⟩; have HW8 := bl_then HW7 hb8; have hr8 := ho8.read; clear hc7 hx7 HW7 hr7 ho8; refine stop ?_))
  unfold Stop
  have hconv := conv_bytes (l := m.headBytes ++ putN m.mark.boot 6 ++ putN m.mark.n 6) hr8 54 9 5 Tryd.underlying54 Tryd.underlying5 Tryd.underlying9
  rw [← HB.out] at hconv
  have hsz : (⟨m.bytes.toArray⟩ : ByteArray).size ≤ 10000000000 := by show m.bytes.toArray.size ≤ _; rw [List.size_toArray]; have := HL.out; omega
  clear HB hb8 hb7 hr8
  have hss : Calls Tryd.prog 64 #[.string ⟨m.bytes.toArray⟩] w8 fun e w' => e = .returned (.string ⟨(sealed m.bytes).toArray⟩) ∧ Below w8.heap.size w8 w' := crc_seal ⟨m.bytes.toArray⟩ w8 hsz
  have HS := hide hss
  clear hss hsz
  go_wp2_with (first | (go_at_call 64; (with_reducible refine (unhide HS).mono ?_); rintro e w20 ⟨rfl, hb20⟩))
  go_ret2
  exact ⟨rfl, bl_then HW8 hb20⟩
theorem msg_put3 (m : Msg) (w : World) (hok : m.ok = true) (hk : m.kind = 3) :
    Calls Tryd.prog 25 #[m.val] w fun e w' => e = .returned (.tuple #[.string ⟨(sealed m.bytes).toArray⟩, .int .i64 0]) ∧ Below w.heap.size w w' := by
  have HC : Hid (m.code = 0) := Lib.hid (by simp [Msg.code, hok])
  have HB : Hid (m.bytes = m.headBytes) := Lib.hid (by simp [Msg.bytes, hk])
  have HL : Hid (m.bytes.length ≤ 1000) := Lib.hid (m.bytes_le (by intro h; first | omega | (rw [hk] at h; cases h)))
  have b1 : (m.kind == 1) = false := by simp [hk]
  have b2 : (m.kind == 2) = false := by simp [hk]
  have b4 : (m.kind == 4) = false := by simp [hk]
  clear hok hk
  go_enter Tryd.func25, Tryd.ntmps25
  go_wp2_with (first
    | ((with_reducible refine gate (N := 1) rfl ?_); refine ev_box rfl 41 (.tmp 0) rfl (cs := m.arr) rfl ?_; intro g1 w1 hx1 hb1 hg1 hl1)
    | ((with_reducible refine gate (N := 6) rfl ?_); refine ev_load rfl 41 (.tmp 1) rfl rfl hx1 aggMsg sizeMsg ?_)
    | (go_at_call 17; (with_reducible refine (msg_check m _).mono ?_); rintro e w2 ⟨rfl, hb2⟩; rw [HC.out]; have hx2 := hx1.below hb2; have hc2 := hx2.cell)
    | (go_at_call 60; have hq := oct_put m.kind 1 (.slice none 0 0) [] w2 (by omega) (by omega) (nil_read _) (by simp); (with_reducible refine hq.mono ?_); rintro e w3 ⟨v3, rfl, ho3, hb3⟩; have hx3 := hx2.below hb3; clear hc2; have hc3 := hx3.cell))
  simp only [List.nil_append, show (1 : Int).toNat = 1 from rfl] at ho3
  have hl3 : (putN m.kind 1).length ≤ 1000000000 := by simp [putN_length]
  have hl4 : (putN m.kind 1 ++ putN m.src 1).length ≤ 1000000000 := by simp [putN_length]
  have hl5 : (putN m.kind 1 ++ putN m.src 1 ++ putN m.dst 1).length ≤ 1000000000 := by simp [putN_length]
  clear hx1 hx2
  go_region_held3 (fun w' => ∀ j, w'.cell? ⟨g1, j, none⟩ = m.arr[j]?) (first | assumption)
    (first
      | (go_at_call 60; have hq := oct_put m.src 1 v3 (putN m.kind 1) w3.drew (by omega) (by omega) ho3.read hl3; (with_reducible refine hq.mono ?_); rintro e w4 ⟨v4, rfl, ho4, hb4⟩; have hx4 := hx3.below (bl_of_drew hb4); have hc4 := hx4.cell)
      | (go_at_call 60; have hq := oct_put m.dst 1 v4 (putN m.kind 1 ++ putN m.src 1) w4 (by omega) (by omega) ho4.read hl4; (with_reducible refine hq.mono ?_); rintro e w5 ⟨v5, rfl, ho5, hb5⟩; have hx5 := hx4.below hb5; have hc5 := hx5.cell)
      | (go_at_call 60; have hq := oct_put m.vol 1 v5 (putN m.kind 1 ++ putN m.src 1 ++ putN m.dst 1) w5 (by omega) (by omega) ho5.read hl5; (with_reducible refine hq.mono ?_); rintro e w6 ⟨v6, rfl, ho6, hb6⟩; have hx6 := hx5.below hb6; have hc6 := hx6.cell))
  have HW6 := bl_then (bl_then (bl_then (bl_then hb1 hb2) hb3) (bl_of_drew hb4)) (bl_then hb5 hb6)
  have hr6 := ho6.read
  clear hb1 hb2 hb3 hb4 hb5 hb6 hx3 hx4 hx5 hc3 hc4 hc5 ho3 ho4 ho5 ho6 hl3 hl4 hl5
  have hl6 : (putN m.kind 1 ++ putN m.src 1 ++ putN m.dst 1 ++ putN m.vol 1).length ≤ 100000000 := by simp [putN_length]
  go_wp2_with (first
    | (go_at_call 61; have hq := vec_put m.seen v6 (putN m.kind 1 ++ putN m.src 1 ++ putN m.dst 1 ++ putN m.vol 1) w6 hr6 hl6; (with_reducible refine hq.mono ?_); rintro e w7 ⟨v7, rfl, hr7, hb7⟩; have hr7 : encB.R w7 v7 m.headBytes := hr7; have hx7 := hx6.below hb7; have HW7 := bl_then HW6 hb7; have hc7 := hx7.cell; clear hc6 hr6 hl6 hx6 HW6; refine stop ?_))
  unfold Stop
  have hconv := conv_bytes (l := m.headBytes) hr7 54 9 5 Tryd.underlying54 Tryd.underlying5 Tryd.underlying9
  rw [← HB.out] at hconv
  have hsz : (⟨m.bytes.toArray⟩ : ByteArray).size ≤ 10000000000 := by show m.bytes.toArray.size ≤ _; rw [List.size_toArray]; have := HL.out; omega
  clear HB hb7 hr7 hx7
  have hss : Calls Tryd.prog 64 #[.string ⟨m.bytes.toArray⟩] w7 fun e w' => e = .returned (.string ⟨(sealed m.bytes).toArray⟩) ∧ Below w7.heap.size w7 w' := crc_seal ⟨m.bytes.toArray⟩ w7 hsz
  have HS := hide hss
  clear hss hsz
  go_wp2_with (first | (go_at_call 64; (with_reducible refine (unhide HS).mono ?_); rintro e w20 ⟨rfl, hb20⟩))
  go_ret2
  exact ⟨rfl, bl_then HW7 hb20⟩
theorem msg_putNo (m : Msg) (w : World) (hok : m.ok = false) :
    Calls Tryd.prog 25 #[m.val] w fun e w' => e = .returned (.tuple #[.string ⟨#[]⟩, .int .i64 201]) ∧ Below w.heap.size w w' := by
  have HC : Hid (m.code = 201) := Lib.hid (by simp [Msg.code, hok])
  clear hok
  go_enter Tryd.func25, Tryd.ntmps25
  go_wp2_with (first
    | ((with_reducible refine gate (N := 1) rfl ?_); refine ev_box rfl 41 (.tmp 0) rfl (cs := m.arr) rfl ?_; intro g1 w1 hx1 hb1 hg1 hl1)
    | ((with_reducible refine gate (N := 6) rfl ?_); refine ev_load rfl 41 (.tmp 1) rfl rfl hx1 aggMsg sizeMsg ?_)
    | (go_at_call 17; (with_reducible refine (msg_check m _).mono ?_); rintro e w2 ⟨rfl, hb2⟩; rw [HC.out]))
  go_ret2
  exact ⟨rfl, bl_then hb1 hb2⟩
theorem Msg.ok_data (m : Msg) (h : m.ok = true) (hk : m.kind = 2) : m.data.size ≤ 512 := by
  simp [Msg.ok, Msg.kindOk, hk] at h; omega
theorem Msg.ok_kind (m : Msg) (h : m.ok = true) : 1 ≤ m.kind ∧ m.kind ≤ 4 := by
  simp [Msg.ok, Msg.head] at h; omega
/-- Put: bytes, sealed, or an error. -/
theorem msg_put (m : Msg) (w : World) (hok : m.ok = true) :
    Calls Tryd.prog 25 #[m.val] w fun e w' => e = .returned (.tuple #[.string ⟨(sealed m.bytes).toArray⟩, .int .i64 0]) ∧ Below w.heap.size w w' := by
  have hk := m.ok_kind hok
  by_cases k1 : m.kind = 1
  · exact msg_put1 m w hok k1
  · by_cases k2 : m.kind = 2
    · exact msg_put2 m w hok k2 (m.ok_data hok k2)
    · by_cases k4 : m.kind = 4
      · exact msg_put4 m w hok k4
      · exact msg_put3 m w hok (by omega)
end Go.Proofs.YtbkffeabikjnhaaDoor
