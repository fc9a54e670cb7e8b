/- Texts laid together: Put, Ref18, Chk18a, Chk18b. -/
import Derived.Test.YtbkffeabikjnhaaDoorGg3
/- Messages: Put. -/
namespace Go.Proofs.YtbkffeabikjnhaaDoor
open Go.RowKit

def Msg.code (m : Msg) : Int := if m.ok = true then 0 else 201
def Msg.headBytes (m : Msg) : List UInt8 := putN m.kind 1 ++ putN m.src 1 ++ putN m.dst 1 ++ putN m.vol 1 ++ m.seen.bytes
def Mk.bytes (m : Mk) : List UInt8 := putN m.boot 6 ++ putN m.n 6
def Msg.bytes (m : Msg) : List UInt8 :=
  if m.kind = 1 then m.headBytes ++ m.base.bytes ++ m.mark.bytes ++ putN m.index 2
  else if m.kind = 2 then m.headBytes ++ m.base.bytes ++ m.mark.bytes ++ putN m.index 2 ++ putN m.total 2 ++ putN m.data.size 2 ++ m.data.data.toList
  else if m.kind = 4 then m.headBytes ++ m.mark.bytes
  else m.headBytes

theorem V8.bytes_length (v : V8) : v.bytes.length = 48 := by simp [V8.bytes, V8.list, putN_length]
theorem Msg.headBytes_length (m : Msg) : m.headBytes.length = 52 := by simp [Msg.headBytes, putN_length, V8.bytes_length]

theorem Msg.bytes_le (m : Msg) (h : m.kind = 2 → m.data.size ≤ 512) : m.bytes.length ≤ 1000 := by
  have hd : m.data.data.toList.length = m.data.size := by rw [Array.length_toList]; rfl
  unfold Msg.bytes
  split
  · simp only [List.length_append, putN_length, Msg.headBytes_length, Mk.bytes]; omega
  · split
    · rename_i h2
      have := h h2
      simp only [List.length_append, putN_length, Msg.headBytes_length, Mk.bytes, hd]; omega
    · split
      · simp only [List.length_append, putN_length, Msg.headBytes_length, Mk.bytes]; omega
      · rw [Msg.headBytes_length]; omega
theorem msg_check (m : Msg) (w : World) :
    Calls Tryd.prog 17 #[m.val] w fun e w' => e = .returned (.int .i64 m.code) ∧ Below w.heap.size w w' := by
  have no : m.ok = false → m.code = 201 := fun h => by simp [Msg.code, h]
  cases h : m.head
  · rw [no (by simp [Msg.ok, h])]; exact check_headless m w h
  · cases h1 : m.seen.good
    · rw [no (by simp [Msg.ok, Msg.mid, h1])]; exact check_mid1 m w h h1
    · cases h2 : m.base.ok
      · rw [no (by simp [Msg.ok, Msg.mid, h2])]; exact check_mid2 m w h h1 h2
      · cases h3 : m.mark.ok
        · rw [no (by simp [Msg.ok, Msg.mid, h3])]; exact check_mid3 m w h h1 h2 h3
        · cases h4 : decide (m = m.bare)
          · rw [no (by simp only [Msg.ok, Msg.mid, h4, Bool.and_false, Bool.false_and])]; exact check_mid4 m w h h1 h2 h3 h4
          · have e : m.code = m.kcode := by simp only [Msg.code, Msg.ok, Msg.mid, Msg.kcode, h, h1, h2, h3, h4, Bool.true_and]
            rw [e]
            have hk : 1 ≤ m.kind ∧ m.kind ≤ 4 := by simp [Msg.head] at h; omega
            by_cases k1 : m.kind = 1
            · exact check_kind1 m w h h1 h2 h3 h4 k1 _ rfl
            · by_cases k2 : m.kind = 2
              · exact check_kind2 m w h h1 h2 h3 h4 k2 _ rfl
              · by_cases k4 : m.kind = 4
                · exact check_kind4 m w h h1 h2 h3 h4 k4 _ rfl
                · exact check_kind3 m w h h1 h2 h3 h4 (by omega) _ rfl

theorem nil_read (w : World) : encB.R w (.slice none 0 0) [] := Enc.R.none w

theorem msg_put1 (m : Msg) (w : World) (hok : m.ok = true) (hk : m.kind = 1) :
    Calls Tryd.prog 25 #[m.val] w fun e w' => e = .returned (.tuple #[.string ⟨(sealed m.bytes).toArray⟩, .int .i64 0]) ∧ Below w.heap.size w w' := by
  have HC : Hid (m.code = 0) := Lib.hid (by simp [Msg.code, hok])
  have HB : Hid (m.bytes = m.headBytes ++ putN m.base.boot 6 ++ putN m.base.n 6 ++ putN m.mark.boot 6 ++ putN m.mark.n 6 ++ putN m.index 2) := Lib.hid (by simp [Msg.bytes, hk, Mk.bytes])
  have HL : Hid (m.bytes.length ≤ 1000) := Lib.hid (m.bytes_le (by intro h; first | omega | (rw [hk] at h; cases h)))
  have b1 : (m.kind == 1) = true := by simp [hk]
  clear hok hk
  go_enter Tryd.func25, Tryd.ntmps25
  go_wp2_with (first
    | ((with_reducible refine gate (N := 1) rfl ?_); refine ev_box rfl 41 (.tmp 0) rfl (cs := m.arr) rfl ?_; intro g1 w1 hx1 hb1 hg1 hl1)
    | ((with_reducible refine gate (N := 6) rfl ?_); refine ev_load rfl 41 (.tmp 1) rfl rfl hx1 aggMsg sizeMsg ?_)
    | (go_at_call 17; (with_reducible refine (msg_check m _).mono ?_); rintro e w2 ⟨rfl, hb2⟩; rw [HC.out]; have hx2 := hx1.below hb2; have hc2 := hx2.cell)
    | (go_at_call 60; have hq := oct_put m.kind 1 (.slice none 0 0) [] w2 (by omega) (by omega) (nil_read _) (by simp); (with_reducible refine hq.mono ?_); rintro e w3 ⟨v3, rfl, ho3, hb3⟩; have hx3 := hx2.below hb3; clear hc2; have hc3 := hx3.cell))
  simp only [List.nil_append, show (1 : Int).toNat = 1 from rfl] at ho3
  have hl3 : (putN m.kind 1).length ≤ 1000000000 := by simp [putN_length]
  have hl4 : (putN m.kind 1 ++ putN m.src 1).length ≤ 1000000000 := by simp [putN_length]
  have hl5 : (putN m.kind 1 ++ putN m.src 1 ++ putN m.dst 1).length ≤ 1000000000 := by simp [putN_length]
  clear hx1 hx2
  go_region_held3 (fun w' => ∀ j, w'.cell? ⟨g1, j, none⟩ = m.arr[j]?) (first | assumption)
    (first
      | (go_at_call 60; have hq := oct_put m.src 1 v3 (putN m.kind 1) w3.drew (by omega) (by omega) ho3.read hl3; (with_reducible refine hq.mono ?_); rintro e w4 ⟨v4, rfl, ho4, hb4⟩; have hx4 := hx3.below (bl_of_drew hb4); have hc4 := hx4.cell)
      | (go_at_call 60; have hq := oct_put m.dst 1 v4 (putN m.kind 1 ++ putN m.src 1) w4 (by omega) (by omega) ho4.read hl4; (with_reducible refine hq.mono ?_); rintro e w5 ⟨v5, rfl, ho5, hb5⟩; have hx5 := hx4.below hb5; have hc5 := hx5.cell)
      | (go_at_call 60; have hq := oct_put m.vol 1 v5 (putN m.kind 1 ++ putN m.src 1 ++ putN m.dst 1) w5 (by omega) (by omega) ho5.read hl5; (with_reducible refine hq.mono ?_); rintro e w6 ⟨v6, rfl, ho6, hb6⟩; have hx6 := hx5.below hb6; have hc6 := hx6.cell))
  have HW6 := bl_then (bl_then (bl_then (bl_then hb1 hb2) hb3) (bl_of_drew hb4)) (bl_then hb5 hb6)
  have hr6 := ho6.read
  clear hb1 hb2 hb3 hb4 hb5 hb6 hx3 hx4 hx5 hc3 hc4 hc5 ho3 ho4 ho5 ho6 hl3 hl4 hl5
  have hl6 : (putN m.kind 1 ++ putN m.src 1 ++ putN m.dst 1 ++ putN m.vol 1).length ≤ 100000000 := by simp [putN_length]
  go_wp2_with (first
    | (go_at_call 61; have hq := vec_put m.seen v6 (putN m.kind 1 ++ putN m.src 1 ++ putN m.dst 1 ++ putN m.vol 1) w6 hr6 hl6; (with_reducible refine hq.mono ?_); rintro e w7 ⟨v7, rfl, hr7, hb7⟩; have hr7 : encB.R w7 v7 m.headBytes := hr7; have hx7 := hx6.below hb7; have HW7 := bl_then HW6 hb7; have hc7 := hx7.cell; clear hc6 hr6 hl6 hx6 HW6))
  have hl8 : (m.headBytes).length ≤ 100000000 := by simp [Msg.headBytes_length]
  have hl9 : (m.headBytes ++ putN m.base.boot 6 ++ putN m.base.n 6).length ≤ 100000000 := by simp [putN_length, Msg.headBytes_length]
  have hl10 : (m.headBytes ++ putN m.base.boot 6 ++ putN m.base.n 6 ++ putN m.mark.boot 6 ++ putN m.mark.n 6).length ≤ 1000000000 := by simp [putN_length, Msg.headBytes_length]
  go_region_held3 (fun w' => ∀ j, w'.cell? ⟨g1, j, none⟩ = m.arr[j]?) (first | assumption)
    (first
      | (go_at_call 62; have hq := put_mark m.base.boot m.base.n v7 (m.headBytes) w7.drew hr7 hl8; (with_reducible refine hq.mono ?_); rintro e w8 ⟨v8, rfl, ho8, hb8⟩; have hx8 := hx7.below (bl_of_drew hb8); have hc8 := hx8.cell)
      | (go_at_call 62; have hq := put_mark m.mark.boot m.mark.n v8 (m.headBytes ++ putN m.base.boot 6 ++ putN m.base.n 6) w8 ho8.read hl9; (with_reducible refine hq.mono ?_); rintro e w9 ⟨v9, rfl, ho9, hb9⟩; have hx9 := hx8.below hb9; have hc9 := hx9.cell)
      | (go_at_call 60; have hq := oct_put m.index 2 v9 (m.headBytes ++ putN m.base.boot 6 ++ putN m.base.n 6 ++ putN m.mark.boot 6 ++ putN m.mark.n 6) w9 (by omega) (by omega) ho9.read hl10; (with_reducible refine hq.mono ?_); rintro e w10 ⟨v10, rfl, ho10, hb10⟩; have hx10 := hx9.below hb10; have hc10 := hx10.cell))
  have HW := bl_then (bl_then (bl_then HW7 (bl_of_drew hb8)) hb9) hb10
  have hconv := conv_bytes (l := m.headBytes ++ putN m.base.boot 6 ++ putN m.base.n 6 ++ putN m.mark.boot 6 ++ putN m.mark.n 6 ++ putN m.index 2) (by simpa using ho10.read) 54 9 5 Tryd.underlying54 Tryd.underlying5 Tryd.underlying9
  rw [← HB.out] at hconv
  have hsz : (⟨m.bytes.toArray⟩ : ByteArray).size ≤ 10000000000 := by show m.bytes.toArray.size ≤ _; rw [List.size_toArray]; have := HL.out; omega
  clear HB hb8 hb9 hb10 hx7 hx8 hx9 hx10 hc7 hc8 hc9 hc10 ho8 ho9 ho10 hr7 hl8 hl9 hl10 HW7
  have hss : Calls Tryd.prog 64 #[.string ⟨m.bytes.toArray⟩] w10 fun e w' => e = .returned (.string ⟨(sealed m.bytes).toArray⟩) ∧ Below w10.heap.size w10 w' := crc_seal ⟨m.bytes.toArray⟩ w10 hsz
  have HS := hide hss
  clear hss hsz
  go_wp2_with (first | (go_at_call 64; (with_reducible refine (unhide HS).mono ?_); rintro e w20 ⟨rfl, hb20⟩))
  go_ret2
  exact ⟨rfl, bl_then HW hb20⟩
theorem msg_put2 (m : Msg) (w : World) (hok : m.ok = true) (hk : m.kind = 2) (hd : m.data.size ≤ 512) :
    Calls Tryd.prog 25 #[m.val] w fun e w' => e = .returned (.tuple #[.string ⟨(sealed m.bytes).toArray⟩, .int .i64 0]) ∧ Below w.heap.size w w' := by
  have HC : Hid (m.code = 0) := Lib.hid (by simp [Msg.code, hok])
  have HB : Hid (m.bytes = m.headBytes ++ putN m.base.boot 6 ++ putN m.base.n 6 ++ putN m.mark.boot 6 ++ putN m.mark.n 6 ++ putN m.index 2 ++ putN m.total 2 ++ putN m.data.size 2 ++ m.data.data.toList) := Lib.hid (by simp [Msg.bytes, hk, Mk.bytes])
  have HL : Hid (m.bytes.length ≤ 1000) := Lib.hid (m.bytes_le (by intro h; first | omega | (rw [hk] at h; cases h)))
  have b1 : (m.kind == 1) = false := by simp [hk]
  have b2 : (m.kind == 2) = true := by simp [hk]
  clear hok hk
  go_enter Tryd.func25, Tryd.ntmps25
  go_wp2_with (first
    | ((with_reducible refine gate (N := 1) rfl ?_); refine ev_box rfl 41 (.tmp 0) rfl (cs := m.arr) rfl ?_; intro g1 w1 hx1 hb1 hg1 hl1)
    | ((with_reducible refine gate (N := 6) rfl ?_); refine ev_load rfl 41 (.tmp 1) rfl rfl hx1 aggMsg sizeMsg ?_)
    | (go_at_call 17; (with_reducible refine (msg_check m _).mono ?_); rintro e w2 ⟨rfl, hb2⟩; rw [HC.out]; have hx2 := hx1.below hb2; have hc2 := hx2.cell)
    | (go_at_call 60; have hq := oct_put m.kind 1 (.slice none 0 0) [] w2 (by omega) (by omega) (nil_read _) (by simp); (with_reducible refine hq.mono ?_); rintro e w3 ⟨v3, rfl, ho3, hb3⟩; have hx3 := hx2.below hb3; clear hc2; have hc3 := hx3.cell))
  simp only [List.nil_append, show (1 : Int).toNat = 1 from rfl] at ho3
  have hl3 : (putN m.kind 1).length ≤ 1000000000 := by simp [putN_length]
  have hl4 : (putN m.kind 1 ++ putN m.src 1).length ≤ 1000000000 := by simp [putN_length]
  have hl5 : (putN m.kind 1 ++ putN m.src 1 ++ putN m.dst 1).length ≤ 1000000000 := by simp [putN_length]
  clear hx1 hx2
  go_region_held3 (fun w' => ∀ j, w'.cell? ⟨g1, j, none⟩ = m.arr[j]?) (first | assumption)
    (first
      | (go_at_call 60; have hq := oct_put m.src 1 v3 (putN m.kind 1) w3.drew (by omega) (by omega) ho3.read hl3; (with_reducible refine hq.mono ?_); rintro e w4 ⟨v4, rfl, ho4, hb4⟩; have hx4 := hx3.below (bl_of_drew hb4); have hc4 := hx4.cell)
      | (go_at_call 60; have hq := oct_put m.dst 1 v4 (putN m.kind 1 ++ putN m.src 1) w4 (by omega) (by omega) ho4.read hl4; (with_reducible refine hq.mono ?_); rintro e w5 ⟨v5, rfl, ho5, hb5⟩; have hx5 := hx4.below hb5; have hc5 := hx5.cell)
      | (go_at_call 60; have hq := oct_put m.vol 1 v5 (putN m.kind 1 ++ putN m.src 1 ++ putN m.dst 1) w5 (by omega) (by omega) ho5.read hl5; (with_reducible refine hq.mono ?_); rintro e w6 ⟨v6, rfl, ho6, hb6⟩; have hx6 := hx5.below hb6; have hc6 := hx6.cell))
  have HW6 := bl_then (bl_then (bl_then (bl_then hb1 hb2) hb3) (bl_of_drew hb4)) (bl_then hb5 hb6)
  have hr6 := ho6.read
  clear hb1 hb2 hb3 hb4 hb5 hb6 hx3 hx4 hx5 hc3 hc4 hc5 ho3 ho4 ho5 ho6 hl3 hl4 hl5
  have hl6 : (putN m.kind 1 ++ putN m.src 1 ++ putN m.dst 1 ++ putN m.vol 1).length ≤ 100000000 := by simp [putN_length]
  go_wp2_with (first
    | (go_at_call 61; have hq := vec_put m.seen v6 (putN m.kind 1 ++ putN m.src 1 ++ putN m.dst 1 ++ putN m.vol 1) w6 hr6 hl6; (with_reducible refine hq.mono ?_); rintro e w7 ⟨v7, rfl, hr7, hb7⟩; have hr7 : encB.R w7 v7 m.headBytes := hr7; have hx7 := hx6.below hb7; have HW7 := bl_then HW6 hb7; have hc7 := hx7.cell; clear hc6 hr6 hl6 hx6 HW6))
  have hl8 : (m.headBytes).length ≤ 100000000 := by simp [Msg.headBytes_length]
  have hl9 : (m.headBytes ++ putN m.base.boot 6 ++ putN m.base.n 6).length ≤ 100000000 := by simp [putN_length, Msg.headBytes_length]
  have hl10 : (m.headBytes ++ putN m.base.boot 6 ++ putN m.base.n 6 ++ putN m.mark.boot 6 ++ putN m.mark.n 6).length ≤ 1000000000 := by simp [putN_length, Msg.headBytes_length]
  have hl11 : (m.headBytes ++ putN m.base.boot 6 ++ putN m.base.n 6 ++ putN m.mark.boot 6 ++ putN m.mark.n 6 ++ putN m.index 2).length ≤ 1000000000 := by simp [putN_length, Msg.headBytes_length]
  have hl12 : (m.headBytes ++ putN m.base.boot 6 ++ putN m.base.n 6 ++ putN m.mark.boot 6 ++ putN m.mark.n 6 ++ putN m.index 2 ++ putN m.total 2).length ≤ 100000000 := by simp [putN_length, Msg.headBytes_length]
  go_region_held3 (fun w' => ∀ j, w'.cell? ⟨g1, j, none⟩ = m.arr[j]?) (first | assumption)
    (first
      | (go_at_call 62; have hq := put_mark m.base.boot m.base.n v7 (m.headBytes) w7.drew hr7 hl8; (with_reducible refine hq.mono ?_); rintro e w8 ⟨v8, rfl, ho8, hb8⟩; have hx8 := hx7.below (bl_of_drew hb8); have hc8 := hx8.cell)
      | (go_at_call 62; have hq := put_mark m.mark.boot m.mark.n v8 (m.headBytes ++ putN m.base.boot 6 ++ putN m.base.n 6) w8 ho8.read hl9; (with_reducible refine hq.mono ?_); rintro e w9 ⟨v9, rfl, ho9, hb9⟩; have hx9 := hx8.below hb9; have hc9 := hx9.cell)
      | (go_at_call 60; have hq := oct_put m.index 2 v9 (m.headBytes ++ putN m.base.boot 6 ++ putN m.base.n 6 ++ putN m.mark.boot 6 ++ putN m.mark.n 6) w9 (by omega) (by omega) ho9.read hl10; (with_reducible refine hq.mono ?_); rintro e w10 ⟨v10, rfl, ho10, hb10⟩; have hx10 := hx9.below hb10; have hc10 := hx10.cell)
      | (go_at_call 60; have hq := oct_put m.total 2 v10 (m.headBytes ++ putN m.base.boot 6 ++ putN m.base.n 6 ++ putN m.mark.boot 6 ++ putN m.mark.n 6 ++ putN m.index 2) w10 (by omega) (by omega) ho10.read hl11; (with_reducible refine hq.mono ?_); rintro e w11 ⟨v11, rfl, ho11, hb11⟩; have hx11 := hx10.below hb11; have hc11 := hx11.cell))
  have HW := bl_then (bl_then (bl_then (bl_then HW7 (bl_of_drew hb8)) hb9) hb10) hb11
  have hr11 : encB.R w11 v11 (m.headBytes ++ putN m.base.boot 6 ++ putN m.base.n 6 ++ putN m.mark.boot 6 ++ putN m.mark.n 6 ++ putN m.index 2 ++ putN m.total 2) := by simpa using ho11.read
  clear hb8 hb9 hb10 hb11 hx7 hx8 hx9 hx10 hc7 hc8 hc9 hc10 ho8 ho9 ho10 ho11 hr7 hl8 hl9 hl10 hl11 HW7
  go_wp2_with (first
    | (go_at_call 63; have hq := oct_text v11 m.data (m.headBytes ++ putN m.base.boot 6 ++ putN m.base.n 6 ++ putN m.mark.boot 6 ++ putN m.mark.n 6 ++ putN m.index 2 ++ putN m.total 2) w11 (by omega) hr11 hl12; (with_reducible refine hq.mono ?_); rintro e w12 ⟨v12, rfl, ho12, hb12⟩; have hx12 := hx11.below hb12; have HW12 := bl_then HW hb12; have hr12 := ho12.read; clear hc11 hx11 HW hr11 hl12 ho12; refine stop ?_))
  unfold Stop
  have hconv := conv_bytes (l := m.headBytes ++ putN m.base.boot 6 ++ putN m.base.n 6 ++ putN m.mark.boot 6 ++ putN m.mark.n 6 ++ putN m.index 2 ++ putN m.total 2 ++ putN m.data.size 2 ++ m.data.data.toList) hr12 54 9 5 Tryd.underlying54 Tryd.underlying5 Tryd.underlying9
  rw [← HB.out] at hconv
  have hsz : (⟨m.bytes.toArray⟩ : ByteArray).size ≤ 10000000000 := by show m.bytes.toArray.size ≤ _; rw [List.size_toArray]; have := HL.out; omega
  clear HB hb12 hx12 hr12
  have hss : Calls Tryd.prog 64 #[.string ⟨m.bytes.toArray⟩] w12 fun e w' => e = .returned (.string ⟨(sealed m.bytes).toArray⟩) ∧ Below w12.heap.size w12 w' := crc_seal ⟨m.bytes.toArray⟩ w12 hsz
  have HS := hide hss
  clear hss hsz
  go_wp2_with (first | (go_at_call 64; (with_reducible refine (unhide HS).mono ?_); rintro e w20 ⟨rfl, hb20⟩))
  go_ret2
  exact ⟨rfl, bl_then HW12 hb20⟩
theorem msg_put4 (m : Msg) (w : World) (hok : m.ok = true) (hk : m.kind = 4) :
    Calls Tryd.prog 25 #[m.val] w fun e w' => e = .returned (.tuple #[.string ⟨(sealed m.bytes).toArray⟩, .int .i64 0]) ∧ Below w.heap.size w w' := by
  have HC : Hid (m.code = 0) := Lib.hid (by simp [Msg.code, hok])
  have HB : Hid (m.bytes = m.headBytes ++ putN m.mark.boot 6 ++ putN m.mark.n 6) := Lib.hid (by simp [Msg.bytes, hk, Mk.bytes])
  have HL : Hid (m.bytes.length ≤ 1000) := Lib.hid (m.bytes_le (by intro h; first | omega | (rw [hk] at h; cases h)))
  have b1 : (m.kind == 1) = false := by simp [hk]
  have b2 : (m.kind == 2) = false := by simp [hk]
  have b4 : (m.kind == 4) = true := by simp [hk]
  clear hok hk
  go_enter Tryd.func25, Tryd.ntmps25
  go_wp2_with (first
    | ((with_reducible refine gate (N := 1) rfl ?_); refine ev_box rfl 41 (.tmp 0) rfl (cs := m.arr) rfl ?_; intro g1 w1 hx1 hb1 hg1 hl1)
    | ((with_reducible refine gate (N := 6) rfl ?_); refine ev_load rfl 41 (.tmp 1) rfl rfl hx1 aggMsg sizeMsg ?_)
    | (go_at_call 17; (with_reducible refine (msg_check m _).mono ?_); rintro e w2 ⟨rfl, hb2⟩; rw [HC.out]; have hx2 := hx1.below hb2; have hc2 := hx2.cell)
    | (go_at_call 60; have hq := oct_put m.kind 1 (.slice none 0 0) [] w2 (by omega) (by omega) (nil_read _) (by simp); (with_reducible refine hq.mono ?_); rintro e w3 ⟨v3, rfl, ho3, hb3⟩; have hx3 := hx2.below hb3; clear hc2; have hc3 := hx3.cell))
  simp only [List.nil_append, show (1 : Int).toNat = 1 from rfl] at ho3
  have hl3 : (putN m.kind 1).length ≤ 1000000000 := by simp [putN_length]
  have hl4 : (putN m.kind 1 ++ putN m.src 1).length ≤ 1000000000 := by simp [putN_length]
  have hl5 : (putN m.kind 1 ++ putN m.src 1 ++ putN m.dst 1).length ≤ 1000000000 := by simp [putN_length]
  clear hx1 hx2
  go_region_held3 (fun w' => ∀ j, w'.cell? ⟨g1, j, none⟩ = m.arr[j]?) (first | assumption)
    (first
      | (go_at_call 60; have hq := oct_put m.src 1 v3 (putN m.kind 1) w3.drew (by omega) (by omega) ho3.read hl3; (with_reducible refine hq.mono ?_); rintro e w4 ⟨v4, rfl, ho4, hb4⟩; have hx4 := hx3.below (bl_of_drew hb4); have hc4 := hx4.cell)
      | (go_at_call 60; have hq := oct_put m.dst 1 v4 (putN m.kind 1 ++ putN m.src 1) w4 (by omega) (by omega) ho4.read hl4; (with_reducible refine hq.mono ?_); rintro e w5 ⟨v5, rfl, ho5, hb5⟩; have hx5 := hx4.below hb5; have hc5 := hx5.cell)
      | (go_at_call 60; have hq := oct_put m.vol 1 v5 (putN m.kind 1 ++ putN m.src 1 ++ putN m.dst 1) w5 (by omega) (by omega) ho5.read hl5; (with_reducible refine hq.mono ?_); rintro e w6 ⟨v6, rfl, ho6, hb6⟩; have hx6 := hx5.below hb6; have hc6 := hx6.cell))
  have HW6 := bl_then (bl_then (bl_then (bl_then hb1 hb2) hb3) (bl_of_drew hb4)) (bl_then hb5 hb6)
  have hr6 := ho6.read
  clear hb1 hb2 hb3 hb4 hb5 hb6 hx3 hx4 hx5 hc3 hc4 hc5 ho3 ho4 ho5 ho6 hl3 hl4 hl5
  have hl6 : (putN m.kind 1 ++ putN m.src 1 ++ putN m.dst 1 ++ putN m.vol 1).length ≤ 100000000 := by simp [putN_length]
  go_wp2_with (first
    | (go_at_call 61; have hq := vec_put m.seen v6 (putN m.kind 1 ++ putN m.src 1 ++ putN m.dst 1 ++ putN m.vol 1) w6 hr6 hl6; (with_reducible refine hq.mono ?_); rintro e w7 ⟨v7, rfl, hr7, hb7⟩; have hr7 : encB.R w7 v7 m.headBytes := hr7; have hx7 := hx6.below hb7; have HW7 := bl_then HW6 hb7; have hc7 := hx7.cell; clear hc6 hr6 hl6 hx6 HW6)
    | (go_at_call 62; have hq := put_mark m.mark.boot m.mark.n v7 m.headBytes w7 hr7 (by rw [Msg.headBytes_length]; omega); (with_reducible refine hq.mono ?_); rintro e w8 ⟨v8, rfl, ho8, hb8⟩; have HW8 := bl_then HW7 hb8; have hr8 := ho8.read; clear hc7 hx7 HW7 hr7 ho8; refine stop ?_))
  unfold Stop
  have hconv := conv_bytes (l := m.headBytes ++ putN m.mark.boot 6 ++ putN m.mark.n 6) hr8 54 9 5 Tryd.underlying54 Tryd.underlying5 Tryd.underlying9
  rw [← HB.out] at hconv
  have hsz : (⟨m.bytes.toArray⟩ : ByteArray).size ≤ 10000000000 := by show m.bytes.toArray.size ≤ _; rw [List.size_toArray]; have := HL.out; omega
  clear HB hb8 hb7 hr8
  have hss : Calls Tryd.prog 64 #[.string ⟨m.bytes.toArray⟩] w8 fun e w' => e = .returned (.string ⟨(sealed m.bytes).toArray⟩) ∧ Below w8.heap.size w8 w' := crc_seal ⟨m.bytes.toArray⟩ w8 hsz
  have HS := hide hss
  clear hss hsz
  go_wp2_with (first | (go_at_call 64; (with_reducible refine (unhide HS).mono ?_); rintro e w20 ⟨rfl, hb20⟩))
  go_ret2
  exact ⟨rfl, bl_then HW8 hb20⟩
theorem msg_put3 (m : Msg) (w : World) (hok : m.ok = true) (hk : m.kind = 3) :
    Calls Tryd.prog 25 #[m.val] w fun e w' => e = .returned (.tuple #[.string ⟨(sealed m.bytes).toArray⟩, .int .i64 0]) ∧ Below w.heap.size w w' := by
  have HC : Hid (m.code = 0) := Lib.hid (by simp [Msg.code, hok])
  have HB : Hid (m.bytes = m.headBytes) := Lib.hid (by simp [Msg.bytes, hk])
  have HL : Hid (m.bytes.length ≤ 1000) := Lib.hid (m.bytes_le (by intro h; first | omega | (rw [hk] at h; cases h)))
  have b1 : (m.kind == 1) = false := by simp [hk]
  have b2 : (m.kind == 2) = false := by simp [hk]
  have b4 : (m.kind == 4) = false := by simp [hk]
  clear hok hk
  go_enter Tryd.func25, Tryd.ntmps25
  go_wp2_with (first
    | ((with_reducible refine gate (N := 1) rfl ?_); refine ev_box rfl 41 (.tmp 0) rfl (cs := m.arr) rfl ?_; intro g1 w1 hx1 hb1 hg1 hl1)
    | ((with_reducible refine gate (N := 6) rfl ?_); refine ev_load rfl 41 (.tmp 1) rfl rfl hx1 aggMsg sizeMsg ?_)
    | (go_at_call 17; (with_reducible refine (msg_check m _).mono ?_); rintro e w2 ⟨rfl, hb2⟩; rw [HC.out]; have hx2 := hx1.below hb2; have hc2 := hx2.cell)
    | (go_at_call 60; have hq := oct_put m.kind 1 (.slice none 0 0) [] w2 (by omega) (by omega) (nil_read _) (by simp); (with_reducible refine hq.mono ?_); rintro e w3 ⟨v3, rfl, ho3, hb3⟩; have hx3 := hx2.below hb3; clear hc2; have hc3 := hx3.cell))
  simp only [List.nil_append, show (1 : Int).toNat = 1 from rfl] at ho3
  have hl3 : (putN m.kind 1).length ≤ 1000000000 := by simp [putN_length]
  have hl4 : (putN m.kind 1 ++ putN m.src 1).length ≤ 1000000000 := by simp [putN_length]
  have hl5 : (putN m.kind 1 ++ putN m.src 1 ++ putN m.dst 1).length ≤ 1000000000 := by simp [putN_length]
  clear hx1 hx2
  go_region_held3 (fun w' => ∀ j, w'.cell? ⟨g1, j, none⟩ = m.arr[j]?) (first | assumption)
    (first
      | (go_at_call 60; have hq := oct_put m.src 1 v3 (putN m.kind 1) w3.drew (by omega) (by omega) ho3.read hl3; (with_reducible refine hq.mono ?_); rintro e w4 ⟨v4, rfl, ho4, hb4⟩; have hx4 := hx3.below (bl_of_drew hb4); have hc4 := hx4.cell)
      | (go_at_call 60; have hq := oct_put m.dst 1 v4 (putN m.kind 1 ++ putN m.src 1) w4 (by omega) (by omega) ho4.read hl4; (with_reducible refine hq.mono ?_); rintro e w5 ⟨v5, rfl, ho5, hb5⟩; have hx5 := hx4.below hb5; have hc5 := hx5.cell)
      | (go_at_call 60; have hq := oct_put m.vol 1 v5 (putN m.kind 1 ++ putN m.src 1 ++ putN m.dst 1) w5 (by omega) (by omega) ho5.read hl5; (with_reducible refine hq.mono ?_); rintro e w6 ⟨v6, rfl, ho6, hb6⟩; have hx6 := hx5.below hb6; have hc6 := hx6.cell))
  have HW6 := bl_then (bl_then (bl_then (bl_then hb1 hb2) hb3) (bl_of_drew hb4)) (bl_then hb5 hb6)
  have hr6 := ho6.read
  clear hb1 hb2 hb3 hb4 hb5 hb6 hx3 hx4 hx5 hc3 hc4 hc5 ho3 ho4 ho5 ho6 hl3 hl4 hl5
  have hl6 : (putN m.kind 1 ++ putN m.src 1 ++ putN m.dst 1 ++ putN m.vol 1).length ≤ 100000000 := by simp [putN_length]
  go_wp2_with (first
    | (go_at_call 61; have hq := vec_put m.seen v6 (putN m.kind 1 ++ putN m.src 1 ++ putN m.dst 1 ++ putN m.vol 1) w6 hr6 hl6; (with_reducible refine hq.mono ?_); rintro e w7 ⟨v7, rfl, hr7, hb7⟩; have hr7 : encB.R w7 v7 m.headBytes := hr7; have hx7 := hx6.below hb7; have HW7 := bl_then HW6 hb7; have hc7 := hx7.cell; clear hc6 hr6 hl6 hx6 HW6; refine stop ?_))
  unfold Stop
  have hconv := conv_bytes (l := m.headBytes) hr7 54 9 5 Tryd.underlying54 Tryd.underlying5 Tryd.underlying9
  rw [← HB.out] at hconv
  have hsz : (⟨m.bytes.toArray⟩ : ByteArray).size ≤ 10000000000 := by show m.bytes.toArray.size ≤ _; rw [List.size_toArray]; have := HL.out; omega
  clear HB hb7 hr7 hx7
  have hss : Calls Tryd.prog 64 #[.string ⟨m.bytes.toArray⟩] w7 fun e w' => e = .returned (.string ⟨(sealed m.bytes).toArray⟩) ∧ Below w7.heap.size w7 w' := crc_seal ⟨m.bytes.toArray⟩ w7 hsz
  have HS := hide hss
  clear hss hsz
  go_wp2_with (first | (go_at_call 64; (with_reducible refine (unhide HS).mono ?_); rintro e w20 ⟨rfl, hb20⟩))
  go_ret2
  exact ⟨rfl, bl_then HW7 hb20⟩
theorem msg_putNo (m : Msg) (w : World) (hok : m.ok = false) :
    Calls Tryd.prog 25 #[m.val] w fun e w' => e = .returned (.tuple #[.string ⟨#[]⟩, .int .i64 201]) ∧ Below w.heap.size w w' := by
  have HC : Hid (m.code = 201) := Lib.hid (by simp [Msg.code, hok])
  clear hok
  go_enter Tryd.func25, Tryd.ntmps25
  go_wp2_with (first
    | ((with_reducible refine gate (N := 1) rfl ?_); refine ev_box rfl 41 (.tmp 0) rfl (cs := m.arr) rfl ?_; intro g1 w1 hx1 hb1 hg1 hl1)
    | ((with_reducible refine gate (N := 6) rfl ?_); refine ev_load rfl 41 (.tmp 1) rfl rfl hx1 aggMsg sizeMsg ?_)
    | (go_at_call 17; (with_reducible refine (msg_check m _).mono ?_); rintro e w2 ⟨rfl, hb2⟩; rw [HC.out]))
  go_ret2
  exact ⟨rfl, bl_then hb1 hb2⟩
theorem Msg.ok_data (m : Msg) (h : m.ok = true) (hk : m.kind = 2) : m.data.size ≤ 512 := by
  simp [Msg.ok, Msg.kindOk, hk] at h; omega
theorem Msg.ok_kind (m : Msg) (h : m.ok = true) : 1 ≤ m.kind ∧ m.kind ≤ 4 := by
  simp [Msg.ok, Msg.head] at h; omega
/-- Put: bytes, sealed, or an error. -/
theorem msg_put (m : Msg) (w : World) (hok : m.ok = true) :
    Calls Tryd.prog 25 #[m.val] w fun e w' => e = .returned (.tuple #[.string ⟨(sealed m.bytes).toArray⟩, .int .i64 0]) ∧ Below w.heap.size w w' := by
  have hk := m.ok_kind hok
  by_cases k1 : m.kind = 1
  · exact msg_put1 m w hok k1
  · by_cases k2 : m.kind = 2
    · exact msg_put2 m w hok k2 (m.ok_data hok k2)
    · by_cases k4 : m.kind = 4
      · exact msg_put4 m w hok k4
      · exact msg_put3 m w hok (by omega)
end Go.Proofs.YtbkffeabikjnhaaDoor

/- The document's messages (crannogref18): none, mark, Bare, Check: what the program's say. -/
namespace Go.Proofs.YtbkffeabikjnhaaDoor
open Go.RowKit

theorem ret_b {a b : Bool} (h : a = b) : Ending.returned (.bool a) = .returned (.bool b) := by rw [h]
theorem ref_none (m : Mk) (w : World) :
    Calls Tryd.prog 54 #[m.val] w fun e w' => e = .returned (.bool (decide (m = ⟨0, 0⟩))) ∧ Below w.heap.size w w' := by
  obtain ⟨b, n⟩ := m
  have hL := Loc.nil w NoM
  by_cases hb : b = 0
  · have hb' : (b == 0) = true := by simp [hb]
    have HB := Lib.hid hb
    clear hb
    go_enter Tryd.func54, Tryd.ntmps54
    go_wp2_with (first | ((with_reducible refine gAlloc rfl rfl ?_); (refine ev_allocL rfl hL rfl (by first | exact cells_agg _ rfl | exact cells_int _ _ | exact cells_str _ | exact cells_bool _ | exact cells_slice _ _ _ | exact cells_ptr _ | exact cells_map _ | exact cells_func _ _ _ | exact cells_nilFunc | exact cells_one (by assumption) (by assumption)) ?_; clear hL; intro gq wq hL)) | ((with_reducible refine gBox rfl rfl ?_); (refine ev_boxL rfl hL rfl rfl (by first | exact cells_agg _ rfl | exact cells_int _ _ | exact cells_str _ | exact cells_bool _ | exact cells_slice _ _ _ | exact cells_ptr _ | exact cells_map _ | exact cells_func _ _ _ | exact cells_nilFunc | exact cells_one (by assumption) (by assumption)) ?_; clear hL; intro gq wq hL)) | ((with_reducible refine gLoad rfl rfl ?_); (first | (refine ev_load1L rfl hL rfl rfl HasV.mem (by rfl) ?_) | (refine ev_loadAllL rfl hL rfl rfl HasV.mem (by rfl) ?_) | (refine ev_loadL rfl hL rfl rfl HasV.mem SegC.seg ?_))) | ((with_reducible refine gStore rfl rfl ?_); (first | (refine ev_storeC rfl hL rfl rfl rfl (by first | exact cells_agg _ rfl | exact cells_int _ _ | exact cells_str _ | exact cells_bool _ | exact cells_slice _ _ _ | exact cells_ptr _ | exact cells_map _ | exact cells_func _ _ _ | exact cells_nilFunc | exact cells_one (by assumption) (by assumption)) (by rfl) ?_) | (refine ev_storeAllC rfl hL rfl rfl rfl (by first | exact cells_agg _ rfl | exact cells_int _ _ | exact cells_str _ | exact cells_bool _ | exact cells_slice _ _ _ | exact cells_ptr _ | exact cells_map _ | exact cells_func _ _ _ | exact cells_nilFunc | exact cells_one (by assumption) (by assumption)) (by rfl) (by rfl) ?_)); clear hL; intro wq hL) | ((with_reducible refine gLoadG rfl rfl ?_ ?_); (exact wanted_some rfl rfl rfl (by with_reducible rfl)); (first | (refine ev_load1G (wanted_some rfl rfl rfl rfl) hL rfl rfl HasV.mem (by rfl) ?_) | (refine ev_loadAllG (wanted_some rfl rfl rfl rfl) hL rfl rfl HasV.mem (by rfl) ?_) | (refine ev_loadG_ (wanted_some rfl rfl rfl rfl) hL rfl rfl HasV.mem SegC.seg ?_))))
    go_ret
    exact ⟨ret_b (by have hb := HB.out; subst hb; rw [Bool.eq_iff_iff]; simp), hL.below⟩
  · have hb' : (b == 0) = false := by simp [hb]
    go_enter Tryd.func54, Tryd.ntmps54
    go_wp2_with (first | ((with_reducible refine gAlloc rfl rfl ?_); (refine ev_allocL rfl hL rfl (by first | exact cells_agg _ rfl | exact cells_int _ _ | exact cells_str _ | exact cells_bool _ | exact cells_slice _ _ _ | exact cells_ptr _ | exact cells_map _ | exact cells_func _ _ _ | exact cells_nilFunc | exact cells_one (by assumption) (by assumption)) ?_; clear hL; intro gq wq hL)) | ((with_reducible refine gBox rfl rfl ?_); (refine ev_boxL rfl hL rfl rfl (by first | exact cells_agg _ rfl | exact cells_int _ _ | exact cells_str _ | exact cells_bool _ | exact cells_slice _ _ _ | exact cells_ptr _ | exact cells_map _ | exact cells_func _ _ _ | exact cells_nilFunc | exact cells_one (by assumption) (by assumption)) ?_; clear hL; intro gq wq hL)) | ((with_reducible refine gLoad rfl rfl ?_); (first | (refine ev_load1L rfl hL rfl rfl HasV.mem (by rfl) ?_) | (refine ev_loadAllL rfl hL rfl rfl HasV.mem (by rfl) ?_) | (refine ev_loadL rfl hL rfl rfl HasV.mem SegC.seg ?_))) | ((with_reducible refine gStore rfl rfl ?_); (first | (refine ev_storeC rfl hL rfl rfl rfl (by first | exact cells_agg _ rfl | exact cells_int _ _ | exact cells_str _ | exact cells_bool _ | exact cells_slice _ _ _ | exact cells_ptr _ | exact cells_map _ | exact cells_func _ _ _ | exact cells_nilFunc | exact cells_one (by assumption) (by assumption)) (by rfl) ?_) | (refine ev_storeAllC rfl hL rfl rfl rfl (by first | exact cells_agg _ rfl | exact cells_int _ _ | exact cells_str _ | exact cells_bool _ | exact cells_slice _ _ _ | exact cells_ptr _ | exact cells_map _ | exact cells_func _ _ _ | exact cells_nilFunc | exact cells_one (by assumption) (by assumption)) (by rfl) (by rfl) ?_)); clear hL; intro wq hL) | ((with_reducible refine gLoadG rfl rfl ?_ ?_); (exact wanted_some rfl rfl rfl (by with_reducible rfl)); (first | (refine ev_load1G (wanted_some rfl rfl rfl rfl) hL rfl rfl HasV.mem (by rfl) ?_) | (refine ev_loadAllG (wanted_some rfl rfl rfl rfl) hL rfl rfl HasV.mem (by rfl) ?_) | (refine ev_loadG_ (wanted_some rfl rfl rfl rfl) hL rfl rfl HasV.mem SegC.seg ?_))))
    go_ret
    exact ⟨ret_b (by simp [hb]), hL.below⟩
theorem ref_mark (m : Mk) (w : World) :
    Calls Tryd.prog 53 #[m.val] w fun e w' => e = .returned (.bool m.ok) ∧ Below w.heap.size w w' := by
  have hL := Loc.nil w NoM
  have hn := fun w => hide (ref_none m w)
  by_cases h0 : m = ⟨0, 0⟩
  · have hd : decide (m = ⟨0, 0⟩) = true := by simp [h0]
    rw [hd] at hn
    have H := Lib.hid h0
    clear h0
    go_enter Tryd.func53, Tryd.ntmps53
    go_wp2_with (first | ((with_reducible refine gAlloc rfl rfl ?_); (refine ev_allocL rfl hL rfl (by first | exact cells_agg _ rfl | exact cells_int _ _ | exact cells_str _ | exact cells_bool _ | exact cells_slice _ _ _ | exact cells_ptr _ | exact cells_map _ | exact cells_func _ _ _ | exact cells_nilFunc | exact cells_one (by assumption) (by assumption)) ?_; clear hL; intro gq wq hL)) | ((with_reducible refine gBox rfl rfl ?_); (refine ev_boxL rfl hL rfl rfl (by first | exact cells_agg _ rfl | exact cells_int _ _ | exact cells_str _ | exact cells_bool _ | exact cells_slice _ _ _ | exact cells_ptr _ | exact cells_map _ | exact cells_func _ _ _ | exact cells_nilFunc | exact cells_one (by assumption) (by assumption)) ?_; clear hL; intro gq wq hL)) | ((with_reducible refine gLoad rfl rfl ?_); (first | (refine ev_load1L rfl hL rfl rfl HasV.mem (by rfl) ?_) | (refine ev_loadAllL rfl hL rfl rfl HasV.mem (by rfl) ?_) | (refine ev_loadL rfl hL rfl rfl HasV.mem SegC.seg ?_))) | ((with_reducible refine gStore rfl rfl ?_); (first | (refine ev_storeC rfl hL rfl rfl rfl (by first | exact cells_agg _ rfl | exact cells_int _ _ | exact cells_str _ | exact cells_bool _ | exact cells_slice _ _ _ | exact cells_ptr _ | exact cells_map _ | exact cells_func _ _ _ | exact cells_nilFunc | exact cells_one (by assumption) (by assumption)) (by rfl) ?_) | (refine ev_storeAllC rfl hL rfl rfl rfl (by first | exact cells_agg _ rfl | exact cells_int _ _ | exact cells_str _ | exact cells_bool _ | exact cells_slice _ _ _ | exact cells_ptr _ | exact cells_map _ | exact cells_func _ _ _ | exact cells_nilFunc | exact cells_one (by assumption) (by assumption)) (by rfl) (by rfl) ?_)); clear hL; intro wq hL) | ((with_reducible refine gLoadG rfl rfl ?_ ?_); (exact wanted_some rfl rfl rfl (by with_reducible rfl)); (first | (refine ev_load1G (wanted_some rfl rfl rfl rfl) hL rfl rfl HasV.mem (by rfl) ?_) | (refine ev_loadAllG (wanted_some rfl rfl rfl rfl) hL rfl rfl HasV.mem (by rfl) ?_) | (refine ev_loadG_ (wanted_some rfl rfl rfl rfl) hL rfl rfl HasV.mem SegC.seg ?_))) | (go_at_call 54; (with_reducible refine (unhide (hn _)).mono ?_); rintro e w1 ⟨rfl, hb1⟩; have hL := hL.call hb1))
    go_ret
    exact ⟨ret_b (by rw [H.out]; rfl), hL.below⟩
  · have hd : decide (m = ⟨0, 0⟩) = false := by simp [h0]
    rw [hd] at hn
    have H := Lib.hid h0
    clear h0
    go_enter Tryd.func53, Tryd.ntmps53
    go_wp2_with (first | ((with_reducible refine gAlloc rfl rfl ?_); (refine ev_allocL rfl hL rfl (by first | exact cells_agg _ rfl | exact cells_int _ _ | exact cells_str _ | exact cells_bool _ | exact cells_slice _ _ _ | exact cells_ptr _ | exact cells_map _ | exact cells_func _ _ _ | exact cells_nilFunc | exact cells_one (by assumption) (by assumption)) ?_; clear hL; intro gq wq hL)) | ((with_reducible refine gBox rfl rfl ?_); (refine ev_boxL rfl hL rfl rfl (by first | exact cells_agg _ rfl | exact cells_int _ _ | exact cells_str _ | exact cells_bool _ | exact cells_slice _ _ _ | exact cells_ptr _ | exact cells_map _ | exact cells_func _ _ _ | exact cells_nilFunc | exact cells_one (by assumption) (by assumption)) ?_; clear hL; intro gq wq hL)) | ((with_reducible refine gLoad rfl rfl ?_); (first | (refine ev_load1L rfl hL rfl rfl HasV.mem (by rfl) ?_) | (refine ev_loadAllL rfl hL rfl rfl HasV.mem (by rfl) ?_) | (refine ev_loadL rfl hL rfl rfl HasV.mem SegC.seg ?_))) | ((with_reducible refine gStore rfl rfl ?_); (first | (refine ev_storeC rfl hL rfl rfl rfl (by first | exact cells_agg _ rfl | exact cells_int _ _ | exact cells_str _ | exact cells_bool _ | exact cells_slice _ _ _ | exact cells_ptr _ | exact cells_map _ | exact cells_func _ _ _ | exact cells_nilFunc | exact cells_one (by assumption) (by assumption)) (by rfl) ?_) | (refine ev_storeAllC rfl hL rfl rfl rfl (by first | exact cells_agg _ rfl | exact cells_int _ _ | exact cells_str _ | exact cells_bool _ | exact cells_slice _ _ _ | exact cells_ptr _ | exact cells_map _ | exact cells_func _ _ _ | exact cells_nilFunc | exact cells_one (by assumption) (by assumption)) (by rfl) (by rfl) ?_)); clear hL; intro wq hL) | ((with_reducible refine gLoadG rfl rfl ?_ ?_); (exact wanted_some rfl rfl rfl (by with_reducible rfl)); (first | (refine ev_load1G (wanted_some rfl rfl rfl rfl) hL rfl rfl HasV.mem (by rfl) ?_) | (refine ev_loadAllG (wanted_some rfl rfl rfl rfl) hL rfl rfl HasV.mem (by rfl) ?_) | (refine ev_loadG_ (wanted_some rfl rfl rfl rfl) hL rfl rfl HasV.mem SegC.seg ?_))) | (go_at_call 54; (with_reducible refine (unhide (hn _)).mono ?_); rintro e w1 ⟨rfl, hb1⟩; have hL := hL.call hb1))
    all_goals go_ret
    all_goals refine ⟨ret_b ?_, hL.below⟩
    all_goals
      have h := H.out
      obtain ⟨b, n⟩ := m
      simp only [Mk.mk.injEq, not_and] at h
      unfold Mk.ok
      by_cases hb : b = 0
      · have := h hb
        subst hb
        first | omega | simp_all
      · rw [if_neg hb]
        first | (symm; apply decide_eq_false; simp only [] at *; omega) | (rw [decide_eq_decide]; simp only [] at *; omega)
theorem arr_list {cs : List Value} {m : Msg} (h : cs = m.cells) : Value.agg cs.toArray = m.val := by subst h; rfl
theorem ref_bare1 (m : Msg) (w : World) (h1 : m.kind = 1) :
    Calls Tryd.prog 20 #[m.val] w fun e w' => e = .returned m.bare.val ∧ Below w.heap.size w w' := by
  have hL := Loc.nil w NoM
  have b1 : (m.kind != 1) = false := by simp [h1]
  have b2 : (m.kind != 2) = true := by simp [h1]
  have b4 : (m.kind != 4) = true := by simp [h1]
  have H := Lib.hid h1
  clear h1
  go_enter Tryd.func20, Tryd.ntmps20
  go_wp2_with (first | ((with_reducible refine gAlloc rfl rfl ?_); (refine ev_allocL rfl hL rfl (by first | exact cells_agg _ rfl | exact cells_int _ _ | exact cells_str _ | exact cells_bool _ | exact cells_slice _ _ _ | exact cells_ptr _ | exact cells_map _ | exact cells_func _ _ _ | exact cells_nilFunc | exact cells_one (by assumption) (by assumption)) ?_; clear hL; intro gq wq hL)) | ((with_reducible refine gBox rfl rfl ?_); (refine ev_boxL rfl hL rfl rfl (by first | exact cells_agg _ rfl | exact cells_int _ _ | exact cells_str _ | exact cells_bool _ | exact cells_slice _ _ _ | exact cells_ptr _ | exact cells_map _ | exact cells_func _ _ _ | exact cells_nilFunc | exact cells_one (by assumption) (by assumption)) ?_; clear hL; intro gq wq hL)) | ((with_reducible refine gLoad rfl rfl ?_); (first | (refine ev_load1L rfl hL rfl rfl HasV.mem (by rfl) ?_) | (refine ev_loadAllL rfl hL rfl rfl HasV.mem (by rfl) ?_) | (refine ev_loadL rfl hL rfl rfl HasV.mem SegC.seg ?_))) | ((with_reducible refine gStore rfl rfl ?_); (first | (refine ev_storeC rfl hL rfl rfl rfl (by first | exact cells_agg _ rfl | exact cells_int _ _ | exact cells_str _ | exact cells_bool _ | exact cells_slice _ _ _ | exact cells_ptr _ | exact cells_map _ | exact cells_func _ _ _ | exact cells_nilFunc | exact cells_one (by assumption) (by assumption)) (by rfl) ?_) | (refine ev_storeAllC rfl hL rfl rfl rfl (by first | exact cells_agg _ rfl | exact cells_int _ _ | exact cells_str _ | exact cells_bool _ | exact cells_slice _ _ _ | exact cells_ptr _ | exact cells_map _ | exact cells_func _ _ _ | exact cells_nilFunc | exact cells_one (by assumption) (by assumption)) (by rfl) (by rfl) ?_)); clear hL; intro wq hL) | ((with_reducible refine gLoadG rfl rfl ?_ ?_); (exact wanted_some rfl rfl rfl (by with_reducible rfl)); (first | (refine ev_load1G (wanted_some rfl rfl rfl rfl) hL rfl rfl HasV.mem (by rfl) ?_) | (refine ev_loadAllG (wanted_some rfl rfl rfl rfl) hL rfl rfl HasV.mem (by rfl) ?_) | (refine ev_loadG_ (wanted_some rfl rfl rfl rfl) hL rfl rfl HasV.mem SegC.seg ?_))))
  refine bodyPost_ret (res_cell rfl hL _ rfl (by first | exact .head _ | exact .tail _ (.head _) | exact .tail _ (.tail _ (.head _)) | exact .tail _ (.tail _ (.tail _ (.head _))) | exact .tail _ (.tail _ (.tail _ (.tail _ (.head _)))) | exact .tail _ (.tail _ (.tail _ (.tail _ (.tail _ (.head _))))) | exact .tail _ (.tail _ (.tail _ (.tail _ (.tail _ (.tail _ (.head _)))))) | exact .tail _ (.tail _ (.tail _ (.tail _ (.tail _ (.tail _ (.tail _ (.head _))))))) | exact .tail _ (.tail _ (.tail _ (.tail _ (.tail _ (.tail _ (.tail _ (.tail _ (.head _))))))))) (by rfl)) rfl ⟨congrArg _ (arr_list ?_), hL.below⟩
  have h1 := H.out; simp [Msg.bare, Msg.cells, h1]
theorem ref_bare2 (m : Msg) (w : World) (h1 : m.kind = 2) :
    Calls Tryd.prog 20 #[m.val] w fun e w' => e = .returned m.bare.val ∧ Below w.heap.size w w' := by
  have hL := Loc.nil w NoM
  have b1 : (m.kind != 1) = true := by simp [h1]
  have b2 : (m.kind != 2) = false := by simp [h1]
  have b4 : (m.kind != 4) = true := by simp [h1]
  have H := Lib.hid h1
  clear h1
  go_enter Tryd.func20, Tryd.ntmps20
  go_wp2_with (first | ((with_reducible refine gAlloc rfl rfl ?_); (refine ev_allocL rfl hL rfl (by first | exact cells_agg _ rfl | exact cells_int _ _ | exact cells_str _ | exact cells_bool _ | exact cells_slice _ _ _ | exact cells_ptr _ | exact cells_map _ | exact cells_func _ _ _ | exact cells_nilFunc | exact cells_one (by assumption) (by assumption)) ?_; clear hL; intro gq wq hL)) | ((with_reducible refine gBox rfl rfl ?_); (refine ev_boxL rfl hL rfl rfl (by first | exact cells_agg _ rfl | exact cells_int _ _ | exact cells_str _ | exact cells_bool _ | exact cells_slice _ _ _ | exact cells_ptr _ | exact cells_map _ | exact cells_func _ _ _ | exact cells_nilFunc | exact cells_one (by assumption) (by assumption)) ?_; clear hL; intro gq wq hL)) | ((with_reducible refine gLoad rfl rfl ?_); (first | (refine ev_load1L rfl hL rfl rfl HasV.mem (by rfl) ?_) | (refine ev_loadAllL rfl hL rfl rfl HasV.mem (by rfl) ?_) | (refine ev_loadL rfl hL rfl rfl HasV.mem SegC.seg ?_))) | ((with_reducible refine gStore rfl rfl ?_); (first | (refine ev_storeC rfl hL rfl rfl rfl (by first | exact cells_agg _ rfl | exact cells_int _ _ | exact cells_str _ | exact cells_bool _ | exact cells_slice _ _ _ | exact cells_ptr _ | exact cells_map _ | exact cells_func _ _ _ | exact cells_nilFunc | exact cells_one (by assumption) (by assumption)) (by rfl) ?_) | (refine ev_storeAllC rfl hL rfl rfl rfl (by first | exact cells_agg _ rfl | exact cells_int _ _ | exact cells_str _ | exact cells_bool _ | exact cells_slice _ _ _ | exact cells_ptr _ | exact cells_map _ | exact cells_func _ _ _ | exact cells_nilFunc | exact cells_one (by assumption) (by assumption)) (by rfl) (by rfl) ?_)); clear hL; intro wq hL) | ((with_reducible refine gLoadG rfl rfl ?_ ?_); (exact wanted_some rfl rfl rfl (by with_reducible rfl)); (first | (refine ev_load1G (wanted_some rfl rfl rfl rfl) hL rfl rfl HasV.mem (by rfl) ?_) | (refine ev_loadAllG (wanted_some rfl rfl rfl rfl) hL rfl rfl HasV.mem (by rfl) ?_) | (refine ev_loadG_ (wanted_some rfl rfl rfl rfl) hL rfl rfl HasV.mem SegC.seg ?_))))
  refine bodyPost_ret (res_cell rfl hL _ rfl (by first | exact .head _ | exact .tail _ (.head _) | exact .tail _ (.tail _ (.head _)) | exact .tail _ (.tail _ (.tail _ (.head _))) | exact .tail _ (.tail _ (.tail _ (.tail _ (.head _)))) | exact .tail _ (.tail _ (.tail _ (.tail _ (.tail _ (.head _))))) | exact .tail _ (.tail _ (.tail _ (.tail _ (.tail _ (.tail _ (.head _)))))) | exact .tail _ (.tail _ (.tail _ (.tail _ (.tail _ (.tail _ (.tail _ (.head _))))))) | exact .tail _ (.tail _ (.tail _ (.tail _ (.tail _ (.tail _ (.tail _ (.tail _ (.head _))))))))) (by rfl)) rfl ⟨congrArg _ (arr_list ?_), hL.below⟩
  have h1 := H.out; simp [Msg.bare, Msg.cells, h1]
theorem ref_bare4 (m : Msg) (w : World) (h1 : m.kind = 4) :
    Calls Tryd.prog 20 #[m.val] w fun e w' => e = .returned m.bare.val ∧ Below w.heap.size w w' := by
  have hL := Loc.nil w NoM
  have b1 : (m.kind != 1) = true := by simp [h1]
  have b2 : (m.kind != 2) = true := by simp [h1]
  have b4 : (m.kind != 4) = false := by simp [h1]
  have H := Lib.hid h1
  clear h1
  go_enter Tryd.func20, Tryd.ntmps20
  go_wp2_with (first | ((with_reducible refine gAlloc rfl rfl ?_); (refine ev_allocL rfl hL rfl (by first | exact cells_agg _ rfl | exact cells_int _ _ | exact cells_str _ | exact cells_bool _ | exact cells_slice _ _ _ | exact cells_ptr _ | exact cells_map _ | exact cells_func _ _ _ | exact cells_nilFunc | exact cells_one (by assumption) (by assumption)) ?_; clear hL; intro gq wq hL)) | ((with_reducible refine gBox rfl rfl ?_); (refine ev_boxL rfl hL rfl rfl (by first | exact cells_agg _ rfl | exact cells_int _ _ | exact cells_str _ | exact cells_bool _ | exact cells_slice _ _ _ | exact cells_ptr _ | exact cells_map _ | exact cells_func _ _ _ | exact cells_nilFunc | exact cells_one (by assumption) (by assumption)) ?_; clear hL; intro gq wq hL)) | ((with_reducible refine gLoad rfl rfl ?_); (first | (refine ev_load1L rfl hL rfl rfl HasV.mem (by rfl) ?_) | (refine ev_loadAllL rfl hL rfl rfl HasV.mem (by rfl) ?_) | (refine ev_loadL rfl hL rfl rfl HasV.mem SegC.seg ?_))) | ((with_reducible refine gStore rfl rfl ?_); (first | (refine ev_storeC rfl hL rfl rfl rfl (by first | exact cells_agg _ rfl | exact cells_int _ _ | exact cells_str _ | exact cells_bool _ | exact cells_slice _ _ _ | exact cells_ptr _ | exact cells_map _ | exact cells_func _ _ _ | exact cells_nilFunc | exact cells_one (by assumption) (by assumption)) (by rfl) ?_) | (refine ev_storeAllC rfl hL rfl rfl rfl (by first | exact cells_agg _ rfl | exact cells_int _ _ | exact cells_str _ | exact cells_bool _ | exact cells_slice _ _ _ | exact cells_ptr _ | exact cells_map _ | exact cells_func _ _ _ | exact cells_nilFunc | exact cells_one (by assumption) (by assumption)) (by rfl) (by rfl) ?_)); clear hL; intro wq hL) | ((with_reducible refine gLoadG rfl rfl ?_ ?_); (exact wanted_some rfl rfl rfl (by with_reducible rfl)); (first | (refine ev_load1G (wanted_some rfl rfl rfl rfl) hL rfl rfl HasV.mem (by rfl) ?_) | (refine ev_loadAllG (wanted_some rfl rfl rfl rfl) hL rfl rfl HasV.mem (by rfl) ?_) | (refine ev_loadG_ (wanted_some rfl rfl rfl rfl) hL rfl rfl HasV.mem SegC.seg ?_))))
  refine bodyPost_ret (res_cell rfl hL _ rfl (by first | exact .head _ | exact .tail _ (.head _) | exact .tail _ (.tail _ (.head _)) | exact .tail _ (.tail _ (.tail _ (.head _))) | exact .tail _ (.tail _ (.tail _ (.tail _ (.head _)))) | exact .tail _ (.tail _ (.tail _ (.tail _ (.tail _ (.head _))))) | exact .tail _ (.tail _ (.tail _ (.tail _ (.tail _ (.tail _ (.head _)))))) | exact .tail _ (.tail _ (.tail _ (.tail _ (.tail _ (.tail _ (.tail _ (.head _))))))) | exact .tail _ (.tail _ (.tail _ (.tail _ (.tail _ (.tail _ (.tail _ (.tail _ (.head _))))))))) (by rfl)) rfl ⟨congrArg _ (arr_list ?_), hL.below⟩
  have h1 := H.out; simp [Msg.bare, Msg.cells, h1]
theorem ref_bare3 (m : Msg) (w : World) (h1 : ¬ m.kind = 1) (h2 : ¬ m.kind = 2) (h4 : ¬ m.kind = 4) :
    Calls Tryd.prog 20 #[m.val] w fun e w' => e = .returned m.bare.val ∧ Below w.heap.size w w' := by
  have hL := Loc.nil w NoM
  have b1 : (m.kind != 1) = true := by simp [h1]
  have b2 : (m.kind != 2) = true := by simp [h2]
  have b4 : (m.kind != 4) = true := by simp [h4]
  go_enter Tryd.func20, Tryd.ntmps20
  go_wp2_with (first | ((with_reducible refine gAlloc rfl rfl ?_); (refine ev_allocL rfl hL rfl (by first | exact cells_agg _ rfl | exact cells_int _ _ | exact cells_str _ | exact cells_bool _ | exact cells_slice _ _ _ | exact cells_ptr _ | exact cells_map _ | exact cells_func _ _ _ | exact cells_nilFunc | exact cells_one (by assumption) (by assumption)) ?_; clear hL; intro gq wq hL)) | ((with_reducible refine gBox rfl rfl ?_); (refine ev_boxL rfl hL rfl rfl (by first | exact cells_agg _ rfl | exact cells_int _ _ | exact cells_str _ | exact cells_bool _ | exact cells_slice _ _ _ | exact cells_ptr _ | exact cells_map _ | exact cells_func _ _ _ | exact cells_nilFunc | exact cells_one (by assumption) (by assumption)) ?_; clear hL; intro gq wq hL)) | ((with_reducible refine gLoad rfl rfl ?_); (first | (refine ev_load1L rfl hL rfl rfl HasV.mem (by rfl) ?_) | (refine ev_loadAllL rfl hL rfl rfl HasV.mem (by rfl) ?_) | (refine ev_loadL rfl hL rfl rfl HasV.mem SegC.seg ?_))) | ((with_reducible refine gStore rfl rfl ?_); (first | (refine ev_storeC rfl hL rfl rfl rfl (by first | exact cells_agg _ rfl | exact cells_int _ _ | exact cells_str _ | exact cells_bool _ | exact cells_slice _ _ _ | exact cells_ptr _ | exact cells_map _ | exact cells_func _ _ _ | exact cells_nilFunc | exact cells_one (by assumption) (by assumption)) (by rfl) ?_) | (refine ev_storeAllC rfl hL rfl rfl rfl (by first | exact cells_agg _ rfl | exact cells_int _ _ | exact cells_str _ | exact cells_bool _ | exact cells_slice _ _ _ | exact cells_ptr _ | exact cells_map _ | exact cells_func _ _ _ | exact cells_nilFunc | exact cells_one (by assumption) (by assumption)) (by rfl) (by rfl) ?_)); clear hL; intro wq hL) | ((with_reducible refine gLoadG rfl rfl ?_ ?_); (exact wanted_some rfl rfl rfl (by with_reducible rfl)); (first | (refine ev_load1G (wanted_some rfl rfl rfl rfl) hL rfl rfl HasV.mem (by rfl) ?_) | (refine ev_loadAllG (wanted_some rfl rfl rfl rfl) hL rfl rfl HasV.mem (by rfl) ?_) | (refine ev_loadG_ (wanted_some rfl rfl rfl rfl) hL rfl rfl HasV.mem SegC.seg ?_))))
  refine bodyPost_ret (res_cell rfl hL _ rfl (by first | exact .head _ | exact .tail _ (.head _) | exact .tail _ (.tail _ (.head _)) | exact .tail _ (.tail _ (.tail _ (.head _))) | exact .tail _ (.tail _ (.tail _ (.tail _ (.head _)))) | exact .tail _ (.tail _ (.tail _ (.tail _ (.tail _ (.head _))))) | exact .tail _ (.tail _ (.tail _ (.tail _ (.tail _ (.tail _ (.head _)))))) | exact .tail _ (.tail _ (.tail _ (.tail _ (.tail _ (.tail _ (.tail _ (.head _))))))) | exact .tail _ (.tail _ (.tail _ (.tail _ (.tail _ (.tail _ (.tail _ (.tail _ (.head _))))))))) (by rfl)) rfl ⟨congrArg _ (arr_list ?_), hL.below⟩
  simp [Msg.bare, Msg.cells, h1, h2, h4]
theorem ref_bare (m : Msg) (w : World) :
    Calls Tryd.prog 20 #[m.val] w fun e w' => e = .returned m.bare.val ∧ Below w.heap.size w w' := by
  by_cases h1 : m.kind = 1
  · exact ref_bare1 m w h1
  by_cases h2 : m.kind = 2
  · exact ref_bare2 m w h2
  by_cases h4 : m.kind = 4
  · exact ref_bare4 m w h4
  exact ref_bare3 m w h1 h2 h4
end Go.Proofs.YtbkffeabikjnhaaDoor

/- The document's Check of a message: what the program's says. -/
namespace Go.Proofs.YtbkffeabikjnhaaDoor
open Go.RowKit

theorem ret_i {a b : Int} (h : a = b) : Ending.returned (.int .i64 a) = .returned (.int .i64 b) := by rw [h]
set_option maxHeartbeats 2000000 in
set_option maxRecDepth 100000 in
theorem rchk_head (m : Msg) (w : World) (h : m.head = false) :
    Calls Tryd.prog 18 #[m.val] w fun e w' => e = .returned (.int .i64 201) ∧ Below w.heap.size w w' := by
  have hh : ¬ (1 ≤ m.kind ∧ m.kind ≤ 4 ∧ 0 ≤ m.src ∧ m.src < 8 ∧ 0 ≤ m.dst ∧ m.dst < 8 ∧ m.src ≠ m.dst ∧ 0 ≤ m.vol ∧ m.vol < 3) := by simpa [Msg.head] using h
  have HH := Lib.hid hh
  clear hh h
  have hL := Loc.nil w NoM
  by_cases c0 : m.kind < 1
  · have t0 : decide (m.kind < 1) = true := by simp; omega
    clear HH c0
    go_enter Tryd.func18, Tryd.ntmps18
    go_wp2_with (first | ((with_reducible refine gAlloc rfl rfl ?_); (refine ev_allocL rfl hL rfl (by first | exact cells_agg _ rfl | exact cells_int _ _ | exact cells_str _ | exact cells_bool _ | exact cells_slice _ _ _ | exact cells_ptr _ | exact cells_map _ | exact cells_func _ _ _ | exact cells_nilFunc | exact cells_one (by assumption) (by assumption)) ?_; clear hL; intro gq wq hL)) | ((with_reducible refine gBox rfl rfl ?_); (refine ev_boxL rfl hL rfl rfl (by first | exact cells_agg _ rfl | exact cells_int _ _ | exact cells_str _ | exact cells_bool _ | exact cells_slice _ _ _ | exact cells_ptr _ | exact cells_map _ | exact cells_func _ _ _ | exact cells_nilFunc | exact cells_one (by assumption) (by assumption)) ?_; clear hL; intro gq wq hL)) | ((with_reducible refine gLoad rfl rfl ?_); (first | (refine ev_load1L rfl hL rfl rfl HasV.mem (by rfl) ?_) | (refine ev_loadAllL rfl hL rfl rfl HasV.mem (by rfl) ?_) | (refine ev_loadL rfl hL rfl rfl HasV.mem SegC.seg ?_))) | ((with_reducible refine gStore rfl rfl ?_); (first | (refine ev_storeC rfl hL rfl rfl rfl (by first | exact cells_agg _ rfl | exact cells_int _ _ | exact cells_str _ | exact cells_bool _ | exact cells_slice _ _ _ | exact cells_ptr _ | exact cells_map _ | exact cells_func _ _ _ | exact cells_nilFunc | exact cells_one (by assumption) (by assumption)) (by rfl) ?_) | (refine ev_storeAllC rfl hL rfl rfl rfl (by first | exact cells_agg _ rfl | exact cells_int _ _ | exact cells_str _ | exact cells_bool _ | exact cells_slice _ _ _ | exact cells_ptr _ | exact cells_map _ | exact cells_func _ _ _ | exact cells_nilFunc | exact cells_one (by assumption) (by assumption)) (by rfl) (by rfl) ?_)); clear hL; intro wq hL) | ((with_reducible refine gLoadG rfl rfl ?_ ?_); (exact wanted_some rfl rfl rfl (by with_reducible rfl)); (first | (refine ev_load1G (wanted_some rfl rfl rfl rfl) hL rfl rfl HasV.mem (by rfl) ?_) | (refine ev_loadAllG (wanted_some rfl rfl rfl rfl) hL rfl rfl HasV.mem (by rfl) ?_) | (refine ev_loadG_ (wanted_some rfl rfl rfl rfl) hL rfl rfl HasV.mem SegC.seg ?_))))
    go_ret
    exact ⟨rfl, hL.below⟩
  have t0 : decide (m.kind < 1) = false := by simp; omega
  by_cases c1 : 4 < m.kind
  · have t1 : decide (4 < m.kind) = true := by simp; omega
    clear HH c0 c1
    go_enter Tryd.func18, Tryd.ntmps18
    go_wp2_with (first | ((with_reducible refine gAlloc rfl rfl ?_); (refine ev_allocL rfl hL rfl (by first | exact cells_agg _ rfl | exact cells_int _ _ | exact cells_str _ | exact cells_bool _ | exact cells_slice _ _ _ | exact cells_ptr _ | exact cells_map _ | exact cells_func _ _ _ | exact cells_nilFunc | exact cells_one (by assumption) (by assumption)) ?_; clear hL; intro gq wq hL)) | ((with_reducible refine gBox rfl rfl ?_); (refine ev_boxL rfl hL rfl rfl (by first | exact cells_agg _ rfl | exact cells_int _ _ | exact cells_str _ | exact cells_bool _ | exact cells_slice _ _ _ | exact cells_ptr _ | exact cells_map _ | exact cells_func _ _ _ | exact cells_nilFunc | exact cells_one (by assumption) (by assumption)) ?_; clear hL; intro gq wq hL)) | ((with_reducible refine gLoad rfl rfl ?_); (first | (refine ev_load1L rfl hL rfl rfl HasV.mem (by rfl) ?_) | (refine ev_loadAllL rfl hL rfl rfl HasV.mem (by rfl) ?_) | (refine ev_loadL rfl hL rfl rfl HasV.mem SegC.seg ?_))) | ((with_reducible refine gStore rfl rfl ?_); (first | (refine ev_storeC rfl hL rfl rfl rfl (by first | exact cells_agg _ rfl | exact cells_int _ _ | exact cells_str _ | exact cells_bool _ | exact cells_slice _ _ _ | exact cells_ptr _ | exact cells_map _ | exact cells_func _ _ _ | exact cells_nilFunc | exact cells_one (by assumption) (by assumption)) (by rfl) ?_) | (refine ev_storeAllC rfl hL rfl rfl rfl (by first | exact cells_agg _ rfl | exact cells_int _ _ | exact cells_str _ | exact cells_bool _ | exact cells_slice _ _ _ | exact cells_ptr _ | exact cells_map _ | exact cells_func _ _ _ | exact cells_nilFunc | exact cells_one (by assumption) (by assumption)) (by rfl) (by rfl) ?_)); clear hL; intro wq hL) | ((with_reducible refine gLoadG rfl rfl ?_ ?_); (exact wanted_some rfl rfl rfl (by with_reducible rfl)); (first | (refine ev_load1G (wanted_some rfl rfl rfl rfl) hL rfl rfl HasV.mem (by rfl) ?_) | (refine ev_loadAllG (wanted_some rfl rfl rfl rfl) hL rfl rfl HasV.mem (by rfl) ?_) | (refine ev_loadG_ (wanted_some rfl rfl rfl rfl) hL rfl rfl HasV.mem SegC.seg ?_))))
    go_ret
    exact ⟨rfl, hL.below⟩
  have t1 : decide (4 < m.kind) = false := by simp; omega
  by_cases c2 : m.src < 0
  · have t2 : decide (m.src < 0) = true := by simp; omega
    clear HH c0 c1 c2
    go_enter Tryd.func18, Tryd.ntmps18
    go_wp2_with (first | ((with_reducible refine gAlloc rfl rfl ?_); (refine ev_allocL rfl hL rfl (by first | exact cells_agg _ rfl | exact cells_int _ _ | exact cells_str _ | exact cells_bool _ | exact cells_slice _ _ _ | exact cells_ptr _ | exact cells_map _ | exact cells_func _ _ _ | exact cells_nilFunc | exact cells_one (by assumption) (by assumption)) ?_; clear hL; intro gq wq hL)) | ((with_reducible refine gBox rfl rfl ?_); (refine ev_boxL rfl hL rfl rfl (by first | exact cells_agg _ rfl | exact cells_int _ _ | exact cells_str _ | exact cells_bool _ | exact cells_slice _ _ _ | exact cells_ptr _ | exact cells_map _ | exact cells_func _ _ _ | exact cells_nilFunc | exact cells_one (by assumption) (by assumption)) ?_; clear hL; intro gq wq hL)) | ((with_reducible refine gLoad rfl rfl ?_); (first | (refine ev_load1L rfl hL rfl rfl HasV.mem (by rfl) ?_) | (refine ev_loadAllL rfl hL rfl rfl HasV.mem (by rfl) ?_) | (refine ev_loadL rfl hL rfl rfl HasV.mem SegC.seg ?_))) | ((with_reducible refine gStore rfl rfl ?_); (first | (refine ev_storeC rfl hL rfl rfl rfl (by first | exact cells_agg _ rfl | exact cells_int _ _ | exact cells_str _ | exact cells_bool _ | exact cells_slice _ _ _ | exact cells_ptr _ | exact cells_map _ | exact cells_func _ _ _ | exact cells_nilFunc | exact cells_one (by assumption) (by assumption)) (by rfl) ?_) | (refine ev_storeAllC rfl hL rfl rfl rfl (by first | exact cells_agg _ rfl | exact cells_int _ _ | exact cells_str _ | exact cells_bool _ | exact cells_slice _ _ _ | exact cells_ptr _ | exact cells_map _ | exact cells_func _ _ _ | exact cells_nilFunc | exact cells_one (by assumption) (by assumption)) (by rfl) (by rfl) ?_)); clear hL; intro wq hL) | ((with_reducible refine gLoadG rfl rfl ?_ ?_); (exact wanted_some rfl rfl rfl (by with_reducible rfl)); (first | (refine ev_load1G (wanted_some rfl rfl rfl rfl) hL rfl rfl HasV.mem (by rfl) ?_) | (refine ev_loadAllG (wanted_some rfl rfl rfl rfl) hL rfl rfl HasV.mem (by rfl) ?_) | (refine ev_loadG_ (wanted_some rfl rfl rfl rfl) hL rfl rfl HasV.mem SegC.seg ?_))))
    go_ret
    exact ⟨rfl, hL.below⟩
  have t2 : decide (m.src < 0) = false := by simp; omega
  by_cases c3 : 7 < m.src
  · have t3 : decide (7 < m.src) = true := by simp; omega
    clear HH c0 c1 c2 c3
    go_enter Tryd.func18, Tryd.ntmps18
    go_wp2_with (first | ((with_reducible refine gAlloc rfl rfl ?_); (refine ev_allocL rfl hL rfl (by first | exact cells_agg _ rfl | exact cells_int _ _ | exact cells_str _ | exact cells_bool _ | exact cells_slice _ _ _ | exact cells_ptr _ | exact cells_map _ | exact cells_func _ _ _ | exact cells_nilFunc | exact cells_one (by assumption) (by assumption)) ?_; clear hL; intro gq wq hL)) | ((with_reducible refine gBox rfl rfl ?_); (refine ev_boxL rfl hL rfl rfl (by first | exact cells_agg _ rfl | exact cells_int _ _ | exact cells_str _ | exact cells_bool _ | exact cells_slice _ _ _ | exact cells_ptr _ | exact cells_map _ | exact cells_func _ _ _ | exact cells_nilFunc | exact cells_one (by assumption) (by assumption)) ?_; clear hL; intro gq wq hL)) | ((with_reducible refine gLoad rfl rfl ?_); (first | (refine ev_load1L rfl hL rfl rfl HasV.mem (by rfl) ?_) | (refine ev_loadAllL rfl hL rfl rfl HasV.mem (by rfl) ?_) | (refine ev_loadL rfl hL rfl rfl HasV.mem SegC.seg ?_))) | ((with_reducible refine gStore rfl rfl ?_); (first | (refine ev_storeC rfl hL rfl rfl rfl (by first | exact cells_agg _ rfl | exact cells_int _ _ | exact cells_str _ | exact cells_bool _ | exact cells_slice _ _ _ | exact cells_ptr _ | exact cells_map _ | exact cells_func _ _ _ | exact cells_nilFunc | exact cells_one (by assumption) (by assumption)) (by rfl) ?_) | (refine ev_storeAllC rfl hL rfl rfl rfl (by first | exact cells_agg _ rfl | exact cells_int _ _ | exact cells_str _ | exact cells_bool _ | exact cells_slice _ _ _ | exact cells_ptr _ | exact cells_map _ | exact cells_func _ _ _ | exact cells_nilFunc | exact cells_one (by assumption) (by assumption)) (by rfl) (by rfl) ?_)); clear hL; intro wq hL) | ((with_reducible refine gLoadG rfl rfl ?_ ?_); (exact wanted_some rfl rfl rfl (by with_reducible rfl)); (first | (refine ev_load1G (wanted_some rfl rfl rfl rfl) hL rfl rfl HasV.mem (by rfl) ?_) | (refine ev_loadAllG (wanted_some rfl rfl rfl rfl) hL rfl rfl HasV.mem (by rfl) ?_) | (refine ev_loadG_ (wanted_some rfl rfl rfl rfl) hL rfl rfl HasV.mem SegC.seg ?_))))
    go_ret
    exact ⟨rfl, hL.below⟩
  have t3 : decide (7 < m.src) = false := by simp; omega
  by_cases c4 : m.dst < 0
  · have t4 : decide (m.dst < 0) = true := by simp; omega
    clear HH c0 c1 c2 c3 c4
    go_enter Tryd.func18, Tryd.ntmps18
    go_wp2_with (first | ((with_reducible refine gAlloc rfl rfl ?_); (refine ev_allocL rfl hL rfl (by first | exact cells_agg _ rfl | exact cells_int _ _ | exact cells_str _ | exact cells_bool _ | exact cells_slice _ _ _ | exact cells_ptr _ | exact cells_map _ | exact cells_func _ _ _ | exact cells_nilFunc | exact cells_one (by assumption) (by assumption)) ?_; clear hL; intro gq wq hL)) | ((with_reducible refine gBox rfl rfl ?_); (refine ev_boxL rfl hL rfl rfl (by first | exact cells_agg _ rfl | exact cells_int _ _ | exact cells_str _ | exact cells_bool _ | exact cells_slice _ _ _ | exact cells_ptr _ | exact cells_map _ | exact cells_func _ _ _ | exact cells_nilFunc | exact cells_one (by assumption) (by assumption)) ?_; clear hL; intro gq wq hL)) | ((with_reducible refine gLoad rfl rfl ?_); (first | (refine ev_load1L rfl hL rfl rfl HasV.mem (by rfl) ?_) | (refine ev_loadAllL rfl hL rfl rfl HasV.mem (by rfl) ?_) | (refine ev_loadL rfl hL rfl rfl HasV.mem SegC.seg ?_))) | ((with_reducible refine gStore rfl rfl ?_); (first | (refine ev_storeC rfl hL rfl rfl rfl (by first | exact cells_agg _ rfl | exact cells_int _ _ | exact cells_str _ | exact cells_bool _ | exact cells_slice _ _ _ | exact cells_ptr _ | exact cells_map _ | exact cells_func _ _ _ | exact cells_nilFunc | exact cells_one (by assumption) (by assumption)) (by rfl) ?_) | (refine ev_storeAllC rfl hL rfl rfl rfl (by first | exact cells_agg _ rfl | exact cells_int _ _ | exact cells_str _ | exact cells_bool _ | exact cells_slice _ _ _ | exact cells_ptr _ | exact cells_map _ | exact cells_func _ _ _ | exact cells_nilFunc | exact cells_one (by assumption) (by assumption)) (by rfl) (by rfl) ?_)); clear hL; intro wq hL) | ((with_reducible refine gLoadG rfl rfl ?_ ?_); (exact wanted_some rfl rfl rfl (by with_reducible rfl)); (first | (refine ev_load1G (wanted_some rfl rfl rfl rfl) hL rfl rfl HasV.mem (by rfl) ?_) | (refine ev_loadAllG (wanted_some rfl rfl rfl rfl) hL rfl rfl HasV.mem (by rfl) ?_) | (refine ev_loadG_ (wanted_some rfl rfl rfl rfl) hL rfl rfl HasV.mem SegC.seg ?_))))
    go_ret
    exact ⟨rfl, hL.below⟩
  have t4 : decide (m.dst < 0) = false := by simp; omega
  by_cases c5 : 7 < m.dst
  · have t5 : decide (7 < m.dst) = true := by simp; omega
    clear HH c0 c1 c2 c3 c4 c5
    go_enter Tryd.func18, Tryd.ntmps18
    go_wp2_with (first | ((with_reducible refine gAlloc rfl rfl ?_); (refine ev_allocL rfl hL rfl (by first | exact cells_agg _ rfl | exact cells_int _ _ | exact cells_str _ | exact cells_bool _ | exact cells_slice _ _ _ | exact cells_ptr _ | exact cells_map _ | exact cells_func _ _ _ | exact cells_nilFunc | exact cells_one (by assumption) (by assumption)) ?_; clear hL; intro gq wq hL)) | ((with_reducible refine gBox rfl rfl ?_); (refine ev_boxL rfl hL rfl rfl (by first | exact cells_agg _ rfl | exact cells_int _ _ | exact cells_str _ | exact cells_bool _ | exact cells_slice _ _ _ | exact cells_ptr _ | exact cells_map _ | exact cells_func _ _ _ | exact cells_nilFunc | exact cells_one (by assumption) (by assumption)) ?_; clear hL; intro gq wq hL)) | ((with_reducible refine gLoad rfl rfl ?_); (first | (refine ev_load1L rfl hL rfl rfl HasV.mem (by rfl) ?_) | (refine ev_loadAllL rfl hL rfl rfl HasV.mem (by rfl) ?_) | (refine ev_loadL rfl hL rfl rfl HasV.mem SegC.seg ?_))) | ((with_reducible refine gStore rfl rfl ?_); (first | (refine ev_storeC rfl hL rfl rfl rfl (by first | exact cells_agg _ rfl | exact cells_int _ _ | exact cells_str _ | exact cells_bool _ | exact cells_slice _ _ _ | exact cells_ptr _ | exact cells_map _ | exact cells_func _ _ _ | exact cells_nilFunc | exact cells_one (by assumption) (by assumption)) (by rfl) ?_) | (refine ev_storeAllC rfl hL rfl rfl rfl (by first | exact cells_agg _ rfl | exact cells_int _ _ | exact cells_str _ | exact cells_bool _ | exact cells_slice _ _ _ | exact cells_ptr _ | exact cells_map _ | exact cells_func _ _ _ | exact cells_nilFunc | exact cells_one (by assumption) (by assumption)) (by rfl) (by rfl) ?_)); clear hL; intro wq hL) | ((with_reducible refine gLoadG rfl rfl ?_ ?_); (exact wanted_some rfl rfl rfl (by with_reducible rfl)); (first | (refine ev_load1G (wanted_some rfl rfl rfl rfl) hL rfl rfl HasV.mem (by rfl) ?_) | (refine ev_loadAllG (wanted_some rfl rfl rfl rfl) hL rfl rfl HasV.mem (by rfl) ?_) | (refine ev_loadG_ (wanted_some rfl rfl rfl rfl) hL rfl rfl HasV.mem SegC.seg ?_))))
    go_ret
    exact ⟨rfl, hL.below⟩
  have t5 : decide (7 < m.dst) = false := by simp; omega
  by_cases c6 : m.src = m.dst
  · have t6 : (m.src == m.dst) = true := by simp [c6]
    clear HH c0 c1 c2 c3 c4 c5 c6
    go_enter Tryd.func18, Tryd.ntmps18
    go_wp2_with (first | ((with_reducible refine gAlloc rfl rfl ?_); (refine ev_allocL rfl hL rfl (by first | exact cells_agg _ rfl | exact cells_int _ _ | exact cells_str _ | exact cells_bool _ | exact cells_slice _ _ _ | exact cells_ptr _ | exact cells_map _ | exact cells_func _ _ _ | exact cells_nilFunc | exact cells_one (by assumption) (by assumption)) ?_; clear hL; intro gq wq hL)) | ((with_reducible refine gBox rfl rfl ?_); (refine ev_boxL rfl hL rfl rfl (by first | exact cells_agg _ rfl | exact cells_int _ _ | exact cells_str _ | exact cells_bool _ | exact cells_slice _ _ _ | exact cells_ptr _ | exact cells_map _ | exact cells_func _ _ _ | exact cells_nilFunc | exact cells_one (by assumption) (by assumption)) ?_; clear hL; intro gq wq hL)) | ((with_reducible refine gLoad rfl rfl ?_); (first | (refine ev_load1L rfl hL rfl rfl HasV.mem (by rfl) ?_) | (refine ev_loadAllL rfl hL rfl rfl HasV.mem (by rfl) ?_) | (refine ev_loadL rfl hL rfl rfl HasV.mem SegC.seg ?_))) | ((with_reducible refine gStore rfl rfl ?_); (first | (refine ev_storeC rfl hL rfl rfl rfl (by first | exact cells_agg _ rfl | exact cells_int _ _ | exact cells_str _ | exact cells_bool _ | exact cells_slice _ _ _ | exact cells_ptr _ | exact cells_map _ | exact cells_func _ _ _ | exact cells_nilFunc | exact cells_one (by assumption) (by assumption)) (by rfl) ?_) | (refine ev_storeAllC rfl hL rfl rfl rfl (by first | exact cells_agg _ rfl | exact cells_int _ _ | exact cells_str _ | exact cells_bool _ | exact cells_slice _ _ _ | exact cells_ptr _ | exact cells_map _ | exact cells_func _ _ _ | exact cells_nilFunc | exact cells_one (by assumption) (by assumption)) (by rfl) (by rfl) ?_)); clear hL; intro wq hL) | ((with_reducible refine gLoadG rfl rfl ?_ ?_); (exact wanted_some rfl rfl rfl (by with_reducible rfl)); (first | (refine ev_load1G (wanted_some rfl rfl rfl rfl) hL rfl rfl HasV.mem (by rfl) ?_) | (refine ev_loadAllG (wanted_some rfl rfl rfl rfl) hL rfl rfl HasV.mem (by rfl) ?_) | (refine ev_loadG_ (wanted_some rfl rfl rfl rfl) hL rfl rfl HasV.mem SegC.seg ?_))))
    go_ret
    exact ⟨rfl, hL.below⟩
  have t6 : (m.src == m.dst) = false := by simp [c6]
  by_cases c7 : m.vol < 0
  · have t7 : decide (m.vol < 0) = true := by simp; omega
    clear HH c0 c1 c2 c3 c4 c5 c6 c7
    go_enter Tryd.func18, Tryd.ntmps18
    go_wp2_with (first | ((with_reducible refine gAlloc rfl rfl ?_); (refine ev_allocL rfl hL rfl (by first | exact cells_agg _ rfl | exact cells_int _ _ | exact cells_str _ | exact cells_bool _ | exact cells_slice _ _ _ | exact cells_ptr _ | exact cells_map _ | exact cells_func _ _ _ | exact cells_nilFunc | exact cells_one (by assumption) (by assumption)) ?_; clear hL; intro gq wq hL)) | ((with_reducible refine gBox rfl rfl ?_); (refine ev_boxL rfl hL rfl rfl (by first | exact cells_agg _ rfl | exact cells_int _ _ | exact cells_str _ | exact cells_bool _ | exact cells_slice _ _ _ | exact cells_ptr _ | exact cells_map _ | exact cells_func _ _ _ | exact cells_nilFunc | exact cells_one (by assumption) (by assumption)) ?_; clear hL; intro gq wq hL)) | ((with_reducible refine gLoad rfl rfl ?_); (first | (refine ev_load1L rfl hL rfl rfl HasV.mem (by rfl) ?_) | (refine ev_loadAllL rfl hL rfl rfl HasV.mem (by rfl) ?_) | (refine ev_loadL rfl hL rfl rfl HasV.mem SegC.seg ?_))) | ((with_reducible refine gStore rfl rfl ?_); (first | (refine ev_storeC rfl hL rfl rfl rfl (by first | exact cells_agg _ rfl | exact cells_int _ _ | exact cells_str _ | exact cells_bool _ | exact cells_slice _ _ _ | exact cells_ptr _ | exact cells_map _ | exact cells_func _ _ _ | exact cells_nilFunc | exact cells_one (by assumption) (by assumption)) (by rfl) ?_) | (refine ev_storeAllC rfl hL rfl rfl rfl (by first | exact cells_agg _ rfl | exact cells_int _ _ | exact cells_str _ | exact cells_bool _ | exact cells_slice _ _ _ | exact cells_ptr _ | exact cells_map _ | exact cells_func _ _ _ | exact cells_nilFunc | exact cells_one (by assumption) (by assumption)) (by rfl) (by rfl) ?_)); clear hL; intro wq hL) | ((with_reducible refine gLoadG rfl rfl ?_ ?_); (exact wanted_some rfl rfl rfl (by with_reducible rfl)); (first | (refine ev_load1G (wanted_some rfl rfl rfl rfl) hL rfl rfl HasV.mem (by rfl) ?_) | (refine ev_loadAllG (wanted_some rfl rfl rfl rfl) hL rfl rfl HasV.mem (by rfl) ?_) | (refine ev_loadG_ (wanted_some rfl rfl rfl rfl) hL rfl rfl HasV.mem SegC.seg ?_))))
    go_ret
    exact ⟨rfl, hL.below⟩
  have t7 : decide (m.vol < 0) = false := by simp; omega
  by_cases c8 : 2 < m.vol
  · have t8 : decide (2 < m.vol) = true := by simp; omega
    clear HH c0 c1 c2 c3 c4 c5 c6 c7 c8
    go_enter Tryd.func18, Tryd.ntmps18
    go_wp2_with (first | ((with_reducible refine gAlloc rfl rfl ?_); (refine ev_allocL rfl hL rfl (by first | exact cells_agg _ rfl | exact cells_int _ _ | exact cells_str _ | exact cells_bool _ | exact cells_slice _ _ _ | exact cells_ptr _ | exact cells_map _ | exact cells_func _ _ _ | exact cells_nilFunc | exact cells_one (by assumption) (by assumption)) ?_; clear hL; intro gq wq hL)) | ((with_reducible refine gBox rfl rfl ?_); (refine ev_boxL rfl hL rfl rfl (by first | exact cells_agg _ rfl | exact cells_int _ _ | exact cells_str _ | exact cells_bool _ | exact cells_slice _ _ _ | exact cells_ptr _ | exact cells_map _ | exact cells_func _ _ _ | exact cells_nilFunc | exact cells_one (by assumption) (by assumption)) ?_; clear hL; intro gq wq hL)) | ((with_reducible refine gLoad rfl rfl ?_); (first | (refine ev_load1L rfl hL rfl rfl HasV.mem (by rfl) ?_) | (refine ev_loadAllL rfl hL rfl rfl HasV.mem (by rfl) ?_) | (refine ev_loadL rfl hL rfl rfl HasV.mem SegC.seg ?_))) | ((with_reducible refine gStore rfl rfl ?_); (first | (refine ev_storeC rfl hL rfl rfl rfl (by first | exact cells_agg _ rfl | exact cells_int _ _ | exact cells_str _ | exact cells_bool _ | exact cells_slice _ _ _ | exact cells_ptr _ | exact cells_map _ | exact cells_func _ _ _ | exact cells_nilFunc | exact cells_one (by assumption) (by assumption)) (by rfl) ?_) | (refine ev_storeAllC rfl hL rfl rfl rfl (by first | exact cells_agg _ rfl | exact cells_int _ _ | exact cells_str _ | exact cells_bool _ | exact cells_slice _ _ _ | exact cells_ptr _ | exact cells_map _ | exact cells_func _ _ _ | exact cells_nilFunc | exact cells_one (by assumption) (by assumption)) (by rfl) (by rfl) ?_)); clear hL; intro wq hL) | ((with_reducible refine gLoadG rfl rfl ?_ ?_); (exact wanted_some rfl rfl rfl (by with_reducible rfl)); (first | (refine ev_load1G (wanted_some rfl rfl rfl rfl) hL rfl rfl HasV.mem (by rfl) ?_) | (refine ev_loadAllG (wanted_some rfl rfl rfl rfl) hL rfl rfl HasV.mem (by rfl) ?_) | (refine ev_loadG_ (wanted_some rfl rfl rfl rfl) hL rfl rfl HasV.mem SegC.seg ?_))))
    go_ret
    exact ⟨rfl, hL.below⟩
  have t8 : decide (2 < m.vol) = false := by simp; omega
  exfalso
  have hq := HH.out
  omega
set_option maxHeartbeats 1000000 in
set_option maxRecDepth 100000 in
theorem rchk_mid1 (m : Msg) (w : World) (h : m.head = true) (h1 : (m.seen.good) = false) :
    Calls Tryd.prog 18 #[m.val] w fun e w' => e = .returned (.int .i64 201) ∧ Below w.heap.size w w' := by
  have hL := Loc.nil w NoM
  have hh : 1 ≤ m.kind ∧ m.kind ≤ 4 ∧ 0 ≤ m.src ∧ m.src < 8 ∧ 0 ≤ m.dst ∧ m.dst < 8 ∧ m.src ≠ m.dst ∧ 0 ≤ m.vol ∧ m.vol < 3 := by simpa [Msg.head] using h
  obtain ⟨a1, a2, a3, a4, a5, a6, a7, a8, a9⟩ := hh
  have c6 : ¬ m.src = m.dst := a7
  have t0 : decide (m.kind < 1) = false := by simp; omega
  have t1 : decide (4 < m.kind) = false := by simp; omega
  have t2 : decide (m.src < 0) = false := by simp; omega
  have t3 : decide (7 < m.src) = false := by simp; omega
  have t4 : decide (m.dst < 0) = false := by simp; omega
  have t5 : decide (7 < m.dst) = false := by simp; omega
  have t6 : (m.src == m.dst) = false := by simp [c6]
  have t7 : decide (m.vol < 0) = false := by simp; omega
  have t8 : decide (2 < m.vol) = false := by simp; omega
  have hg := fun w => hide (ref_good m.seen w)
  have hm1 := fun w => hide (ref_mark m.base w)
  have hm2 := fun w => hide (ref_mark m.mark w)
  have hba := fun w => hide (ref_bare m w)
  clear h a1 a2 a3 a4 a5 a6 a7 a8 a9 c6
  simp only [h1] at hg
  go_enter Tryd.func18, Tryd.ntmps18
  go_wp2_with (first | ((with_reducible refine gAlloc rfl rfl ?_); (refine ev_allocL rfl hL rfl (by first | exact cells_agg _ rfl | exact cells_int _ _ | exact cells_str _ | exact cells_bool _ | exact cells_slice _ _ _ | exact cells_ptr _ | exact cells_map _ | exact cells_func _ _ _ | exact cells_nilFunc | exact cells_one (by assumption) (by assumption)) ?_; clear hL; intro gq wq hL)) | ((with_reducible refine gBox rfl rfl ?_); (refine ev_boxL rfl hL rfl rfl (by first | exact cells_agg _ rfl | exact cells_int _ _ | exact cells_str _ | exact cells_bool _ | exact cells_slice _ _ _ | exact cells_ptr _ | exact cells_map _ | exact cells_func _ _ _ | exact cells_nilFunc | exact cells_one (by assumption) (by assumption)) ?_; clear hL; intro gq wq hL)) | ((with_reducible refine gLoad rfl rfl ?_); (first | (refine ev_load1L rfl hL rfl rfl HasV.mem (by rfl) ?_) | (refine ev_loadAllL rfl hL rfl rfl HasV.mem (by rfl) ?_) | (refine ev_loadL rfl hL rfl rfl HasV.mem SegC.seg ?_))) | ((with_reducible refine gStore rfl rfl ?_); (first | (refine ev_storeC rfl hL rfl rfl rfl (by first | exact cells_agg _ rfl | exact cells_int _ _ | exact cells_str _ | exact cells_bool _ | exact cells_slice _ _ _ | exact cells_ptr _ | exact cells_map _ | exact cells_func _ _ _ | exact cells_nilFunc | exact cells_one (by assumption) (by assumption)) (by rfl) ?_) | (refine ev_storeAllC rfl hL rfl rfl rfl (by first | exact cells_agg _ rfl | exact cells_int _ _ | exact cells_str _ | exact cells_bool _ | exact cells_slice _ _ _ | exact cells_ptr _ | exact cells_map _ | exact cells_func _ _ _ | exact cells_nilFunc | exact cells_one (by assumption) (by assumption)) (by rfl) (by rfl) ?_)); clear hL; intro wq hL) | ((with_reducible refine gLoadG rfl rfl ?_ ?_); (exact wanted_some rfl rfl rfl (by with_reducible rfl)); (first | (refine ev_load1G (wanted_some rfl rfl rfl rfl) hL rfl rfl HasV.mem (by rfl) ?_) | (refine ev_loadAllG (wanted_some rfl rfl rfl rfl) hL rfl rfl HasV.mem (by rfl) ?_) | (refine ev_loadG_ (wanted_some rfl rfl rfl rfl) hL rfl rfl HasV.mem SegC.seg ?_))))
  clear t0 t1 t2 t3 t4 t5 t6 t7 t8
  refine wp_region_ext (by kernel_rfl) (by kernel_rfl) ?_
  repeat (first | (go_big_quiet_want; (first | refine quiet_load1L hL rfl rfl HasV.mem (by rfl) ?_ | refine quiet_loadAllL hL rfl rfl HasV.mem (by rfl) ?_ | refine quiet_loadL hL rfl rfl HasV.mem SegC.seg ?_); go_big_quiet_on; simp only [Act.put, List.setIfInBounds_toArray, List.set_cons_succ, List.set_cons_zero]) | go_big_quiet_step (first
    | (go_at_call 52; with_reducible exact calls_ext (unhide (hg _)))
    | (go_at_call 53; with_reducible exact calls_ext (unhide (hm1 _)))
    | (go_at_call 53; with_reducible exact calls_ext (unhide (hm2 _)))
    | (go_at_call 20; with_reducible exact calls_ext (unhide (hba _)))))
  refine wpQuiet_nil ?_
  rintro _ ⟨⟨w2, hb2⟩, rfl⟩
  have hL := hL.call hb2
  clear hb2
  go_wp2
  go_ret
  exact ⟨rfl, hL.below⟩
set_option maxHeartbeats 1000000 in
set_option maxRecDepth 100000 in
theorem rchk_mid2 (m : Msg) (w : World) (h : m.head = true) (h1 : (m.seen.good) = true) (h2 : (m.base.ok) = false) :
    Calls Tryd.prog 18 #[m.val] w fun e w' => e = .returned (.int .i64 201) ∧ Below w.heap.size w w' := by
  have hL := Loc.nil w NoM
  have hh : 1 ≤ m.kind ∧ m.kind ≤ 4 ∧ 0 ≤ m.src ∧ m.src < 8 ∧ 0 ≤ m.dst ∧ m.dst < 8 ∧ m.src ≠ m.dst ∧ 0 ≤ m.vol ∧ m.vol < 3 := by simpa [Msg.head] using h
  obtain ⟨a1, a2, a3, a4, a5, a6, a7, a8, a9⟩ := hh
  have c6 : ¬ m.src = m.dst := a7
  have t0 : decide (m.kind < 1) = false := by simp; omega
  have t1 : decide (4 < m.kind) = false := by simp; omega
  have t2 : decide (m.src < 0) = false := by simp; omega
  have t3 : decide (7 < m.src) = false := by simp; omega
  have t4 : decide (m.dst < 0) = false := by simp; omega
  have t5 : decide (7 < m.dst) = false := by simp; omega
  have t6 : (m.src == m.dst) = false := by simp [c6]
  have t7 : decide (m.vol < 0) = false := by simp; omega
  have t8 : decide (2 < m.vol) = false := by simp; omega
  have hg := fun w => hide (ref_good m.seen w)
  have hm1 := fun w => hide (ref_mark m.base w)
  have hm2 := fun w => hide (ref_mark m.mark w)
  have hba := fun w => hide (ref_bare m w)
  clear h a1 a2 a3 a4 a5 a6 a7 a8 a9 c6
  simp only [h1] at hg
  simp only [h2] at hm1
  go_enter Tryd.func18, Tryd.ntmps18
  go_wp2_with (first | ((with_reducible refine gAlloc rfl rfl ?_); (refine ev_allocL rfl hL rfl (by first | exact cells_agg _ rfl | exact cells_int _ _ | exact cells_str _ | exact cells_bool _ | exact cells_slice _ _ _ | exact cells_ptr _ | exact cells_map _ | exact cells_func _ _ _ | exact cells_nilFunc | exact cells_one (by assumption) (by assumption)) ?_; clear hL; intro gq wq hL)) | ((with_reducible refine gBox rfl rfl ?_); (refine ev_boxL rfl hL rfl rfl (by first | exact cells_agg _ rfl | exact cells_int _ _ | exact cells_str _ | exact cells_bool _ | exact cells_slice _ _ _ | exact cells_ptr _ | exact cells_map _ | exact cells_func _ _ _ | exact cells_nilFunc | exact cells_one (by assumption) (by assumption)) ?_; clear hL; intro gq wq hL)) | ((with_reducible refine gLoad rfl rfl ?_); (first | (refine ev_load1L rfl hL rfl rfl HasV.mem (by rfl) ?_) | (refine ev_loadAllL rfl hL rfl rfl HasV.mem (by rfl) ?_) | (refine ev_loadL rfl hL rfl rfl HasV.mem SegC.seg ?_))) | ((with_reducible refine gStore rfl rfl ?_); (first | (refine ev_storeC rfl hL rfl rfl rfl (by first | exact cells_agg _ rfl | exact cells_int _ _ | exact cells_str _ | exact cells_bool _ | exact cells_slice _ _ _ | exact cells_ptr _ | exact cells_map _ | exact cells_func _ _ _ | exact cells_nilFunc | exact cells_one (by assumption) (by assumption)) (by rfl) ?_) | (refine ev_storeAllC rfl hL rfl rfl rfl (by first | exact cells_agg _ rfl | exact cells_int _ _ | exact cells_str _ | exact cells_bool _ | exact cells_slice _ _ _ | exact cells_ptr _ | exact cells_map _ | exact cells_func _ _ _ | exact cells_nilFunc | exact cells_one (by assumption) (by assumption)) (by rfl) (by rfl) ?_)); clear hL; intro wq hL) | ((with_reducible refine gLoadG rfl rfl ?_ ?_); (exact wanted_some rfl rfl rfl (by with_reducible rfl)); (first | (refine ev_load1G (wanted_some rfl rfl rfl rfl) hL rfl rfl HasV.mem (by rfl) ?_) | (refine ev_loadAllG (wanted_some rfl rfl rfl rfl) hL rfl rfl HasV.mem (by rfl) ?_) | (refine ev_loadG_ (wanted_some rfl rfl rfl rfl) hL rfl rfl HasV.mem SegC.seg ?_))))
  clear t0 t1 t2 t3 t4 t5 t6 t7 t8
  refine wp_region_ext (by kernel_rfl) (by kernel_rfl) ?_
  repeat (first | (go_big_quiet_want; (first | refine quiet_load1L hL rfl rfl HasV.mem (by rfl) ?_ | refine quiet_loadAllL hL rfl rfl HasV.mem (by rfl) ?_ | refine quiet_loadL hL rfl rfl HasV.mem SegC.seg ?_); go_big_quiet_on; simp only [Act.put, List.setIfInBounds_toArray, List.set_cons_succ, List.set_cons_zero]) | go_big_quiet_step (first
    | (go_at_call 52; with_reducible exact calls_ext (unhide (hg _)))
    | (go_at_call 53; with_reducible exact calls_ext (unhide (hm1 _)))
    | (go_at_call 53; with_reducible exact calls_ext (unhide (hm2 _)))
    | (go_at_call 20; with_reducible exact calls_ext (unhide (hba _)))))
  refine wpQuiet_nil ?_
  rintro _ ⟨⟨w2, hb2⟩, rfl⟩
  have hL := hL.call hb2
  clear hb2
  go_wp2
  go_ret
  exact ⟨rfl, hL.below⟩
set_option maxHeartbeats 1000000 in
set_option maxRecDepth 100000 in
theorem rchk_mid3 (m : Msg) (w : World) (h : m.head = true) (h1 : (m.seen.good) = true) (h2 : (m.base.ok) = true) (h3 : (m.mark.ok) = false) :
    Calls Tryd.prog 18 #[m.val] w fun e w' => e = .returned (.int .i64 201) ∧ Below w.heap.size w w' := by
  have hL := Loc.nil w NoM
  have hh : 1 ≤ m.kind ∧ m.kind ≤ 4 ∧ 0 ≤ m.src ∧ m.src < 8 ∧ 0 ≤ m.dst ∧ m.dst < 8 ∧ m.src ≠ m.dst ∧ 0 ≤ m.vol ∧ m.vol < 3 := by simpa [Msg.head] using h
  obtain ⟨a1, a2, a3, a4, a5, a6, a7, a8, a9⟩ := hh
  have c6 : ¬ m.src = m.dst := a7
  have t0 : decide (m.kind < 1) = false := by simp; omega
  have t1 : decide (4 < m.kind) = false := by simp; omega
  have t2 : decide (m.src < 0) = false := by simp; omega
  have t3 : decide (7 < m.src) = false := by simp; omega
  have t4 : decide (m.dst < 0) = false := by simp; omega
  have t5 : decide (7 < m.dst) = false := by simp; omega
  have t6 : (m.src == m.dst) = false := by simp [c6]
  have t7 : decide (m.vol < 0) = false := by simp; omega
  have t8 : decide (2 < m.vol) = false := by simp; omega
  have hg := fun w => hide (ref_good m.seen w)
  have hm1 := fun w => hide (ref_mark m.base w)
  have hm2 := fun w => hide (ref_mark m.mark w)
  have hba := fun w => hide (ref_bare m w)
  clear h a1 a2 a3 a4 a5 a6 a7 a8 a9 c6
  simp only [h1] at hg
  simp only [h2] at hm1
  simp only [h3] at hm2
  go_enter Tryd.func18, Tryd.ntmps18
  go_wp2_with (first | ((with_reducible refine gAlloc rfl rfl ?_); (refine ev_allocL rfl hL rfl (by first | exact cells_agg _ rfl | exact cells_int _ _ | exact cells_str _ | exact cells_bool _ | exact cells_slice _ _ _ | exact cells_ptr _ | exact cells_map _ | exact cells_func _ _ _ | exact cells_nilFunc | exact cells_one (by assumption) (by assumption)) ?_; clear hL; intro gq wq hL)) | ((with_reducible refine gBox rfl rfl ?_); (refine ev_boxL rfl hL rfl rfl (by first | exact cells_agg _ rfl | exact cells_int _ _ | exact cells_str _ | exact cells_bool _ | exact cells_slice _ _ _ | exact cells_ptr _ | exact cells_map _ | exact cells_func _ _ _ | exact cells_nilFunc | exact cells_one (by assumption) (by assumption)) ?_; clear hL; intro gq wq hL)) | ((with_reducible refine gLoad rfl rfl ?_); (first | (refine ev_load1L rfl hL rfl rfl HasV.mem (by rfl) ?_) | (refine ev_loadAllL rfl hL rfl rfl HasV.mem (by rfl) ?_) | (refine ev_loadL rfl hL rfl rfl HasV.mem SegC.seg ?_))) | ((with_reducible refine gStore rfl rfl ?_); (first | (refine ev_storeC rfl hL rfl rfl rfl (by first | exact cells_agg _ rfl | exact cells_int _ _ | exact cells_str _ | exact cells_bool _ | exact cells_slice _ _ _ | exact cells_ptr _ | exact cells_map _ | exact cells_func _ _ _ | exact cells_nilFunc | exact cells_one (by assumption) (by assumption)) (by rfl) ?_) | (refine ev_storeAllC rfl hL rfl rfl rfl (by first | exact cells_agg _ rfl | exact cells_int _ _ | exact cells_str _ | exact cells_bool _ | exact cells_slice _ _ _ | exact cells_ptr _ | exact cells_map _ | exact cells_func _ _ _ | exact cells_nilFunc | exact cells_one (by assumption) (by assumption)) (by rfl) (by rfl) ?_)); clear hL; intro wq hL) | ((with_reducible refine gLoadG rfl rfl ?_ ?_); (exact wanted_some rfl rfl rfl (by with_reducible rfl)); (first | (refine ev_load1G (wanted_some rfl rfl rfl rfl) hL rfl rfl HasV.mem (by rfl) ?_) | (refine ev_loadAllG (wanted_some rfl rfl rfl rfl) hL rfl rfl HasV.mem (by rfl) ?_) | (refine ev_loadG_ (wanted_some rfl rfl rfl rfl) hL rfl rfl HasV.mem SegC.seg ?_))))
  clear t0 t1 t2 t3 t4 t5 t6 t7 t8
  refine wp_region_ext (by kernel_rfl) (by kernel_rfl) ?_
  repeat (first | (go_big_quiet_want; (first | refine quiet_load1L hL rfl rfl HasV.mem (by rfl) ?_ | refine quiet_loadAllL hL rfl rfl HasV.mem (by rfl) ?_ | refine quiet_loadL hL rfl rfl HasV.mem SegC.seg ?_); go_big_quiet_on; simp only [Act.put, List.setIfInBounds_toArray, List.set_cons_succ, List.set_cons_zero]) | go_big_quiet_step (first
    | (go_at_call 52; with_reducible exact calls_ext (unhide (hg _)))
    | (go_at_call 53; with_reducible exact calls_ext (unhide (hm1 _)))
    | (go_at_call 53; with_reducible exact calls_ext (unhide (hm2 _)))
    | (go_at_call 20; with_reducible exact calls_ext (unhide (hba _)))))
  refine wpQuiet_nil ?_
  rintro _ ⟨⟨w2, hb2⟩, rfl⟩
  have hL := hL.call hb2
  clear hb2
  go_wp2
  go_ret
  exact ⟨rfl, hL.below⟩
end Go.Proofs.YtbkffeabikjnhaaDoor

/- The document's Check of a message: what the program's says. -/
namespace Go.Proofs.YtbkffeabikjnhaaDoor
open Go.RowKit

theorem ret_ib {a b : Int} (h : a = b) : Ending.returned (.int .i64 a) = .returned (.int .i64 b) := by rw [h]
set_option maxHeartbeats 1000000 in
set_option maxRecDepth 100000 in
theorem rchk_mid4 (m : Msg) (w : World) (h : m.head = true) (h1 : (m.seen.good) = true) (h2 : (m.base.ok) = true) (h3 : (m.mark.ok) = true) (h4 : (decide (m = m.bare)) = false) :
    Calls Tryd.prog 18 #[m.val] w fun e w' => e = .returned (.int .i64 201) ∧ Below w.heap.size w w' := by
  have hL := Loc.nil w NoM
  have hh : 1 ≤ m.kind ∧ m.kind ≤ 4 ∧ 0 ≤ m.src ∧ m.src < 8 ∧ 0 ≤ m.dst ∧ m.dst < 8 ∧ m.src ≠ m.dst ∧ 0 ≤ m.vol ∧ m.vol < 3 := by simpa [Msg.head] using h
  obtain ⟨a1, a2, a3, a4, a5, a6, a7, a8, a9⟩ := hh
  have c6 : ¬ m.src = m.dst := a7
  have t0 : decide (m.kind < 1) = false := by simp; omega
  have t1 : decide (4 < m.kind) = false := by simp; omega
  have t2 : decide (m.src < 0) = false := by simp; omega
  have t3 : decide (7 < m.src) = false := by simp; omega
  have t4 : decide (m.dst < 0) = false := by simp; omega
  have t5 : decide (7 < m.dst) = false := by simp; omega
  have t6 : (m.src == m.dst) = false := by simp [c6]
  have t7 : decide (m.vol < 0) = false := by simp; omega
  have t8 : decide (2 < m.vol) = false := by simp; omega
  have hg := fun w => hide (ref_good m.seen w)
  have hm1 := fun w => hide (ref_mark m.base w)
  have hm2 := fun w => hide (ref_mark m.mark w)
  have hba := fun w => hide (ref_bare m w)
  clear h a1 a2 a3 a4 a5 a6 a7 a8 a9 c6
  simp only [h1] at hg
  simp only [h2] at hm1
  simp only [h3] at hm2
  have hne : ∀ w, (binOp .neq 41 m.val m.bare.val).run Tryd.prog w = .ok (.bool true) w := fun w => by rw [msg_neq, h4]; rfl
  go_enter Tryd.func18, Tryd.ntmps18
  go_wp2_with (first | ((with_reducible refine gAlloc rfl rfl ?_); (refine ev_allocL rfl hL rfl (by first | exact cells_agg _ rfl | exact cells_int _ _ | exact cells_str _ | exact cells_bool _ | exact cells_slice _ _ _ | exact cells_ptr _ | exact cells_map _ | exact cells_func _ _ _ | exact cells_nilFunc | exact cells_one (by assumption) (by assumption)) ?_; clear hL; intro gq wq hL)) | ((with_reducible refine gBox rfl rfl ?_); (refine ev_boxL rfl hL rfl rfl (by first | exact cells_agg _ rfl | exact cells_int _ _ | exact cells_str _ | exact cells_bool _ | exact cells_slice _ _ _ | exact cells_ptr _ | exact cells_map _ | exact cells_func _ _ _ | exact cells_nilFunc | exact cells_one (by assumption) (by assumption)) ?_; clear hL; intro gq wq hL)) | ((with_reducible refine gLoad rfl rfl ?_); (first | (refine ev_load1L rfl hL rfl rfl HasV.mem (by rfl) ?_) | (refine ev_loadAllL rfl hL rfl rfl HasV.mem (by rfl) ?_) | (refine ev_loadL rfl hL rfl rfl HasV.mem SegC.seg ?_))) | ((with_reducible refine gStore rfl rfl ?_); (first | (refine ev_storeC rfl hL rfl rfl rfl (by first | exact cells_agg _ rfl | exact cells_int _ _ | exact cells_str _ | exact cells_bool _ | exact cells_slice _ _ _ | exact cells_ptr _ | exact cells_map _ | exact cells_func _ _ _ | exact cells_nilFunc | exact cells_one (by assumption) (by assumption)) (by rfl) ?_) | (refine ev_storeAllC rfl hL rfl rfl rfl (by first | exact cells_agg _ rfl | exact cells_int _ _ | exact cells_str _ | exact cells_bool _ | exact cells_slice _ _ _ | exact cells_ptr _ | exact cells_map _ | exact cells_func _ _ _ | exact cells_nilFunc | exact cells_one (by assumption) (by assumption)) (by rfl) (by rfl) ?_)); clear hL; intro wq hL) | ((with_reducible refine gLoadG rfl rfl ?_ ?_); (exact wanted_some rfl rfl rfl (by with_reducible rfl)); (first | (refine ev_load1G (wanted_some rfl rfl rfl rfl) hL rfl rfl HasV.mem (by rfl) ?_) | (refine ev_loadAllG (wanted_some rfl rfl rfl rfl) hL rfl rfl HasV.mem (by rfl) ?_) | (refine ev_loadG_ (wanted_some rfl rfl rfl rfl) hL rfl rfl HasV.mem SegC.seg ?_))))
  clear t0 t1 t2 t3 t4 t5 t6 t7 t8
  refine wp_region_ext (by kernel_rfl) (by kernel_rfl) ?_
  repeat (first | (go_big_quiet_want; (first | refine quiet_load1L hL rfl rfl HasV.mem (by rfl) ?_ | refine quiet_loadAllL hL rfl rfl HasV.mem (by rfl) ?_ | refine quiet_loadL hL rfl rfl HasV.mem SegC.seg ?_); go_big_quiet_on; simp only [Act.put, List.setIfInBounds_toArray, List.set_cons_succ, List.set_cons_zero]) | go_big_quiet_step (first
    | (go_at_call 52; with_reducible exact calls_ext (unhide (hg _)))
    | (go_at_call 53; with_reducible exact calls_ext (unhide (hm1 _)))
    | (go_at_call 53; with_reducible exact calls_ext (unhide (hm2 _)))
    | (go_at_call 20; with_reducible exact calls_ext (unhide (hba _)))))
  refine wpQuiet_nil ?_
  rintro _ ⟨⟨w2, hb2⟩, rfl⟩
  have hL := hL.call hb2
  clear hb2
  go_wp2
  go_ret
  exact ⟨rfl, hL.below⟩
set_option maxHeartbeats 2000000 in
set_option maxRecDepth 100000 in
theorem rchk_kind1 (m : Msg) (w : World) (h : m.head = true) (h1 : (m.seen.good) = true) (h2 : (m.base.ok) = true) (h3 : (m.mark.ok) = true) (h4 : (decide (m = m.bare)) = true) (hk : m.kind = 1) :
    Calls Tryd.prog 18 #[m.val] w fun e w' => e = .returned (.int .i64 m.kcode) ∧ Below w.heap.size w w' := by
  have HK := Lib.hid hk
  have b1 : (m.kind == 1) = true := by simp [hk]
  have b2 : (m.kind == 2) = false := by simp [hk]
  have b4 : (m.kind == 4) = false := by simp [hk]
  clear hk
  have hno := fun w => hide (ref_none m.mark w)
  have hL := Loc.nil w NoM
  have hh : 1 ≤ m.kind ∧ m.kind ≤ 4 ∧ 0 ≤ m.src ∧ m.src < 8 ∧ 0 ≤ m.dst ∧ m.dst < 8 ∧ m.src ≠ m.dst ∧ 0 ≤ m.vol ∧ m.vol < 3 := by simpa [Msg.head] using h
  obtain ⟨a1, a2, a3, a4, a5, a6, a7, a8, a9⟩ := hh
  have c6 : ¬ m.src = m.dst := a7
  have t0 : decide (m.kind < 1) = false := by simp; omega
  have t1 : decide (4 < m.kind) = false := by simp; omega
  have t2 : decide (m.src < 0) = false := by simp; omega
  have t3 : decide (7 < m.src) = false := by simp; omega
  have t4 : decide (m.dst < 0) = false := by simp; omega
  have t5 : decide (7 < m.dst) = false := by simp; omega
  have t6 : (m.src == m.dst) = false := by simp [c6]
  have t7 : decide (m.vol < 0) = false := by simp; omega
  have t8 : decide (2 < m.vol) = false := by simp; omega
  have hg := fun w => hide (ref_good m.seen w)
  have hm1 := fun w => hide (ref_mark m.base w)
  have hm2 := fun w => hide (ref_mark m.mark w)
  have hba := fun w => hide (ref_bare m w)
  clear h a1 a2 a3 a4 a5 a6 a7 a8 a9 c6
  simp only [h1] at hg
  simp only [h2] at hm1
  simp only [h3] at hm2
  have hne : ∀ w, (binOp .neq 41 m.val m.bare.val).run Tryd.prog w = .ok (.bool false) w := fun w => by rw [msg_neq, h4]; rfl
  go_enter Tryd.func18, Tryd.ntmps18
  go_wp2_with (first | ((with_reducible refine gAlloc rfl rfl ?_); (refine ev_allocL rfl hL rfl (by first | exact cells_agg _ rfl | exact cells_int _ _ | exact cells_str _ | exact cells_bool _ | exact cells_slice _ _ _ | exact cells_ptr _ | exact cells_map _ | exact cells_func _ _ _ | exact cells_nilFunc | exact cells_one (by assumption) (by assumption)) ?_; clear hL; intro gq wq hL)) | ((with_reducible refine gBox rfl rfl ?_); (refine ev_boxL rfl hL rfl rfl (by first | exact cells_agg _ rfl | exact cells_int _ _ | exact cells_str _ | exact cells_bool _ | exact cells_slice _ _ _ | exact cells_ptr _ | exact cells_map _ | exact cells_func _ _ _ | exact cells_nilFunc | exact cells_one (by assumption) (by assumption)) ?_; clear hL; intro gq wq hL)) | ((with_reducible refine gLoad rfl rfl ?_); (first | (refine ev_load1L rfl hL rfl rfl HasV.mem (by rfl) ?_) | (refine ev_loadAllL rfl hL rfl rfl HasV.mem (by rfl) ?_) | (refine ev_loadL rfl hL rfl rfl HasV.mem SegC.seg ?_))) | ((with_reducible refine gStore rfl rfl ?_); (first | (refine ev_storeC rfl hL rfl rfl rfl (by first | exact cells_agg _ rfl | exact cells_int _ _ | exact cells_str _ | exact cells_bool _ | exact cells_slice _ _ _ | exact cells_ptr _ | exact cells_map _ | exact cells_func _ _ _ | exact cells_nilFunc | exact cells_one (by assumption) (by assumption)) (by rfl) ?_) | (refine ev_storeAllC rfl hL rfl rfl rfl (by first | exact cells_agg _ rfl | exact cells_int _ _ | exact cells_str _ | exact cells_bool _ | exact cells_slice _ _ _ | exact cells_ptr _ | exact cells_map _ | exact cells_func _ _ _ | exact cells_nilFunc | exact cells_one (by assumption) (by assumption)) (by rfl) (by rfl) ?_)); clear hL; intro wq hL) | ((with_reducible refine gLoadG rfl rfl ?_ ?_); (exact wanted_some rfl rfl rfl (by with_reducible rfl)); (first | (refine ev_load1G (wanted_some rfl rfl rfl rfl) hL rfl rfl HasV.mem (by rfl) ?_) | (refine ev_loadAllG (wanted_some rfl rfl rfl rfl) hL rfl rfl HasV.mem (by rfl) ?_) | (refine ev_loadG_ (wanted_some rfl rfl rfl rfl) hL rfl rfl HasV.mem SegC.seg ?_))))
  clear t0 t1 t2 t3 t4 t5 t6 t7 t8
  refine wp_region_ext (by kernel_rfl) (by kernel_rfl) ?_
  repeat (first | (go_big_quiet_want; (first | refine quiet_load1L hL rfl rfl HasV.mem (by rfl) ?_ | refine quiet_loadAllL hL rfl rfl HasV.mem (by rfl) ?_ | refine quiet_loadL hL rfl rfl HasV.mem SegC.seg ?_); go_big_quiet_on; simp only [Act.put, List.setIfInBounds_toArray, List.set_cons_succ, List.set_cons_zero]) | go_big_quiet_step (first
    | (go_at_call 52; with_reducible exact calls_ext (unhide (hg _)))
    | (go_at_call 53; with_reducible exact calls_ext (unhide (hm1 _)))
    | (go_at_call 53; with_reducible exact calls_ext (unhide (hm2 _)))
    | (go_at_call 20; with_reducible exact calls_ext (unhide (hba _)))))
  refine wpQuiet_nil ?_
  rintro _ ⟨⟨w2, hb2⟩, rfl⟩
  have hL := hL.call hb2
  clear hb2
  clear hne hg hm1 hm2 hba h1 h2 h3 h4
  by_cases z : m.mark = ⟨0, 0⟩
  · have hz : decide (m.mark = ⟨0, 0⟩) = true := by simp [z]
    rw [hz] at hno
    have Z := Lib.hid z
    clear z hz
    by_cases q0 : m.index < 0
    · have s0 : decide (m.index < 0) = true := by simp; omega
      have Q0 := Lib.hid q0
      clear q0
      go_wp2_with (first | ((with_reducible refine gAlloc rfl rfl ?_); (refine ev_allocL rfl hL rfl (by first | exact cells_agg _ rfl | exact cells_int _ _ | exact cells_str _ | exact cells_bool _ | exact cells_slice _ _ _ | exact cells_ptr _ | exact cells_map _ | exact cells_func _ _ _ | exact cells_nilFunc | exact cells_one (by assumption) (by assumption)) ?_; clear hL; intro gq wq hL)) | ((with_reducible refine gBox rfl rfl ?_); (refine ev_boxL rfl hL rfl rfl (by first | exact cells_agg _ rfl | exact cells_int _ _ | exact cells_str _ | exact cells_bool _ | exact cells_slice _ _ _ | exact cells_ptr _ | exact cells_map _ | exact cells_func _ _ _ | exact cells_nilFunc | exact cells_one (by assumption) (by assumption)) ?_; clear hL; intro gq wq hL)) | ((with_reducible refine gLoad rfl rfl ?_); (first | (refine ev_load1L rfl hL rfl rfl HasV.mem (by rfl) ?_) | (refine ev_loadAllL rfl hL rfl rfl HasV.mem (by rfl) ?_) | (refine ev_loadL rfl hL rfl rfl HasV.mem SegC.seg ?_))) | ((with_reducible refine gStore rfl rfl ?_); (first | (refine ev_storeC rfl hL rfl rfl rfl (by first | exact cells_agg _ rfl | exact cells_int _ _ | exact cells_str _ | exact cells_bool _ | exact cells_slice _ _ _ | exact cells_ptr _ | exact cells_map _ | exact cells_func _ _ _ | exact cells_nilFunc | exact cells_one (by assumption) (by assumption)) (by rfl) ?_) | (refine ev_storeAllC rfl hL rfl rfl rfl (by first | exact cells_agg _ rfl | exact cells_int _ _ | exact cells_str _ | exact cells_bool _ | exact cells_slice _ _ _ | exact cells_ptr _ | exact cells_map _ | exact cells_func _ _ _ | exact cells_nilFunc | exact cells_one (by assumption) (by assumption)) (by rfl) (by rfl) ?_)); clear hL; intro wq hL) | ((with_reducible refine gLoadG rfl rfl ?_ ?_); (exact wanted_some rfl rfl rfl (by with_reducible rfl)); (first | (refine ev_load1G (wanted_some rfl rfl rfl rfl) hL rfl rfl HasV.mem (by rfl) ?_) | (refine ev_loadAllG (wanted_some rfl rfl rfl rfl) hL rfl rfl HasV.mem (by rfl) ?_) | (refine ev_loadG_ (wanted_some rfl rfl rfl rfl) hL rfl rfl HasV.mem SegC.seg ?_))) | (go_at_call 54; (with_reducible refine (unhide (hno _)).mono ?_); rintro e w1 ⟨rfl, hb1⟩; have hL := hL.call hb1; clear hb1))
      go_ret
      exact ⟨ret_ib (by have hk := HK.out; unfold Msg.kcode Msg.kindOk; have := Q0.out; rw [if_neg (by simp [hk, Z.out]; try omega)]), hL.below⟩
    have s0 : decide (m.index < 0) = false := by simp; omega
    have Q0 := Lib.hid q0
    clear q0
    by_cases q1 : 4095 < m.index
    · have s1 : decide (4095 < m.index) = true := by simp; omega
      have Q1 := Lib.hid q1
      clear q1
      go_wp2_with (first | ((with_reducible refine gAlloc rfl rfl ?_); (refine ev_allocL rfl hL rfl (by first | exact cells_agg _ rfl | exact cells_int _ _ | exact cells_str _ | exact cells_bool _ | exact cells_slice _ _ _ | exact cells_ptr _ | exact cells_map _ | exact cells_func _ _ _ | exact cells_nilFunc | exact cells_one (by assumption) (by assumption)) ?_; clear hL; intro gq wq hL)) | ((with_reducible refine gBox rfl rfl ?_); (refine ev_boxL rfl hL rfl rfl (by first | exact cells_agg _ rfl | exact cells_int _ _ | exact cells_str _ | exact cells_bool _ | exact cells_slice _ _ _ | exact cells_ptr _ | exact cells_map _ | exact cells_func _ _ _ | exact cells_nilFunc | exact cells_one (by assumption) (by assumption)) ?_; clear hL; intro gq wq hL)) | ((with_reducible refine gLoad rfl rfl ?_); (first | (refine ev_load1L rfl hL rfl rfl HasV.mem (by rfl) ?_) | (refine ev_loadAllL rfl hL rfl rfl HasV.mem (by rfl) ?_) | (refine ev_loadL rfl hL rfl rfl HasV.mem SegC.seg ?_))) | ((with_reducible refine gStore rfl rfl ?_); (first | (refine ev_storeC rfl hL rfl rfl rfl (by first | exact cells_agg _ rfl | exact cells_int _ _ | exact cells_str _ | exact cells_bool _ | exact cells_slice _ _ _ | exact cells_ptr _ | exact cells_map _ | exact cells_func _ _ _ | exact cells_nilFunc | exact cells_one (by assumption) (by assumption)) (by rfl) ?_) | (refine ev_storeAllC rfl hL rfl rfl rfl (by first | exact cells_agg _ rfl | exact cells_int _ _ | exact cells_str _ | exact cells_bool _ | exact cells_slice _ _ _ | exact cells_ptr _ | exact cells_map _ | exact cells_func _ _ _ | exact cells_nilFunc | exact cells_one (by assumption) (by assumption)) (by rfl) (by rfl) ?_)); clear hL; intro wq hL) | ((with_reducible refine gLoadG rfl rfl ?_ ?_); (exact wanted_some rfl rfl rfl (by with_reducible rfl)); (first | (refine ev_load1G (wanted_some rfl rfl rfl rfl) hL rfl rfl HasV.mem (by rfl) ?_) | (refine ev_loadAllG (wanted_some rfl rfl rfl rfl) hL rfl rfl HasV.mem (by rfl) ?_) | (refine ev_loadG_ (wanted_some rfl rfl rfl rfl) hL rfl rfl HasV.mem SegC.seg ?_))) | (go_at_call 54; (with_reducible refine (unhide (hno _)).mono ?_); rintro e w1 ⟨rfl, hb1⟩; have hL := hL.call hb1; clear hb1))
      go_ret
      exact ⟨ret_ib (by have hk := HK.out; unfold Msg.kcode Msg.kindOk; have := Q1.out; rw [if_neg (by simp [hk, Z.out]; try omega)]), hL.below⟩
    have s1 : decide (4095 < m.index) = false := by simp; omega
    have Q1 := Lib.hid q1
    clear q1
    by_cases q2 : 0 < m.index
    · have s2 : decide (0 < m.index) = true := by simp; omega
      have Q2 := Lib.hid q2
      clear q2
      go_wp2_with (first | ((with_reducible refine gAlloc rfl rfl ?_); (refine ev_allocL rfl hL rfl (by first | exact cells_agg _ rfl | exact cells_int _ _ | exact cells_str _ | exact cells_bool _ | exact cells_slice _ _ _ | exact cells_ptr _ | exact cells_map _ | exact cells_func _ _ _ | exact cells_nilFunc | exact cells_one (by assumption) (by assumption)) ?_; clear hL; intro gq wq hL)) | ((with_reducible refine gBox rfl rfl ?_); (refine ev_boxL rfl hL rfl rfl (by first | exact cells_agg _ rfl | exact cells_int _ _ | exact cells_str _ | exact cells_bool _ | exact cells_slice _ _ _ | exact cells_ptr _ | exact cells_map _ | exact cells_func _ _ _ | exact cells_nilFunc | exact cells_one (by assumption) (by assumption)) ?_; clear hL; intro gq wq hL)) | ((with_reducible refine gLoad rfl rfl ?_); (first | (refine ev_load1L rfl hL rfl rfl HasV.mem (by rfl) ?_) | (refine ev_loadAllL rfl hL rfl rfl HasV.mem (by rfl) ?_) | (refine ev_loadL rfl hL rfl rfl HasV.mem SegC.seg ?_))) | ((with_reducible refine gStore rfl rfl ?_); (first | (refine ev_storeC rfl hL rfl rfl rfl (by first | exact cells_agg _ rfl | exact cells_int _ _ | exact cells_str _ | exact cells_bool _ | exact cells_slice _ _ _ | exact cells_ptr _ | exact cells_map _ | exact cells_func _ _ _ | exact cells_nilFunc | exact cells_one (by assumption) (by assumption)) (by rfl) ?_) | (refine ev_storeAllC rfl hL rfl rfl rfl (by first | exact cells_agg _ rfl | exact cells_int _ _ | exact cells_str _ | exact cells_bool _ | exact cells_slice _ _ _ | exact cells_ptr _ | exact cells_map _ | exact cells_func _ _ _ | exact cells_nilFunc | exact cells_one (by assumption) (by assumption)) (by rfl) (by rfl) ?_)); clear hL; intro wq hL) | ((with_reducible refine gLoadG rfl rfl ?_ ?_); (exact wanted_some rfl rfl rfl (by with_reducible rfl)); (first | (refine ev_load1G (wanted_some rfl rfl rfl rfl) hL rfl rfl HasV.mem (by rfl) ?_) | (refine ev_loadAllG (wanted_some rfl rfl rfl rfl) hL rfl rfl HasV.mem (by rfl) ?_) | (refine ev_loadG_ (wanted_some rfl rfl rfl rfl) hL rfl rfl HasV.mem SegC.seg ?_))) | (go_at_call 54; (with_reducible refine (unhide (hno _)).mono ?_); rintro e w1 ⟨rfl, hb1⟩; have hL := hL.call hb1; clear hb1))
      go_ret
      exact ⟨ret_ib (by have hk := HK.out; unfold Msg.kcode Msg.kindOk; have := Q2.out; rw [if_neg (by simp [hk, Z.out]; try omega)]), hL.below⟩
    have s2 : decide (0 < m.index) = false := by simp; omega
    have Q2 := Lib.hid q2
    clear q2
    go_wp2_with (first | ((with_reducible refine gAlloc rfl rfl ?_); (refine ev_allocL rfl hL rfl (by first | exact cells_agg _ rfl | exact cells_int _ _ | exact cells_str _ | exact cells_bool _ | exact cells_slice _ _ _ | exact cells_ptr _ | exact cells_map _ | exact cells_func _ _ _ | exact cells_nilFunc | exact cells_one (by assumption) (by assumption)) ?_; clear hL; intro gq wq hL)) | ((with_reducible refine gBox rfl rfl ?_); (refine ev_boxL rfl hL rfl rfl (by first | exact cells_agg _ rfl | exact cells_int _ _ | exact cells_str _ | exact cells_bool _ | exact cells_slice _ _ _ | exact cells_ptr _ | exact cells_map _ | exact cells_func _ _ _ | exact cells_nilFunc | exact cells_one (by assumption) (by assumption)) ?_; clear hL; intro gq wq hL)) | ((with_reducible refine gLoad rfl rfl ?_); (first | (refine ev_load1L rfl hL rfl rfl HasV.mem (by rfl) ?_) | (refine ev_loadAllL rfl hL rfl rfl HasV.mem (by rfl) ?_) | (refine ev_loadL rfl hL rfl rfl HasV.mem SegC.seg ?_))) | ((with_reducible refine gStore rfl rfl ?_); (first | (refine ev_storeC rfl hL rfl rfl rfl (by first | exact cells_agg _ rfl | exact cells_int _ _ | exact cells_str _ | exact cells_bool _ | exact cells_slice _ _ _ | exact cells_ptr _ | exact cells_map _ | exact cells_func _ _ _ | exact cells_nilFunc | exact cells_one (by assumption) (by assumption)) (by rfl) ?_) | (refine ev_storeAllC rfl hL rfl rfl rfl (by first | exact cells_agg _ rfl | exact cells_int _ _ | exact cells_str _ | exact cells_bool _ | exact cells_slice _ _ _ | exact cells_ptr _ | exact cells_map _ | exact cells_func _ _ _ | exact cells_nilFunc | exact cells_one (by assumption) (by assumption)) (by rfl) (by rfl) ?_)); clear hL; intro wq hL) | ((with_reducible refine gLoadG rfl rfl ?_ ?_); (exact wanted_some rfl rfl rfl (by with_reducible rfl)); (first | (refine ev_load1G (wanted_some rfl rfl rfl rfl) hL rfl rfl HasV.mem (by rfl) ?_) | (refine ev_loadAllG (wanted_some rfl rfl rfl rfl) hL rfl rfl HasV.mem (by rfl) ?_) | (refine ev_loadG_ (wanted_some rfl rfl rfl rfl) hL rfl rfl HasV.mem SegC.seg ?_))) | (go_at_call 54; (with_reducible refine (unhide (hno _)).mono ?_); rintro e w1 ⟨rfl, hb1⟩; have hL := hL.call hb1; clear hb1))
    go_ret
    exact ⟨ret_ib (by have hk := HK.out; unfold Msg.kcode Msg.kindOk; have := Q0.out; have := Q1.out; have := Q2.out; rw [if_pos (by simp [hk, Z.out]; try omega)]), hL.below⟩
  · have hz : decide (m.mark = ⟨0, 0⟩) = false := by simp [z]
    rw [hz] at hno
    have Z := Lib.hid z
    clear z hz
    by_cases q0 : m.index < 0
    · have s0 : decide (m.index < 0) = true := by simp; omega
      have Q0 := Lib.hid q0
      clear q0
      go_wp2_with (first | ((with_reducible refine gAlloc rfl rfl ?_); (refine ev_allocL rfl hL rfl (by first | exact cells_agg _ rfl | exact cells_int _ _ | exact cells_str _ | exact cells_bool _ | exact cells_slice _ _ _ | exact cells_ptr _ | exact cells_map _ | exact cells_func _ _ _ | exact cells_nilFunc | exact cells_one (by assumption) (by assumption)) ?_; clear hL; intro gq wq hL)) | ((with_reducible refine gBox rfl rfl ?_); (refine ev_boxL rfl hL rfl rfl (by first | exact cells_agg _ rfl | exact cells_int _ _ | exact cells_str _ | exact cells_bool _ | exact cells_slice _ _ _ | exact cells_ptr _ | exact cells_map _ | exact cells_func _ _ _ | exact cells_nilFunc | exact cells_one (by assumption) (by assumption)) ?_; clear hL; intro gq wq hL)) | ((with_reducible refine gLoad rfl rfl ?_); (first | (refine ev_load1L rfl hL rfl rfl HasV.mem (by rfl) ?_) | (refine ev_loadAllL rfl hL rfl rfl HasV.mem (by rfl) ?_) | (refine ev_loadL rfl hL rfl rfl HasV.mem SegC.seg ?_))) | ((with_reducible refine gStore rfl rfl ?_); (first | (refine ev_storeC rfl hL rfl rfl rfl (by first | exact cells_agg _ rfl | exact cells_int _ _ | exact cells_str _ | exact cells_bool _ | exact cells_slice _ _ _ | exact cells_ptr _ | exact cells_map _ | exact cells_func _ _ _ | exact cells_nilFunc | exact cells_one (by assumption) (by assumption)) (by rfl) ?_) | (refine ev_storeAllC rfl hL rfl rfl rfl (by first | exact cells_agg _ rfl | exact cells_int _ _ | exact cells_str _ | exact cells_bool _ | exact cells_slice _ _ _ | exact cells_ptr _ | exact cells_map _ | exact cells_func _ _ _ | exact cells_nilFunc | exact cells_one (by assumption) (by assumption)) (by rfl) (by rfl) ?_)); clear hL; intro wq hL) | ((with_reducible refine gLoadG rfl rfl ?_ ?_); (exact wanted_some rfl rfl rfl (by with_reducible rfl)); (first | (refine ev_load1G (wanted_some rfl rfl rfl rfl) hL rfl rfl HasV.mem (by rfl) ?_) | (refine ev_loadAllG (wanted_some rfl rfl rfl rfl) hL rfl rfl HasV.mem (by rfl) ?_) | (refine ev_loadG_ (wanted_some rfl rfl rfl rfl) hL rfl rfl HasV.mem SegC.seg ?_))) | (go_at_call 54; (with_reducible refine (unhide (hno _)).mono ?_); rintro e w1 ⟨rfl, hb1⟩; have hL := hL.call hb1; clear hb1))
      go_ret
      exact ⟨ret_ib (by have hk := HK.out; unfold Msg.kcode Msg.kindOk; have := Q0.out; rw [if_neg (by simp [hk, Z.out]; try omega)]), hL.below⟩
    have s0 : decide (m.index < 0) = false := by simp; omega
    have Q0 := Lib.hid q0
    clear q0
    by_cases q1 : 4095 < m.index
    · have s1 : decide (4095 < m.index) = true := by simp; omega
      have Q1 := Lib.hid q1
      clear q1
      go_wp2_with (first | ((with_reducible refine gAlloc rfl rfl ?_); (refine ev_allocL rfl hL rfl (by first | exact cells_agg _ rfl | exact cells_int _ _ | exact cells_str _ | exact cells_bool _ | exact cells_slice _ _ _ | exact cells_ptr _ | exact cells_map _ | exact cells_func _ _ _ | exact cells_nilFunc | exact cells_one (by assumption) (by assumption)) ?_; clear hL; intro gq wq hL)) | ((with_reducible refine gBox rfl rfl ?_); (refine ev_boxL rfl hL rfl rfl (by first | exact cells_agg _ rfl | exact cells_int _ _ | exact cells_str _ | exact cells_bool _ | exact cells_slice _ _ _ | exact cells_ptr _ | exact cells_map _ | exact cells_func _ _ _ | exact cells_nilFunc | exact cells_one (by assumption) (by assumption)) ?_; clear hL; intro gq wq hL)) | ((with_reducible refine gLoad rfl rfl ?_); (first | (refine ev_load1L rfl hL rfl rfl HasV.mem (by rfl) ?_) | (refine ev_loadAllL rfl hL rfl rfl HasV.mem (by rfl) ?_) | (refine ev_loadL rfl hL rfl rfl HasV.mem SegC.seg ?_))) | ((with_reducible refine gStore rfl rfl ?_); (first | (refine ev_storeC rfl hL rfl rfl rfl (by first | exact cells_agg _ rfl | exact cells_int _ _ | exact cells_str _ | exact cells_bool _ | exact cells_slice _ _ _ | exact cells_ptr _ | exact cells_map _ | exact cells_func _ _ _ | exact cells_nilFunc | exact cells_one (by assumption) (by assumption)) (by rfl) ?_) | (refine ev_storeAllC rfl hL rfl rfl rfl (by first | exact cells_agg _ rfl | exact cells_int _ _ | exact cells_str _ | exact cells_bool _ | exact cells_slice _ _ _ | exact cells_ptr _ | exact cells_map _ | exact cells_func _ _ _ | exact cells_nilFunc | exact cells_one (by assumption) (by assumption)) (by rfl) (by rfl) ?_)); clear hL; intro wq hL) | ((with_reducible refine gLoadG rfl rfl ?_ ?_); (exact wanted_some rfl rfl rfl (by with_reducible rfl)); (first | (refine ev_load1G (wanted_some rfl rfl rfl rfl) hL rfl rfl HasV.mem (by rfl) ?_) | (refine ev_loadAllG (wanted_some rfl rfl rfl rfl) hL rfl rfl HasV.mem (by rfl) ?_) | (refine ev_loadG_ (wanted_some rfl rfl rfl rfl) hL rfl rfl HasV.mem SegC.seg ?_))) | (go_at_call 54; (with_reducible refine (unhide (hno _)).mono ?_); rintro e w1 ⟨rfl, hb1⟩; have hL := hL.call hb1; clear hb1))
      go_ret
      exact ⟨ret_ib (by have hk := HK.out; unfold Msg.kcode Msg.kindOk; have := Q1.out; rw [if_neg (by simp [hk, Z.out]; try omega)]), hL.below⟩
    have s1 : decide (4095 < m.index) = false := by simp; omega
    have Q1 := Lib.hid q1
    clear q1
    go_wp2_with (first | ((with_reducible refine gAlloc rfl rfl ?_); (refine ev_allocL rfl hL rfl (by first | exact cells_agg _ rfl | exact cells_int _ _ | exact cells_str _ | exact cells_bool _ | exact cells_slice _ _ _ | exact cells_ptr _ | exact cells_map _ | exact cells_func _ _ _ | exact cells_nilFunc | exact cells_one (by assumption) (by assumption)) ?_; clear hL; intro gq wq hL)) | ((with_reducible refine gBox rfl rfl ?_); (refine ev_boxL rfl hL rfl rfl (by first | exact cells_agg _ rfl | exact cells_int _ _ | exact cells_str _ | exact cells_bool _ | exact cells_slice _ _ _ | exact cells_ptr _ | exact cells_map _ | exact cells_func _ _ _ | exact cells_nilFunc | exact cells_one (by assumption) (by assumption)) ?_; clear hL; intro gq wq hL)) | ((with_reducible refine gLoad rfl rfl ?_); (first | (refine ev_load1L rfl hL rfl rfl HasV.mem (by rfl) ?_) | (refine ev_loadAllL rfl hL rfl rfl HasV.mem (by rfl) ?_) | (refine ev_loadL rfl hL rfl rfl HasV.mem SegC.seg ?_))) | ((with_reducible refine gStore rfl rfl ?_); (first | (refine ev_storeC rfl hL rfl rfl rfl (by first | exact cells_agg _ rfl | exact cells_int _ _ | exact cells_str _ | exact cells_bool _ | exact cells_slice _ _ _ | exact cells_ptr _ | exact cells_map _ | exact cells_func _ _ _ | exact cells_nilFunc | exact cells_one (by assumption) (by assumption)) (by rfl) ?_) | (refine ev_storeAllC rfl hL rfl rfl rfl (by first | exact cells_agg _ rfl | exact cells_int _ _ | exact cells_str _ | exact cells_bool _ | exact cells_slice _ _ _ | exact cells_ptr _ | exact cells_map _ | exact cells_func _ _ _ | exact cells_nilFunc | exact cells_one (by assumption) (by assumption)) (by rfl) (by rfl) ?_)); clear hL; intro wq hL) | ((with_reducible refine gLoadG rfl rfl ?_ ?_); (exact wanted_some rfl rfl rfl (by with_reducible rfl)); (first | (refine ev_load1G (wanted_some rfl rfl rfl rfl) hL rfl rfl HasV.mem (by rfl) ?_) | (refine ev_loadAllG (wanted_some rfl rfl rfl rfl) hL rfl rfl HasV.mem (by rfl) ?_) | (refine ev_loadG_ (wanted_some rfl rfl rfl rfl) hL rfl rfl HasV.mem SegC.seg ?_))) | (go_at_call 54; (with_reducible refine (unhide (hno _)).mono ?_); rintro e w1 ⟨rfl, hb1⟩; have hL := hL.call hb1; clear hb1))
    go_ret
    exact ⟨ret_ib (by have hk := HK.out; unfold Msg.kcode Msg.kindOk; have := Q0.out; have := Q1.out; rw [if_pos (by simp [hk, Z.out]; try omega)]), hL.below⟩
set_option maxHeartbeats 2000000 in
set_option maxRecDepth 100000 in
theorem rchk_kind3 (m : Msg) (w : World) (h : m.head = true) (h1 : (m.seen.good) = true) (h2 : (m.base.ok) = true) (h3 : (m.mark.ok) = true) (h4 : (decide (m = m.bare)) = true) (hk : m.kind = 3) :
    Calls Tryd.prog 18 #[m.val] w fun e w' => e = .returned (.int .i64 m.kcode) ∧ Below w.heap.size w w' := by
  have HK := Lib.hid hk
  have b1 : (m.kind == 1) = false := by simp [hk]
  have b2 : (m.kind == 2) = false := by simp [hk]
  have b4 : (m.kind == 4) = false := by simp [hk]
  clear hk
  have hno := fun w => hide (ref_none m.mark w)
  have hL := Loc.nil w NoM
  have hh : 1 ≤ m.kind ∧ m.kind ≤ 4 ∧ 0 ≤ m.src ∧ m.src < 8 ∧ 0 ≤ m.dst ∧ m.dst < 8 ∧ m.src ≠ m.dst ∧ 0 ≤ m.vol ∧ m.vol < 3 := by simpa [Msg.head] using h
  obtain ⟨a1, a2, a3, a4, a5, a6, a7, a8, a9⟩ := hh
  have c6 : ¬ m.src = m.dst := a7
  have t0 : decide (m.kind < 1) = false := by simp; omega
  have t1 : decide (4 < m.kind) = false := by simp; omega
  have t2 : decide (m.src < 0) = false := by simp; omega
  have t3 : decide (7 < m.src) = false := by simp; omega
  have t4 : decide (m.dst < 0) = false := by simp; omega
  have t5 : decide (7 < m.dst) = false := by simp; omega
  have t6 : (m.src == m.dst) = false := by simp [c6]
  have t7 : decide (m.vol < 0) = false := by simp; omega
  have t8 : decide (2 < m.vol) = false := by simp; omega
  have hg := fun w => hide (ref_good m.seen w)
  have hm1 := fun w => hide (ref_mark m.base w)
  have hm2 := fun w => hide (ref_mark m.mark w)
  have hba := fun w => hide (ref_bare m w)
  clear h a1 a2 a3 a4 a5 a6 a7 a8 a9 c6
  simp only [h1] at hg
  simp only [h2] at hm1
  simp only [h3] at hm2
  have hne : ∀ w, (binOp .neq 41 m.val m.bare.val).run Tryd.prog w = .ok (.bool false) w := fun w => by rw [msg_neq, h4]; rfl
  go_enter Tryd.func18, Tryd.ntmps18
  go_wp2_with (first | ((with_reducible refine gAlloc rfl rfl ?_); (refine ev_allocL rfl hL rfl (by first | exact cells_agg _ rfl | exact cells_int _ _ | exact cells_str _ | exact cells_bool _ | exact cells_slice _ _ _ | exact cells_ptr _ | exact cells_map _ | exact cells_func _ _ _ | exact cells_nilFunc | exact cells_one (by assumption) (by assumption)) ?_; clear hL; intro gq wq hL)) | ((with_reducible refine gBox rfl rfl ?_); (refine ev_boxL rfl hL rfl rfl (by first | exact cells_agg _ rfl | exact cells_int _ _ | exact cells_str _ | exact cells_bool _ | exact cells_slice _ _ _ | exact cells_ptr _ | exact cells_map _ | exact cells_func _ _ _ | exact cells_nilFunc | exact cells_one (by assumption) (by assumption)) ?_; clear hL; intro gq wq hL)) | ((with_reducible refine gLoad rfl rfl ?_); (first | (refine ev_load1L rfl hL rfl rfl HasV.mem (by rfl) ?_) | (refine ev_loadAllL rfl hL rfl rfl HasV.mem (by rfl) ?_) | (refine ev_loadL rfl hL rfl rfl HasV.mem SegC.seg ?_))) | ((with_reducible refine gStore rfl rfl ?_); (first | (refine ev_storeC rfl hL rfl rfl rfl (by first | exact cells_agg _ rfl | exact cells_int _ _ | exact cells_str _ | exact cells_bool _ | exact cells_slice _ _ _ | exact cells_ptr _ | exact cells_map _ | exact cells_func _ _ _ | exact cells_nilFunc | exact cells_one (by assumption) (by assumption)) (by rfl) ?_) | (refine ev_storeAllC rfl hL rfl rfl rfl (by first | exact cells_agg _ rfl | exact cells_int _ _ | exact cells_str _ | exact cells_bool _ | exact cells_slice _ _ _ | exact cells_ptr _ | exact cells_map _ | exact cells_func _ _ _ | exact cells_nilFunc | exact cells_one (by assumption) (by assumption)) (by rfl) (by rfl) ?_)); clear hL; intro wq hL) | ((with_reducible refine gLoadG rfl rfl ?_ ?_); (exact wanted_some rfl rfl rfl (by with_reducible rfl)); (first | (refine ev_load1G (wanted_some rfl rfl rfl rfl) hL rfl rfl HasV.mem (by rfl) ?_) | (refine ev_loadAllG (wanted_some rfl rfl rfl rfl) hL rfl rfl HasV.mem (by rfl) ?_) | (refine ev_loadG_ (wanted_some rfl rfl rfl rfl) hL rfl rfl HasV.mem SegC.seg ?_))))
  clear t0 t1 t2 t3 t4 t5 t6 t7 t8
  refine wp_region_ext (by kernel_rfl) (by kernel_rfl) ?_
  repeat (first | (go_big_quiet_want; (first | refine quiet_load1L hL rfl rfl HasV.mem (by rfl) ?_ | refine quiet_loadAllL hL rfl rfl HasV.mem (by rfl) ?_ | refine quiet_loadL hL rfl rfl HasV.mem SegC.seg ?_); go_big_quiet_on; simp only [Act.put, List.setIfInBounds_toArray, List.set_cons_succ, List.set_cons_zero]) | go_big_quiet_step (first
    | (go_at_call 52; with_reducible exact calls_ext (unhide (hg _)))
    | (go_at_call 53; with_reducible exact calls_ext (unhide (hm1 _)))
    | (go_at_call 53; with_reducible exact calls_ext (unhide (hm2 _)))
    | (go_at_call 20; with_reducible exact calls_ext (unhide (hba _)))))
  refine wpQuiet_nil ?_
  rintro _ ⟨⟨w2, hb2⟩, rfl⟩
  have hL := hL.call hb2
  clear hb2
  clear hne hg hm1 hm2 hba h1 h2 h3 h4
  go_wp2_with (first | ((with_reducible refine gAlloc rfl rfl ?_); (refine ev_allocL rfl hL rfl (by first | exact cells_agg _ rfl | exact cells_int _ _ | exact cells_str _ | exact cells_bool _ | exact cells_slice _ _ _ | exact cells_ptr _ | exact cells_map _ | exact cells_func _ _ _ | exact cells_nilFunc | exact cells_one (by assumption) (by assumption)) ?_; clear hL; intro gq wq hL)) | ((with_reducible refine gBox rfl rfl ?_); (refine ev_boxL rfl hL rfl rfl (by first | exact cells_agg _ rfl | exact cells_int _ _ | exact cells_str _ | exact cells_bool _ | exact cells_slice _ _ _ | exact cells_ptr _ | exact cells_map _ | exact cells_func _ _ _ | exact cells_nilFunc | exact cells_one (by assumption) (by assumption)) ?_; clear hL; intro gq wq hL)) | ((with_reducible refine gLoad rfl rfl ?_); (first | (refine ev_load1L rfl hL rfl rfl HasV.mem (by rfl) ?_) | (refine ev_loadAllL rfl hL rfl rfl HasV.mem (by rfl) ?_) | (refine ev_loadL rfl hL rfl rfl HasV.mem SegC.seg ?_))) | ((with_reducible refine gStore rfl rfl ?_); (first | (refine ev_storeC rfl hL rfl rfl rfl (by first | exact cells_agg _ rfl | exact cells_int _ _ | exact cells_str _ | exact cells_bool _ | exact cells_slice _ _ _ | exact cells_ptr _ | exact cells_map _ | exact cells_func _ _ _ | exact cells_nilFunc | exact cells_one (by assumption) (by assumption)) (by rfl) ?_) | (refine ev_storeAllC rfl hL rfl rfl rfl (by first | exact cells_agg _ rfl | exact cells_int _ _ | exact cells_str _ | exact cells_bool _ | exact cells_slice _ _ _ | exact cells_ptr _ | exact cells_map _ | exact cells_func _ _ _ | exact cells_nilFunc | exact cells_one (by assumption) (by assumption)) (by rfl) (by rfl) ?_)); clear hL; intro wq hL) | ((with_reducible refine gLoadG rfl rfl ?_ ?_); (exact wanted_some rfl rfl rfl (by with_reducible rfl)); (first | (refine ev_load1G (wanted_some rfl rfl rfl rfl) hL rfl rfl HasV.mem (by rfl) ?_) | (refine ev_loadAllG (wanted_some rfl rfl rfl rfl) hL rfl rfl HasV.mem (by rfl) ?_) | (refine ev_loadG_ (wanted_some rfl rfl rfl rfl) hL rfl rfl HasV.mem SegC.seg ?_))) | (go_at_call 54; (with_reducible refine (unhide (hno _)).mono ?_); rintro e w1 ⟨rfl, hb1⟩; have hL := hL.call hb1; clear hb1))
  go_ret
  exact ⟨ret_ib (by have hk := HK.out; unfold Msg.kcode Msg.kindOk; simp [hk]), hL.below⟩
end Go.Proofs.YtbkffeabikjnhaaDoor
