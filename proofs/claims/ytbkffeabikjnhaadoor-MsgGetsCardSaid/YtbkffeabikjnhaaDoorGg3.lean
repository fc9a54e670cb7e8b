/- Texts laid together: Dig, Oct, Vec, Crc, Msg, MsgA, Bare, Chk, Chk2, Seal. -/
import Derived.Test.YtbkffeabikjnhaaDoorGg2
import Derived.Test.YtbkffeabikjnhaaDoorProg
import Derived.BigRegion
/- Numbers as text, the document's way (crannogref18.digits): as strconv.Itoa's. -/
namespace Go.Proofs.YtbkffeabikjnhaaDoor
open Go.RowKit

def dch (u : Nat) : UInt8 := UInt8.ofNat (48 + u % 10)
/-- What stands in s after some rounds, u being what is left. -/
def DigInv (u0 u : Nat) (s : List UInt8) : Prop := if 0 < u ∨ s = [] then Lib.decDigits u0 = Lib.decDigits u ++ s ∨ (u = 0 ∧ s = [] ∧ u0 = 0) else Lib.decDigits u0 = s
theorem dig_zero : Lib.decDigits 0 = [dch 0] := by rw [Lib.decDigits_one (by omega)]; rfl
theorem DigInv.start (u0 : Nat) : DigInv u0 u0 [] := by
  unfold DigInv
  rw [if_pos (.inr rfl)]
  exact .inl (by simp)
theorem DigInv.put {u0 u : Nat} {s : List UInt8} (h : DigInv u0 u s) (hc : 0 < u ∨ s = []) : DigInv u0 (u / 10) (dch u :: s) := by
  unfold DigInv at *
  rw [if_pos hc] at h
  rcases h with h | ⟨rfl, rfl, rfl⟩
  · by_cases h10 : u < 10
    · rw [if_neg (by simp; omega), h, Lib.decDigits_one h10, dch, Nat.mod_eq_of_lt h10]
      rfl
    · rw [if_pos (.inl (by omega))]
      refine .inl ?_
      rw [h, Lib.decDigits, dif_neg h10, List.append_assoc]
      rfl
  · rw [if_neg (by simp)]
    exact dig_zero
theorem DigInv.skip {u0 u : Nat} {s : List UInt8} (h : DigInv u0 u s) (hc : ¬ (0 < u ∨ s = [])) : DigInv u0 (u / 10) s := by
  unfold DigInv at *
  have hs : s ≠ [] := fun e => hc (.inr e)
  rw [if_neg hc] at h
  rw [if_neg (fun h => h.elim (fun h1 => hc (.inl (by omega))) hs)]
  exact h
theorem DigInv.done {u0 : Nat} {s : List UInt8} (h : DigInv u0 0 s) (hs : s ≠ []) : Lib.decDigits u0 = s := by
  unfold DigInv at h
  rw [if_neg (by simp [hs])] at h
  exact h
theorem dch_val (u : Nat) : ((dch u).toNat : Int) = 48 + (u : Int) % 10 := by
  have h : (dch u).toNat = (48 + u % 10) % 256 := rfl
  rw [h]
  omega
theorem ev_b2s {P : Program} {ops : Array Oper} {rest : List Oper} {o : Oper} {a : Act} {Q : Exit → Act → World → Prop} {W : World} {src dst e : TypeId} {x : Operand} {v : Value} {l : List UInt8} [hs : SliceT P src e] (hgd : o.guard = none) (ho : o.op = .convert src dst x) (hx : a.eval x = v) (hR : encB.R W v l)
    (he : P.underlying e = some (.int .u8)) (hd : P.underlying dst = some .string) (h : wpList P ops Q rest (a.put o.dst (.string ⟨l.toArray⟩)) W) : wpList P ops Q (o :: rest) a W := by
  refine event hgd (v := .string ⟨l.toArray⟩) (w1 := W) ?_ h
  simp [execOp, ho, hx, conv_bytes hR src dst e hs.slice he hd]
theorem one_byte {w : World} {g : Nat} {t : TypeId} {c : UInt8} (h : Box w g [.int .u8 c.toNat].toArray t) : encB.R w (.slice (some ⟨g, 0, none⟩) 1 1) [c] := by
  refine ⟨by rw [Enc.all_length], some ⟨g, 0, none⟩, 1, rfl, Nat.le_refl _, by simp, .inr ⟨_, rfl, fun j u hj => ?_⟩⟩
  have ha : (⟨g, 0, none⟩ : Addr).add j = ⟨g, j, none⟩ := by unfold Addr.add; split <;> simp_all
  rw [ha, h.cell j]
  rw [Enc.all_one_elem] at hj
  have hj' : [Value.int .u8 c.toNat][j]? = some u := hj
  simpa using hj'
theorem ba_cons (c : UInt8) (l : List UInt8) : (⟨[c].toArray⟩ : ByteArray) ++ ⟨l.toArray⟩ = ⟨(c :: l).toArray⟩ := by rw [ByteArray.mk_append_mk]; rfl
/-- The rounds of digits: what is left of u, and what stands in s. -/
def DigAt (u k uk : Nat) (l : List UInt8) : Prop := DigInv u uk l ∧ uk = u / 10 ^ k ∧ l.length ≤ k ∧ (0 < k → l ≠ [])
theorem DigAt.start (u : Nat) : DigAt u 0 u [] := ⟨.start u, by simp, by simp, by simp⟩
theorem DigAt.put {u k uk : Nat} {l : List UInt8} (h : DigAt u k uk l) (hc : 0 < uk ∨ l = []) : DigAt u (k + 1) (uk / 10) (dch uk :: l) :=
  ⟨h.1.put hc, by rw [h.2.1, Nat.div_div_eq_div_mul, Nat.pow_succ], by have := h.2.2.1; simp; omega, by simp⟩
theorem DigAt.skip {u k uk : Nat} {l : List UInt8} (h : DigAt u k uk l) (hc : ¬ (0 < uk ∨ l = [])) : DigAt u (k + 1) (uk / 10) l :=
  ⟨h.1.skip hc, by rw [h.2.1, Nat.div_div_eq_div_mul, Nat.pow_succ], by have := h.2.2.1; omega, fun _ e => hc (.inr e)⟩
theorem DigAt.done {u uk : Nat} {l : List UInt8} (h : DigAt u 20 uk l) (hu : u < 18446744073709551616) : Lib.decDigits u = l := by
  obtain ⟨h1, h2, _, h4⟩ := h
  have : uk = 0 := by rw [h2]; exact Nat.div_eq_of_lt (by omega)
  subst this
  exact h1.done (h4 (by omega))
set_option maxHeartbeats 1000000 in
/-- digits of n, by the loop's rounds. -/
theorem ref_digits_neg (n : Int) (w : World) (h0 : -9223372036854775808 ≤ n) (h1 : n ≤ 9223372036854775807) (hn : n < 0) :
    Calls Tryd.prog 57 #[.int .i64 n] w fun e w' => e = .returned (.string (itoaB n)) ∧ Below w.heap.size w w' := by
  have hL := Loc.nil w NoM
  have t0 : decide (n < 0) = true := (by first | (simp; done) | (simp; omega))
  obtain ⟨u, hu⟩ : ∃ u : Nat, u = n.natAbs := ⟨_, rfl⟩
  have e1 : IntKind.u64.wrap (-(IntKind.u64.wrap n)) = (u : Int) := by rw [IntKind.wrap_u64, IntKind.wrap_u64]; omega
  have hub : u < 18446744073709551616 := by omega
  have HU := Lib.hid hu
  clear hu
  go_enter Tryd.func57, Tryd.ntmps57
  go_wp2_with (first | ((with_reducible refine gAlloc rfl rfl ?_); (refine ev_allocL rfl hL rfl (by first | exact cells_agg _ rfl | exact cells_int _ _ | exact cells_str _ | exact cells_bool _ | exact cells_slice _ _ _ | exact cells_ptr _ | exact cells_map _ | exact cells_func _ _ _ | exact cells_nilFunc | exact cells_one (by assumption) (by assumption)) ?_; clear hL; intro gq wq hL)) | ((with_reducible refine gBox rfl rfl ?_); (refine ev_boxL rfl hL rfl rfl (by first | exact cells_agg _ rfl | exact cells_int _ _ | exact cells_str _ | exact cells_bool _ | exact cells_slice _ _ _ | exact cells_ptr _ | exact cells_map _ | exact cells_func _ _ _ | exact cells_nilFunc | exact cells_one (by assumption) (by assumption)) ?_; clear hL; intro gq wq hL)) | ((with_reducible refine gLoad rfl rfl ?_); (first | (refine ev_load1L rfl hL rfl rfl HasV.mem (by rfl) ?_) | (refine ev_loadAllL rfl hL rfl rfl HasV.mem (by rfl) ?_) | (refine ev_loadL rfl hL rfl rfl HasV.mem SegC.seg ?_))) | ((with_reducible refine gStore rfl rfl ?_); (first | (refine ev_storeC rfl hL rfl rfl rfl (by first | exact cells_agg _ rfl | exact cells_int _ _ | exact cells_str _ | exact cells_bool _ | exact cells_slice _ _ _ | exact cells_ptr _ | exact cells_map _ | exact cells_func _ _ _ | exact cells_nilFunc | exact cells_one (by assumption) (by assumption)) (by rfl) ?_) | (refine ev_storeAllC rfl hL rfl rfl rfl (by first | exact cells_agg _ rfl | exact cells_int _ _ | exact cells_str _ | exact cells_bool _ | exact cells_slice _ _ _ | exact cells_ptr _ | exact cells_map _ | exact cells_func _ _ _ | exact cells_nilFunc | exact cells_one (by assumption) (by assumption)) (by rfl) (by rfl) ?_)); clear hL; intro wq hL) | ((with_reducible refine gLoadG rfl rfl ?_ ?_); (exact wanted_some rfl rfl rfl (by with_reducible rfl)); (first | (refine ev_load1G (wanted_some rfl rfl rfl rfl) hL rfl rfl HasV.mem (by rfl) ?_) | (refine ev_loadAllG (wanted_some rfl rfl rfl rfl) hL rfl rfl HasV.mem (by rfl) ?_) | (refine ev_loadG_ (wanted_some rfl rfl rfl rfl) hL rfl rfl HasV.mem SegC.seg ?_))))
  clear e1
  go_loopw [3, 4, 11] (fun x y i wr => ∃ (k uk : Nat) (l : List UInt8), k ≤ 20 ∧ i = .int .i64 k ∧ x = .int .u64 uk ∧ y = .string ⟨l.toArray⟩ ∧ Hid (DigAt u k uk l) ∧ uk < 18446744073709551616 ∧ l.length ≤ k ∧ Loc w NoM wr []) (fun _ _ i _ => 20 - (intOf i).toNat)
  case atStart => exact ⟨0, u, [], by omega, rfl, rfl, rfl, Lib.hid (.start u), hub, by simp, hL⟩
  case round =>
    clear hL
    obtain ⟨k, uk, l, hk, rfl, rfl, rfl, HD, hb, hll, hL⟩ := hrel
    by_cases hlt : k < 20
    · by_cases hp : 0 < uk
      · have t1 : decide ((0 : Int) < (uk : Int)) = true := (by first | (simp; done) | (simp; omega))
        have hv : (48 : Int) + (uk : Int) % 10 = ((dch uk).toNat : Int) := (dch_val uk).symm
        have HD2 := Lib.hid (HD.out.put (.inl hp))
        go_wp2_with (first
          | ((with_reducible refine gLit rfl rfl ?_); refine ev_litL (cs := [.int .u8 (dch uk).toNat]) rfl hL rfl rfl rfl (by kernel_rfl) ?_; clear hL; intro gq wq hL)
          | ((with_reducible refine gate (N := 24) rfl ?_); refine ev_b2s (l := [dch uk]) rfl rfl rfl (one_byte (hL.box (by first | exact .head _ | exact .tail _ (.head _) | exact .tail _ (.tail _ (.head _)) | exact .tail _ (.tail _ (.tail _ (.head _))) | exact .tail _ (.tail _ (.tail _ (.tail _ (.head _)))) | exact .tail _ (.tail _ (.tail _ (.tail _ (.tail _ (.head _))))) | exact .tail _ (.tail _ (.tail _ (.tail _ (.tail _ (.tail _ (.head _)))))) | exact .tail _ (.tail _ (.tail _ (.tail _ (.tail _ (.tail _ (.tail _ (.head _))))))) | exact .tail _ (.tail _ (.tail _ (.tail _ (.tail _ (.tail _ (.tail _ (.tail _ (.head _))))))))))) Tryd.underlying5 Tryd.underlying9 ?_)
          | ((with_reducible refine gCat rfl rfl ?_); refine ev_cat (s := ⟨[dch uk].toArray⟩) (u := ⟨l.toArray⟩) rfl rfl rfl rfl (by simp [ByteArray.size]; omega) ?_; rw [ba_cons])
          | ((with_reducible refine gAlloc rfl rfl ?_); (refine ev_allocL rfl hL rfl (by first | exact cells_agg _ rfl | exact cells_int _ _ | exact cells_str _ | exact cells_bool _ | exact cells_slice _ _ _ | exact cells_ptr _ | exact cells_map _ | exact cells_func _ _ _ | exact cells_nilFunc | exact cells_one (by assumption) (by assumption)) ?_; clear hL; intro gq wq hL)) | ((with_reducible refine gBox rfl rfl ?_); (refine ev_boxL rfl hL rfl rfl (by first | exact cells_agg _ rfl | exact cells_int _ _ | exact cells_str _ | exact cells_bool _ | exact cells_slice _ _ _ | exact cells_ptr _ | exact cells_map _ | exact cells_func _ _ _ | exact cells_nilFunc | exact cells_one (by assumption) (by assumption)) ?_; clear hL; intro gq wq hL)) | ((with_reducible refine gLoad rfl rfl ?_); (first | (refine ev_load1L rfl hL rfl rfl HasV.mem (by rfl) ?_) | (refine ev_loadAllL rfl hL rfl rfl HasV.mem (by rfl) ?_) | (refine ev_loadL rfl hL rfl rfl HasV.mem SegC.seg ?_))) | ((with_reducible refine gStore rfl rfl ?_); (first | (refine ev_storeC rfl hL rfl rfl rfl (by first | exact cells_agg _ rfl | exact cells_int _ _ | exact cells_str _ | exact cells_bool _ | exact cells_slice _ _ _ | exact cells_ptr _ | exact cells_map _ | exact cells_func _ _ _ | exact cells_nilFunc | exact cells_one (by assumption) (by assumption)) (by rfl) ?_) | (refine ev_storeAllC rfl hL rfl rfl rfl (by first | exact cells_agg _ rfl | exact cells_int _ _ | exact cells_str _ | exact cells_bool _ | exact cells_slice _ _ _ | exact cells_ptr _ | exact cells_map _ | exact cells_func _ _ _ | exact cells_nilFunc | exact cells_one (by assumption) (by assumption)) (by rfl) (by rfl) ?_)); clear hL; intro wq hL) | ((with_reducible refine gLoadG rfl rfl ?_ ?_); (exact wanted_some rfl rfl rfl (by with_reducible rfl)); (first | (refine ev_load1G (wanted_some rfl rfl rfl rfl) hL rfl rfl HasV.mem (by rfl) ?_) | (refine ev_loadAllG (wanted_some rfl rfl rfl rfl) hL rfl rfl HasV.mem (by rfl) ?_) | (refine ev_loadG_ (wanted_some rfl rfl rfl rfl) hL rfl rfl HasV.mem SegC.seg ?_))))
        go_roundw
        case rel => exact ⟨k + 1, uk / 10, dch uk :: l, by omega, by go_num, by go_num, rfl, HD2, by omega, by first | (simp; done) | (simp; omega), hL.drop⟩
        case measure => simp [intOf]; omega
      · obtain rfl : uk = 0 := by omega
        have t1 : decide ((0 : Int) < ((0 : Nat) : Int)) = false := by simp
        cases l with
        | nil =>
          have hv : (48 : Int) + ((0 : Nat) : Int) % 10 = ((dch 0).toNat : Int) := (dch_val 0).symm
          have HD2 := Lib.hid (HD.out.put (.inr rfl))
          go_wp2_with (first
            | ((with_reducible refine gLit rfl rfl ?_); refine ev_litL (cs := [.int .u8 (dch 0).toNat]) rfl hL rfl rfl rfl (by kernel_rfl) ?_; clear hL; intro gq wq hL)
            | ((with_reducible refine gate (N := 24) rfl ?_); refine ev_b2s (l := [dch 0]) rfl rfl rfl (one_byte (hL.box (by first | exact .head _ | exact .tail _ (.head _) | exact .tail _ (.tail _ (.head _)) | exact .tail _ (.tail _ (.tail _ (.head _))) | exact .tail _ (.tail _ (.tail _ (.tail _ (.head _)))) | exact .tail _ (.tail _ (.tail _ (.tail _ (.tail _ (.head _))))) | exact .tail _ (.tail _ (.tail _ (.tail _ (.tail _ (.tail _ (.head _)))))) | exact .tail _ (.tail _ (.tail _ (.tail _ (.tail _ (.tail _ (.tail _ (.head _))))))) | exact .tail _ (.tail _ (.tail _ (.tail _ (.tail _ (.tail _ (.tail _ (.tail _ (.head _))))))))))) Tryd.underlying5 Tryd.underlying9 ?_)
            | ((with_reducible refine gCat rfl rfl ?_); refine ev_cat (s := ⟨[dch 0].toArray⟩) (u := ⟨([] : List UInt8).toArray⟩) rfl rfl rfl rfl (by simp [ByteArray.size]; omega) ?_; rw [ba_cons])
            | ((with_reducible refine gAlloc rfl rfl ?_); (refine ev_allocL rfl hL rfl (by first | exact cells_agg _ rfl | exact cells_int _ _ | exact cells_str _ | exact cells_bool _ | exact cells_slice _ _ _ | exact cells_ptr _ | exact cells_map _ | exact cells_func _ _ _ | exact cells_nilFunc | exact cells_one (by assumption) (by assumption)) ?_; clear hL; intro gq wq hL)) | ((with_reducible refine gBox rfl rfl ?_); (refine ev_boxL rfl hL rfl rfl (by first | exact cells_agg _ rfl | exact cells_int _ _ | exact cells_str _ | exact cells_bool _ | exact cells_slice _ _ _ | exact cells_ptr _ | exact cells_map _ | exact cells_func _ _ _ | exact cells_nilFunc | exact cells_one (by assumption) (by assumption)) ?_; clear hL; intro gq wq hL)) | ((with_reducible refine gLoad rfl rfl ?_); (first | (refine ev_load1L rfl hL rfl rfl HasV.mem (by rfl) ?_) | (refine ev_loadAllL rfl hL rfl rfl HasV.mem (by rfl) ?_) | (refine ev_loadL rfl hL rfl rfl HasV.mem SegC.seg ?_))) | ((with_reducible refine gStore rfl rfl ?_); (first | (refine ev_storeC rfl hL rfl rfl rfl (by first | exact cells_agg _ rfl | exact cells_int _ _ | exact cells_str _ | exact cells_bool _ | exact cells_slice _ _ _ | exact cells_ptr _ | exact cells_map _ | exact cells_func _ _ _ | exact cells_nilFunc | exact cells_one (by assumption) (by assumption)) (by rfl) ?_) | (refine ev_storeAllC rfl hL rfl rfl rfl (by first | exact cells_agg _ rfl | exact cells_int _ _ | exact cells_str _ | exact cells_bool _ | exact cells_slice _ _ _ | exact cells_ptr _ | exact cells_map _ | exact cells_func _ _ _ | exact cells_nilFunc | exact cells_one (by assumption) (by assumption)) (by rfl) (by rfl) ?_)); clear hL; intro wq hL) | ((with_reducible refine gLoadG rfl rfl ?_ ?_); (exact wanted_some rfl rfl rfl (by with_reducible rfl)); (first | (refine ev_load1G (wanted_some rfl rfl rfl rfl) hL rfl rfl HasV.mem (by rfl) ?_) | (refine ev_loadAllG (wanted_some rfl rfl rfl rfl) hL rfl rfl HasV.mem (by rfl) ?_) | (refine ev_loadG_ (wanted_some rfl rfl rfl rfl) hL rfl rfl HasV.mem SegC.seg ?_))))
          go_roundw
          case rel => exact ⟨k + 1, 0, dch 0 :: [], by omega, by go_num, by go_num, rfl, HD2, by omega, by first | (simp; done) | (simp; omega), hL.drop⟩
          case measure => simp [intOf]; omega
        | cons c l =>
          have HD2 := Lib.hid (HD.out.skip (by simp))
          go_wp2_with (first | ((with_reducible refine gAlloc rfl rfl ?_); (refine ev_allocL rfl hL rfl (by first | exact cells_agg _ rfl | exact cells_int _ _ | exact cells_str _ | exact cells_bool _ | exact cells_slice _ _ _ | exact cells_ptr _ | exact cells_map _ | exact cells_func _ _ _ | exact cells_nilFunc | exact cells_one (by assumption) (by assumption)) ?_; clear hL; intro gq wq hL)) | ((with_reducible refine gBox rfl rfl ?_); (refine ev_boxL rfl hL rfl rfl (by first | exact cells_agg _ rfl | exact cells_int _ _ | exact cells_str _ | exact cells_bool _ | exact cells_slice _ _ _ | exact cells_ptr _ | exact cells_map _ | exact cells_func _ _ _ | exact cells_nilFunc | exact cells_one (by assumption) (by assumption)) ?_; clear hL; intro gq wq hL)) | ((with_reducible refine gLoad rfl rfl ?_); (first | (refine ev_load1L rfl hL rfl rfl HasV.mem (by rfl) ?_) | (refine ev_loadAllL rfl hL rfl rfl HasV.mem (by rfl) ?_) | (refine ev_loadL rfl hL rfl rfl HasV.mem SegC.seg ?_))) | ((with_reducible refine gStore rfl rfl ?_); (first | (refine ev_storeC rfl hL rfl rfl rfl (by first | exact cells_agg _ rfl | exact cells_int _ _ | exact cells_str _ | exact cells_bool _ | exact cells_slice _ _ _ | exact cells_ptr _ | exact cells_map _ | exact cells_func _ _ _ | exact cells_nilFunc | exact cells_one (by assumption) (by assumption)) (by rfl) ?_) | (refine ev_storeAllC rfl hL rfl rfl rfl (by first | exact cells_agg _ rfl | exact cells_int _ _ | exact cells_str _ | exact cells_bool _ | exact cells_slice _ _ _ | exact cells_ptr _ | exact cells_map _ | exact cells_func _ _ _ | exact cells_nilFunc | exact cells_one (by assumption) (by assumption)) (by rfl) (by rfl) ?_)); clear hL; intro wq hL) | ((with_reducible refine gLoadG rfl rfl ?_ ?_); (exact wanted_some rfl rfl rfl (by with_reducible rfl)); (first | (refine ev_load1G (wanted_some rfl rfl rfl rfl) hL rfl rfl HasV.mem (by rfl) ?_) | (refine ev_loadAllG (wanted_some rfl rfl rfl rfl) hL rfl rfl HasV.mem (by rfl) ?_) | (refine ev_loadG_ (wanted_some rfl rfl rfl rfl) hL rfl rfl HasV.mem SegC.seg ?_))))
          go_roundw
          case rel => exact ⟨k + 1, 0, c :: l, by omega, by go_num, rfl, rfl, HD2, by omega, by simp at hll ⊢; omega, hL⟩
          case measure => simp [intOf]; omega
    · obtain rfl : k = 20 := by omega
      have HR := Lib.hid (HD.out.done hub)
      go_wp2_with (first
        | ((with_reducible refine gCat rfl rfl ?_); refine ev_cat (s := ⟨#[45]⟩) (u := ⟨l.toArray⟩) rfl rfl rfl rfl (by simp [ByteArray.size]; omega) ?_)
        | ((with_reducible refine gAlloc rfl rfl ?_); (refine ev_allocL rfl hL rfl (by first | exact cells_agg _ rfl | exact cells_int _ _ | exact cells_str _ | exact cells_bool _ | exact cells_slice _ _ _ | exact cells_ptr _ | exact cells_map _ | exact cells_func _ _ _ | exact cells_nilFunc | exact cells_one (by assumption) (by assumption)) ?_; clear hL; intro gq wq hL)) | ((with_reducible refine gBox rfl rfl ?_); (refine ev_boxL rfl hL rfl rfl (by first | exact cells_agg _ rfl | exact cells_int _ _ | exact cells_str _ | exact cells_bool _ | exact cells_slice _ _ _ | exact cells_ptr _ | exact cells_map _ | exact cells_func _ _ _ | exact cells_nilFunc | exact cells_one (by assumption) (by assumption)) ?_; clear hL; intro gq wq hL)) | ((with_reducible refine gLoad rfl rfl ?_); (first | (refine ev_load1L rfl hL rfl rfl HasV.mem (by rfl) ?_) | (refine ev_loadAllL rfl hL rfl rfl HasV.mem (by rfl) ?_) | (refine ev_loadL rfl hL rfl rfl HasV.mem SegC.seg ?_))) | ((with_reducible refine gStore rfl rfl ?_); (first | (refine ev_storeC rfl hL rfl rfl rfl (by first | exact cells_agg _ rfl | exact cells_int _ _ | exact cells_str _ | exact cells_bool _ | exact cells_slice _ _ _ | exact cells_ptr _ | exact cells_map _ | exact cells_func _ _ _ | exact cells_nilFunc | exact cells_one (by assumption) (by assumption)) (by rfl) ?_) | (refine ev_storeAllC rfl hL rfl rfl rfl (by first | exact cells_agg _ rfl | exact cells_int _ _ | exact cells_str _ | exact cells_bool _ | exact cells_slice _ _ _ | exact cells_ptr _ | exact cells_map _ | exact cells_func _ _ _ | exact cells_nilFunc | exact cells_one (by assumption) (by assumption)) (by rfl) (by rfl) ?_)); clear hL; intro wq hL) | ((with_reducible refine gLoadG rfl rfl ?_ ?_); (exact wanted_some rfl rfl rfl (by with_reducible rfl)); (first | (refine ev_load1G (wanted_some rfl rfl rfl rfl) hL rfl rfl HasV.mem (by rfl) ?_) | (refine ev_loadAllG (wanted_some rfl rfl rfl rfl) hL rfl rfl HasV.mem (by rfl) ?_) | (refine ev_loadG_ (wanted_some rfl rfl rfl rfl) hL rfl rfl HasV.mem SegC.seg ?_))))
      go_ret
      exact ⟨congrArg (fun s => Ending.returned (Value.string s)) (by have hu := HU.out; unfold itoaB Lib.itoa; rw [if_pos hn, ← hu, HR.out]; exact ba_cons 45 l), hL.below⟩
set_option maxHeartbeats 1000000 in
theorem ref_digits_pos (n : Int) (w : World) (h0 : -9223372036854775808 ≤ n) (h1 : n ≤ 9223372036854775807) (hn : ¬ n < 0) :
    Calls Tryd.prog 57 #[.int .i64 n] w fun e w' => e = .returned (.string (itoaB n)) ∧ Below w.heap.size w w' := by
  have hL := Loc.nil w NoM
  have t0 : decide (n < 0) = false := (by first | (simp; done) | (simp; omega))
  obtain ⟨u, hu⟩ : ∃ u : Nat, u = n.toNat := ⟨_, rfl⟩
  have e1 : IntKind.u64.wrap n = (u : Int) := by rw [IntKind.wrap_u64]; omega
  have hub : u < 18446744073709551616 := by omega
  have HU := Lib.hid hu
  clear hu
  go_enter Tryd.func57, Tryd.ntmps57
  go_wp2_with (first | ((with_reducible refine gAlloc rfl rfl ?_); (refine ev_allocL rfl hL rfl (by first | exact cells_agg _ rfl | exact cells_int _ _ | exact cells_str _ | exact cells_bool _ | exact cells_slice _ _ _ | exact cells_ptr _ | exact cells_map _ | exact cells_func _ _ _ | exact cells_nilFunc | exact cells_one (by assumption) (by assumption)) ?_; clear hL; intro gq wq hL)) | ((with_reducible refine gBox rfl rfl ?_); (refine ev_boxL rfl hL rfl rfl (by first | exact cells_agg _ rfl | exact cells_int _ _ | exact cells_str _ | exact cells_bool _ | exact cells_slice _ _ _ | exact cells_ptr _ | exact cells_map _ | exact cells_func _ _ _ | exact cells_nilFunc | exact cells_one (by assumption) (by assumption)) ?_; clear hL; intro gq wq hL)) | ((with_reducible refine gLoad rfl rfl ?_); (first | (refine ev_load1L rfl hL rfl rfl HasV.mem (by rfl) ?_) | (refine ev_loadAllL rfl hL rfl rfl HasV.mem (by rfl) ?_) | (refine ev_loadL rfl hL rfl rfl HasV.mem SegC.seg ?_))) | ((with_reducible refine gStore rfl rfl ?_); (first | (refine ev_storeC rfl hL rfl rfl rfl (by first | exact cells_agg _ rfl | exact cells_int _ _ | exact cells_str _ | exact cells_bool _ | exact cells_slice _ _ _ | exact cells_ptr _ | exact cells_map _ | exact cells_func _ _ _ | exact cells_nilFunc | exact cells_one (by assumption) (by assumption)) (by rfl) ?_) | (refine ev_storeAllC rfl hL rfl rfl rfl (by first | exact cells_agg _ rfl | exact cells_int _ _ | exact cells_str _ | exact cells_bool _ | exact cells_slice _ _ _ | exact cells_ptr _ | exact cells_map _ | exact cells_func _ _ _ | exact cells_nilFunc | exact cells_one (by assumption) (by assumption)) (by rfl) (by rfl) ?_)); clear hL; intro wq hL) | ((with_reducible refine gLoadG rfl rfl ?_ ?_); (exact wanted_some rfl rfl rfl (by with_reducible rfl)); (first | (refine ev_load1G (wanted_some rfl rfl rfl rfl) hL rfl rfl HasV.mem (by rfl) ?_) | (refine ev_loadAllG (wanted_some rfl rfl rfl rfl) hL rfl rfl HasV.mem (by rfl) ?_) | (refine ev_loadG_ (wanted_some rfl rfl rfl rfl) hL rfl rfl HasV.mem SegC.seg ?_))))
  clear e1
  go_loopw [3, 4, 11] (fun x y i wr => ∃ (k uk : Nat) (l : List UInt8), k ≤ 20 ∧ i = .int .i64 k ∧ x = .int .u64 uk ∧ y = .string ⟨l.toArray⟩ ∧ Hid (DigAt u k uk l) ∧ uk < 18446744073709551616 ∧ l.length ≤ k ∧ Loc w NoM wr []) (fun _ _ i _ => 20 - (intOf i).toNat)
  case atStart => exact ⟨0, u, [], by omega, rfl, rfl, rfl, Lib.hid (.start u), hub, by simp, hL⟩
  case round =>
    clear hL
    obtain ⟨k, uk, l, hk, rfl, rfl, rfl, HD, hb, hll, hL⟩ := hrel
    by_cases hlt : k < 20
    · by_cases hp : 0 < uk
      · have t1 : decide ((0 : Int) < (uk : Int)) = true := (by first | (simp; done) | (simp; omega))
        have hv : (48 : Int) + (uk : Int) % 10 = ((dch uk).toNat : Int) := (dch_val uk).symm
        have HD2 := Lib.hid (HD.out.put (.inl hp))
        go_wp2_with (first
          | ((with_reducible refine gLit rfl rfl ?_); refine ev_litL (cs := [.int .u8 (dch uk).toNat]) rfl hL rfl rfl rfl (by kernel_rfl) ?_; clear hL; intro gq wq hL)
          | ((with_reducible refine gate (N := 24) rfl ?_); refine ev_b2s (l := [dch uk]) rfl rfl rfl (one_byte (hL.box (by first | exact .head _ | exact .tail _ (.head _) | exact .tail _ (.tail _ (.head _)) | exact .tail _ (.tail _ (.tail _ (.head _))) | exact .tail _ (.tail _ (.tail _ (.tail _ (.head _)))) | exact .tail _ (.tail _ (.tail _ (.tail _ (.tail _ (.head _))))) | exact .tail _ (.tail _ (.tail _ (.tail _ (.tail _ (.tail _ (.head _)))))) | exact .tail _ (.tail _ (.tail _ (.tail _ (.tail _ (.tail _ (.tail _ (.head _))))))) | exact .tail _ (.tail _ (.tail _ (.tail _ (.tail _ (.tail _ (.tail _ (.tail _ (.head _))))))))))) Tryd.underlying5 Tryd.underlying9 ?_)
          | ((with_reducible refine gCat rfl rfl ?_); refine ev_cat (s := ⟨[dch uk].toArray⟩) (u := ⟨l.toArray⟩) rfl rfl rfl rfl (by simp [ByteArray.size]; omega) ?_; rw [ba_cons])
          | ((with_reducible refine gAlloc rfl rfl ?_); (refine ev_allocL rfl hL rfl (by first | exact cells_agg _ rfl | exact cells_int _ _ | exact cells_str _ | exact cells_bool _ | exact cells_slice _ _ _ | exact cells_ptr _ | exact cells_map _ | exact cells_func _ _ _ | exact cells_nilFunc | exact cells_one (by assumption) (by assumption)) ?_; clear hL; intro gq wq hL)) | ((with_reducible refine gBox rfl rfl ?_); (refine ev_boxL rfl hL rfl rfl (by first | exact cells_agg _ rfl | exact cells_int _ _ | exact cells_str _ | exact cells_bool _ | exact cells_slice _ _ _ | exact cells_ptr _ | exact cells_map _ | exact cells_func _ _ _ | exact cells_nilFunc | exact cells_one (by assumption) (by assumption)) ?_; clear hL; intro gq wq hL)) | ((with_reducible refine gLoad rfl rfl ?_); (first | (refine ev_load1L rfl hL rfl rfl HasV.mem (by rfl) ?_) | (refine ev_loadAllL rfl hL rfl rfl HasV.mem (by rfl) ?_) | (refine ev_loadL rfl hL rfl rfl HasV.mem SegC.seg ?_))) | ((with_reducible refine gStore rfl rfl ?_); (first | (refine ev_storeC rfl hL rfl rfl rfl (by first | exact cells_agg _ rfl | exact cells_int _ _ | exact cells_str _ | exact cells_bool _ | exact cells_slice _ _ _ | exact cells_ptr _ | exact cells_map _ | exact cells_func _ _ _ | exact cells_nilFunc | exact cells_one (by assumption) (by assumption)) (by rfl) ?_) | (refine ev_storeAllC rfl hL rfl rfl rfl (by first | exact cells_agg _ rfl | exact cells_int _ _ | exact cells_str _ | exact cells_bool _ | exact cells_slice _ _ _ | exact cells_ptr _ | exact cells_map _ | exact cells_func _ _ _ | exact cells_nilFunc | exact cells_one (by assumption) (by assumption)) (by rfl) (by rfl) ?_)); clear hL; intro wq hL) | ((with_reducible refine gLoadG rfl rfl ?_ ?_); (exact wanted_some rfl rfl rfl (by with_reducible rfl)); (first | (refine ev_load1G (wanted_some rfl rfl rfl rfl) hL rfl rfl HasV.mem (by rfl) ?_) | (refine ev_loadAllG (wanted_some rfl rfl rfl rfl) hL rfl rfl HasV.mem (by rfl) ?_) | (refine ev_loadG_ (wanted_some rfl rfl rfl rfl) hL rfl rfl HasV.mem SegC.seg ?_))))
        go_roundw
        case rel => exact ⟨k + 1, uk / 10, dch uk :: l, by omega, by go_num, by go_num, rfl, HD2, by omega, by first | (simp; done) | (simp; omega), hL.drop⟩
        case measure => simp [intOf]; omega
      · obtain rfl : uk = 0 := by omega
        have t1 : decide ((0 : Int) < ((0 : Nat) : Int)) = false := by simp
        cases l with
        | nil =>
          have hv : (48 : Int) + ((0 : Nat) : Int) % 10 = ((dch 0).toNat : Int) := (dch_val 0).symm
          have HD2 := Lib.hid (HD.out.put (.inr rfl))
          go_wp2_with (first
            | ((with_reducible refine gLit rfl rfl ?_); refine ev_litL (cs := [.int .u8 (dch 0).toNat]) rfl hL rfl rfl rfl (by kernel_rfl) ?_; clear hL; intro gq wq hL)
            | ((with_reducible refine gate (N := 24) rfl ?_); refine ev_b2s (l := [dch 0]) rfl rfl rfl (one_byte (hL.box (by first | exact .head _ | exact .tail _ (.head _) | exact .tail _ (.tail _ (.head _)) | exact .tail _ (.tail _ (.tail _ (.head _))) | exact .tail _ (.tail _ (.tail _ (.tail _ (.head _)))) | exact .tail _ (.tail _ (.tail _ (.tail _ (.tail _ (.head _))))) | exact .tail _ (.tail _ (.tail _ (.tail _ (.tail _ (.tail _ (.head _)))))) | exact .tail _ (.tail _ (.tail _ (.tail _ (.tail _ (.tail _ (.tail _ (.head _))))))) | exact .tail _ (.tail _ (.tail _ (.tail _ (.tail _ (.tail _ (.tail _ (.tail _ (.head _))))))))))) Tryd.underlying5 Tryd.underlying9 ?_)
            | ((with_reducible refine gCat rfl rfl ?_); refine ev_cat (s := ⟨[dch 0].toArray⟩) (u := ⟨([] : List UInt8).toArray⟩) rfl rfl rfl rfl (by simp [ByteArray.size]; omega) ?_; rw [ba_cons])
            | ((with_reducible refine gAlloc rfl rfl ?_); (refine ev_allocL rfl hL rfl (by first | exact cells_agg _ rfl | exact cells_int _ _ | exact cells_str _ | exact cells_bool _ | exact cells_slice _ _ _ | exact cells_ptr _ | exact cells_map _ | exact cells_func _ _ _ | exact cells_nilFunc | exact cells_one (by assumption) (by assumption)) ?_; clear hL; intro gq wq hL)) | ((with_reducible refine gBox rfl rfl ?_); (refine ev_boxL rfl hL rfl rfl (by first | exact cells_agg _ rfl | exact cells_int _ _ | exact cells_str _ | exact cells_bool _ | exact cells_slice _ _ _ | exact cells_ptr _ | exact cells_map _ | exact cells_func _ _ _ | exact cells_nilFunc | exact cells_one (by assumption) (by assumption)) ?_; clear hL; intro gq wq hL)) | ((with_reducible refine gLoad rfl rfl ?_); (first | (refine ev_load1L rfl hL rfl rfl HasV.mem (by rfl) ?_) | (refine ev_loadAllL rfl hL rfl rfl HasV.mem (by rfl) ?_) | (refine ev_loadL rfl hL rfl rfl HasV.mem SegC.seg ?_))) | ((with_reducible refine gStore rfl rfl ?_); (first | (refine ev_storeC rfl hL rfl rfl rfl (by first | exact cells_agg _ rfl | exact cells_int _ _ | exact cells_str _ | exact cells_bool _ | exact cells_slice _ _ _ | exact cells_ptr _ | exact cells_map _ | exact cells_func _ _ _ | exact cells_nilFunc | exact cells_one (by assumption) (by assumption)) (by rfl) ?_) | (refine ev_storeAllC rfl hL rfl rfl rfl (by first | exact cells_agg _ rfl | exact cells_int _ _ | exact cells_str _ | exact cells_bool _ | exact cells_slice _ _ _ | exact cells_ptr _ | exact cells_map _ | exact cells_func _ _ _ | exact cells_nilFunc | exact cells_one (by assumption) (by assumption)) (by rfl) (by rfl) ?_)); clear hL; intro wq hL) | ((with_reducible refine gLoadG rfl rfl ?_ ?_); (exact wanted_some rfl rfl rfl (by with_reducible rfl)); (first | (refine ev_load1G (wanted_some rfl rfl rfl rfl) hL rfl rfl HasV.mem (by rfl) ?_) | (refine ev_loadAllG (wanted_some rfl rfl rfl rfl) hL rfl rfl HasV.mem (by rfl) ?_) | (refine ev_loadG_ (wanted_some rfl rfl rfl rfl) hL rfl rfl HasV.mem SegC.seg ?_))))
          go_roundw
          case rel => exact ⟨k + 1, 0, dch 0 :: [], by omega, by go_num, by go_num, rfl, HD2, by omega, by first | (simp; done) | (simp; omega), hL.drop⟩
          case measure => simp [intOf]; omega
        | cons c l =>
          have HD2 := Lib.hid (HD.out.skip (by simp))
          go_wp2_with (first | ((with_reducible refine gAlloc rfl rfl ?_); (refine ev_allocL rfl hL rfl (by first | exact cells_agg _ rfl | exact cells_int _ _ | exact cells_str _ | exact cells_bool _ | exact cells_slice _ _ _ | exact cells_ptr _ | exact cells_map _ | exact cells_func _ _ _ | exact cells_nilFunc | exact cells_one (by assumption) (by assumption)) ?_; clear hL; intro gq wq hL)) | ((with_reducible refine gBox rfl rfl ?_); (refine ev_boxL rfl hL rfl rfl (by first | exact cells_agg _ rfl | exact cells_int _ _ | exact cells_str _ | exact cells_bool _ | exact cells_slice _ _ _ | exact cells_ptr _ | exact cells_map _ | exact cells_func _ _ _ | exact cells_nilFunc | exact cells_one (by assumption) (by assumption)) ?_; clear hL; intro gq wq hL)) | ((with_reducible refine gLoad rfl rfl ?_); (first | (refine ev_load1L rfl hL rfl rfl HasV.mem (by rfl) ?_) | (refine ev_loadAllL rfl hL rfl rfl HasV.mem (by rfl) ?_) | (refine ev_loadL rfl hL rfl rfl HasV.mem SegC.seg ?_))) | ((with_reducible refine gStore rfl rfl ?_); (first | (refine ev_storeC rfl hL rfl rfl rfl (by first | exact cells_agg _ rfl | exact cells_int _ _ | exact cells_str _ | exact cells_bool _ | exact cells_slice _ _ _ | exact cells_ptr _ | exact cells_map _ | exact cells_func _ _ _ | exact cells_nilFunc | exact cells_one (by assumption) (by assumption)) (by rfl) ?_) | (refine ev_storeAllC rfl hL rfl rfl rfl (by first | exact cells_agg _ rfl | exact cells_int _ _ | exact cells_str _ | exact cells_bool _ | exact cells_slice _ _ _ | exact cells_ptr _ | exact cells_map _ | exact cells_func _ _ _ | exact cells_nilFunc | exact cells_one (by assumption) (by assumption)) (by rfl) (by rfl) ?_)); clear hL; intro wq hL) | ((with_reducible refine gLoadG rfl rfl ?_ ?_); (exact wanted_some rfl rfl rfl (by with_reducible rfl)); (first | (refine ev_load1G (wanted_some rfl rfl rfl rfl) hL rfl rfl HasV.mem (by rfl) ?_) | (refine ev_loadAllG (wanted_some rfl rfl rfl rfl) hL rfl rfl HasV.mem (by rfl) ?_) | (refine ev_loadG_ (wanted_some rfl rfl rfl rfl) hL rfl rfl HasV.mem SegC.seg ?_))))
          go_roundw
          case rel => exact ⟨k + 1, 0, c :: l, by omega, by go_num, rfl, rfl, HD2, by omega, by simp at hll ⊢; omega, hL⟩
          case measure => simp [intOf]; omega
    · obtain rfl : k = 20 := by omega
      have HR := Lib.hid (HD.out.done hub)
      go_wp2_with (first | ((with_reducible refine gAlloc rfl rfl ?_); (refine ev_allocL rfl hL rfl (by first | exact cells_agg _ rfl | exact cells_int _ _ | exact cells_str _ | exact cells_bool _ | exact cells_slice _ _ _ | exact cells_ptr _ | exact cells_map _ | exact cells_func _ _ _ | exact cells_nilFunc | exact cells_one (by assumption) (by assumption)) ?_; clear hL; intro gq wq hL)) | ((with_reducible refine gBox rfl rfl ?_); (refine ev_boxL rfl hL rfl rfl (by first | exact cells_agg _ rfl | exact cells_int _ _ | exact cells_str _ | exact cells_bool _ | exact cells_slice _ _ _ | exact cells_ptr _ | exact cells_map _ | exact cells_func _ _ _ | exact cells_nilFunc | exact cells_one (by assumption) (by assumption)) ?_; clear hL; intro gq wq hL)) | ((with_reducible refine gLoad rfl rfl ?_); (first | (refine ev_load1L rfl hL rfl rfl HasV.mem (by rfl) ?_) | (refine ev_loadAllL rfl hL rfl rfl HasV.mem (by rfl) ?_) | (refine ev_loadL rfl hL rfl rfl HasV.mem SegC.seg ?_))) | ((with_reducible refine gStore rfl rfl ?_); (first | (refine ev_storeC rfl hL rfl rfl rfl (by first | exact cells_agg _ rfl | exact cells_int _ _ | exact cells_str _ | exact cells_bool _ | exact cells_slice _ _ _ | exact cells_ptr _ | exact cells_map _ | exact cells_func _ _ _ | exact cells_nilFunc | exact cells_one (by assumption) (by assumption)) (by rfl) ?_) | (refine ev_storeAllC rfl hL rfl rfl rfl (by first | exact cells_agg _ rfl | exact cells_int _ _ | exact cells_str _ | exact cells_bool _ | exact cells_slice _ _ _ | exact cells_ptr _ | exact cells_map _ | exact cells_func _ _ _ | exact cells_nilFunc | exact cells_one (by assumption) (by assumption)) (by rfl) (by rfl) ?_)); clear hL; intro wq hL) | ((with_reducible refine gLoadG rfl rfl ?_ ?_); (exact wanted_some rfl rfl rfl (by with_reducible rfl)); (first | (refine ev_load1G (wanted_some rfl rfl rfl rfl) hL rfl rfl HasV.mem (by rfl) ?_) | (refine ev_loadAllG (wanted_some rfl rfl rfl rfl) hL rfl rfl HasV.mem (by rfl) ?_) | (refine ev_loadG_ (wanted_some rfl rfl rfl rfl) hL rfl rfl HasV.mem SegC.seg ?_))))
      go_ret
      exact ⟨congrArg (fun s => Ending.returned (Value.string s)) (by have hu := HU.out; unfold itoaB Lib.itoa; rw [if_neg (by omega), ← hu, HR.out]), hL.below⟩
theorem ref_digits (n : Int) (w : World) (h0 : -9223372036854775808 ≤ n) (h1 : n ≤ 9223372036854775807) :
    Calls Tryd.prog 57 #[.int .i64 n] w fun e w' => e = .returned (.string (itoaB n)) ∧ Below w.heap.size w w' := by
  by_cases hn : n < 0
  · exact ref_digits_neg n w h0 h1 hn
  · exact ref_digits_pos n w h0 h1 hn
end Go.Proofs.YtbkffeabikjnhaaDoor

/- The functions of octet that write: contracts. -/
namespace Go.Proofs.YtbkffeabikjnhaaDoor
open Go.RowKit

theorem wide_any (n : Int) (w : World) : Calls Tryd.prog 104 #[.int .i64 n] w fun e w' => e = .returned (.bool (decide (1 ≤ n ∧ n ≤ 8))) ∧ w = w' := by
  by_cases h : 1 ≤ n
  · go_enter Tryd.func104, Tryd.ntmps104
    go_wp2
    go_ret
    simp [h]
  · have h' : ¬ 1 ≤ n := by omega
    go_enter Tryd.func104, Tryd.ntmps104
    go_wp2
    go_ret
    simp; omega

theorem infoU8 : (Tryd.prog.info? 5).map (fun i => (i.zero, i.size, i.bytes)) = some (some (.int .u8 0), 1, 1) := by kernel_rfl

def u8 (z : Int) : UInt8 := UInt8.ofNat (z % 256).toNat
theorem u8_val (z : Int) : ((u8 z).toNat : Int) = z % 256 := by
  unfold u8
  rw [UInt8.toNat_ofNat']
  omega
def putN (n : Int) (w : Nat) : List UInt8 := (List.range w).reverse.map fun i => u8 (n / 2 ^ (8 * i))
theorem putN_length (n : Int) (w : Nat) : (putN n w).length = w := by simp [putN]

theorem putN_take (n : Int) (k j : Nat) (h : j < k) : (putN n k).take (j + 1) = (putN n k).take j ++ [u8 (n / 2 ^ (8 * (k - 1 - j)))] := by
  rw [List.take_add_one]
  congr 1
  simp only [putN, List.getElem?_map]
  rw [List.getElem?_reverse (by simpa using h)]
  simp [List.length_range, List.getElem?_range (show k - 1 - j < k by omega)]
theorem oct_put (n : Int) (k : Int) (v : Value) (xs : List UInt8) (w : World) (hk1 : 1 ≤ k) (hk8 : k ≤ 8) (hr : encB.R w v xs) (hl : xs.length ≤ 1000000000) :
    Calls Tryd.prog 60 #[v, .int .i64 n, .int .i64 k] w fun e w' => ∃ v', e = .returned v' ∧ encB.O w' w.heap.size 5 v' (xs ++ putN n k.toNat) ∧ Below w.heap.size w w' := by
  obtain ⟨k, rfl⟩ := Int.eq_ofNat_of_zero_le (show 0 ≤ k by omega)
  rw [Int.toNat_natCast]
  have hdec : decide (1 ≤ (k : Int) ∧ (k : Int) ≤ 8) = true := by simp; omega
  go_enter Tryd.func60, Tryd.ntmps60
  go_wp2_with (at_builtin; refine Enc.app (E := encB) rfl (.tmp 9) (.tmp 10) 54 54 rfl (base := w.heap.size) (.int .u8 0) 1 Tryd.underlying54 infoU8 rfl (xs := []) rfl ?own (ys := xs) rfl ?src (by simp; omega) (by omega) (by simp) ?_)
  case own => exact Enc.O.lit #[] [] rfl (Nat.le_refl _) (by simp [maxLen])
  case src => exact (hr.below (bl_alloc (Below.refl _ _) _)).src Tryd.underlying54
  intro v1 w1 hown hg hat
  have hb : Below w.heap.size w w1 := bl_grown (bl_alloc (Below.refl _ _) _) hg (by intro k hk; simp [Value.ownBlock] at hk; omega)
  clear hg hat hr
  go_wp2_with (go_at_call 104; refine (wide_any _ _).mono ?_; rintro e w' ⟨rfl, rfl⟩)
  go_loopw [7, 8] (fun o i wr => ∃ (j : Nat) (vo : Value), j ≤ k ∧ o = vo ∧ i = .int .i64 ((k : Int) - 1 - j) ∧ encB.O wr w.heap.size 5 vo (xs ++ (putN n k).take j) ∧ Below w.heap.size w wr) (fun _ i _ => (intOf i + 1).toNat)
  case atStart => exact ⟨0, v1, by omega, rfl, by simp, by simpa using hown, hb⟩
  case round =>
    obtain ⟨j, vo, hj, rfl, rfl, hown2, hb2⟩ := hrel
    by_cases hlt : j < k
    · have h0 : 0 ≤ (k : Int) - 1 - j := by omega
      have hlen : (xs ++ (putN n k).take j).length < 100000000000 := by rw [List.length_append, List.length_take, putN_length]; omega
      have HL := Lib.hid hlen
      have HN := Lib.hid (putN_take n k j hlt)
      clear hlen
      go_wp2_with (at_builtin; refine Enc.app1 (E := encB) rfl (.tmp 22) (.tmp 28) 54 rfl (.int .u8 0) 1 Tryd.underlying54 infoU8 rfl rfl hown2 (u8 (n / 2 ^ (8 * (k - 1 - j)))) (by simp [encB, u8_val]) rfl HL.out (by omega) hb2.size ?_)
      intro v2 w2 hown3 hg3 hat3
      have hb3 : Below w.heap.size w w2 := bl_grown hb2 hg3 hown2.base
      rw [← HN.out] at hown3
      clear hg3 hat3 hown2 HN HL
      go_wp2
      go_roundw
      case rel => exact ⟨j + 1, _, by omega, rfl, by go_num, hown3, hb3⟩
      case measure => simp [intOf]; omega
    · obtain rfl : j = k := by omega
      have h0 : (j : Int) - 1 - j = -1 := by omega
      rw [List.take_of_length_le (by rw [putN_length]; exact Nat.le_refl _)] at hown2
      go_wp2
      go_ret
      exact ⟨_, rfl, hown2, hb2⟩
theorem oct_text (v : Value) (s : ByteArray) (xs : List UInt8) (w : World) (hs : s.size ≤ 65535) (hr : encB.R w v xs) (hl : xs.length ≤ 100000000) :
    Calls Tryd.prog 63 #[v, .string s] w fun e w' => ∃ v', e = .returned v' ∧ encB.O w' w.heap.size 5 v' (xs ++ putN s.size 2 ++ s.data.toList) ∧ Below w.heap.size w w' := by
  have hx : s.extract 0 s.size = s := by apply ByteArray.ext; simp
  have hm : min (s.size : Int) 65535 = s.size := by omega
  have h0 : (0 : Int) ≤ (s.size : Int) := by omega
  have hlen : (xs ++ putN s.size 2).length + s.data.toList.length ≤ 100000000000 := by
    rw [List.length_append, putN_length, Array.length_toList]; show xs.length + 2 + s.size ≤ _; omega
  have HL := Lib.hid hlen
  clear hlen
  go_enter Tryd.func63, Tryd.ntmps63
  go_wp2_with fail
  refine (oct_put (s.size : Int) 2 v xs w (by omega) (by omega) hr (by omega)).mono ?_
  rintro e w1 ⟨v1, rfl, ho, hb1⟩
  go_wp2_with (at_builtin; refine Enc.app (E := encB) rfl (.tmp 13) (.tmp 14) 54 9 rfl (.int .u8 0) 1 Tryd.underlying54 infoU8 rfl rfl ho rfl (src_str w1 Tryd.underlying9 s) HL.out (by omega) hb1.size ?_)
  intro v2 w2 ho2 hg2 hat2
  have hb2 : Below w.heap.size w w2 := bl_grown hb1 hg2 ho.base
  clear hg2 hat2 ho
  go_wp2
  go_ret
  exact ⟨_, rfl, by rw [List.append_assoc]; exact ho2, hb2⟩
end Go.Proofs.YtbkffeabikjnhaaDoor

/- Vectors: plain data and contracts. -/
namespace Go.Proofs.YtbkffeabikjnhaaDoor
open Go.RowKit

structure V8 where
  (a0 a1 a2 a3 a4 a5 a6 a7 : Int)
  deriving DecidableEq
namespace V8
def list (v : V8) : List Int := [v.a0, v.a1, v.a2, v.a3, v.a4, v.a5, v.a6, v.a7]
def get (v : V8) (j : Nat) : Int := v.list.getD j 0
abbrev val (v : V8) : Value := .agg #[.int .i64 v.a0, .int .i64 v.a1, .int .i64 v.a2, .int .i64 v.a3, .int .i64 v.a4, .int .i64 v.a5, .int .i64 v.a6, .int .i64 v.a7]
def okN (n : Int) : Bool := decide (0 ≤ n ∧ n ≤ 1099511627776)
def good (v : V8) : Bool := v.list.all okN
theorem list_length (v : V8) : v.list.length = 8 := rfl
theorem take_succ (v : V8) (j : Nat) (h : j < 8) : v.list.take (j + 1) = v.list.take j ++ [v.get j] := by
  rw [List.take_succ_eq_append_getElem (by rw [list_length]; exact h)]
  congr 2
  unfold get
  rw [List.getD_eq_getElem?_getD, List.getElem?_eq_getElem (by rw [list_length]; exact h)]
  rfl
theorem take_all (v : V8) : v.list.take 8 = v.list := rfl
end V8

theorem idx8 (v : V8) (j : Nat) (hj : j < 8) : ∀ w, (Instr.index 25 v.val (.int .i64 (j : Int))).run Tryd.prog w = .ok (.int .i64 (v.get j)) w := by
  have h : j = 0 ∨ j = 1 ∨ j = 2 ∨ j = 3 ∨ j = 4 ∨ j = 5 ∨ j = 6 ∨ j = 7 := by omega
  rcases h with rfl | rfl | rfl | rfl | rfl | rfl | rfl | rfl <;> intro w <;> kernel_rfl

theorem V8.cell8 (v : V8) (w : World) (t : TypeId) (j : Nat) (hj : j < 8) : (w.alloc (.cells #[.int .i64 v.a0, .int .i64 v.a1, .int .i64 v.a2, .int .i64 v.a3, .int .i64 v.a4, .int .i64 v.a5, .int .i64 v.a6, .int .i64 v.a7] t)).cell? ⟨w.heap.size, j, none⟩ = some (.int .i64 (v.get j)) := by
  rw [World.cell?_alloc_new]
  have h : j = 0 ∨ j = 1 ∨ j = 2 ∨ j = 3 ∨ j = 4 ∨ j = 5 ∨ j = 6 ∨ j = 7 := by omega
  rcases h with rfl | rfl | rfl | rfl | rfl | rfl | rfl | rfl <;> rfl
theorem V8.all_snoc (v : V8) (j : Nat) (h : j < 8) (ha : (v.list.take j).all V8.okN = true) (hn : ¬ v.get j < 0) (hn2 : ¬ v.get j > 1099511627776) : (v.list.take (j + 1)).all V8.okN = true := by
  rw [v.take_succ j h, List.all_append, ha]
  simp [V8.okN]; omega
theorem V8.not_good (v : V8) (j : Nat) (h : j < 8) (hn : v.get j < 0 ∨ v.get j > 1099511627776) : v.good = false := by
  have h1 : V8.okN (v.get j) = false := by simp [V8.okN]; omega
  have h2 : v.get j ∈ v.list := by
    unfold V8.get
    rw [List.getD_eq_getElem?_getD, List.getElem?_eq_getElem (by rw [V8.list_length]; exact h)]
    exact List.getElem_mem _
  unfold V8.good
  rw [List.all_eq_false]
  exact ⟨_, h2, by simp [h1]⟩

theorem vec_good (v : V8) (w : World) :
    Calls Tryd.prog 49 #[v.val] w fun e w' => e = .returned (.bool v.good) ∧ Below w.heap.size w w' := by
  go_enter Tryd.func49, Tryd.ntmps49
  go_wp2
  go_loop [4, 6] (fun n i => ∃ (j : Nat), j ≤ 8 ∧ i = .int .i64 j ∧ (v.list.take j).all V8.okN = true) (fun _ i => 8 - (intOf i).toNat)
  case atStart => exact ⟨0, by omega, rfl, by simp⟩
  case round =>
    obtain ⟨j, hj, rfl, hall⟩ := hrel
    have HA := Lib.hid hall
    clear hall
    by_cases hlt : j < 8
    · have hi := idx8 v j hlt
      have HS := fun h1 h2 => V8.all_snoc v j hlt HA.out h1 h2
      have HF := V8.not_good v j hlt
      have HS' := Lib.hid HS
      have HF' := Lib.hid HF
      clear HS HF
      generalize v.get j = n at hi HS' HF'
      by_cases hn : n < 0
      · go_wp2
        go_ret
        exact ⟨by rw [HF'.out (.inl hn)]; rfl, bl_alloc (Below.refl _ _) _⟩
      · by_cases hn2 : n > 1099511627776
        · go_wp2
          go_ret
          exact ⟨by rw [HF'.out (.inr hn2)]; rfl, bl_alloc (Below.refl _ _) _⟩
        · have HT := Lib.hid (HS'.out hn hn2)
          clear HS' HF'
          go_wp2
          go_round
          case rel => exact ⟨j + 1, by omega, by go_num, HT.out⟩
          case measure => simp [intOf]; omega
    · obtain rfl : j = 8 := by omega
      go_wp2
      go_ret
      exact ⟨by have h := HA.out; rw [v.take_all] at h; unfold V8.good; rw [h]; rfl, bl_alloc (Below.refl _ _) _⟩

theorem ref_good (v : V8) (w : World) :
    Calls Tryd.prog 52 #[v.val] w fun e w' => e = .returned (.bool v.good) ∧ Below w.heap.size w w' := by
  go_enter Tryd.func52, Tryd.ntmps52
  go_wp2
  go_loop [3, 4] (fun n i => ∃ (j : Nat), j ≤ 8 ∧ i = .int .i64 j ∧ (v.list.take j).all V8.okN = true) (fun _ i => 8 - (intOf i).toNat)
  case atStart => exact ⟨0, by omega, rfl, by simp⟩
  case round =>
    obtain ⟨j, hj, rfl, hall⟩ := hrel
    have HA := Lib.hid hall
    clear hall
    by_cases hlt : j < 8
    · have hi := v.cell8 w 25 j hlt
      have HS := fun h1 h2 => V8.all_snoc v j hlt HA.out h1 h2
      have HF := V8.not_good v j hlt
      have HS' := Lib.hid HS
      have HF' := Lib.hid HF
      clear HS HF
      generalize v.get j = n at hi HS' HF'
      by_cases hn : n < 0
      · go_wp2
        go_ret
        exact ⟨by rw [HF'.out (.inl hn)]; rfl, bl_alloc (Below.refl _ _) _⟩
      · by_cases hn2 : n > 1099511627776
        · go_wp2
          go_ret
          exact ⟨by rw [HF'.out (.inr hn2)]; rfl, bl_alloc (Below.refl _ _) _⟩
        · have HT := Lib.hid (HS'.out hn hn2)
          clear HS' HF'
          go_wp2
          go_round
          case rel => exact ⟨j + 1, by omega, by go_num, HT.out⟩
          case measure => simp [intOf]; omega
    · obtain rfl : j = 8 := by omega
      go_wp2
      go_ret
      exact ⟨by have h := HA.out; rw [v.take_all] at h; unfold V8.good; rw [h]; rfl, bl_alloc (Below.refl _ _) _⟩

def V8.bytes (v : V8) : List UInt8 := v.list.flatMap fun n => putN n 6
theorem V8.bytes_snoc (v : V8) (j : Nat) (h : j < 8) : (v.list.take (j + 1)).flatMap (fun n => putN n 6) = (v.list.take j).flatMap (fun n => putN n 6) ++ putN (v.get j) 6 := by
  rw [v.take_succ j h]; simp
theorem V8.flat_len (v : V8) (j : Nat) : ((v.list.take j).flatMap (fun n => putN n 6)).length ≤ 48 := by
  have : ∀ l : List Int, (l.flatMap (fun n => putN n 6)).length = 6 * l.length := by
    intro l
    induction l with
    | nil => rfl
    | cons a l ih => simp only [List.flatMap_cons, List.length_append, ih, putN_length, List.length_cons]; omega
  rw [this]
  have := List.length_take_le j v.list
  have := List.length_take_le' j v.list
  rw [v.list_length] at this
  omega

theorem vec_put (v : V8) (b : Value) (xs : List UInt8) (w : World) (hr : encB.R w b xs) (hl : xs.length ≤ 100000000) :
    Calls Tryd.prog 61 #[b, v.val] w fun e w' => ∃ v', e = .returned v' ∧ encB.R w' v' (xs ++ v.bytes) ∧ Below w.heap.size w w' := by
  go_enter Tryd.func61, Tryd.ntmps61
  go_wp2
  go_loopw [0, 6, 8] (fun o n i wr => ∃ (j : Nat), j ≤ 8 ∧ i = .int .i64 j ∧ encB.R wr o (xs ++ (v.list.take j).flatMap (fun n => putN n 6)) ∧ Below w.heap.size w wr) (fun _ _ i _ => 8 - (intOf i).toNat)
  case atStart => exact ⟨0, by omega, rfl, by simpa using hr.below (bl_alloc (Below.refl _ _) _), bl_alloc (Below.refl _ _) _⟩
  case round =>
    obtain ⟨j, hj, rfl, hr2, hb2⟩ := hrel
    by_cases hlt : j < 8
    · have hi := idx8 v j hlt
      have HS := Lib.hid (v.bytes_snoc j hlt)
      have hlen : (xs ++ (v.list.take j).flatMap (fun n => putN n 6)).length ≤ 1000000000 := by rw [List.length_append]; have := v.flat_len j; omega
      have HL := Lib.hid hlen
      clear hlen
      generalize v.get j = n at hi HS
      go_wp2_with (go_at_call 60; refine (oct_put _ _ _ _ _ (by omega) (by omega) hr2 HL.out).mono ?_; rintro e w1 ⟨v1, rfl, ho, hb1⟩)
      go_roundw
      case rel => exact ⟨j + 1, by omega, by go_num, by rw [HS.out, ← List.append_assoc]; exact ho.read, bl_then hb2 hb1⟩
      case measure => simp [intOf]; omega
    · obtain rfl : j = 8 := by omega
      go_wp2
      go_ret
      exact ⟨_, rfl, by simpa [V8.bytes, v.take_all] using hr2, hb2⟩
end Go.Proofs.YtbkffeabikjnhaaDoor

/- Sums: contracts. -/
namespace Go.Proofs.YtbkffeabikjnhaaDoor
open Go.RowKit

def crcPoly : BitVec 64 := 14514072000185962306#64
def crcBit (c : BitVec 64) : BitVec 64 := (c >>> 1) ^^^ (crcPoly &&& (- (c &&& 1#64)))
def crcBits : Nat → BitVec 64 → BitVec 64
  | 0, c => c
  | k + 1, c => crcBit (crcBits k c)
def crcByte (c : BitVec 64) (b : UInt8) : BitVec 64 := crcBits 8 (c ^^^ BitVec.ofNat 64 b.toNat)
def crcFold (c : BitVec 64) (l : List UInt8) : BitVec 64 := l.foldl crcByte c
def crcMore (c : BitVec 64) (l : List UInt8) : BitVec 64 := ~~~ (crcFold (~~~ c) l)

theorem bv_lt (a : BitVec 64) : a.toNat < 18446744073709551616 := a.isLt
theorem bv_xor (a b : BitVec 64) : bits .xor .u64 (a.toNat : Int) (b.toNat : Int) = ((a ^^^ b).toNat : Int) := by
  rw [u64_xor_nat _ _ (bv_lt a) (bv_lt b), BitVec.toNat_xor]
theorem bv_and (a b : BitVec 64) : bits .and .u64 (a.toNat : Int) (b.toNat : Int) = ((a &&& b).toNat : Int) := by
  rw [u64_and_nat _ _ (bv_lt a) (bv_lt b), BitVec.toNat_and]
theorem bv_shr1 (a : BitVec 64) : (a.toNat : Int) / (2 : Int) = ((a >>> 1).toNat : Int) := by
  rw [BitVec.toNat_ushiftRight, Nat.shiftRight_eq_div_pow]; omega
theorem bv_neg (a : BitVec 64) : IntKind.u64.wrap (-(a.toNat : Int)) = ((-a).toNat : Int) := by
  have := bv_lt a
  rw [IntKind.wrap_u64, BitVec.toNat_neg]
  omega
theorem bv_one : (1 : Int) = ((1#64).toNat : Int) := rfl
theorem bv_poly : (14514072000185962306 : Int) = (crcPoly.toNat : Int) := rfl
theorem bv_max : IntKind.u64.max = ((BitVec.allOnes 64).toNat : Int) := by decide +kernel
theorem bv_byte (b : UInt8) : IntKind.u64.wrap (b.toNat : Int) = ((BitVec.ofNat 64 b.toNat).toNat : Int) := by
  have := b.toNat_lt
  rw [IntKind.wrap_u64, BitVec.toNat_ofNat]
  omega
theorem crc_not (c : BitVec 64) : bits .xor .u64 IntKind.u64.max (c.toNat : Int) = ((~~~ c).toNat : Int) := by
  rw [bv_max, bv_xor, BitVec.allOnes_xor]
theorem crc_bit (x : BitVec 64) : bits .xor .u64 ((x.toNat : Int) / 2) (bits .and .u64 14514072000185962306 (IntKind.u64.wrap (-bits .and .u64 (x.toNat : Int) 1))) = ((crcBit x).toNat : Int) := by
  rw [bv_shr1, bv_one, bv_and, bv_neg, bv_poly, bv_and, bv_xor]; rfl
theorem crc_in (x : BitVec 64) (b : UInt8) : bits .xor .u64 (x.toNat : Int) (IntKind.u64.wrap (b.toNat : Int)) = ((x ^^^ BitVec.ofNat 64 b.toNat).toNat : Int) := by
  rw [bv_byte, bv_xor]
theorem crcFold_snoc (c : BitVec 64) (l : List UInt8) (b : UInt8) : crcFold c (l ++ [b]) = crcByte (crcFold c l) b := by simp [crcFold]
theorem take_snoc (s : ByteArray) (k : Nat) (h : k < s.size) : s.data.toList.take (k + 1) = s.data.toList.take k ++ [s[k]] := by
  rw [List.take_succ_eq_append_getElem (by simpa using h)]; rfl

theorem crc_more (c : BitVec 64) (s : ByteArray) (w : World) (hs : s.size ≤ 100000000000) :
    Calls Tryd.prog 124 #[.int .u64 c.toNat, .string s] w fun e w' => e = .returned (.int .u64 (crcMore c s.data.toList).toNat) ∧ w = w' := by
  have h1 := Lib.hid (crc_not c)
  go_enter Tryd.func124, Tryd.ntmps124
  go_wp2
  go_loop [5, 6, 7, 12, 21] (fun c5 i6 l7 i12 i21 => ∃ k : Nat, k ≤ s.size ∧ c5 = .int .u64 (crcFold (~~~ c) (s.data.toList.take k)).toNat ∧ i12 = .int .i64 k) (fun _ _ _ i _ => s.size - (intOf i).toNat)
  case atStart => exact ⟨0, by omega, by rw [h1.out]; rfl, rfl⟩
  case round =>
    obtain ⟨k, hk, rfl, rfl⟩ := hrel
    generalize hx : crcFold (~~~ c) (s.data.toList.take k) = x
    have HX := Lib.hid hx
    clear hx
    by_cases hlt : k < s.size
    · go_wp2
      have HI := Lib.hid (crc_in x s[k])
      go_loop [5, 7, 21] (fun c5 l7 i21 => ∃ (j : Nat), j ≤ 8 ∧ c5 = .int .u64 (crcBits j (x ^^^ BitVec.ofNat 64 s[k].toNat)).toNat ∧ i21 = .int .i64 j) (fun _ _ i => 8 - (intOf i).toNat)
      case atStart => exact ⟨0, by omega, by rw [HI.out]; rfl, rfl⟩
      case round =>
        obtain ⟨j, hj, rfl, rfl⟩ := hrel
        generalize hy : crcBits j (x ^^^ BitVec.ofNat 64 s[k].toNat) = y
        have HY := Lib.hid hy
        clear hy
        by_cases hlt2 : j < 8
        · go_wp2
          go_round
          case rel => exact ⟨j + 1, by omega, by rw [crc_bit, ← HY.out]; rfl, by go_num⟩
          case measure => simp [intOf]; omega
        · obtain rfl : j = 8 := by omega
          have HN := Lib.hid (take_snoc s k hlt)
          go_wp2
          go_round
          case rel => exact ⟨k + 1, by omega, by rw [HN.out, crcFold_snoc, HX.out, ← HY.out]; rfl, by go_num⟩
          case measure => simp [intOf]; omega
    · obtain rfl : k = s.size := by omega
      have HN := Lib.hid (crc_not x)
      have HT := Lib.hid (show s.data.toList.take s.size = s.data.toList from List.take_of_length_le (by simp))
      go_wp2
      go_ret
      refine ⟨?_, rfl⟩
      rw [HN.out]
      unfold crcMore
      rw [← HX.out, HT.out]
      rfl
end Go.Proofs.YtbkffeabikjnhaaDoor

/- Messages: contracts of Put and what it calls. -/
namespace Go.Proofs.YtbkffeabikjnhaaDoor
open Go.RowKit

theorem put_mark (b n : Int) (v : Value) (xs : List UInt8) (w : World) (hr : encB.R w v xs) (hl : xs.length ≤ 100000000) :
    Calls Tryd.prog 62 #[v, .agg #[.int .i64 b, .int .i64 n]] w fun e w' => ∃ v', e = .returned v' ∧ encB.O w' w.heap.size 5 v' (xs ++ putN b 6 ++ putN n 6) ∧ Below w.heap.size w w' := by
  have hl2 : (xs ++ putN b 6).length ≤ 1000000000 := by rw [List.length_append, putN_length]; omega
  go_enter Tryd.func62, Tryd.ntmps62
  go_wp2
  have hb0 : Below w.heap.size w (w.alloc (.cells #[.int .i64 b, .int .i64 n] 39)) := bl_alloc (Below.refl _ _) _
  have hr0 := hr.below hb0
  have hz : (w.alloc (.cells #[.int .i64 b, .int .i64 n] 39)).heap.size = w.heap.size + 1 := by simp
  have h0 : (w.alloc (.cells #[.int .i64 b, .int .i64 n] 39)).cell? ⟨w.heap.size, 0, none⟩ = some (.int .i64 b) := by simp
  have h1 : (w.alloc (.cells #[.int .i64 b, .int .i64 n] 39)).cell? ⟨w.heap.size, 1, none⟩ = some (.int .i64 n) := by simp
  generalize w.alloc (.cells #[.int .i64 b, .int .i64 n] 39) = W at *
  go_region_held3 (fun w' => w'.cell? ⟨w.heap.size, 0, none⟩ = some (.int .i64 b) ∧ w'.cell? ⟨w.heap.size, 1, none⟩ = some (.int .i64 n)) (go_keep)
    (first | (go_at_call 60; have hq := oct_put b 6 v xs W.drew (by omega) (by omega) hr0 (by omega); with_reducible refine hq.mono ?_; rintro e w1 ⟨v1, rfl, ho1, hb1⟩; have hk1 := bcell hb1; obtain ⟨hc1, hf1⟩ := hk1; have hz1 : w.heap.size < w1.heap.size := by have := hb1.size; simp at this; omega)
           | (go_at_call 60; have hq := oct_put n 6 v1 (xs ++ putN b 6) w1 (by omega) (by omega) ho1.read hl2; with_reducible refine hq.mono ?_; rintro e w2 ⟨v2, rfl, ho2, hb2⟩; have hk2 := bcell hb2; obtain ⟨hc2, hf2⟩ := hk2))
  go_wp2
  go_ret
  exact ⟨_, rfl, Enc.O.weaken ho2 (by omega), bl_then (bl_then hb0 (bl_of_drew hb1)) hb2⟩
end Go.Proofs.YtbkffeabikjnhaaDoor

/- Messages: data; Check and what it calls. -/
namespace Go.Proofs.YtbkffeabikjnhaaDoor
open Go.RowKit

structure Mk where
  (boot n : Int)
  deriving DecidableEq
abbrev Mk.val (m : Mk) : Value := .agg #[.int .i64 m.boot, .int .i64 m.n]
structure Msg where
  (kind src dst vol : Int)
  (base mark : Mk)
  (index total : Int)
  (seen : V8)
  data : ByteArray
  deriving DecidableEq
def Msg.cells (m : Msg) : List Value := [.int .i64 m.kind, .int .i64 m.src, .int .i64 m.dst, .int .i64 m.vol, .int .i64 m.base.boot, .int .i64 m.base.n, .int .i64 m.mark.boot, .int .i64 m.mark.n, .int .i64 m.index, .int .i64 m.total,
  .int .i64 m.seen.a0, .int .i64 m.seen.a1, .int .i64 m.seen.a2, .int .i64 m.seen.a3, .int .i64 m.seen.a4, .int .i64 m.seen.a5, .int .i64 m.seen.a6, .int .i64 m.seen.a7, .string m.data]
abbrev Msg.val (m : Msg) : Value := .agg #[.int .i64 m.kind, .int .i64 m.src, .int .i64 m.dst, .int .i64 m.vol, .int .i64 m.base.boot, .int .i64 m.base.n, .int .i64 m.mark.boot, .int .i64 m.mark.n, .int .i64 m.index, .int .i64 m.total,
  .int .i64 m.seen.a0, .int .i64 m.seen.a1, .int .i64 m.seen.a2, .int .i64 m.seen.a3, .int .i64 m.seen.a4, .int .i64 m.seen.a5, .int .i64 m.seen.a6, .int .i64 m.seen.a7, .string m.data]

theorem mark_eq (a b : Mk) : ∀ w, (binOp .eql 39 a.val b.val).run Tryd.prog w = .ok (.bool (decide (a = b))) w := by
  have h : eqCells Tryd.prog 3 39 [.int .i64 a.boot, .int .i64 a.n] [.int .i64 b.boot, .int .i64 b.n] = some (a.boot == b.boot && (a.n == b.n && true)) := by kernel_rfl
  have e : (a.boot == b.boot && (a.n == b.n && true)) = decide (a = b) := by
    obtain ⟨a1, a2⟩ := a; obtain ⟨b1, b2⟩ := b
    rw [Bool.eq_iff_iff]; simp
  rw [e] at h
  exact run_eql_cells 3 (by decide) (by kernel_rfl) h
def beqMsg (a b : Msg) : Bool := a.kind == b.kind && (a.src == b.src && (a.dst == b.dst && (a.vol == b.vol && ((a.base.boot == b.base.boot && (a.base.n == b.base.n && true)) && ((a.mark.boot == b.mark.boot && (a.mark.n == b.mark.n && true)) && (a.index == b.index && (a.total == b.total && (
    (a.seen.a0 == b.seen.a0 && (a.seen.a1 == b.seen.a1 && (a.seen.a2 == b.seen.a2 && (a.seen.a3 == b.seen.a3 && (a.seen.a4 == b.seen.a4 && (a.seen.a5 == b.seen.a5 && (a.seen.a6 == b.seen.a6 && (a.seen.a7 == b.seen.a7 && true)))))))) && (a.data == b.data && true)))))))))
theorem beq_ba (a b : ByteArray) : (a == b) = decide (a = b) := by
  rw [beq_toListBytes, ByteArray.toList_eq, ByteArray.toList_eq]
  obtain ⟨⟨x⟩⟩ := a
  obtain ⟨⟨y⟩⟩ := b
  rw [Bool.eq_iff_iff]; simp
theorem beqMsg_eq (a b : Msg) : beqMsg a b = decide (a = b) := by
  obtain ⟨a1, a2, a3, a4, ⟨a5, a6⟩, ⟨a7, a8⟩, a9, a10, ⟨c0, c1, c2, c3, c4, c5, c6, c7⟩, a11⟩ := a
  obtain ⟨b1, b2, b3, b4, ⟨b5, b6⟩, ⟨b7, b8⟩, b9, b10, ⟨d0, d1, d2, d3, d4, d5, d6, d7⟩, b11⟩ := b
  rw [Bool.eq_iff_iff]; simp [beqMsg, beq_ba]
theorem msg_cells (a b : Msg) : eqCells Tryd.prog 4 41 a.cells b.cells = some (decide (a = b)) := by
  rw [← beqMsg_eq]
  exact eqCells_struct Tryd.underlying41 Tryd.stoodInHeld41 (by kernel_rfl)
theorem msg_eq (a b : Msg) : ∀ w, (binOp .eql 41 a.val b.val).run Tryd.prog w = .ok (.bool (decide (a = b))) w :=
  run_eql_cells 4 (by decide) (by kernel_rfl) (msg_cells a b)
theorem msg_neq (a b : Msg) : ∀ w, (binOp .neq 41 a.val b.val).run Tryd.prog w = .ok (.bool (!decide (a = b))) w :=
  run_neq_cells 4 (by decide) (by kernel_rfl) (msg_cells a b)

theorem sizeMsg : (Tryd.prog.info? 41).map (·.size) = some 19 := by kernel_rfl
theorem aggMsg : isAggT Tryd.prog 41 = true := by kernel_rfl
theorem msg_same (a b : Msg) (w : World) :
    Calls Tryd.prog 51 #[a.val, b.val] w fun e w' => e = .returned (.bool (decide (a = b))) ∧ Below w.heap.size w w' := by
  have he := msg_eq a b
  go_enter Tryd.func51, Tryd.ntmps51
  go_wp2_with (first
    | ((with_reducible refine gate (N := 2) rfl ?_); refine ev_box rfl 41 (.tmp 0) rfl rfl ?_; intro g1 w1 hx1 hb1 hg1 hl1)
    | ((with_reducible refine gate (N := 3) rfl ?_); refine ev_box rfl 41 (.tmp 1) rfl rfl ?_; intro g2 w2 hx2 hb2 hg2 hl2)
    | ((with_reducible refine gate (N := 5) rfl ?_); refine ev_load rfl 41 (.tmp 2) rfl rfl (hx1.below hb2) aggMsg sizeMsg ?_)
    | ((with_reducible refine gate (N := 6) rfl ?_); refine ev_load rfl 41 (.tmp 3) rfl rfl hx2 aggMsg sizeMsg ?_))
  go_ret
  exact ⟨rfl, bl_then hb1 hb2⟩
end Go.Proofs.YtbkffeabikjnhaaDoor

/- Messages: Bare. -/
namespace Go.Proofs.YtbkffeabikjnhaaDoor
open Go.RowKit

def Msg.zero : Msg := ⟨0, 0, 0, 0, ⟨0, 0⟩, ⟨0, 0⟩, 0, 0, ⟨0, 0, 0, 0, 0, 0, 0, 0⟩, ⟨#[]⟩⟩
def Msg.bare (m : Msg) : Msg :=
  { m with base := if m.kind = 1 ∨ m.kind = 2 then m.base else ⟨0, 0⟩
           mark := if m.kind = 1 ∨ m.kind = 2 ∨ m.kind = 4 then m.mark else ⟨0, 0⟩
           index := if m.kind = 1 ∨ m.kind = 2 then m.index else 0
           total := if m.kind = 2 then m.total else 0
           data := if m.kind = 2 then m.data else ⟨#[]⟩ }
theorem zeroMsg : (Tryd.prog.info? 41).map (·.zero) = some (some Msg.zero.val) := by kernel_rfl
abbrev Msg.arr (m : Msg) : Array Value := #[.int .i64 m.kind, .int .i64 m.src, .int .i64 m.dst, .int .i64 m.vol, .int .i64 m.base.boot, .int .i64 m.base.n, .int .i64 m.mark.boot, .int .i64 m.mark.n, .int .i64 m.index, .int .i64 m.total,
  .int .i64 m.seen.a0, .int .i64 m.seen.a1, .int .i64 m.seen.a2, .int .i64 m.seen.a3, .int .i64 m.seen.a4, .int .i64 m.seen.a5, .int .i64 m.seen.a6, .int .i64 m.seen.a7, .string m.data]
theorem oneMsg (m : Msg) : ∀ u ∈ m.arr.toList, u.oneCell' = true := by simp [Value.oneCell']
theorem msgCells {w : World} {g : Nat} {m : Msg} {t : TypeId} (h : Box w g m.arr t) : w.cell? ⟨g, 0, none⟩ = some (.int .i64 m.kind) ∧ w.cell? ⟨g, 1, none⟩ = some (.int .i64 m.src) ∧ w.cell? ⟨g, 2, none⟩ = some (.int .i64 m.dst) ∧ w.cell? ⟨g, 3, none⟩ = some (.int .i64 m.vol) ∧ w.cell? ⟨g, 4, none⟩ = some (.int .i64 m.base.boot) ∧ w.cell? ⟨g, 5, none⟩ = some (.int .i64 m.base.n) ∧ w.cell? ⟨g, 6, none⟩ = some (.int .i64 m.mark.boot) ∧ w.cell? ⟨g, 7, none⟩ = some (.int .i64 m.mark.n) ∧ w.cell? ⟨g, 8, none⟩ = some (.int .i64 m.index) ∧ w.cell? ⟨g, 9, none⟩ = some (.int .i64 m.total) ∧ w.cell? ⟨g, 10, none⟩ = some (.int .i64 m.seen.a0) ∧ w.cell? ⟨g, 11, none⟩ = some (.int .i64 m.seen.a1) ∧ w.cell? ⟨g, 12, none⟩ = some (.int .i64 m.seen.a2) ∧ w.cell? ⟨g, 13, none⟩ = some (.int .i64 m.seen.a3) ∧ w.cell? ⟨g, 14, none⟩ = some (.int .i64 m.seen.a4) ∧ w.cell? ⟨g, 15, none⟩ = some (.int .i64 m.seen.a5) ∧ w.cell? ⟨g, 16, none⟩ = some (.int .i64 m.seen.a6) ∧ w.cell? ⟨g, 17, none⟩ = some (.int .i64 m.seen.a7) ∧ w.cell? ⟨g, 18, none⟩ = some (.string m.data) :=
  ⟨h.cell 0, h.cell 1, h.cell 2, h.cell 3, h.cell 4, h.cell 5, h.cell 6, h.cell 7, h.cell 8, h.cell 9, h.cell 10, h.cell 11, h.cell 12, h.cell 13, h.cell 14, h.cell 15, h.cell 16, h.cell 17, h.cell 18⟩
def Msg.base0 (m : Msg) : Msg := ⟨m.kind, m.src, m.dst, m.vol, ⟨0, 0⟩, ⟨0, 0⟩, 0, 0, m.seen, ⟨#[]⟩⟩
theorem msg_bare1 (m : Msg) (w : World) (h1 : m.kind = 1) :
    Calls Tryd.prog 19 #[m.val] w fun e w' => e = .returned m.bare.val ∧ Below w.heap.size w w' := by
  have HE : Hid (m.bare = (⟨m.kind, m.src, m.dst, m.vol, ⟨m.base.boot, m.base.n⟩, ⟨m.mark.boot, m.mark.n⟩, m.index, 0, m.seen, ⟨#[]⟩⟩ : Msg)) := Lib.hid (by simp [Msg.bare, h1])
  have b1 : (m.kind == 1) = true := by simp [h1]
  clear h1
  rw [HE.out]
  clear HE
  go_enter Tryd.func19, Tryd.ntmps19
  go_wp2_with (first
    | ((with_reducible refine gate (N := 1) rfl ?_); refine ev_box rfl 41 (.tmp 0) rfl (cs := m.arr) rfl ?_; intro g1 w1 hx1 hb1 hg1 hl1)
    | ((with_reducible refine gate (N := 2) rfl ?_); refine ev_alloc rfl 41 rfl (cs := Msg.zero.arr) zeroMsg ?_; intro g2 w2 hx2 hb2 hg2 hl2; have hx1' := hx1.below hb2; have hc1 := hx1'.cell)
    | ((with_reducible refine gate (N := 3) rfl ?_); refine ev_alloc rfl 41 rfl (cs := Msg.zero.arr) zeroMsg ?_; intro g3 w3 hx3 hb3 hg3 hl3; refine stop ?_))
  unfold Stop
  refine ev_setAll rfl 41 (.tmp 3) (.tmp 14) rfl rfl (vs := m.base0.arr) hx3 rfl (oneMsg _) sizeMsg rfl ?_
  intro w4 hx4 hp4
  have hn1 : g1 ≠ g3 := by omega
  have hn2 : g2 ≠ g3 := by omega
  have hx14 := (hx1'.below hb3).put hp4 hn1
  have hx24 := (hx2.below hb3).put hp4 hn2
  have HB := Put.below (bl_then (bl_then hb1 hb2) hb3) hp4 (by have := hb1.size; have := hb2.size; omega)
  have hge : w.heap.size ≤ g2 := by have := hb1.size; omega
  have hge3 : w.heap.size ≤ g3 := by have := hb1.size; have := hb2.size; omega
  clear hc1 hx1 hx2 hx3 hx1' hb1 hb2 hb3 hp4 hg1 hl1 hg2 hl2 hg3 hl3 hn1
  have hc1 := hx14.cell
  have hc4 := hx4.cell
  have hf4 := hx4.frozen
  go_wp2
  go_region
  go_wp2_with (first | ((with_reducible refine gate (N := 50) rfl ?_); refine stop ?_))
  unfold Stop
  clear hc1 hc4 hf4
  have hs0 := Box.set_ hx4 4 (.int .i64 m.base.boot) (cs' := (⟨m.kind, m.src, m.dst, m.vol, ⟨m.base.boot, 0⟩, ⟨0, 0⟩, 0, 0, m.seen, ⟨#[]⟩⟩ : Msg).arr) rfl
  have hs1 := Box.set_ hs0 5 (.int .i64 m.base.n) (cs' := (⟨m.kind, m.src, m.dst, m.vol, ⟨m.base.boot, m.base.n⟩, ⟨0, 0⟩, 0, 0, m.seen, ⟨#[]⟩⟩ : Msg).arr) rfl
  have hs2 := Box.set_ hs1 6 (.int .i64 m.mark.boot) (cs' := (⟨m.kind, m.src, m.dst, m.vol, ⟨m.base.boot, m.base.n⟩, ⟨m.mark.boot, 0⟩, 0, 0, m.seen, ⟨#[]⟩⟩ : Msg).arr) rfl
  have hs3 := Box.set_ hs2 7 (.int .i64 m.mark.n) (cs' := (⟨m.kind, m.src, m.dst, m.vol, ⟨m.base.boot, m.base.n⟩, ⟨m.mark.boot, m.mark.n⟩, 0, 0, m.seen, ⟨#[]⟩⟩ : Msg).arr) rfl
  have hs4 := Box.set_ hs3 8 (.int .i64 m.index) (cs' := (⟨m.kind, m.src, m.dst, m.vol, ⟨m.base.boot, m.base.n⟩, ⟨m.mark.boot, m.mark.n⟩, m.index, 0, m.seen, ⟨#[]⟩⟩ : Msg).arr) rfl
  have hs24 := (((((hx24.put (Box.setPut _ g3 4 (.int .i64 m.base.boot)) hn2).put (Box.setPut _ g3 5 (.int .i64 m.base.n)) hn2).put (Box.setPut _ g3 6 (.int .i64 m.mark.boot)) hn2).put (Box.setPut _ g3 7 (.int .i64 m.mark.n)) hn2).put (Box.setPut _ g3 8 (.int .i64 m.index)) hn2)
  have HB5 : Below w.heap.size w (((((w4.setCell ⟨g3, 4, none⟩ (.int .i64 m.base.boot)).setCell ⟨g3, 5, none⟩ (.int .i64 m.base.n)).setCell ⟨g3, 6, none⟩ (.int .i64 m.mark.boot)).setCell ⟨g3, 7, none⟩ (.int .i64 m.mark.n)).setCell ⟨g3, 8, none⟩ (.int .i64 m.index)).drew := Below.drew (bl_set (bl_set (bl_set (bl_set (bl_set HB hge3 _) hge3 _) hge3 _) hge3 _) hge3 _)
  obtain ⟨w5, hw5⟩ : ∃ w5, w5 = (((((w4.setCell ⟨g3, 4, none⟩ (.int .i64 m.base.boot)).setCell ⟨g3, 5, none⟩ (.int .i64 m.base.n)).setCell ⟨g3, 6, none⟩ (.int .i64 m.mark.boot)).setCell ⟨g3, 7, none⟩ (.int .i64 m.mark.n)).setCell ⟨g3, 8, none⟩ (.int .i64 m.index)).drew := ⟨_, rfl⟩
  have hx5 : Box w5 g3 (⟨m.kind, m.src, m.dst, m.vol, ⟨m.base.boot, m.base.n⟩, ⟨m.mark.boot, m.mark.n⟩, m.index, 0, m.seen, ⟨#[]⟩⟩ : Msg).arr 41 := by rw [hw5]; exact hs4.drew
  have hx25 : Box w5 g2 Msg.zero.arr 41 := by rw [hw5]; exact hs24.drew
  rw [← hw5] at HB5 ⊢
  clear hw5 hx4 hx24 HB hx14 hs24 hs0 hs1 hs2 hs3 hs4
  refine ev_load rfl 41 (.tmp 3) rfl rfl hx5 aggMsg sizeMsg ?_
  refine ev_setAll rfl 41 (.tmp 2) (.tmp 50) rfl rfl (vs := (⟨m.kind, m.src, m.dst, m.vol, ⟨m.base.boot, m.base.n⟩, ⟨m.mark.boot, m.mark.n⟩, m.index, 0, m.seen, ⟨#[]⟩⟩ : Msg).arr) hx25 rfl (oneMsg _) sizeMsg rfl ?_
  intro w6 hx6 hp6
  have HB6 := Put.below HB5 hp6 hge
  clear hx5 hx25 hp6 HB5
  go_wp2
  refine bodyPost_ret (results_cell_row rfl _ w6 g2 41 (⟨m.kind, m.src, m.dst, m.vol, ⟨m.base.boot, m.base.n⟩, ⟨m.mark.boot, m.mark.n⟩, m.index, 0, m.seen, ⟨#[]⟩⟩ : Msg).arr (0, 0) _ rfl hx6 Tryd.underlying41 rfl sizeMsg) rfl ⟨rfl, HB6⟩
set_option maxHeartbeats 4000000 in
theorem msg_bare2 (m : Msg) (w : World) (h2 : m.kind = 2) :
    Calls Tryd.prog 19 #[m.val] w fun e w' => e = .returned m.bare.val ∧ Below w.heap.size w w' := by
  have HE : Hid (m.bare = (⟨m.kind, m.src, m.dst, m.vol, ⟨m.base.boot, m.base.n⟩, ⟨m.mark.boot, m.mark.n⟩, m.index, m.total, m.seen, m.data⟩ : Msg)) := Lib.hid (by simp [Msg.bare, h2])
  have b1 : (m.kind == 1) = false := by simp [h2]
  have b2 : (m.kind == 2) = true := by simp [h2]
  clear h2
  rw [HE.out]
  clear HE
  go_enter Tryd.func19, Tryd.ntmps19
  go_wp2_with (first
    | ((with_reducible refine gate (N := 1) rfl ?_); refine ev_box rfl 41 (.tmp 0) rfl (cs := m.arr) rfl ?_; intro g1 w1 hx1 hb1 hg1 hl1)
    | ((with_reducible refine gate (N := 2) rfl ?_); refine ev_alloc rfl 41 rfl (cs := Msg.zero.arr) zeroMsg ?_; intro g2 w2 hx2 hb2 hg2 hl2; have hx1' := hx1.below hb2; have hc1 := hx1'.cell)
    | ((with_reducible refine gate (N := 3) rfl ?_); refine ev_alloc rfl 41 rfl (cs := Msg.zero.arr) zeroMsg ?_; intro g3 w3 hx3 hb3 hg3 hl3; refine stop ?_))
  unfold Stop
  refine ev_setAll rfl 41 (.tmp 3) (.tmp 14) rfl rfl (vs := m.base0.arr) hx3 rfl (oneMsg _) sizeMsg rfl ?_
  intro w4 hx4 hp4
  have hn1 : g1 ≠ g3 := by omega
  have hn2 : g2 ≠ g3 := by omega
  have hx14 := (hx1'.below hb3).put hp4 hn1
  have hx24 := (hx2.below hb3).put hp4 hn2
  have HB := Put.below (bl_then (bl_then hb1 hb2) hb3) hp4 (by have := hb1.size; have := hb2.size; omega)
  have hge : w.heap.size ≤ g2 := by have := hb1.size; omega
  have hge3 : w.heap.size ≤ g3 := by have := hb1.size; have := hb2.size; omega
  clear hc1 hx1 hx2 hx3 hx1' hb1 hb2 hb3 hp4 hg1 hl1 hg2 hl2 hg3 hl3 hn1
  have hc1 := hx14.cell
  have hc4 := hx4.cell
  have hf4 := hx4.frozen
  go_wp2
  go_region
  go_wp2_with (first | ((with_reducible refine gate (N := 50) rfl ?_); refine stop ?_))
  unfold Stop
  clear hc1 hc4 hf4
  have hs0 := Box.set_ hx4 4 (.int .i64 m.base.boot) (cs' := (⟨m.kind, m.src, m.dst, m.vol, ⟨m.base.boot, 0⟩, ⟨0, 0⟩, 0, 0, m.seen, ⟨#[]⟩⟩ : Msg).arr) rfl
  have hs1 := Box.set_ hs0 5 (.int .i64 m.base.n) (cs' := (⟨m.kind, m.src, m.dst, m.vol, ⟨m.base.boot, m.base.n⟩, ⟨0, 0⟩, 0, 0, m.seen, ⟨#[]⟩⟩ : Msg).arr) rfl
  have hs2 := Box.set_ hs1 6 (.int .i64 m.mark.boot) (cs' := (⟨m.kind, m.src, m.dst, m.vol, ⟨m.base.boot, m.base.n⟩, ⟨m.mark.boot, 0⟩, 0, 0, m.seen, ⟨#[]⟩⟩ : Msg).arr) rfl
  have hs3 := Box.set_ hs2 7 (.int .i64 m.mark.n) (cs' := (⟨m.kind, m.src, m.dst, m.vol, ⟨m.base.boot, m.base.n⟩, ⟨m.mark.boot, m.mark.n⟩, 0, 0, m.seen, ⟨#[]⟩⟩ : Msg).arr) rfl
  have hs4 := Box.set_ hs3 8 (.int .i64 m.index) (cs' := (⟨m.kind, m.src, m.dst, m.vol, ⟨m.base.boot, m.base.n⟩, ⟨m.mark.boot, m.mark.n⟩, m.index, 0, m.seen, ⟨#[]⟩⟩ : Msg).arr) rfl
  have hs5 := Box.set_ hs4 9 (.int .i64 m.total) (cs' := (⟨m.kind, m.src, m.dst, m.vol, ⟨m.base.boot, m.base.n⟩, ⟨m.mark.boot, m.mark.n⟩, m.index, m.total, m.seen, ⟨#[]⟩⟩ : Msg).arr) rfl
  have hs6 := Box.set_ hs5 18 (.string m.data) (cs' := (⟨m.kind, m.src, m.dst, m.vol, ⟨m.base.boot, m.base.n⟩, ⟨m.mark.boot, m.mark.n⟩, m.index, m.total, m.seen, m.data⟩ : Msg).arr) rfl
  have hs24 := (((((((hx24.put (Box.setPut _ g3 4 (.int .i64 m.base.boot)) hn2).put (Box.setPut _ g3 5 (.int .i64 m.base.n)) hn2).put (Box.setPut _ g3 6 (.int .i64 m.mark.boot)) hn2).put (Box.setPut _ g3 7 (.int .i64 m.mark.n)) hn2).put (Box.setPut _ g3 8 (.int .i64 m.index)) hn2).put (Box.setPut _ g3 9 (.int .i64 m.total)) hn2).put (Box.setPut _ g3 18 (.string m.data)) hn2)
  have HB5 : Below w.heap.size w (((((((w4.setCell ⟨g3, 4, none⟩ (.int .i64 m.base.boot)).setCell ⟨g3, 5, none⟩ (.int .i64 m.base.n)).setCell ⟨g3, 6, none⟩ (.int .i64 m.mark.boot)).setCell ⟨g3, 7, none⟩ (.int .i64 m.mark.n)).setCell ⟨g3, 8, none⟩ (.int .i64 m.index)).setCell ⟨g3, 9, none⟩ (.int .i64 m.total)).setCell ⟨g3, 18, none⟩ (.string m.data)).drew := Below.drew (bl_set (bl_set (bl_set (bl_set (bl_set (bl_set (bl_set HB hge3 _) hge3 _) hge3 _) hge3 _) hge3 _) hge3 _) hge3 _)
  obtain ⟨w5, hw5⟩ : ∃ w5, w5 = (((((((w4.setCell ⟨g3, 4, none⟩ (.int .i64 m.base.boot)).setCell ⟨g3, 5, none⟩ (.int .i64 m.base.n)).setCell ⟨g3, 6, none⟩ (.int .i64 m.mark.boot)).setCell ⟨g3, 7, none⟩ (.int .i64 m.mark.n)).setCell ⟨g3, 8, none⟩ (.int .i64 m.index)).setCell ⟨g3, 9, none⟩ (.int .i64 m.total)).setCell ⟨g3, 18, none⟩ (.string m.data)).drew := ⟨_, rfl⟩
  have hx5 : Box w5 g3 (⟨m.kind, m.src, m.dst, m.vol, ⟨m.base.boot, m.base.n⟩, ⟨m.mark.boot, m.mark.n⟩, m.index, m.total, m.seen, m.data⟩ : Msg).arr 41 := by rw [hw5]; exact hs6.drew
  have hx25 : Box w5 g2 Msg.zero.arr 41 := by rw [hw5]; exact hs24.drew
  rw [← hw5] at HB5 ⊢
  clear hw5 hx4 hx24 HB hx14 hs24 hs0 hs1 hs2 hs3 hs4 hs5 hs6
  refine ev_load rfl 41 (.tmp 3) rfl rfl hx5 aggMsg sizeMsg ?_
  refine ev_setAll rfl 41 (.tmp 2) (.tmp 50) rfl rfl (vs := (⟨m.kind, m.src, m.dst, m.vol, ⟨m.base.boot, m.base.n⟩, ⟨m.mark.boot, m.mark.n⟩, m.index, m.total, m.seen, m.data⟩ : Msg).arr) hx25 rfl (oneMsg _) sizeMsg rfl ?_
  intro w6 hx6 hp6
  have HB6 := Put.below HB5 hp6 hge
  clear hx5 hx25 hp6 HB5
  go_wp2
  refine bodyPost_ret (results_cell_row rfl _ w6 g2 41 (⟨m.kind, m.src, m.dst, m.vol, ⟨m.base.boot, m.base.n⟩, ⟨m.mark.boot, m.mark.n⟩, m.index, m.total, m.seen, m.data⟩ : Msg).arr (0, 0) _ rfl hx6 Tryd.underlying41 rfl sizeMsg) rfl ⟨rfl, HB6⟩
theorem msg_bare4 (m : Msg) (w : World) (h4 : m.kind = 4) :
    Calls Tryd.prog 19 #[m.val] w fun e w' => e = .returned m.bare.val ∧ Below w.heap.size w w' := by
  have HE : Hid (m.bare = (⟨m.kind, m.src, m.dst, m.vol, ⟨0, 0⟩, ⟨m.mark.boot, m.mark.n⟩, 0, 0, m.seen, ⟨#[]⟩⟩ : Msg)) := Lib.hid (by simp [Msg.bare, h4])
  have b1 : (m.kind == 1) = false := by simp [h4]
  have b2 : (m.kind == 2) = false := by simp [h4]
  have b4 : (m.kind == 4) = true := by simp [h4]
  clear h4
  rw [HE.out]
  clear HE
  go_enter Tryd.func19, Tryd.ntmps19
  go_wp2_with (first
    | ((with_reducible refine gate (N := 1) rfl ?_); refine ev_box rfl 41 (.tmp 0) rfl (cs := m.arr) rfl ?_; intro g1 w1 hx1 hb1 hg1 hl1)
    | ((with_reducible refine gate (N := 2) rfl ?_); refine ev_alloc rfl 41 rfl (cs := Msg.zero.arr) zeroMsg ?_; intro g2 w2 hx2 hb2 hg2 hl2; have hx1' := hx1.below hb2; have hc1 := hx1'.cell)
    | ((with_reducible refine gate (N := 3) rfl ?_); refine ev_alloc rfl 41 rfl (cs := Msg.zero.arr) zeroMsg ?_; intro g3 w3 hx3 hb3 hg3 hl3; refine stop ?_))
  unfold Stop
  refine ev_setAll rfl 41 (.tmp 3) (.tmp 14) rfl rfl (vs := m.base0.arr) hx3 rfl (oneMsg _) sizeMsg rfl ?_
  intro w4 hx4 hp4
  have hn1 : g1 ≠ g3 := by omega
  have hn2 : g2 ≠ g3 := by omega
  have hx14 := (hx1'.below hb3).put hp4 hn1
  have hx24 := (hx2.below hb3).put hp4 hn2
  have HB := Put.below (bl_then (bl_then hb1 hb2) hb3) hp4 (by have := hb1.size; have := hb2.size; omega)
  have hge : w.heap.size ≤ g2 := by have := hb1.size; omega
  have hge3 : w.heap.size ≤ g3 := by have := hb1.size; have := hb2.size; omega
  clear hc1 hx1 hx2 hx3 hx1' hb1 hb2 hb3 hp4 hg1 hl1 hg2 hl2 hg3 hl3 hn1
  have hc1 := hx14.cell
  have hc4 := hx4.cell
  have hf4 := hx4.frozen
  go_wp2_with (first | ((with_reducible refine gate (N := 50) rfl ?_); refine stop ?_))
  unfold Stop
  clear hc1 hc4 hf4
  have hs0 := Box.set_ hx4 6 (.int .i64 m.mark.boot) (cs' := (⟨m.kind, m.src, m.dst, m.vol, ⟨0, 0⟩, ⟨m.mark.boot, 0⟩, 0, 0, m.seen, ⟨#[]⟩⟩ : Msg).arr) rfl
  have hs1 := Box.set_ hs0 7 (.int .i64 m.mark.n) (cs' := (⟨m.kind, m.src, m.dst, m.vol, ⟨0, 0⟩, ⟨m.mark.boot, m.mark.n⟩, 0, 0, m.seen, ⟨#[]⟩⟩ : Msg).arr) rfl
  have hs24 := ((hx24.put (Box.setPut _ g3 6 (.int .i64 m.mark.boot)) hn2).put (Box.setPut _ g3 7 (.int .i64 m.mark.n)) hn2)
  have HB5 : Below w.heap.size w ((w4.setCell ⟨g3, 6, none⟩ (.int .i64 m.mark.boot)).setCell ⟨g3, 7, none⟩ (.int .i64 m.mark.n)) := (bl_set (bl_set HB hge3 _) hge3 _)
  obtain ⟨w5, hw5⟩ : ∃ w5, w5 = ((w4.setCell ⟨g3, 6, none⟩ (.int .i64 m.mark.boot)).setCell ⟨g3, 7, none⟩ (.int .i64 m.mark.n)) := ⟨_, rfl⟩
  have hx5 : Box w5 g3 (⟨m.kind, m.src, m.dst, m.vol, ⟨0, 0⟩, ⟨m.mark.boot, m.mark.n⟩, 0, 0, m.seen, ⟨#[]⟩⟩ : Msg).arr 41 := by rw [hw5]; exact hs1
  have hx25 : Box w5 g2 Msg.zero.arr 41 := by rw [hw5]; exact hs24
  rw [← hw5] at HB5 ⊢
  clear hw5 hx4 hx24 HB hx14 hs24 hs0 hs1
  refine ev_load rfl 41 (.tmp 3) rfl rfl hx5 aggMsg sizeMsg ?_
  refine ev_setAll rfl 41 (.tmp 2) (.tmp 50) rfl rfl (vs := (⟨m.kind, m.src, m.dst, m.vol, ⟨0, 0⟩, ⟨m.mark.boot, m.mark.n⟩, 0, 0, m.seen, ⟨#[]⟩⟩ : Msg).arr) hx25 rfl (oneMsg _) sizeMsg rfl ?_
  intro w6 hx6 hp6
  have HB6 := Put.below HB5 hp6 hge
  clear hx5 hx25 hp6 HB5
  go_wp2
  refine bodyPost_ret (results_cell_row rfl _ w6 g2 41 (⟨m.kind, m.src, m.dst, m.vol, ⟨0, 0⟩, ⟨m.mark.boot, m.mark.n⟩, 0, 0, m.seen, ⟨#[]⟩⟩ : Msg).arr (0, 0) _ rfl hx6 Tryd.underlying41 rfl sizeMsg) rfl ⟨rfl, HB6⟩
theorem msg_bare3 (m : Msg) (w : World) (h1 : ¬ m.kind = 1) (h2 : ¬ m.kind = 2) (h4 : ¬ m.kind = 4) :
    Calls Tryd.prog 19 #[m.val] w fun e w' => e = .returned m.bare.val ∧ Below w.heap.size w w' := by
  have HE : Hid (m.bare = (⟨m.kind, m.src, m.dst, m.vol, ⟨0, 0⟩, ⟨0, 0⟩, 0, 0, m.seen, ⟨#[]⟩⟩ : Msg)) := Lib.hid (by simp [Msg.bare, h1, h2, h4])
  have b1 : (m.kind == 1) = false := by simp [h1]
  have b2 : (m.kind == 2) = false := by simp [h2]
  have b4 : (m.kind == 4) = false := by simp [h4]
  clear h1 h2 h4
  rw [HE.out]
  clear HE
  go_enter Tryd.func19, Tryd.ntmps19
  go_wp2_with (first
    | ((with_reducible refine gate (N := 1) rfl ?_); refine ev_box rfl 41 (.tmp 0) rfl (cs := m.arr) rfl ?_; intro g1 w1 hx1 hb1 hg1 hl1)
    | ((with_reducible refine gate (N := 2) rfl ?_); refine ev_alloc rfl 41 rfl (cs := Msg.zero.arr) zeroMsg ?_; intro g2 w2 hx2 hb2 hg2 hl2; have hx1' := hx1.below hb2; have hc1 := hx1'.cell)
    | ((with_reducible refine gate (N := 3) rfl ?_); refine ev_alloc rfl 41 rfl (cs := Msg.zero.arr) zeroMsg ?_; intro g3 w3 hx3 hb3 hg3 hl3; refine stop ?_))
  unfold Stop
  refine ev_setAll rfl 41 (.tmp 3) (.tmp 14) rfl rfl (vs := m.base0.arr) hx3 rfl (oneMsg _) sizeMsg rfl ?_
  intro w4 hx4 hp4
  have hn1 : g1 ≠ g3 := by omega
  have hn2 : g2 ≠ g3 := by omega
  have hx14 := (hx1'.below hb3).put hp4 hn1
  have hx24 := (hx2.below hb3).put hp4 hn2
  have HB := Put.below (bl_then (bl_then hb1 hb2) hb3) hp4 (by have := hb1.size; have := hb2.size; omega)
  have hge : w.heap.size ≤ g2 := by have := hb1.size; omega
  have hge3 : w.heap.size ≤ g3 := by have := hb1.size; have := hb2.size; omega
  clear hc1 hx1 hx2 hx3 hx1' hb1 hb2 hb3 hp4 hg1 hl1 hg2 hl2 hg3 hl3 hn1
  have hc1 := hx14.cell
  have hc4 := hx4.cell
  have hf4 := hx4.frozen
  go_wp2_with (first | ((with_reducible refine gate (N := 50) rfl ?_); refine stop ?_))
  unfold Stop
  clear hc1 hc4 hf4
  have hs24 := hx24
  have HB5 : Below w.heap.size w w4 := HB
  obtain ⟨w5, hw5⟩ : ∃ w5, w5 = w4 := ⟨_, rfl⟩
  have hx5 : Box w5 g3 (⟨m.kind, m.src, m.dst, m.vol, ⟨0, 0⟩, ⟨0, 0⟩, 0, 0, m.seen, ⟨#[]⟩⟩ : Msg).arr 41 := by rw [hw5]; exact hx4
  have hx25 : Box w5 g2 Msg.zero.arr 41 := by rw [hw5]; exact hs24
  rw [← hw5] at HB5 ⊢
  clear hw5 hx4 hx24 HB hx14 hs24
  refine ev_load rfl 41 (.tmp 3) rfl rfl hx5 aggMsg sizeMsg ?_
  refine ev_setAll rfl 41 (.tmp 2) (.tmp 50) rfl rfl (vs := (⟨m.kind, m.src, m.dst, m.vol, ⟨0, 0⟩, ⟨0, 0⟩, 0, 0, m.seen, ⟨#[]⟩⟩ : Msg).arr) hx25 rfl (oneMsg _) sizeMsg rfl ?_
  intro w6 hx6 hp6
  have HB6 := Put.below HB5 hp6 hge
  clear hx5 hx25 hp6 HB5
  go_wp2
  refine bodyPost_ret (results_cell_row rfl _ w6 g2 41 (⟨m.kind, m.src, m.dst, m.vol, ⟨0, 0⟩, ⟨0, 0⟩, 0, 0, m.seen, ⟨#[]⟩⟩ : Msg).arr (0, 0) _ rfl hx6 Tryd.underlying41 rfl sizeMsg) rfl ⟨rfl, HB6⟩

theorem msg_bare (m : Msg) (w : World) :
    Calls Tryd.prog 19 #[m.val] w fun e w' => e = .returned m.bare.val ∧ Below w.heap.size w w' := by
  by_cases h1 : m.kind = 1
  · exact msg_bare1 m w h1
  · by_cases h2 : m.kind = 2
    · exact msg_bare2 m w h2
    · by_cases h4 : m.kind = 4
      · exact msg_bare4 m w h4
      · exact msg_bare3 m w h1 h2 h4
end Go.Proofs.YtbkffeabikjnhaaDoor

/- Messages: Check. -/
namespace Go.Proofs.YtbkffeabikjnhaaDoor
open Go.RowKit

def Mk.ok (m : Mk) : Bool := if m.boot = 0 then decide (m.n = 0) else decide (1 ≤ m.boot ∧ m.boot ≤ 1099511627776 ∧ 1 ≤ m.n ∧ m.n ≤ 1099511627776)
theorem mark_ok (m : Mk) (w : World) :
    Calls Tryd.prog 50 #[m.val] w fun e w' => e = .returned (.bool m.ok) ∧ Below w.heap.size w w' := by
  by_cases h0 : m.boot = 0
  · have h0' : (m.boot == 0) = true := by simp [h0]
    have H := Lib.hid h0
    clear h0
    go_enter Tryd.func50, Tryd.ntmps50
    go_wp2
    go_ret
    exact ⟨congrArg (fun b => Ending.returned (Value.bool b)) (by unfold Mk.ok; rw [if_pos H.out]; rfl), bl_alloc (Below.refl _ _) _⟩
  · have h0' : (m.boot == 0) = false := by simp [h0]
    go_enter Tryd.func50, Tryd.ntmps50
    go_wp2
    all_goals go_ret
    all_goals refine ⟨congrArg (fun b => Ending.returned (Value.bool b)) ?_, bl_alloc (Below.refl _ _) _⟩
    all_goals (unfold Mk.ok; rw [if_neg h0])
    all_goals first | (symm; apply decide_eq_false; omega) | (rw [decide_eq_decide]; omega)

def Msg.head (m : Msg) : Bool := decide (1 ≤ m.kind ∧ m.kind ≤ 4 ∧ 0 ≤ m.src ∧ m.src < 8 ∧ 0 ≤ m.dst ∧ m.dst < 8 ∧ m.src ≠ m.dst ∧ 0 ≤ m.vol ∧ m.vol < 3)
set_option maxHeartbeats 1000000 in
set_option maxRecDepth 100000 in
theorem check_headless (m : Msg) (w : World) (h : m.head = false) :
    Calls Tryd.prog 17 #[m.val] w fun e w' => e = .returned (.int .i64 201) ∧ Below w.heap.size w w' := by
  have hh : ¬ (1 ≤ m.kind ∧ m.kind ≤ 4 ∧ 0 ≤ m.src ∧ m.src < 8 ∧ 0 ≤ m.dst ∧ m.dst < 8 ∧ m.src ≠ m.dst ∧ 0 ≤ m.vol ∧ m.vol < 3) := by simpa [Msg.head] using h
  have HH := Lib.hid hh
  clear hh h
  by_cases hsd : m.src = m.dst
  · have hb : (m.src != m.dst) = false := by simp [hsd]
    have HS := Lib.hid hsd
    clear hsd HH HS
    go_enter Tryd.func17, Tryd.ntmps17
    go_wp2_with (first
      | ((with_reducible refine gate (N := 1) rfl ?_); refine ev_box rfl 41 (.tmp 0) rfl (cs := m.arr) rfl ?_; intro g1 w1 hx1 hb1 hg1 hl1; have hc1 := hx1.cell))
    all_goals clear hx1
    all_goals go_quiet (fail)
    all_goals go_wp2
    all_goals go_ret
    all_goals exact ⟨rfl, bl_drewN hb1 _⟩
  · have hb : (m.src != m.dst) = true := by simp [hsd]
    by_cases hv : m.vol < 3
    · have hv' : decide (m.vol < 3) = true := by simpa using hv
      go_enter Tryd.func17, Tryd.ntmps17
      go_wp2_with (first
        | ((with_reducible refine gate (N := 1) rfl ?_); refine ev_box rfl 41 (.tmp 0) rfl (cs := m.arr) rfl ?_; intro g1 w1 hx1 hb1 hg1 hl1; have hc1 := hx1.cell))
      all_goals clear hx1
      all_goals first
        | (exfalso; have hq := HH.out; omega)
        | (clear HH; go_quiet (fail); go_wp2; go_ret; exact ⟨rfl, bl_drewN hb1 _⟩)
    · have hv' : decide (m.vol < 3) = false := by simpa using hv
      go_enter Tryd.func17, Tryd.ntmps17
      go_wp2_with (first
        | ((with_reducible refine gate (N := 1) rfl ?_); refine ev_box rfl 41 (.tmp 0) rfl (cs := m.arr) rfl ?_; intro g1 w1 hx1 hb1 hg1 hl1; have hc1 := hx1.cell))
      all_goals clear hx1
      all_goals first
        | (exfalso; have hq := HH.out; omega)
        | (clear HH; go_quiet (fail); go_wp2; go_ret; exact ⟨rfl, bl_drewN hb1 _⟩)

end Go.Proofs.YtbkffeabikjnhaaDoor

/- Messages: Check, behind its head. -/
namespace Go.Proofs.YtbkffeabikjnhaaDoor
open Go.RowKit

def Msg.kindOk (m : Msg) : Bool :=
  if m.kind = 1 then decide (0 ≤ m.index ∧ m.index < 4096 ∧ (m.mark = ⟨0, 0⟩ → m.index = 0))
  else if m.kind = 2 then decide (m.mark ≠ ⟨0, 0⟩ ∧ 1 ≤ m.total ∧ m.total ≤ 4096 ∧ 0 ≤ m.index ∧ m.index < m.total ∧ 1 ≤ m.data.size ∧ m.data.size ≤ 512)
  else if m.kind = 4 then decide (m.mark ≠ ⟨0, 0⟩)
  else true
def Msg.kcode (m : Msg) : Int := if m.kindOk = true then 0 else 201
theorem ba_empty (s : ByteArray) : s.toList = [] ↔ s.size = 0 := by
  rw [ByteArray.toList_eq]
  obtain ⟨⟨l⟩⟩ := s
  simp [ByteArray.size]
def Msg.mid (m : Msg) : Bool := m.seen.good && (m.base.ok && (m.mark.ok && decide (m = m.bare)))
def Msg.ok (m : Msg) : Bool := m.head && (m.mid && m.kindOk)
set_option maxHeartbeats 1000000 in
set_option maxRecDepth 100000 in
theorem check_mid1 (m : Msg) (w : World) (h : m.head = true) (h1 : (m.seen.good) = false) :
    Calls Tryd.prog 17 #[m.val] w fun e w' => e = .returned (.int .i64 201) ∧ Below w.heap.size w w' := by
  have hh : 1 ≤ m.kind ∧ m.kind ≤ 4 ∧ 0 ≤ m.src ∧ m.src < 8 ∧ 0 ≤ m.dst ∧ m.dst < 8 ∧ m.src ≠ m.dst ∧ 0 ≤ m.vol ∧ m.vol < 3 := by simpa [Msg.head] using h
  obtain ⟨a1, a2, a3, a4, a5, a6, a7, a8, a9⟩ := hh
  have hb : (m.src != m.dst) = true := by simp [a7]
  clear h
  go_enter Tryd.func17, Tryd.ntmps17
  go_wp2_with (first
    | ((with_reducible refine gate (N := 1) rfl ?_); refine ev_box rfl 41 (.tmp 0) rfl (cs := m.arr) rfl ?_; intro g1 w1 hx1 hb1 hg1 hl1; obtain ⟨c0, c1, c2, c3, c4, c5, c6, c7, c8, c9, c10, c11, c12, c13, c14, c15, c16, c17, c18⟩ := msgCells hx1))
  clear hb a1 a2 a3 a4 a5 a6 a7 a8 a9
  refine wp_region_ext (by kernel_rfl) (by kernel_rfl) ?_
  repeat (first | (go_big_quiet_want; refine quiet_load 41 (.tmp 1) rfl rfl hx1 aggMsg sizeMsg ?_; go_big_quiet_on; simp only [Act.put, List.setIfInBounds_toArray, List.set_cons_succ, List.set_cons_zero]) | go_big_quiet_step (first
    | (go_at_call 49; with_reducible exact calls_ext (vec_good m.seen _))
    | (go_at_call 50; with_reducible exact calls_ext (mark_ok m.base _))
    | (go_at_call 50; with_reducible exact calls_ext (mark_ok m.mark _))
    | (go_at_call 19; with_reducible exact calls_ext (msg_bare m _))
    | (go_at_call 51; with_reducible exact calls_ext (msg_same m m.bare _))))
  refine wpQuiet_nil ?_
  rintro _ ⟨⟨w2, hb2⟩, rfl⟩
  go_wp2
  go_ret
  exact ⟨rfl, bl_then hb1 hb2⟩
set_option maxHeartbeats 1000000 in
set_option maxRecDepth 100000 in
theorem check_mid2 (m : Msg) (w : World) (h : m.head = true) (h1 : (m.seen.good) = true) (h2 : (m.base.ok) = false) :
    Calls Tryd.prog 17 #[m.val] w fun e w' => e = .returned (.int .i64 201) ∧ Below w.heap.size w w' := by
  have hh : 1 ≤ m.kind ∧ m.kind ≤ 4 ∧ 0 ≤ m.src ∧ m.src < 8 ∧ 0 ≤ m.dst ∧ m.dst < 8 ∧ m.src ≠ m.dst ∧ 0 ≤ m.vol ∧ m.vol < 3 := by simpa [Msg.head] using h
  obtain ⟨a1, a2, a3, a4, a5, a6, a7, a8, a9⟩ := hh
  have hb : (m.src != m.dst) = true := by simp [a7]
  clear h
  go_enter Tryd.func17, Tryd.ntmps17
  go_wp2_with (first
    | ((with_reducible refine gate (N := 1) rfl ?_); refine ev_box rfl 41 (.tmp 0) rfl (cs := m.arr) rfl ?_; intro g1 w1 hx1 hb1 hg1 hl1; obtain ⟨c0, c1, c2, c3, c4, c5, c6, c7, c8, c9, c10, c11, c12, c13, c14, c15, c16, c17, c18⟩ := msgCells hx1))
  clear hb a1 a2 a3 a4 a5 a6 a7 a8 a9
  refine wp_region_ext (by kernel_rfl) (by kernel_rfl) ?_
  repeat (first | (go_big_quiet_want; refine quiet_load 41 (.tmp 1) rfl rfl hx1 aggMsg sizeMsg ?_; go_big_quiet_on; simp only [Act.put, List.setIfInBounds_toArray, List.set_cons_succ, List.set_cons_zero]) | go_big_quiet_step (first
    | (go_at_call 49; with_reducible exact calls_ext (vec_good m.seen _))
    | (go_at_call 50; with_reducible exact calls_ext (mark_ok m.base _))
    | (go_at_call 50; with_reducible exact calls_ext (mark_ok m.mark _))
    | (go_at_call 19; with_reducible exact calls_ext (msg_bare m _))
    | (go_at_call 51; with_reducible exact calls_ext (msg_same m m.bare _))))
  refine wpQuiet_nil ?_
  rintro _ ⟨⟨w2, hb2⟩, rfl⟩
  go_wp2
  go_ret
  exact ⟨rfl, bl_then hb1 hb2⟩
set_option maxHeartbeats 1000000 in
set_option maxRecDepth 100000 in
theorem check_mid3 (m : Msg) (w : World) (h : m.head = true) (h1 : (m.seen.good) = true) (h2 : (m.base.ok) = true) (h3 : (m.mark.ok) = false) :
    Calls Tryd.prog 17 #[m.val] w fun e w' => e = .returned (.int .i64 201) ∧ Below w.heap.size w w' := by
  have hh : 1 ≤ m.kind ∧ m.kind ≤ 4 ∧ 0 ≤ m.src ∧ m.src < 8 ∧ 0 ≤ m.dst ∧ m.dst < 8 ∧ m.src ≠ m.dst ∧ 0 ≤ m.vol ∧ m.vol < 3 := by simpa [Msg.head] using h
  obtain ⟨a1, a2, a3, a4, a5, a6, a7, a8, a9⟩ := hh
  have hb : (m.src != m.dst) = true := by simp [a7]
  clear h
  go_enter Tryd.func17, Tryd.ntmps17
  go_wp2_with (first
    | ((with_reducible refine gate (N := 1) rfl ?_); refine ev_box rfl 41 (.tmp 0) rfl (cs := m.arr) rfl ?_; intro g1 w1 hx1 hb1 hg1 hl1; obtain ⟨c0, c1, c2, c3, c4, c5, c6, c7, c8, c9, c10, c11, c12, c13, c14, c15, c16, c17, c18⟩ := msgCells hx1))
  clear hb a1 a2 a3 a4 a5 a6 a7 a8 a9
  refine wp_region_ext (by kernel_rfl) (by kernel_rfl) ?_
  repeat (first | (go_big_quiet_want; refine quiet_load 41 (.tmp 1) rfl rfl hx1 aggMsg sizeMsg ?_; go_big_quiet_on; simp only [Act.put, List.setIfInBounds_toArray, List.set_cons_succ, List.set_cons_zero]) | go_big_quiet_step (first
    | (go_at_call 49; with_reducible exact calls_ext (vec_good m.seen _))
    | (go_at_call 50; with_reducible exact calls_ext (mark_ok m.base _))
    | (go_at_call 50; with_reducible exact calls_ext (mark_ok m.mark _))
    | (go_at_call 19; with_reducible exact calls_ext (msg_bare m _))
    | (go_at_call 51; with_reducible exact calls_ext (msg_same m m.bare _))))
  refine wpQuiet_nil ?_
  rintro _ ⟨⟨w2, hb2⟩, rfl⟩
  go_wp2
  go_ret
  exact ⟨rfl, bl_then hb1 hb2⟩
set_option maxHeartbeats 1000000 in
set_option maxRecDepth 100000 in
theorem check_mid4 (m : Msg) (w : World) (h : m.head = true) (h1 : (m.seen.good) = true) (h2 : (m.base.ok) = true) (h3 : (m.mark.ok) = true) (h4 : (decide (m = m.bare)) = false) :
    Calls Tryd.prog 17 #[m.val] w fun e w' => e = .returned (.int .i64 201) ∧ Below w.heap.size w w' := by
  have hh : 1 ≤ m.kind ∧ m.kind ≤ 4 ∧ 0 ≤ m.src ∧ m.src < 8 ∧ 0 ≤ m.dst ∧ m.dst < 8 ∧ m.src ≠ m.dst ∧ 0 ≤ m.vol ∧ m.vol < 3 := by simpa [Msg.head] using h
  obtain ⟨a1, a2, a3, a4, a5, a6, a7, a8, a9⟩ := hh
  have hb : (m.src != m.dst) = true := by simp [a7]
  clear h
  go_enter Tryd.func17, Tryd.ntmps17
  go_wp2_with (first
    | ((with_reducible refine gate (N := 1) rfl ?_); refine ev_box rfl 41 (.tmp 0) rfl (cs := m.arr) rfl ?_; intro g1 w1 hx1 hb1 hg1 hl1; obtain ⟨c0, c1, c2, c3, c4, c5, c6, c7, c8, c9, c10, c11, c12, c13, c14, c15, c16, c17, c18⟩ := msgCells hx1))
  clear hb a1 a2 a3 a4 a5 a6 a7 a8 a9
  refine wp_region_ext (by kernel_rfl) (by kernel_rfl) ?_
  repeat (first | (go_big_quiet_want; refine quiet_load 41 (.tmp 1) rfl rfl hx1 aggMsg sizeMsg ?_; go_big_quiet_on; simp only [Act.put, List.setIfInBounds_toArray, List.set_cons_succ, List.set_cons_zero]) | go_big_quiet_step (first
    | (go_at_call 49; with_reducible exact calls_ext (vec_good m.seen _))
    | (go_at_call 50; with_reducible exact calls_ext (mark_ok m.base _))
    | (go_at_call 50; with_reducible exact calls_ext (mark_ok m.mark _))
    | (go_at_call 19; with_reducible exact calls_ext (msg_bare m _))
    | (go_at_call 51; with_reducible exact calls_ext (msg_same m m.bare _))))
  refine wpQuiet_nil ?_
  rintro _ ⟨⟨w2, hb2⟩, rfl⟩
  go_wp2
  go_ret
  exact ⟨rfl, bl_then hb1 hb2⟩
set_option maxHeartbeats 1000000 in
set_option maxRecDepth 100000 in
theorem check_kind1 (m : Msg) (w : World) (h : m.head = true) (h1 : (m.seen.good) = true) (h2 : (m.base.ok) = true) (h3 : (m.mark.ok) = true) (h4 : (decide (m = m.bare)) = true) (hk : m.kind = 1) (z : Bool) (hz : decide (m.mark = ⟨0, 0⟩) = z) :
    Calls Tryd.prog 17 #[m.val] w fun e w' => e = .returned (.int .i64 m.kcode) ∧ Below w.heap.size w w' := by
  have b1 : (m.kind == 1) = true := by simp [hk]
  have HK := Lib.hid hk
  have HZ := Lib.hid hz
  have HD := Lib.hid (ba_empty m.data)
  have hme := mark_eq m.mark ⟨0, 0⟩
  rw [hz] at hme
  simp only [Mk.val] at hme
  clear hk hz
  have hh : 1 ≤ m.kind ∧ m.kind ≤ 4 ∧ 0 ≤ m.src ∧ m.src < 8 ∧ 0 ≤ m.dst ∧ m.dst < 8 ∧ m.src ≠ m.dst ∧ 0 ≤ m.vol ∧ m.vol < 3 := by simpa [Msg.head] using h
  obtain ⟨a1, a2, a3, a4, a5, a6, a7, a8, a9⟩ := hh
  have hb : (m.src != m.dst) = true := by simp [a7]
  clear h
  go_enter Tryd.func17, Tryd.ntmps17
  go_wp2_with (first
    | ((with_reducible refine gate (N := 1) rfl ?_); refine ev_box rfl 41 (.tmp 0) rfl (cs := m.arr) rfl ?_; intro g1 w1 hx1 hb1 hg1 hl1; obtain ⟨c0, c1, c2, c3, c4, c5, c6, c7, c8, c9, c10, c11, c12, c13, c14, c15, c16, c17, c18⟩ := msgCells hx1))
  clear hb a1 a2 a3 a4 a5 a6 a7 a8 a9
  refine wp_region_ext (by kernel_rfl) (by kernel_rfl) ?_
  repeat (first | (go_big_quiet_want; refine quiet_load 41 (.tmp 1) rfl rfl hx1 aggMsg sizeMsg ?_; go_big_quiet_on; simp only [Act.put, List.setIfInBounds_toArray, List.set_cons_succ, List.set_cons_zero]) | go_big_quiet_step (first
    | (go_at_call 49; with_reducible exact calls_ext (vec_good m.seen _))
    | (go_at_call 50; with_reducible exact calls_ext (mark_ok m.base _))
    | (go_at_call 50; with_reducible exact calls_ext (mark_ok m.mark _))
    | (go_at_call 19; with_reducible exact calls_ext (msg_bare m _))
    | (go_at_call 51; with_reducible exact calls_ext (msg_same m m.bare _))))
  refine wpQuiet_nil ?_
  rintro _ ⟨⟨w2, hb2⟩, rfl⟩
  have d0 := (hx1.below hb2)
  clear c0 c1 c2 c3 c4 c5 c6 c7 c8 c9 c10 c11 c12 c13 c14 c15 c16 c17 c18
  obtain ⟨c0, c1, c2, c3, c4, c5, c6, c7, c8, c9, c10, c11, c12, c13, c14, c15, c16, c17, c18⟩ := msgCells d0
  clear hx1 h1 h2 h3 h4
  cases z
  all_goals go_wp2
  all_goals go_ret
  all_goals refine ⟨congrArg (fun n => Ending.returned (Value.int .i64 n)) ?_, bl_then hb1 hb2⟩
  all_goals clear c0 c1 c2 c3 c4 c5 c6 c7 c8 c9 c10 c11 c12 c13 c14 c15 c16 c17 c18 d0 hb1 hb2 hg1 hl1
  all_goals
    have e0 := HK.out
    have e1 := HZ.out
    have e2 := HD.out
    simp only [decide_eq_true_eq, decide_eq_false_iff_not] at e1
    unfold Msg.kcode Msg.kindOk
    simp [e0, e1]
  all_goals (try simp only [bne_iff_ne, ne_eq, bne_eq_false_iff_eq] at *)
  all_goals (try simp only [e2] at *)
  all_goals (try omega)
set_option maxHeartbeats 1000000 in
set_option maxRecDepth 100000 in
theorem check_kind2 (m : Msg) (w : World) (h : m.head = true) (h1 : (m.seen.good) = true) (h2 : (m.base.ok) = true) (h3 : (m.mark.ok) = true) (h4 : (decide (m = m.bare)) = true) (hk : m.kind = 2) (z : Bool) (hz : decide (m.mark = ⟨0, 0⟩) = z) :
    Calls Tryd.prog 17 #[m.val] w fun e w' => e = .returned (.int .i64 m.kcode) ∧ Below w.heap.size w w' := by
  have b1 : (m.kind == 1) = false := by simp [hk]
  have b2 : (m.kind == 2) = true := by simp [hk]
  have HK := Lib.hid hk
  have HZ := Lib.hid hz
  have HD := Lib.hid (ba_empty m.data)
  have hme := mark_eq m.mark ⟨0, 0⟩
  rw [hz] at hme
  simp only [Mk.val] at hme
  clear hk hz
  have hh : 1 ≤ m.kind ∧ m.kind ≤ 4 ∧ 0 ≤ m.src ∧ m.src < 8 ∧ 0 ≤ m.dst ∧ m.dst < 8 ∧ m.src ≠ m.dst ∧ 0 ≤ m.vol ∧ m.vol < 3 := by simpa [Msg.head] using h
  obtain ⟨a1, a2, a3, a4, a5, a6, a7, a8, a9⟩ := hh
  have hb : (m.src != m.dst) = true := by simp [a7]
  clear h
  go_enter Tryd.func17, Tryd.ntmps17
  go_wp2_with (first
    | ((with_reducible refine gate (N := 1) rfl ?_); refine ev_box rfl 41 (.tmp 0) rfl (cs := m.arr) rfl ?_; intro g1 w1 hx1 hb1 hg1 hl1; obtain ⟨c0, c1, c2, c3, c4, c5, c6, c7, c8, c9, c10, c11, c12, c13, c14, c15, c16, c17, c18⟩ := msgCells hx1))
  clear hb a1 a2 a3 a4 a5 a6 a7 a8 a9
  refine wp_region_ext (by kernel_rfl) (by kernel_rfl) ?_
  repeat (first | (go_big_quiet_want; refine quiet_load 41 (.tmp 1) rfl rfl hx1 aggMsg sizeMsg ?_; go_big_quiet_on; simp only [Act.put, List.setIfInBounds_toArray, List.set_cons_succ, List.set_cons_zero]) | go_big_quiet_step (first
    | (go_at_call 49; with_reducible exact calls_ext (vec_good m.seen _))
    | (go_at_call 50; with_reducible exact calls_ext (mark_ok m.base _))
    | (go_at_call 50; with_reducible exact calls_ext (mark_ok m.mark _))
    | (go_at_call 19; with_reducible exact calls_ext (msg_bare m _))
    | (go_at_call 51; with_reducible exact calls_ext (msg_same m m.bare _))))
  refine wpQuiet_nil ?_
  rintro _ ⟨⟨w2, hb2⟩, rfl⟩
  have d0 := (hx1.below hb2)
  clear c0 c1 c2 c3 c4 c5 c6 c7 c8 c9 c10 c11 c12 c13 c14 c15 c16 c17 c18
  obtain ⟨c0, c1, c2, c3, c4, c5, c6, c7, c8, c9, c10, c11, c12, c13, c14, c15, c16, c17, c18⟩ := msgCells d0
  clear hx1 h1 h2 h3 h4
  cases z
  all_goals go_wp2
  all_goals go_ret
  all_goals refine ⟨congrArg (fun n => Ending.returned (Value.int .i64 n)) ?_, bl_then hb1 hb2⟩
  all_goals clear c0 c1 c2 c3 c4 c5 c6 c7 c8 c9 c10 c11 c12 c13 c14 c15 c16 c17 c18 d0 hb1 hb2 hg1 hl1
  all_goals
    have e0 := HK.out
    have e1 := HZ.out
    have e2 := HD.out
    simp only [decide_eq_true_eq, decide_eq_false_iff_not] at e1
    unfold Msg.kcode Msg.kindOk
    simp [e0, e1]
  all_goals (try simp only [ne_eq, List.isEmpty_iff, List.isEmpty_eq_false_iff] at *)
  all_goals (try simp only [e2] at *)
  all_goals (try omega)
set_option maxHeartbeats 1000000 in
set_option maxRecDepth 100000 in
theorem check_kind4 (m : Msg) (w : World) (h : m.head = true) (h1 : (m.seen.good) = true) (h2 : (m.base.ok) = true) (h3 : (m.mark.ok) = true) (h4 : (decide (m = m.bare)) = true) (hk : m.kind = 4) (z : Bool) (hz : decide (m.mark = ⟨0, 0⟩) = z) :
    Calls Tryd.prog 17 #[m.val] w fun e w' => e = .returned (.int .i64 m.kcode) ∧ Below w.heap.size w w' := by
  have b1 : (m.kind == 1) = false := by simp [hk]
  have b2 : (m.kind == 2) = false := by simp [hk]
  have b4 : (m.kind == 4) = true := by simp [hk]
  have HK := Lib.hid hk
  have HZ := Lib.hid hz
  have HD := Lib.hid (ba_empty m.data)
  have hme := mark_eq m.mark ⟨0, 0⟩
  rw [hz] at hme
  simp only [Mk.val] at hme
  clear hk hz
  have hh : 1 ≤ m.kind ∧ m.kind ≤ 4 ∧ 0 ≤ m.src ∧ m.src < 8 ∧ 0 ≤ m.dst ∧ m.dst < 8 ∧ m.src ≠ m.dst ∧ 0 ≤ m.vol ∧ m.vol < 3 := by simpa [Msg.head] using h
  obtain ⟨a1, a2, a3, a4, a5, a6, a7, a8, a9⟩ := hh
  have hb : (m.src != m.dst) = true := by simp [a7]
  clear h
  go_enter Tryd.func17, Tryd.ntmps17
  go_wp2_with (first
    | ((with_reducible refine gate (N := 1) rfl ?_); refine ev_box rfl 41 (.tmp 0) rfl (cs := m.arr) rfl ?_; intro g1 w1 hx1 hb1 hg1 hl1; obtain ⟨c0, c1, c2, c3, c4, c5, c6, c7, c8, c9, c10, c11, c12, c13, c14, c15, c16, c17, c18⟩ := msgCells hx1))
  clear hb a1 a2 a3 a4 a5 a6 a7 a8 a9
  refine wp_region_ext (by kernel_rfl) (by kernel_rfl) ?_
  repeat (first | (go_big_quiet_want; refine quiet_load 41 (.tmp 1) rfl rfl hx1 aggMsg sizeMsg ?_; go_big_quiet_on; simp only [Act.put, List.setIfInBounds_toArray, List.set_cons_succ, List.set_cons_zero]) | go_big_quiet_step (first
    | (go_at_call 49; with_reducible exact calls_ext (vec_good m.seen _))
    | (go_at_call 50; with_reducible exact calls_ext (mark_ok m.base _))
    | (go_at_call 50; with_reducible exact calls_ext (mark_ok m.mark _))
    | (go_at_call 19; with_reducible exact calls_ext (msg_bare m _))
    | (go_at_call 51; with_reducible exact calls_ext (msg_same m m.bare _))))
  refine wpQuiet_nil ?_
  rintro _ ⟨⟨w2, hb2⟩, rfl⟩
  have d0 := (hx1.below hb2)
  clear c0 c1 c2 c3 c4 c5 c6 c7 c8 c9 c10 c11 c12 c13 c14 c15 c16 c17 c18
  obtain ⟨c0, c1, c2, c3, c4, c5, c6, c7, c8, c9, c10, c11, c12, c13, c14, c15, c16, c17, c18⟩ := msgCells d0
  clear hx1 h1 h2 h3 h4
  cases z
  all_goals go_wp2
  all_goals go_ret
  all_goals refine ⟨congrArg (fun n => Ending.returned (Value.int .i64 n)) ?_, bl_then hb1 hb2⟩
  all_goals clear c0 c1 c2 c3 c4 c5 c6 c7 c8 c9 c10 c11 c12 c13 c14 c15 c16 c17 c18 d0 hb1 hb2 hg1 hl1
  all_goals
    have e0 := HK.out
    have e1 := HZ.out
    have e2 := HD.out
    simp only [decide_eq_true_eq, decide_eq_false_iff_not] at e1
    unfold Msg.kcode Msg.kindOk
    simp [e0, e1]
  all_goals (try simp only [bne_iff_ne, ne_eq, bne_eq_false_iff_eq, List.isEmpty_iff, List.isEmpty_eq_false_iff] at *)
  all_goals (try simp only [e2] at *)
  all_goals (try omega)
set_option maxHeartbeats 1000000 in
set_option maxRecDepth 100000 in
theorem check_kind3 (m : Msg) (w : World) (h : m.head = true) (h1 : (m.seen.good) = true) (h2 : (m.base.ok) = true) (h3 : (m.mark.ok) = true) (h4 : (decide (m = m.bare)) = true) (hk : m.kind = 3) (z : Bool) (hz : decide (m.mark = ⟨0, 0⟩) = z) :
    Calls Tryd.prog 17 #[m.val] w fun e w' => e = .returned (.int .i64 m.kcode) ∧ Below w.heap.size w w' := by
  have b1 : (m.kind == 1) = false := by simp [hk]
  have b2 : (m.kind == 2) = false := by simp [hk]
  have b4 : (m.kind == 4) = false := by simp [hk]
  have HK := Lib.hid hk
  have HZ := Lib.hid hz
  have HD := Lib.hid (ba_empty m.data)
  have hme := mark_eq m.mark ⟨0, 0⟩
  rw [hz] at hme
  simp only [Mk.val] at hme
  clear hk hz
  have hh : 1 ≤ m.kind ∧ m.kind ≤ 4 ∧ 0 ≤ m.src ∧ m.src < 8 ∧ 0 ≤ m.dst ∧ m.dst < 8 ∧ m.src ≠ m.dst ∧ 0 ≤ m.vol ∧ m.vol < 3 := by simpa [Msg.head] using h
  obtain ⟨a1, a2, a3, a4, a5, a6, a7, a8, a9⟩ := hh
  have hb : (m.src != m.dst) = true := by simp [a7]
  clear h
  go_enter Tryd.func17, Tryd.ntmps17
  go_wp2_with (first
    | ((with_reducible refine gate (N := 1) rfl ?_); refine ev_box rfl 41 (.tmp 0) rfl (cs := m.arr) rfl ?_; intro g1 w1 hx1 hb1 hg1 hl1; obtain ⟨c0, c1, c2, c3, c4, c5, c6, c7, c8, c9, c10, c11, c12, c13, c14, c15, c16, c17, c18⟩ := msgCells hx1))
  clear hb a1 a2 a3 a4 a5 a6 a7 a8 a9
  refine wp_region_ext (by kernel_rfl) (by kernel_rfl) ?_
  repeat (first | (go_big_quiet_want; refine quiet_load 41 (.tmp 1) rfl rfl hx1 aggMsg sizeMsg ?_; go_big_quiet_on; simp only [Act.put, List.setIfInBounds_toArray, List.set_cons_succ, List.set_cons_zero]) | go_big_quiet_step (first
    | (go_at_call 49; with_reducible exact calls_ext (vec_good m.seen _))
    | (go_at_call 50; with_reducible exact calls_ext (mark_ok m.base _))
    | (go_at_call 50; with_reducible exact calls_ext (mark_ok m.mark _))
    | (go_at_call 19; with_reducible exact calls_ext (msg_bare m _))
    | (go_at_call 51; with_reducible exact calls_ext (msg_same m m.bare _))))
  refine wpQuiet_nil ?_
  rintro _ ⟨⟨w2, hb2⟩, rfl⟩
  have d0 := (hx1.below hb2)
  clear c0 c1 c2 c3 c4 c5 c6 c7 c8 c9 c10 c11 c12 c13 c14 c15 c16 c17 c18
  obtain ⟨c0, c1, c2, c3, c4, c5, c6, c7, c8, c9, c10, c11, c12, c13, c14, c15, c16, c17, c18⟩ := msgCells d0
  clear hx1 h1 h2 h3 h4
  cases z
  all_goals go_wp2
  all_goals go_ret
  all_goals refine ⟨congrArg (fun n => Ending.returned (Value.int .i64 n)) ?_, bl_then hb1 hb2⟩
  all_goals clear c0 c1 c2 c3 c4 c5 c6 c7 c8 c9 c10 c11 c12 c13 c14 c15 c16 c17 c18 d0 hb1 hb2 hg1 hl1
  all_goals
    have e0 := HK.out
    have e1 := HZ.out
    have e2 := HD.out
    simp only [decide_eq_true_eq, decide_eq_false_iff_not] at e1
    unfold Msg.kcode Msg.kindOk
    simp [e0]
  all_goals (try simp only [bne_iff_ne, ne_eq, bne_eq_false_iff_eq, List.isEmpty_iff, List.isEmpty_eq_false_iff] at *)
  all_goals (try simp only [e2] at *)
  all_goals (try omega)
end Go.Proofs.YtbkffeabikjnhaaDoor

/- Sums: Of, Seal, Open. -/
namespace Go.Proofs.YtbkffeabikjnhaaDoor
open Go.RowKit

theorem crc_more0 (s : ByteArray) (w : World) (hs : s.size ≤ 100000000000) :
    Calls Tryd.prog 124 #[.int .u64 0, .string s] w fun e w' => e = .returned (.int .u64 (crcMore 0#64 s.data.toList).toNat) ∧ w = w' := crc_more 0#64 s w hs
theorem crc_of (s : ByteArray) (w : World) (hs : s.size ≤ 100000000000) :
    Calls Tryd.prog 105 #[.string s] w fun e w' => e = .returned (.int .u64 (crcMore 0#64 s.data.toList).toNat) ∧ w = w' := by
  go_enter Tryd.func105, Tryd.ntmps105
  go_wp2_with (go_at_call 124; with_reducible refine (crc_more0 s _ hs).mono ?_; rintro e w' ⟨rfl, rfl⟩)
  go_ret
  exact ⟨rfl, rfl⟩

def sumBytes (x : BitVec 64) : List UInt8 := (List.range 8).map fun i => u8 ((x.toNat : Int) / 2 ^ (8 * i))
theorem sumBytes_length (x : BitVec 64) : (sumBytes x).length = 8 := by simp [sumBytes]
def sumArr (x : BitVec 64) (j : Nat) : Array Value := ((List.range 8).map fun i => if i < j then Value.int .u8 ((u8 ((x.toNat : Int) / 2 ^ (8 * i))).toNat) else Value.int .u8 0).toArray
def sealed (l : List UInt8) : List UInt8 := l ++ sumBytes (crcMore 0#64 l)

theorem sumArr_size (x : BitVec 64) (j : Nat) : (sumArr x j).size = 8 := by simp [sumArr]
theorem sumArr_zero (x : BitVec 64) : sumArr x 0 = #[.int .u8 0, .int .u8 0, .int .u8 0, .int .u8 0, .int .u8 0, .int .u8 0, .int .u8 0, .int .u8 0] := by
  simp [sumArr, List.range, List.range.loop]
theorem sumArr_succ (x : BitVec 64) (j : Nat) (h : j < 8) : (sumArr x j).setIfInBounds j (.int .u8 ((x.toNat : Int) / 2 ^ (8 * j) % 256)) = sumArr x (j + 1) := by
  rw [← u8_val]
  have h2 : j = 0 ∨ j = 1 ∨ j = 2 ∨ j = 3 ∨ j = 4 ∨ j = 5 ∨ j = 6 ∨ j = 7 := by omega
  rcases h2 with rfl | rfl | rfl | rfl | rfl | rfl | rfl | rfl <;> simp [sumArr, List.range, List.range.loop]
theorem sumArr_full (x : BitVec 64) : (sumArr x 8).toList = encB.all (sumBytes x) := by
  rw [encB_all]
  simp [sumArr, sumBytes, List.range, List.range.loop]
theorem zeroB8 : (Tryd.prog.info? 141).map (·.zero) = some (some (.agg #[.int .u8 0, .int .u8 0, .int .u8 0, .int .u8 0, .int .u8 0, .int .u8 0, .int .u8 0, .int .u8 0])) := by kernel_rfl
/-- A whole array, sliced. -/
theorem box_read {α : Type} {E : Enc α} {w : World} {g : Nat} {cs : Array Value} {t : TypeId} (h : Box w g cs t) (xs : List α) (hc : cs.toList = E.all xs) (hm : xs.length ≤ 9223372036854775807) : E.R w (.slice (some ⟨g, 0, none⟩) xs.length xs.length) xs := by
  refine ⟨E.all_length xs, _, _, rfl, Nat.le_refl _, hm, .inr ⟨_, rfl, fun j u hu => ?_⟩⟩
  have ha : (⟨g, 0, none⟩ : Addr).add j = ⟨g, j, none⟩ := by unfold Addr.add; split <;> simp_all
  rw [ha, h.cell j, ← Array.getElem?_toList, hc]
  exact hu

theorem ba_append (s : ByteArray) (l : List UInt8) : s ++ ⟨l.toArray⟩ = ⟨(s.data.toList ++ l).toArray⟩ := by
  apply ByteArray.ext
  rw [ByteArray.data_append]
  simp
theorem beq_dec (a b : List UInt8) : (a == b) = decide (a = b) := by rw [Bool.eq_iff_iff]; simp
theorem crc_seal (s : ByteArray) (w : World) (hs : s.size ≤ 10000000000) :
    Calls Tryd.prog 64 #[.string s] w fun e w' => e = .returned (.string ⟨(sealed s.data.toList).toArray⟩) ∧ Below w.heap.size w w' := by
  unfold sealed
  generalize hx : crcMore 0#64 s.data.toList = x
  have HX := Lib.hid hx
  clear hx
  go_enter Tryd.func64, Tryd.ntmps64
  go_wp2_with (first
    | (go_at_call 105; with_reducible refine (crc_of s _ (by omega)).mono ?_; rintro e w' ⟨rfl, rfl⟩; rw [HX.out])
    | ((with_reducible refine gate (N := 4) rfl ?_); refine ev_alloc rfl 141 rfl zeroB8 ?_; intro g1 w1 hx1 hb1 hg1 hl1; rw [← sumArr_zero x] at hx1))
  go_loopw [5, 8] (fun i5 i8 wr => ∃ (j : Nat), j ≤ 8 ∧ i8 = .int .i64 j ∧ Box wr g1 (sumArr x j) 141 ∧ Below w.heap.size w wr) (fun _ i _ => 8 - (intOf i).toNat)
  case atStart => exact ⟨0, by omega, rfl, hx1, hb1⟩
  case round =>
    obtain ⟨j, hj, rfl, hx2, hb2⟩ := hrel
    by_cases hlt : j < 8
    · have hc : wr.cell? ⟨g1, j, none⟩ = some (sumArr x j)[j]! := by rw [hx2.cell j]; simp [sumArr_size, hlt]
      have hf := hx2.frozen j
      have H0 : (0 : Int) ≤ (j : Int) := by omega
      have H1 : (j : Int) < 8 := by omega
      have H2 : (0 : Int) ≤ 8 * (j : Int) := by omega
      go_wp2
      go_roundw
      case rel => exact ⟨j + 1, by omega, by go_num, hx2.set_ j _ (sumArr_succ x j hlt), bl_set hb2 hg1 _⟩
      case measure => simp [intOf]; omega
    · obtain rfl : j = 8 := by omega
      have hr : encB.R wr (.slice (some ⟨g1, 0, none⟩) 8 8) (sumBytes x) := box_read hx2 (sumBytes x) (sumArr_full x) (by rw [sumBytes_length]; omega)
      have hconv := conv_bytes hr 54 9 5 Tryd.underlying54 Tryd.underlying5 Tryd.underlying9
      have hq : ¬ (9223372036854775807 < s.size + (sumBytes x).length) := by rw [sumBytes_length]; omega
      go_wp2
      go_ret
      refine ⟨?_, hb2⟩
      rw [← ba_append]
      rfl

def openCut (s : ByteArray) : ByteArray := s.extract 0 (s.size - 8)
def openOk (s : ByteArray) : Bool := decide (8 ≤ s.size) && decide (sealed (openCut s).data.toList = s.data.toList)
theorem crc_open (s : ByteArray) (w : World) (hs : s.size ≤ 10000000000) :
    Calls Tryd.prog 70 #[.string s] w fun e w' => e = .returned (.tuple #[.string (if 8 ≤ s.size then openCut s else ⟨#[]⟩), .bool (openOk s)]) ∧ Below w.heap.size w w' := by
  by_cases h8 : s.size < 8
  · have hn : ¬ 8 ≤ s.size := by omega
    rw [if_neg hn, show openOk s = false from by simp [openOk, hn]]
    clear hn
    go_enter Tryd.func70, Tryd.ntmps70
    go_wp2
    go_ret2
    exact ⟨rfl, Below.refl _ _⟩
  · have hn : 8 ≤ s.size := by omega
    rw [if_pos hn]
    have HO : Hid (openOk s = decide (sealed (openCut s).data.toList = s.data.toList)) := Lib.hid (by simp [openOk, hn])
    rw [HO.out]
    clear HO hn
    have hcs : (openCut s).size ≤ 10000000000 := by unfold openCut; rw [ByteArray.size_extract]; omega
    go_enter Tryd.func70, Tryd.ntmps70
    go_wp2_with fail
    refine (crc_seal (openCut s) _ hcs).mono ?_
    rintro e w1 ⟨rfl, hb1⟩
    generalize hc : sealed (openCut s).data.toList = c
    have HC := Lib.hid hc
    clear hc
    go_wp2
    go_ret2
    refine ⟨?_, hb1⟩
    rw [← beq_dec, ← ByteArray.toList_eq s, HC.out]
    rfl
end Go.Proofs.YtbkffeabikjnhaaDoor
