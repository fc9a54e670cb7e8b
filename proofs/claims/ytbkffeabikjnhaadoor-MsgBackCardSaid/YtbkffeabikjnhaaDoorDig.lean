/- Numbers as text, the document's way (crannogref18.digits): as strconv.Itoa's. -/
import Derived.Test.YtbkffeabikjnhaaDoorTxt
namespace Go.Proofs.YtbkffeabikjnhaaDoor
open Go.RowKit

def dch (u : Nat) : UInt8 := UInt8.ofNat (48 + u % 10)
/-- What stands in s after some rounds, u being what is left. -/
def DigInv (u0 u : Nat) (s : List UInt8) : Prop := if 0 < u ∨ s = [] then Lib.decDigits u0 = Lib.decDigits u ++ s ∨ (u = 0 ∧ s = [] ∧ u0 = 0) else Lib.decDigits u0 = s
theorem dig_zero : Lib.decDigits 0 = [dch 0] := by rw [Lib.decDigits_one (by omega)]; rfl
theorem DigInv.start (u0 : Nat) : DigInv u0 u0 [] := by
  unfold DigInv
  rw [if_pos (.inr rfl)]
  exact .inl (by simp)
theorem DigInv.put {u0 u : Nat} {s : List UInt8} (h : DigInv u0 u s) (hc : 0 < u ∨ s = []) : DigInv u0 (u / 10) (dch u :: s) := by
  unfold DigInv at *
  rw [if_pos hc] at h
  rcases h with h | ⟨rfl, rfl, rfl⟩
  · by_cases h10 : u < 10
    · rw [if_neg (by simp; omega), h, Lib.decDigits_one h10, dch, Nat.mod_eq_of_lt h10]
      rfl
    · rw [if_pos (.inl (by omega))]
      refine .inl ?_
      rw [h, Lib.decDigits, dif_neg h10, List.append_assoc]
      rfl
  · rw [if_neg (by simp)]
    exact dig_zero
theorem DigInv.skip {u0 u : Nat} {s : List UInt8} (h : DigInv u0 u s) (hc : ¬ (0 < u ∨ s = [])) : DigInv u0 (u / 10) s := by
  unfold DigInv at *
  have hs : s ≠ [] := fun e => hc (.inr e)
  rw [if_neg hc] at h
  rw [if_neg (fun h => h.elim (fun h1 => hc (.inl (by omega))) hs)]
  exact h
theorem DigInv.done {u0 : Nat} {s : List UInt8} (h : DigInv u0 0 s) (hs : s ≠ []) : Lib.decDigits u0 = s := by
  unfold DigInv at h
  rw [if_neg (by simp [hs])] at h
  exact h
theorem dch_val (u : Nat) : ((dch u).toNat : Int) = 48 + (u : Int) % 10 := by
  have h : (dch u).toNat = (48 + u % 10) % 256 := rfl
  rw [h]
  omega
theorem ev_b2s {P : Program} {ops : Array Oper} {rest : List Oper} {o : Oper} {a : Act} {Q : Exit → Act → World → Prop} {W : World} {src dst e : TypeId} {x : Operand} {v : Value} {l : List UInt8} [hs : SliceT P src e] (hgd : o.guard = none) (ho : o.op = .convert src dst x) (hx : a.eval x = v) (hR : encB.R W v l)
    (he : P.underlying e = some (.int .u8)) (hd : P.underlying dst = some .string) (h : wpList P ops Q rest (a.put o.dst (.string ⟨l.toArray⟩)) W) : wpList P ops Q (o :: rest) a W := by
  refine event hgd (v := .string ⟨l.toArray⟩) (w1 := W) ?_ h
  simp [execOp, ho, hx, conv_bytes hR src dst e hs.slice he hd]
theorem one_byte {w : World} {g : Nat} {t : TypeId} {c : UInt8} (h : Box w g [.int .u8 c.toNat].toArray t) : encB.R w (.slice (some ⟨g, 0, none⟩) 1 1) [c] := by
  refine ⟨by rw [Enc.all_length], some ⟨g, 0, none⟩, 1, rfl, Nat.le_refl _, by simp, .inr ⟨_, rfl, fun j u hj => ?_⟩⟩
  have ha : (⟨g, 0, none⟩ : Addr).add j = ⟨g, j, none⟩ := by unfold Addr.add; split <;> simp_all
  rw [ha, h.cell j]
  rw [Enc.all_one_elem] at hj
  have hj' : [Value.int .u8 c.toNat][j]? = some u := hj
  simpa using hj'
theorem ba_cons (c : UInt8) (l : List UInt8) : (⟨[c].toArray⟩ : ByteArray) ++ ⟨l.toArray⟩ = ⟨(c :: l).toArray⟩ := by rw [ByteArray.mk_append_mk]; rfl
/-- The rounds of digits: what is left of u, and what stands in s. -/
def DigAt (u k uk : Nat) (l : List UInt8) : Prop := DigInv u uk l ∧ uk = u / 10 ^ k ∧ l.length ≤ k ∧ (0 < k → l ≠ [])
theorem DigAt.start (u : Nat) : DigAt u 0 u [] := ⟨.start u, by simp, by simp, by simp⟩
theorem DigAt.put {u k uk : Nat} {l : List UInt8} (h : DigAt u k uk l) (hc : 0 < uk ∨ l = []) : DigAt u (k + 1) (uk / 10) (dch uk :: l) :=
  ⟨h.1.put hc, by rw [h.2.1, Nat.div_div_eq_div_mul, Nat.pow_succ], by have := h.2.2.1; simp; omega, by simp⟩
theorem DigAt.skip {u k uk : Nat} {l : List UInt8} (h : DigAt u k uk l) (hc : ¬ (0 < uk ∨ l = [])) : DigAt u (k + 1) (uk / 10) l :=
  ⟨h.1.skip hc, by rw [h.2.1, Nat.div_div_eq_div_mul, Nat.pow_succ], by have := h.2.2.1; omega, fun _ e => hc (.inr e)⟩
theorem DigAt.done {u uk : Nat} {l : List UInt8} (h : DigAt u 20 uk l) (hu : u < 18446744073709551616) : Lib.decDigits u = l := by
  obtain ⟨h1, h2, _, h4⟩ := h
  have : uk = 0 := by rw [h2]; exact Nat.div_eq_of_lt (by omega)
  subst this
  exact h1.done (h4 (by omega))
set_option maxHeartbeats 1000000 in
/-- digits of n, by the loop's rounds. -/
theorem ref_digits_neg (n : Int) (w : World) (h0 : -9223372036854775808 ≤ n) (h1 : n ≤ 9223372036854775807) (hn : n < 0) :
    Calls Tryd.prog 57 #[.int .i64 n] w fun e w' => e = .returned (.string (itoaB n)) ∧ Below w.heap.size w w' := by
  have hL := Loc.nil w NoM
  have t0 : decide (n < 0) = true := (by first | (simp; done) | (simp; omega))
  obtain ⟨u, hu⟩ : ∃ u : Nat, u = n.natAbs := ⟨_, rfl⟩
  have e1 : IntKind.u64.wrap (-(IntKind.u64.wrap n)) = (u : Int) := by rw [IntKind.wrap_u64, IntKind.wrap_u64]; omega
  have hub : u < 18446744073709551616 := by omega
  have HU := Lib.hid hu
  clear hu
  go_enter Tryd.func57, Tryd.ntmps57
  go_wp2_with (first | ((with_reducible refine gAlloc rfl rfl ?_); (refine ev_allocL rfl hL rfl (by first | exact cells_agg _ rfl | exact cells_int _ _ | exact cells_str _ | exact cells_bool _ | exact cells_slice _ _ _ | exact cells_ptr _ | exact cells_map _ | exact cells_func _ _ _ | exact cells_nilFunc | exact cells_one (by assumption) (by assumption)) ?_; clear hL; intro gq wq hL)) | ((with_reducible refine gBox rfl rfl ?_); (refine ev_boxL rfl hL rfl rfl (by first | exact cells_agg _ rfl | exact cells_int _ _ | exact cells_str _ | exact cells_bool _ | exact cells_slice _ _ _ | exact cells_ptr _ | exact cells_map _ | exact cells_func _ _ _ | exact cells_nilFunc | exact cells_one (by assumption) (by assumption)) ?_; clear hL; intro gq wq hL)) | ((with_reducible refine gLoad rfl rfl ?_); (first | (refine ev_load1L rfl hL rfl rfl HasV.mem (by rfl) ?_) | (refine ev_loadAllL rfl hL rfl rfl HasV.mem (by rfl) ?_) | (refine ev_loadL rfl hL rfl rfl HasV.mem SegC.seg ?_))) | ((with_reducible refine gStore rfl rfl ?_); (first | (refine ev_storeC rfl hL rfl rfl rfl (by first | exact cells_agg _ rfl | exact cells_int _ _ | exact cells_str _ | exact cells_bool _ | exact cells_slice _ _ _ | exact cells_ptr _ | exact cells_map _ | exact cells_func _ _ _ | exact cells_nilFunc | exact cells_one (by assumption) (by assumption)) (by rfl) ?_) | (refine ev_storeAllC rfl hL rfl rfl rfl (by first | exact cells_agg _ rfl | exact cells_int _ _ | exact cells_str _ | exact cells_bool _ | exact cells_slice _ _ _ | exact cells_ptr _ | exact cells_map _ | exact cells_func _ _ _ | exact cells_nilFunc | exact cells_one (by assumption) (by assumption)) (by rfl) (by rfl) ?_)); clear hL; intro wq hL) | ((with_reducible refine gLoadG rfl rfl ?_ ?_); (exact wanted_some rfl rfl rfl (by with_reducible rfl)); (first | (refine ev_load1G (wanted_some rfl rfl rfl rfl) hL rfl rfl HasV.mem (by rfl) ?_) | (refine ev_loadAllG (wanted_some rfl rfl rfl rfl) hL rfl rfl HasV.mem (by rfl) ?_) | (refine ev_loadG_ (wanted_some rfl rfl rfl rfl) hL rfl rfl HasV.mem SegC.seg ?_))))
  clear e1
  go_loopw [3, 4, 11] (fun x y i wr => ∃ (k uk : Nat) (l : List UInt8), k ≤ 20 ∧ i = .int .i64 k ∧ x = .int .u64 uk ∧ y = .string ⟨l.toArray⟩ ∧ Hid (DigAt u k uk l) ∧ uk < 18446744073709551616 ∧ l.length ≤ k ∧ Loc w NoM wr []) (fun _ _ i _ => 20 - (intOf i).toNat)
  case atStart => exact ⟨0, u, [], by omega, rfl, rfl, rfl, Lib.hid (.start u), hub, by simp, hL⟩
  case round =>
    clear hL
    obtain ⟨k, uk, l, hk, rfl, rfl, rfl, HD, hb, hll, hL⟩ := hrel
    by_cases hlt : k < 20
    · by_cases hp : 0 < uk
      · have t1 : decide ((0 : Int) < (uk : Int)) = true := (by first | (simp; done) | (simp; omega))
        have hv : (48 : Int) + (uk : Int) % 10 = ((dch uk).toNat : Int) := (dch_val uk).symm
        have HD2 := Lib.hid (HD.out.put (.inl hp))
        go_wp2_with (first
          | ((with_reducible refine gLit rfl rfl ?_); refine ev_litL (cs := [.int .u8 (dch uk).toNat]) rfl hL rfl rfl rfl (by kernel_rfl) ?_; clear hL; intro gq wq hL)
          | ((with_reducible refine gate (N := 24) rfl ?_); refine ev_b2s (l := [dch uk]) rfl rfl rfl (one_byte (hL.box (by first | exact .head _ | exact .tail _ (.head _) | exact .tail _ (.tail _ (.head _)) | exact .tail _ (.tail _ (.tail _ (.head _))) | exact .tail _ (.tail _ (.tail _ (.tail _ (.head _)))) | exact .tail _ (.tail _ (.tail _ (.tail _ (.tail _ (.head _))))) | exact .tail _ (.tail _ (.tail _ (.tail _ (.tail _ (.tail _ (.head _)))))) | exact .tail _ (.tail _ (.tail _ (.tail _ (.tail _ (.tail _ (.tail _ (.head _))))))) | exact .tail _ (.tail _ (.tail _ (.tail _ (.tail _ (.tail _ (.tail _ (.tail _ (.head _))))))))))) Tryd.underlying5 Tryd.underlying9 ?_)
          | ((with_reducible refine gCat rfl rfl ?_); refine ev_cat (s := ⟨[dch uk].toArray⟩) (u := ⟨l.toArray⟩) rfl rfl rfl rfl (by simp [ByteArray.size]; omega) ?_; rw [ba_cons])
          | ((with_reducible refine gAlloc rfl rfl ?_); (refine ev_allocL rfl hL rfl (by first | exact cells_agg _ rfl | exact cells_int _ _ | exact cells_str _ | exact cells_bool _ | exact cells_slice _ _ _ | exact cells_ptr _ | exact cells_map _ | exact cells_func _ _ _ | exact cells_nilFunc | exact cells_one (by assumption) (by assumption)) ?_; clear hL; intro gq wq hL)) | ((with_reducible refine gBox rfl rfl ?_); (refine ev_boxL rfl hL rfl rfl (by first | exact cells_agg _ rfl | exact cells_int _ _ | exact cells_str _ | exact cells_bool _ | exact cells_slice _ _ _ | exact cells_ptr _ | exact cells_map _ | exact cells_func _ _ _ | exact cells_nilFunc | exact cells_one (by assumption) (by assumption)) ?_; clear hL; intro gq wq hL)) | ((with_reducible refine gLoad rfl rfl ?_); (first | (refine ev_load1L rfl hL rfl rfl HasV.mem (by rfl) ?_) | (refine ev_loadAllL rfl hL rfl rfl HasV.mem (by rfl) ?_) | (refine ev_loadL rfl hL rfl rfl HasV.mem SegC.seg ?_))) | ((with_reducible refine gStore rfl rfl ?_); (first | (refine ev_storeC rfl hL rfl rfl rfl (by first | exact cells_agg _ rfl | exact cells_int _ _ | exact cells_str _ | exact cells_bool _ | exact cells_slice _ _ _ | exact cells_ptr _ | exact cells_map _ | exact cells_func _ _ _ | exact cells_nilFunc | exact cells_one (by assumption) (by assumption)) (by rfl) ?_) | (refine ev_storeAllC rfl hL rfl rfl rfl (by first | exact cells_agg _ rfl | exact cells_int _ _ | exact cells_str _ | exact cells_bool _ | exact cells_slice _ _ _ | exact cells_ptr _ | exact cells_map _ | exact cells_func _ _ _ | exact cells_nilFunc | exact cells_one (by assumption) (by assumption)) (by rfl) (by rfl) ?_)); clear hL; intro wq hL) | ((with_reducible refine gLoadG rfl rfl ?_ ?_); (exact wanted_some rfl rfl rfl (by with_reducible rfl)); (first | (refine ev_load1G (wanted_some rfl rfl rfl rfl) hL rfl rfl HasV.mem (by rfl) ?_) | (refine ev_loadAllG (wanted_some rfl rfl rfl rfl) hL rfl rfl HasV.mem (by rfl) ?_) | (refine ev_loadG_ (wanted_some rfl rfl rfl rfl) hL rfl rfl HasV.mem SegC.seg ?_))))
        go_roundw
        case rel => exact ⟨k + 1, uk / 10, dch uk :: l, by omega, by go_num, by go_num, rfl, HD2, by omega, by first | (simp; done) | (simp; omega), hL.drop⟩
        case measure => simp [intOf]; omega
      · obtain rfl : uk = 0 := by omega
        have t1 : decide ((0 : Int) < ((0 : Nat) : Int)) = false := by simp
        cases l with
        | nil =>
          have hv : (48 : Int) + ((0 : Nat) : Int) % 10 = ((dch 0).toNat : Int) := (dch_val 0).symm
          have HD2 := Lib.hid (HD.out.put (.inr rfl))
          go_wp2_with (first
            | ((with_reducible refine gLit rfl rfl ?_); refine ev_litL (cs := [.int .u8 (dch 0).toNat]) rfl hL rfl rfl rfl (by kernel_rfl) ?_; clear hL; intro gq wq hL)
            | ((with_reducible refine gate (N := 24) rfl ?_); refine ev_b2s (l := [dch 0]) rfl rfl rfl (one_byte (hL.box (by first | exact .head _ | exact .tail _ (.head _) | exact .tail _ (.tail _ (.head _)) | exact .tail _ (.tail _ (.tail _ (.head _))) | exact .tail _ (.tail _ (.tail _ (.tail _ (.head _)))) | exact .tail _ (.tail _ (.tail _ (.tail _ (.tail _ (.head _))))) | exact .tail _ (.tail _ (.tail _ (.tail _ (.tail _ (.tail _ (.head _)))))) | exact .tail _ (.tail _ (.tail _ (.tail _ (.tail _ (.tail _ (.tail _ (.head _))))))) | exact .tail _ (.tail _ (.tail _ (.tail _ (.tail _ (.tail _ (.tail _ (.tail _ (.head _))))))))))) Tryd.underlying5 Tryd.underlying9 ?_)
            | ((with_reducible refine gCat rfl rfl ?_); refine ev_cat (s := ⟨[dch 0].toArray⟩) (u := ⟨([] : List UInt8).toArray⟩) rfl rfl rfl rfl (by simp [ByteArray.size]; omega) ?_; rw [ba_cons])
            | ((with_reducible refine gAlloc rfl rfl ?_); (refine ev_allocL rfl hL rfl (by first | exact cells_agg _ rfl | exact cells_int _ _ | exact cells_str _ | exact cells_bool _ | exact cells_slice _ _ _ | exact cells_ptr _ | exact cells_map _ | exact cells_func _ _ _ | exact cells_nilFunc | exact cells_one (by assumption) (by assumption)) ?_; clear hL; intro gq wq hL)) | ((with_reducible refine gBox rfl rfl ?_); (refine ev_boxL rfl hL rfl rfl (by first | exact cells_agg _ rfl | exact cells_int _ _ | exact cells_str _ | exact cells_bool _ | exact cells_slice _ _ _ | exact cells_ptr _ | exact cells_map _ | exact cells_func _ _ _ | exact cells_nilFunc | exact cells_one (by assumption) (by assumption)) ?_; clear hL; intro gq wq hL)) | ((with_reducible refine gLoad rfl rfl ?_); (first | (refine ev_load1L rfl hL rfl rfl HasV.mem (by rfl) ?_) | (refine ev_loadAllL rfl hL rfl rfl HasV.mem (by rfl) ?_) | (refine ev_loadL rfl hL rfl rfl HasV.mem SegC.seg ?_))) | ((with_reducible refine gStore rfl rfl ?_); (first | (refine ev_storeC rfl hL rfl rfl rfl (by first | exact cells_agg _ rfl | exact cells_int _ _ | exact cells_str _ | exact cells_bool _ | exact cells_slice _ _ _ | exact cells_ptr _ | exact cells_map _ | exact cells_func _ _ _ | exact cells_nilFunc | exact cells_one (by assumption) (by assumption)) (by rfl) ?_) | (refine ev_storeAllC rfl hL rfl rfl rfl (by first | exact cells_agg _ rfl | exact cells_int _ _ | exact cells_str _ | exact cells_bool _ | exact cells_slice _ _ _ | exact cells_ptr _ | exact cells_map _ | exact cells_func _ _ _ | exact cells_nilFunc | exact cells_one (by assumption) (by assumption)) (by rfl) (by rfl) ?_)); clear hL; intro wq hL) | ((with_reducible refine gLoadG rfl rfl ?_ ?_); (exact wanted_some rfl rfl rfl (by with_reducible rfl)); (first | (refine ev_load1G (wanted_some rfl rfl rfl rfl) hL rfl rfl HasV.mem (by rfl) ?_) | (refine ev_loadAllG (wanted_some rfl rfl rfl rfl) hL rfl rfl HasV.mem (by rfl) ?_) | (refine ev_loadG_ (wanted_some rfl rfl rfl rfl) hL rfl rfl HasV.mem SegC.seg ?_))))
          go_roundw
          case rel => exact ⟨k + 1, 0, dch 0 :: [], by omega, by go_num, by go_num, rfl, HD2, by omega, by first | (simp; done) | (simp; omega), hL.drop⟩
          case measure => simp [intOf]; omega
        | cons c l =>
          have HD2 := Lib.hid (HD.out.skip (by simp))
          go_wp2_with (first | ((with_reducible refine gAlloc rfl rfl ?_); (refine ev_allocL rfl hL rfl (by first | exact cells_agg _ rfl | exact cells_int _ _ | exact cells_str _ | exact cells_bool _ | exact cells_slice _ _ _ | exact cells_ptr _ | exact cells_map _ | exact cells_func _ _ _ | exact cells_nilFunc | exact cells_one (by assumption) (by assumption)) ?_; clear hL; intro gq wq hL)) | ((with_reducible refine gBox rfl rfl ?_); (refine ev_boxL rfl hL rfl rfl (by first | exact cells_agg _ rfl | exact cells_int _ _ | exact cells_str _ | exact cells_bool _ | exact cells_slice _ _ _ | exact cells_ptr _ | exact cells_map _ | exact cells_func _ _ _ | exact cells_nilFunc | exact cells_one (by assumption) (by assumption)) ?_; clear hL; intro gq wq hL)) | ((with_reducible refine gLoad rfl rfl ?_); (first | (refine ev_load1L rfl hL rfl rfl HasV.mem (by rfl) ?_) | (refine ev_loadAllL rfl hL rfl rfl HasV.mem (by rfl) ?_) | (refine ev_loadL rfl hL rfl rfl HasV.mem SegC.seg ?_))) | ((with_reducible refine gStore rfl rfl ?_); (first | (refine ev_storeC rfl hL rfl rfl rfl (by first | exact cells_agg _ rfl | exact cells_int _ _ | exact cells_str _ | exact cells_bool _ | exact cells_slice _ _ _ | exact cells_ptr _ | exact cells_map _ | exact cells_func _ _ _ | exact cells_nilFunc | exact cells_one (by assumption) (by assumption)) (by rfl) ?_) | (refine ev_storeAllC rfl hL rfl rfl rfl (by first | exact cells_agg _ rfl | exact cells_int _ _ | exact cells_str _ | exact cells_bool _ | exact cells_slice _ _ _ | exact cells_ptr _ | exact cells_map _ | exact cells_func _ _ _ | exact cells_nilFunc | exact cells_one (by assumption) (by assumption)) (by rfl) (by rfl) ?_)); clear hL; intro wq hL) | ((with_reducible refine gLoadG rfl rfl ?_ ?_); (exact wanted_some rfl rfl rfl (by with_reducible rfl)); (first | (refine ev_load1G (wanted_some rfl rfl rfl rfl) hL rfl rfl HasV.mem (by rfl) ?_) | (refine ev_loadAllG (wanted_some rfl rfl rfl rfl) hL rfl rfl HasV.mem (by rfl) ?_) | (refine ev_loadG_ (wanted_some rfl rfl rfl rfl) hL rfl rfl HasV.mem SegC.seg ?_))))
          go_roundw
          case rel => exact ⟨k + 1, 0, c :: l, by omega, by go_num, rfl, rfl, HD2, by omega, by simp at hll ⊢; omega, hL⟩
          case measure => simp [intOf]; omega
    · obtain rfl : k = 20 := by omega
      have HR := Lib.hid (HD.out.done hub)
      go_wp2_with (first
        | ((with_reducible refine gCat rfl rfl ?_); refine ev_cat (s := ⟨#[45]⟩) (u := ⟨l.toArray⟩) rfl rfl rfl rfl (by simp [ByteArray.size]; omega) ?_)
        | ((with_reducible refine gAlloc rfl rfl ?_); (refine ev_allocL rfl hL rfl (by first | exact cells_agg _ rfl | exact cells_int _ _ | exact cells_str _ | exact cells_bool _ | exact cells_slice _ _ _ | exact cells_ptr _ | exact cells_map _ | exact cells_func _ _ _ | exact cells_nilFunc | exact cells_one (by assumption) (by assumption)) ?_; clear hL; intro gq wq hL)) | ((with_reducible refine gBox rfl rfl ?_); (refine ev_boxL rfl hL rfl rfl (by first | exact cells_agg _ rfl | exact cells_int _ _ | exact cells_str _ | exact cells_bool _ | exact cells_slice _ _ _ | exact cells_ptr _ | exact cells_map _ | exact cells_func _ _ _ | exact cells_nilFunc | exact cells_one (by assumption) (by assumption)) ?_; clear hL; intro gq wq hL)) | ((with_reducible refine gLoad rfl rfl ?_); (first | (refine ev_load1L rfl hL rfl rfl HasV.mem (by rfl) ?_) | (refine ev_loadAllL rfl hL rfl rfl HasV.mem (by rfl) ?_) | (refine ev_loadL rfl hL rfl rfl HasV.mem SegC.seg ?_))) | ((with_reducible refine gStore rfl rfl ?_); (first | (refine ev_storeC rfl hL rfl rfl rfl (by first | exact cells_agg _ rfl | exact cells_int _ _ | exact cells_str _ | exact cells_bool _ | exact cells_slice _ _ _ | exact cells_ptr _ | exact cells_map _ | exact cells_func _ _ _ | exact cells_nilFunc | exact cells_one (by assumption) (by assumption)) (by rfl) ?_) | (refine ev_storeAllC rfl hL rfl rfl rfl (by first | exact cells_agg _ rfl | exact cells_int _ _ | exact cells_str _ | exact cells_bool _ | exact cells_slice _ _ _ | exact cells_ptr _ | exact cells_map _ | exact cells_func _ _ _ | exact cells_nilFunc | exact cells_one (by assumption) (by assumption)) (by rfl) (by rfl) ?_)); clear hL; intro wq hL) | ((with_reducible refine gLoadG rfl rfl ?_ ?_); (exact wanted_some rfl rfl rfl (by with_reducible rfl)); (first | (refine ev_load1G (wanted_some rfl rfl rfl rfl) hL rfl rfl HasV.mem (by rfl) ?_) | (refine ev_loadAllG (wanted_some rfl rfl rfl rfl) hL rfl rfl HasV.mem (by rfl) ?_) | (refine ev_loadG_ (wanted_some rfl rfl rfl rfl) hL rfl rfl HasV.mem SegC.seg ?_))))
      go_ret
      exact ⟨congrArg (fun s => Ending.returned (Value.string s)) (by have hu := HU.out; unfold itoaB Lib.itoa; rw [if_pos hn, ← hu, HR.out]; exact ba_cons 45 l), hL.below⟩
set_option maxHeartbeats 1000000 in
theorem ref_digits_pos (n : Int) (w : World) (h0 : -9223372036854775808 ≤ n) (h1 : n ≤ 9223372036854775807) (hn : ¬ n < 0) :
    Calls Tryd.prog 57 #[.int .i64 n] w fun e w' => e = .returned (.string (itoaB n)) ∧ Below w.heap.size w w' := by
  have hL := Loc.nil w NoM
  have t0 : decide (n < 0) = false := (by first | (simp; done) | (simp; omega))
  obtain ⟨u, hu⟩ : ∃ u : Nat, u = n.toNat := ⟨_, rfl⟩
  have e1 : IntKind.u64.wrap n = (u : Int) := by rw [IntKind.wrap_u64]; omega
  have hub : u < 18446744073709551616 := by omega
  have HU := Lib.hid hu
  clear hu
  go_enter Tryd.func57, Tryd.ntmps57
  go_wp2_with (first | ((with_reducible refine gAlloc rfl rfl ?_); (refine ev_allocL rfl hL rfl (by first | exact cells_agg _ rfl | exact cells_int _ _ | exact cells_str _ | exact cells_bool _ | exact cells_slice _ _ _ | exact cells_ptr _ | exact cells_map _ | exact cells_func _ _ _ | exact cells_nilFunc | exact cells_one (by assumption) (by assumption)) ?_; clear hL; intro gq wq hL)) | ((with_reducible refine gBox rfl rfl ?_); (refine ev_boxL rfl hL rfl rfl (by first | exact cells_agg _ rfl | exact cells_int _ _ | exact cells_str _ | exact cells_bool _ | exact cells_slice _ _ _ | exact cells_ptr _ | exact cells_map _ | exact cells_func _ _ _ | exact cells_nilFunc | exact cells_one (by assumption) (by assumption)) ?_; clear hL; intro gq wq hL)) | ((with_reducible refine gLoad rfl rfl ?_); (first | (refine ev_load1L rfl hL rfl rfl HasV.mem (by rfl) ?_) | (refine ev_loadAllL rfl hL rfl rfl HasV.mem (by rfl) ?_) | (refine ev_loadL rfl hL rfl rfl HasV.mem SegC.seg ?_))) | ((with_reducible refine gStore rfl rfl ?_); (first | (refine ev_storeC rfl hL rfl rfl rfl (by first | exact cells_agg _ rfl | exact cells_int _ _ | exact cells_str _ | exact cells_bool _ | exact cells_slice _ _ _ | exact cells_ptr _ | exact cells_map _ | exact cells_func _ _ _ | exact cells_nilFunc | exact cells_one (by assumption) (by assumption)) (by rfl) ?_) | (refine ev_storeAllC rfl hL rfl rfl rfl (by first | exact cells_agg _ rfl | exact cells_int _ _ | exact cells_str _ | exact cells_bool _ | exact cells_slice _ _ _ | exact cells_ptr _ | exact cells_map _ | exact cells_func _ _ _ | exact cells_nilFunc | exact cells_one (by assumption) (by assumption)) (by rfl) (by rfl) ?_)); clear hL; intro wq hL) | ((with_reducible refine gLoadG rfl rfl ?_ ?_); (exact wanted_some rfl rfl rfl (by with_reducible rfl)); (first | (refine ev_load1G (wanted_some rfl rfl rfl rfl) hL rfl rfl HasV.mem (by rfl) ?_) | (refine ev_loadAllG (wanted_some rfl rfl rfl rfl) hL rfl rfl HasV.mem (by rfl) ?_) | (refine ev_loadG_ (wanted_some rfl rfl rfl rfl) hL rfl rfl HasV.mem SegC.seg ?_))))
  clear e1
  go_loopw [3, 4, 11] (fun x y i wr => ∃ (k uk : Nat) (l : List UInt8), k ≤ 20 ∧ i = .int .i64 k ∧ x = .int .u64 uk ∧ y = .string ⟨l.toArray⟩ ∧ Hid (DigAt u k uk l) ∧ uk < 18446744073709551616 ∧ l.length ≤ k ∧ Loc w NoM wr []) (fun _ _ i _ => 20 - (intOf i).toNat)
  case atStart => exact ⟨0, u, [], by omega, rfl, rfl, rfl, Lib.hid (.start u), hub, by simp, hL⟩
  case round =>
    clear hL
    obtain ⟨k, uk, l, hk, rfl, rfl, rfl, HD, hb, hll, hL⟩ := hrel
    by_cases hlt : k < 20
    · by_cases hp : 0 < uk
      · have t1 : decide ((0 : Int) < (uk : Int)) = true := (by first | (simp; done) | (simp; omega))
        have hv : (48 : Int) + (uk : Int) % 10 = ((dch uk).toNat : Int) := (dch_val uk).symm
        have HD2 := Lib.hid (HD.out.put (.inl hp))
        go_wp2_with (first
          | ((with_reducible refine gLit rfl rfl ?_); refine ev_litL (cs := [.int .u8 (dch uk).toNat]) rfl hL rfl rfl rfl (by kernel_rfl) ?_; clear hL; intro gq wq hL)
          | ((with_reducible refine gate (N := 24) rfl ?_); refine ev_b2s (l := [dch uk]) rfl rfl rfl (one_byte (hL.box (by first | exact .head _ | exact .tail _ (.head _) | exact .tail _ (.tail _ (.head _)) | exact .tail _ (.tail _ (.tail _ (.head _))) | exact .tail _ (.tail _ (.tail _ (.tail _ (.head _)))) | exact .tail _ (.tail _ (.tail _ (.tail _ (.tail _ (.head _))))) | exact .tail _ (.tail _ (.tail _ (.tail _ (.tail _ (.tail _ (.head _)))))) | exact .tail _ (.tail _ (.tail _ (.tail _ (.tail _ (.tail _ (.tail _ (.head _))))))) | exact .tail _ (.tail _ (.tail _ (.tail _ (.tail _ (.tail _ (.tail _ (.tail _ (.head _))))))))))) Tryd.underlying5 Tryd.underlying9 ?_)
          | ((with_reducible refine gCat rfl rfl ?_); refine ev_cat (s := ⟨[dch uk].toArray⟩) (u := ⟨l.toArray⟩) rfl rfl rfl rfl (by simp [ByteArray.size]; omega) ?_; rw [ba_cons])
          | ((with_reducible refine gAlloc rfl rfl ?_); (refine ev_allocL rfl hL rfl (by first | exact cells_agg _ rfl | exact cells_int _ _ | exact cells_str _ | exact cells_bool _ | exact cells_slice _ _ _ | exact cells_ptr _ | exact cells_map _ | exact cells_func _ _ _ | exact cells_nilFunc | exact cells_one (by assumption) (by assumption)) ?_; clear hL; intro gq wq hL)) | ((with_reducible refine gBox rfl rfl ?_); (refine ev_boxL rfl hL rfl rfl (by first | exact cells_agg _ rfl | exact cells_int _ _ | exact cells_str _ | exact cells_bool _ | exact cells_slice _ _ _ | exact cells_ptr _ | exact cells_map _ | exact cells_func _ _ _ | exact cells_nilFunc | exact cells_one (by assumption) (by assumption)) ?_; clear hL; intro gq wq hL)) | ((with_reducible refine gLoad rfl rfl ?_); (first | (refine ev_load1L rfl hL rfl rfl HasV.mem (by rfl) ?_) | (refine ev_loadAllL rfl hL rfl rfl HasV.mem (by rfl) ?_) | (refine ev_loadL rfl hL rfl rfl HasV.mem SegC.seg ?_))) | ((with_reducible refine gStore rfl rfl ?_); (first | (refine ev_storeC rfl hL rfl rfl rfl (by first | exact cells_agg _ rfl | exact cells_int _ _ | exact cells_str _ | exact cells_bool _ | exact cells_slice _ _ _ | exact cells_ptr _ | exact cells_map _ | exact cells_func _ _ _ | exact cells_nilFunc | exact cells_one (by assumption) (by assumption)) (by rfl) ?_) | (refine ev_storeAllC rfl hL rfl rfl rfl (by first | exact cells_agg _ rfl | exact cells_int _ _ | exact cells_str _ | exact cells_bool _ | exact cells_slice _ _ _ | exact cells_ptr _ | exact cells_map _ | exact cells_func _ _ _ | exact cells_nilFunc | exact cells_one (by assumption) (by assumption)) (by rfl) (by rfl) ?_)); clear hL; intro wq hL) | ((with_reducible refine gLoadG rfl rfl ?_ ?_); (exact wanted_some rfl rfl rfl (by with_reducible rfl)); (first | (refine ev_load1G (wanted_some rfl rfl rfl rfl) hL rfl rfl HasV.mem (by rfl) ?_) | (refine ev_loadAllG (wanted_some rfl rfl rfl rfl) hL rfl rfl HasV.mem (by rfl) ?_) | (refine ev_loadG_ (wanted_some rfl rfl rfl rfl) hL rfl rfl HasV.mem SegC.seg ?_))))
        go_roundw
        case rel => exact ⟨k + 1, uk / 10, dch uk :: l, by omega, by go_num, by go_num, rfl, HD2, by omega, by first | (simp; done) | (simp; omega), hL.drop⟩
        case measure => simp [intOf]; omega
      · obtain rfl : uk = 0 := by omega
        have t1 : decide ((0 : Int) < ((0 : Nat) : Int)) = false := by simp
        cases l with
        | nil =>
          have hv : (48 : Int) + ((0 : Nat) : Int) % 10 = ((dch 0).toNat : Int) := (dch_val 0).symm
          have HD2 := Lib.hid (HD.out.put (.inr rfl))
          go_wp2_with (first
            | ((with_reducible refine gLit rfl rfl ?_); refine ev_litL (cs := [.int .u8 (dch 0).toNat]) rfl hL rfl rfl rfl (by kernel_rfl) ?_; clear hL; intro gq wq hL)
            | ((with_reducible refine gate (N := 24) rfl ?_); refine ev_b2s (l := [dch 0]) rfl rfl rfl (one_byte (hL.box (by first | exact .head _ | exact .tail _ (.head _) | exact .tail _ (.tail _ (.head _)) | exact .tail _ (.tail _ (.tail _ (.head _))) | exact .tail _ (.tail _ (.tail _ (.tail _ (.head _)))) | exact .tail _ (.tail _ (.tail _ (.tail _ (.tail _ (.head _))))) | exact .tail _ (.tail _ (.tail _ (.tail _ (.tail _ (.tail _ (.head _)))))) | exact .tail _ (.tail _ (.tail _ (.tail _ (.tail _ (.tail _ (.tail _ (.head _))))))) | exact .tail _ (.tail _ (.tail _ (.tail _ (.tail _ (.tail _ (.tail _ (.tail _ (.head _))))))))))) Tryd.underlying5 Tryd.underlying9 ?_)
            | ((with_reducible refine gCat rfl rfl ?_); refine ev_cat (s := ⟨[dch 0].toArray⟩) (u := ⟨([] : List UInt8).toArray⟩) rfl rfl rfl rfl (by simp [ByteArray.size]; omega) ?_; rw [ba_cons])
            | ((with_reducible refine gAlloc rfl rfl ?_); (refine ev_allocL rfl hL rfl (by first | exact cells_agg _ rfl | exact cells_int _ _ | exact cells_str _ | exact cells_bool _ | exact cells_slice _ _ _ | exact cells_ptr _ | exact cells_map _ | exact cells_func _ _ _ | exact cells_nilFunc | exact cells_one (by assumption) (by assumption)) ?_; clear hL; intro gq wq hL)) | ((with_reducible refine gBox rfl rfl ?_); (refine ev_boxL rfl hL rfl rfl (by first | exact cells_agg _ rfl | exact cells_int _ _ | exact cells_str _ | exact cells_bool _ | exact cells_slice _ _ _ | exact cells_ptr _ | exact cells_map _ | exact cells_func _ _ _ | exact cells_nilFunc | exact cells_one (by assumption) (by assumption)) ?_; clear hL; intro gq wq hL)) | ((with_reducible refine gLoad rfl rfl ?_); (first | (refine ev_load1L rfl hL rfl rfl HasV.mem (by rfl) ?_) | (refine ev_loadAllL rfl hL rfl rfl HasV.mem (by rfl) ?_) | (refine ev_loadL rfl hL rfl rfl HasV.mem SegC.seg ?_))) | ((with_reducible refine gStore rfl rfl ?_); (first | (refine ev_storeC rfl hL rfl rfl rfl (by first | exact cells_agg _ rfl | exact cells_int _ _ | exact cells_str _ | exact cells_bool _ | exact cells_slice _ _ _ | exact cells_ptr _ | exact cells_map _ | exact cells_func _ _ _ | exact cells_nilFunc | exact cells_one (by assumption) (by assumption)) (by rfl) ?_) | (refine ev_storeAllC rfl hL rfl rfl rfl (by first | exact cells_agg _ rfl | exact cells_int _ _ | exact cells_str _ | exact cells_bool _ | exact cells_slice _ _ _ | exact cells_ptr _ | exact cells_map _ | exact cells_func _ _ _ | exact cells_nilFunc | exact cells_one (by assumption) (by assumption)) (by rfl) (by rfl) ?_)); clear hL; intro wq hL) | ((with_reducible refine gLoadG rfl rfl ?_ ?_); (exact wanted_some rfl rfl rfl (by with_reducible rfl)); (first | (refine ev_load1G (wanted_some rfl rfl rfl rfl) hL rfl rfl HasV.mem (by rfl) ?_) | (refine ev_loadAllG (wanted_some rfl rfl rfl rfl) hL rfl rfl HasV.mem (by rfl) ?_) | (refine ev_loadG_ (wanted_some rfl rfl rfl rfl) hL rfl rfl HasV.mem SegC.seg ?_))))
          go_roundw
          case rel => exact ⟨k + 1, 0, dch 0 :: [], by omega, by go_num, by go_num, rfl, HD2, by omega, by first | (simp; done) | (simp; omega), hL.drop⟩
          case measure => simp [intOf]; omega
        | cons c l =>
          have HD2 := Lib.hid (HD.out.skip (by simp))
          go_wp2_with (first | ((with_reducible refine gAlloc rfl rfl ?_); (refine ev_allocL rfl hL rfl (by first | exact cells_agg _ rfl | exact cells_int _ _ | exact cells_str _ | exact cells_bool _ | exact cells_slice _ _ _ | exact cells_ptr _ | exact cells_map _ | exact cells_func _ _ _ | exact cells_nilFunc | exact cells_one (by assumption) (by assumption)) ?_; clear hL; intro gq wq hL)) | ((with_reducible refine gBox rfl rfl ?_); (refine ev_boxL rfl hL rfl rfl (by first | exact cells_agg _ rfl | exact cells_int _ _ | exact cells_str _ | exact cells_bool _ | exact cells_slice _ _ _ | exact cells_ptr _ | exact cells_map _ | exact cells_func _ _ _ | exact cells_nilFunc | exact cells_one (by assumption) (by assumption)) ?_; clear hL; intro gq wq hL)) | ((with_reducible refine gLoad rfl rfl ?_); (first | (refine ev_load1L rfl hL rfl rfl HasV.mem (by rfl) ?_) | (refine ev_loadAllL rfl hL rfl rfl HasV.mem (by rfl) ?_) | (refine ev_loadL rfl hL rfl rfl HasV.mem SegC.seg ?_))) | ((with_reducible refine gStore rfl rfl ?_); (first | (refine ev_storeC rfl hL rfl rfl rfl (by first | exact cells_agg _ rfl | exact cells_int _ _ | exact cells_str _ | exact cells_bool _ | exact cells_slice _ _ _ | exact cells_ptr _ | exact cells_map _ | exact cells_func _ _ _ | exact cells_nilFunc | exact cells_one (by assumption) (by assumption)) (by rfl) ?_) | (refine ev_storeAllC rfl hL rfl rfl rfl (by first | exact cells_agg _ rfl | exact cells_int _ _ | exact cells_str _ | exact cells_bool _ | exact cells_slice _ _ _ | exact cells_ptr _ | exact cells_map _ | exact cells_func _ _ _ | exact cells_nilFunc | exact cells_one (by assumption) (by assumption)) (by rfl) (by rfl) ?_)); clear hL; intro wq hL) | ((with_reducible refine gLoadG rfl rfl ?_ ?_); (exact wanted_some rfl rfl rfl (by with_reducible rfl)); (first | (refine ev_load1G (wanted_some rfl rfl rfl rfl) hL rfl rfl HasV.mem (by rfl) ?_) | (refine ev_loadAllG (wanted_some rfl rfl rfl rfl) hL rfl rfl HasV.mem (by rfl) ?_) | (refine ev_loadG_ (wanted_some rfl rfl rfl rfl) hL rfl rfl HasV.mem SegC.seg ?_))))
          go_roundw
          case rel => exact ⟨k + 1, 0, c :: l, by omega, by go_num, rfl, rfl, HD2, by omega, by simp at hll ⊢; omega, hL⟩
          case measure => simp [intOf]; omega
    · obtain rfl : k = 20 := by omega
      have HR := Lib.hid (HD.out.done hub)
      go_wp2_with (first | ((with_reducible refine gAlloc rfl rfl ?_); (refine ev_allocL rfl hL rfl (by first | exact cells_agg _ rfl | exact cells_int _ _ | exact cells_str _ | exact cells_bool _ | exact cells_slice _ _ _ | exact cells_ptr _ | exact cells_map _ | exact cells_func _ _ _ | exact cells_nilFunc | exact cells_one (by assumption) (by assumption)) ?_; clear hL; intro gq wq hL)) | ((with_reducible refine gBox rfl rfl ?_); (refine ev_boxL rfl hL rfl rfl (by first | exact cells_agg _ rfl | exact cells_int _ _ | exact cells_str _ | exact cells_bool _ | exact cells_slice _ _ _ | exact cells_ptr _ | exact cells_map _ | exact cells_func _ _ _ | exact cells_nilFunc | exact cells_one (by assumption) (by assumption)) ?_; clear hL; intro gq wq hL)) | ((with_reducible refine gLoad rfl rfl ?_); (first | (refine ev_load1L rfl hL rfl rfl HasV.mem (by rfl) ?_) | (refine ev_loadAllL rfl hL rfl rfl HasV.mem (by rfl) ?_) | (refine ev_loadL rfl hL rfl rfl HasV.mem SegC.seg ?_))) | ((with_reducible refine gStore rfl rfl ?_); (first | (refine ev_storeC rfl hL rfl rfl rfl (by first | exact cells_agg _ rfl | exact cells_int _ _ | exact cells_str _ | exact cells_bool _ | exact cells_slice _ _ _ | exact cells_ptr _ | exact cells_map _ | exact cells_func _ _ _ | exact cells_nilFunc | exact cells_one (by assumption) (by assumption)) (by rfl) ?_) | (refine ev_storeAllC rfl hL rfl rfl rfl (by first | exact cells_agg _ rfl | exact cells_int _ _ | exact cells_str _ | exact cells_bool _ | exact cells_slice _ _ _ | exact cells_ptr _ | exact cells_map _ | exact cells_func _ _ _ | exact cells_nilFunc | exact cells_one (by assumption) (by assumption)) (by rfl) (by rfl) ?_)); clear hL; intro wq hL) | ((with_reducible refine gLoadG rfl rfl ?_ ?_); (exact wanted_some rfl rfl rfl (by with_reducible rfl)); (first | (refine ev_load1G (wanted_some rfl rfl rfl rfl) hL rfl rfl HasV.mem (by rfl) ?_) | (refine ev_loadAllG (wanted_some rfl rfl rfl rfl) hL rfl rfl HasV.mem (by rfl) ?_) | (refine ev_loadG_ (wanted_some rfl rfl rfl rfl) hL rfl rfl HasV.mem SegC.seg ?_))))
      go_ret
      exact ⟨congrArg (fun s => Ending.returned (Value.string s)) (by have hu := HU.out; unfold itoaB Lib.itoa; rw [if_neg (by omega), ← hu, HR.out]), hL.below⟩
theorem ref_digits (n : Int) (w : World) (h0 : -9223372036854775808 ≤ n) (h1 : n ≤ 9223372036854775807) :
    Calls Tryd.prog 57 #[.int .i64 n] w fun e w' => e = .returned (.string (itoaB n)) ∧ Below w.heap.size w w' := by
  by_cases hn : n < 0
  · exact ref_digits_neg n w h0 h1 hn
  · exact ref_digits_pos n w h0 h1 hn
end Go.Proofs.YtbkffeabikjnhaaDoor
