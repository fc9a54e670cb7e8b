/- octet.Read with the closure of msg.Get, on any bytes. -/
import Derived.Test.YtbkffeabikjnhaaDoorRd3
import Derived.Test.YtbkffeabikjnhaaDoorGet
namespace Go.Proofs.YtbkffeabikjnhaaDoor
open Go.RowKit

theorem assert_fault (v : Value) (w : World) : (Instr.typeAssert (.iface 145 v) 20 145 true).run Tryd.prog w = .ok (.tuple #[v, .bool true]) w := by kernel_rfl
theorem open1 {w : World} {g : Nat} {cs : List Value} {t : TypeId} (hx : Box w g cs.toArray t) : Loc w (· = g) w [var g cs t] := by
  refine ⟨.refl _ _, fun i hi => ?_, fun i hi k hk => ?_, .cons (by simp) .nil⟩
  · rw [List.mem_singleton.1 hi]; exact var_at hx
  · rw [List.mem_singleton.1 hi] at hk; exact .inr hk
set_option maxRecDepth 20000 in
/-- What is deferred, somebody panicking with a fault: it is caught. -/
theorem read_deferP (ge gv gr : Nat) (s : ByteArray) (b : Bool) (c x : Int) (w : World) (hv : Box w gv #[.pointer (some ⟨ge, 0, none⟩)] 99) (he : Box w ge #[.string s, .bool b] 143) (hr : Box w gr #[.int .i64 x] 42) (n1 : ge ≠ gv) (n2 : ge ≠ gr) (n3 : gv ≠ gr) :
    CallsD Tryd.prog 107 #[.pointer (some ⟨gv, 0, none⟩), .pointer (some ⟨gr, 0, none⟩)] (.panicking (flt c)) w fun e u' w' => u' = .panicking [{ v := .iface 145 (.agg #[.int .i64 c]), recovered := true }] ∧ e = .returned (.tuple #[]) ∧ Box w' gr #[.int .i64 c] 42 ∧ Put2 w w' ge gr := by
  have c0 := Box.cell hv 0
  have c1 := Box.cell he 1
  have f1 := Box.frozen he 1
  refine callsD_of_wpS Tryd.func107 rfl fun c₀ cs hu => ?_
  have c0' : w.cell? ⟨gv, 0, none⟩ = some (.pointer (some ⟨ge, 0, none⟩)) := c0
  have c1' : w.cell? ⟨ge, 1, none⟩ = some (.bool b) := c1
  clear c0 c1
  apply wpS_seq
  refine wpS_of_wp ?_
  simp only [Tryd.ntmps107, List.size_toArray, List.length_cons, List.length_nil, Nat.reduceAdd, Nat.reduceSub, Array.replicate_succ, Array.replicate_zero, List.push_toArray, List.append_toArray, List.nil_append, List.cons_append]
  go_wp2
  simp only [Exit.thenS]
  have hx2 := hr.put (Box.setPut w ge 1 (.bool false)) n2.symm
  have hp2 := (Box.setPut w ge 1 (.bool false)).two gr
  generalize w.setCell ⟨ge, 1, none⟩ (.bool false) = w2 at *
  apply wpS_seq
  apply wpS_region
  simp [wpOpsS, go_sem, recoverD, hu, flt, Exit.thenS]
  refine wpS_of_wp ?_
  clear c0' c1' f1 hv he hr
  have hL : Loc w2 (· = gr) w2 [var gr [.int .i64 x] 42] := open1 hx2
  have ha := assert_fault
  go_wp2_with (first | ((with_reducible refine gAlloc rfl rfl ?_); (refine ev_allocL rfl hL rfl (by first | exact cells_agg _ rfl | exact cells_int _ _ | exact cells_str _ | exact cells_bool _ | exact cells_slice _ _ _ | exact cells_ptr _ | exact cells_map _ | exact cells_func _ _ _ | exact cells_nilFunc | exact cells_one (by assumption) (by assumption)) ?_; clear hL; intro gq wq hL)) | ((with_reducible refine gBox rfl rfl ?_); (refine ev_boxL rfl hL rfl rfl (by first | exact cells_agg _ rfl | exact cells_int _ _ | exact cells_str _ | exact cells_bool _ | exact cells_slice _ _ _ | exact cells_ptr _ | exact cells_map _ | exact cells_func _ _ _ | exact cells_nilFunc | exact cells_one (by assumption) (by assumption)) ?_; clear hL; intro gq wq hL)) | ((with_reducible refine gLoad rfl rfl ?_); (first | (refine ev_load1L rfl hL rfl rfl HasV.mem (by rfl) ?_) | (refine ev_loadAllL rfl hL rfl rfl HasV.mem (by rfl) ?_) | (refine ev_loadL rfl hL rfl rfl HasV.mem SegC.seg ?_))) | ((with_reducible refine gStore rfl rfl ?_); (first | (refine ev_storeC rfl hL rfl rfl rfl (by first | exact cells_agg _ rfl | exact cells_int _ _ | exact cells_str _ | exact cells_bool _ | exact cells_slice _ _ _ | exact cells_ptr _ | exact cells_map _ | exact cells_func _ _ _ | exact cells_nilFunc | exact cells_one (by assumption) (by assumption)) (by rfl) ?_) | (refine ev_storeAllC rfl hL rfl rfl rfl (by first | exact cells_agg _ rfl | exact cells_int _ _ | exact cells_str _ | exact cells_bool _ | exact cells_slice _ _ _ | exact cells_ptr _ | exact cells_map _ | exact cells_func _ _ _ | exact cells_nilFunc | exact cells_one (by assumption) (by assumption)) (by rfl) (by rfl) ?_)); clear hL; intro wq hL) | ((with_reducible refine gLoadG rfl rfl ?_ ?_); (exact wanted_some rfl rfl rfl (by with_reducible rfl)); (first | (refine ev_load1G (wanted_some rfl rfl rfl rfl) hL rfl rfl HasV.mem (by rfl) ?_) | (refine ev_loadAllG (wanted_some rfl rfl rfl rfl) hL rfl rfl HasV.mem (by rfl) ?_) | (refine ev_loadG_ (wanted_some rfl rfl rfl rfl) hL rfl rfl HasV.mem SegC.seg ?_))))
  have hb1 : Box wq gr #[.int .i64 c] 42 := hL.box HasV.mem
  have hP := hp2.trans ((Mod.put hL.mod).two' ge)
  clear hL ha hx2 hp2
  exact ⟨rfl, _, rfl, .tuple #[], (by simp [results, Tryd.results107]), rfl, rfl, hb1, hP⟩
theorem Body.of {s : ByteArray} {m : Msg} (h : getM s = some (m, ⟨#[]⟩)) (hz : s.size ≤ 100000000000) (gm : Nat) : Body m s gm := by
  intro g w he hx hne
  refine (msg_body g gm s w he hx hne hz).mono fun e w' hA => ?_
  rw [h] at hA
  exact ⟨hA.1, hA.2.1, hA.2.2.1, hA.2.2.2.os, hA.2.2.2.tape, hA.2.2.2.output, hA.2.2.2.size, fun k hk h1 h2 => hA.2.2.2.block k hk fun e => e.elim h1 h2⟩
/-- It throws, or leaves something. -/
def BodyNo (s : ByteArray) (gm : Nat) (left : Option ByteArray) : Prop := ∀ (g : Nat) (w : World), EyeAt w g s → Box w gm Msg.zero.arr 41 → g ≠ gm →
  Calls Tryd.prog 72 #[.pointer (some ⟨g, 0, none⟩), .pointer (some ⟨gm, 0, none⟩)] w fun e w' => (match left with | none => (∃ c, c ≠ 0 ∧ e = .panicked (flt c)) ∧ ∃ s', EyeAt w' g s' | some s' => e = .returned (.tuple #[]) ∧ EyeAt w' g s') ∧ Put2 w w' g gm
theorem BodyNo.of (s : ByteArray) (hz : s.size ≤ 100000000000) (gm : Nat) : BodyNo s gm ((getM s).map (·.2)) := by
  intro g w he hx hne
  refine (msg_body g gm s w he hx hne hz).mono fun e w' hA => ?_
  cases h : getM s with
  | none => rw [h] at hA; exact ⟨⟨hA.1, hA.2.1⟩, hA.2.2.os, hA.2.2.tape, hA.2.2.output, hA.2.2.size, fun k hk h1 h2 => hA.2.2.block k hk fun e => e.elim h1 h2⟩
  | some p => rw [h] at hA; exact ⟨⟨hA.1, hA.2.1⟩, hA.2.2.2.os, hA.2.2.2.tape, hA.2.2.2.output, hA.2.2.2.size, fun k hk h1 h2 => hA.2.2.2.block k hk fun e => e.elim h1 h2⟩
theorem ba_nonempty {s : ByteArray} (h : s ≠ ⟨#[]⟩) : (!s.toList.isEmpty) = true := by
  rw [ByteArray.toList_eq]
  cases hl : s.data.toList with
  | nil => exact absurd (ba_ext (by rw [hl])) h
  | cons _ _ => rfl
theorem put_over {w w6 w7 w8 : World} {g9 g4 gm : Nat} (h6 : Below w.heap.size w w6) (h7 : Put2 w6 w7 g9 gm) (h8 : Put2 w7 w8 g9 g4) (n9 : w.heap.size ≤ g9) (n4 : w.heap.size ≤ g4) : Put w w8 gm :=
  ⟨h8.os.trans (h7.os.trans h6.os), h8.tape.trans (h7.tape.trans h6.tape), h8.output.trans (h7.output.trans h6.output), Nat.le_trans h6.size (Nat.le_trans h7.size h8.size), fun k hk hne =>
    (h8.block k (Nat.lt_of_lt_of_le hk (Nat.le_trans h6.size h7.size)) (by omega) (by omega)).trans ((h7.block k (Nat.lt_of_lt_of_le hk h6.size) (by omega) hne).trans (h6.block k hk))⟩
set_option maxRecDepth 20000 in
theorem read_no (l : List UInt8) (gm : Nat) (v : Value) (w : World) (hb : BodyNo ⟨l.toArray⟩ gm none) (hr : encB.R w v l) (hm : Box w gm Msg.zero.arr 41) :
    Calls Tryd.prog 71 #[v, .func (.func 72) #[] #[.pointer (some ⟨gm, 0, none⟩)]] w fun e w' => (∃ c, c ≠ 0 ∧ e = .returned (.int .i64 c)) ∧ Put w w' gm := by
  have hmf : ∀ (fn : Fn) (first cap : Array Value) (w : World), (Instr.makeFunc fn first cap).run Tryd.prog w = .ok (.func fn first cap) w := fun _ _ _ _ => rfl
  have hconv : ∀ w1, Below w.heap.size w w1 → (convert 54 9 v).run Tryd.prog w1 = .ok (.string ⟨l.toArray⟩) w1 := fun w1 hb1 => conv_bytes (hr.below hb1) 54 9 5 Tryd.underlying54 Tryd.underlying5 Tryd.underlying9
  have hnf := fn_neq_nil
  have HB := hide hb
  clear hb
  go_enter_defers Tryd.func71, Tryd.ntmps71
  go_wp2_with (first
    | ((with_reducible refine gate (N := 4) rfl ?_); refine ev_alloc1 rfl 42 rfl zeroErrno rfl ?_; intro g4 w4 hx4 hb4 hg4 hl4; have hc4 := hconv w4 hb4; clear hconv)
    | ((with_reducible refine gate (N := 9) rfl ?_); refine ev_box rfl 143 (.tmp 8) rfl rfl ?_; intro g9 w9 hx9 hb9 hg9 hl9)
    | ((with_reducible refine gate (N := 5) rfl ?_); refine ev_alloc1 rfl 99 rfl zeroPEye rfl ?_; intro g5 w5 hx5 hb5 hg5 hl5; refine stop ?_))
  unfold Stop
  refine ev_set rfl 99 (.tmp 5) (.tmp 9) rfl rfl hx5 (v := .pointer (some ⟨g9, 0, none⟩)) (cs' := #[.pointer (some ⟨g9, 0, none⟩)]) rfl (by simp [Value.cells, Value.oneCell']) sizePEye (by simp [Value.cells]) (by simp [Value.cells]) ?_
  intro w6 hx6 hp6
  have n95 : g9 ≠ g5 := by omega
  have n45 : g4 ≠ g5 := by have := hb9.size; omega
  have n49 : g4 ≠ g9 := by omega
  have hlm := hm.lt
  have nm5 : gm ≠ g5 := by have := hb4.size; have := hb9.size; omega
  have nm9 : gm ≠ g9 := by have := hb4.size; omega
  have nm4 : gm ≠ g4 := by omega
  have he6 : EyeAt w6 g9 ⟨l.toArray⟩ := (hx9.below hb5).put hp6 n95
  have hm6 := ((hm.below hb4).below hb9 |>.below hb5).put hp6 nm5
  have hx46 := ((hx4.below hb9).below hb5).put hp6 n45
  have hge9 : w.heap.size ≤ g9 := by have := hb4.size; omega
  have hge5 : w.heap.size ≤ g5 := by have := hb4.size; have := hb9.size; omega
  have HB6 := Put.below (bl_then (bl_then hb4 hb9) hb5) hp6 hge5
  clear hx4 hx5 hm hr hb4 hb9 hb5 hp6 hc4 hl4 hg9 hl9 hg5 hl5
  have c5 := hx6.cell
  have he := hide (unhide HB g9 w6 he6 hm6 nm9.symm)
  clear HB
  go_wp2_with (first
    | (go_at_call 72; (with_reducible refine (unhide he).mono ?_); rintro e w7 ⟨⟨⟨c, hc, rfl⟩, s7, he7⟩, hp7⟩; refine stop ?_))
  unfold Stop
  have hx57 := hx6.put2 hp7 n95.symm nm5.symm
  have hx47 := hx46.put2 hp7 n49 nm4.symm
  refine leaves_cons (f := 107) (args := #[.pointer (some ⟨g5, 0, none⟩), .pointer (some ⟨g4, 0, none⟩)]) (by simp) (by simp [go_sem]) ?_
  refine (read_deferP g9 g5 g4 s7 true c 0 w7 hx57 he7 hx47 n95 n49.symm n45.symm).mono ?_
  rintro e u' w8 ⟨rfl, rfl, hx8, hp8⟩
  have c4 : w8.cell? ⟨g4, 0, none⟩ = some (.int .i64 c) := hx8.cell 0
  refine ⟨.int .i64 c, ?_, ⟨c, hc, rfl⟩, put_over HB6 hp7 hp8 hge9 hg4⟩
  simp [results, Tryd.results71, go_sem, c4]
set_option maxRecDepth 20000 in
theorem read_more (s7 : ByteArray) (hs7 : s7 ≠ ⟨#[]⟩) (l : List UInt8) (gm : Nat) (v : Value) (w : World) (hb : BodyNo ⟨l.toArray⟩ gm (some s7)) (hr : encB.R w v l) (hm : Box w gm Msg.zero.arr 41) :
    Calls Tryd.prog 71 #[v, .func (.func 72) #[] #[.pointer (some ⟨gm, 0, none⟩)]] w fun e w' => (∃ c, c ≠ 0 ∧ e = .returned (.int .i64 c)) ∧ Put w w' gm := by
  have hmf : ∀ (fn : Fn) (first cap : Array Value) (w : World), (Instr.makeFunc fn first cap).run Tryd.prog w = .ok (.func fn first cap) w := fun _ _ _ _ => rfl
  have hconv : ∀ w1, Below w.heap.size w w1 → (convert 54 9 v).run Tryd.prog w1 = .ok (.string ⟨l.toArray⟩) w1 := fun w1 hb1 => conv_bytes (hr.below hb1) 54 9 5 Tryd.underlying54 Tryd.underlying5 Tryd.underlying9
  have hnf := fn_neq_nil
  have HB := hide hb
  clear hb
  go_enter_defers Tryd.func71, Tryd.ntmps71
  go_wp2_with (first
    | ((with_reducible refine gate (N := 4) rfl ?_); refine ev_alloc1 rfl 42 rfl zeroErrno rfl ?_; intro g4 w4 hx4 hb4 hg4 hl4; have hc4 := hconv w4 hb4; clear hconv)
    | ((with_reducible refine gate (N := 9) rfl ?_); refine ev_box rfl 143 (.tmp 8) rfl rfl ?_; intro g9 w9 hx9 hb9 hg9 hl9)
    | ((with_reducible refine gate (N := 5) rfl ?_); refine ev_alloc1 rfl 99 rfl zeroPEye rfl ?_; intro g5 w5 hx5 hb5 hg5 hl5; refine stop ?_))
  unfold Stop
  refine ev_set rfl 99 (.tmp 5) (.tmp 9) rfl rfl hx5 (v := .pointer (some ⟨g9, 0, none⟩)) (cs' := #[.pointer (some ⟨g9, 0, none⟩)]) rfl (by simp [Value.cells, Value.oneCell']) sizePEye (by simp [Value.cells]) (by simp [Value.cells]) ?_
  intro w6 hx6 hp6
  have n95 : g9 ≠ g5 := by omega
  have n45 : g4 ≠ g5 := by have := hb9.size; omega
  have n49 : g4 ≠ g9 := by omega
  have hlm := hm.lt
  have nm5 : gm ≠ g5 := by have := hb4.size; have := hb9.size; omega
  have nm9 : gm ≠ g9 := by have := hb4.size; omega
  have nm4 : gm ≠ g4 := by omega
  have he6 : EyeAt w6 g9 ⟨l.toArray⟩ := (hx9.below hb5).put hp6 n95
  have hm6 := ((hm.below hb4).below hb9 |>.below hb5).put hp6 nm5
  have hx46 := ((hx4.below hb9).below hb5).put hp6 n45
  have hge9 : w.heap.size ≤ g9 := by have := hb4.size; omega
  have hge5 : w.heap.size ≤ g5 := by have := hb4.size; have := hb9.size; omega
  have HB6 := Put.below (bl_then (bl_then hb4 hb9) hb5) hp6 hge5
  clear hx4 hx5 hm hr hb4 hb9 hb5 hp6 hc4 hl4 hg9 hl9 hg5 hl5
  have c5 := hx6.cell
  have he := hide (unhide HB g9 w6 he6 hm6 nm9.symm)
  clear HB
  go_wp2_with (first
    | (go_at_call 72; (with_reducible refine (unhide he).mono ?_); rintro e w7 ⟨⟨rfl, he7⟩, hp7⟩; clear he; refine stop ?_))
  unfold Stop
  have hx57 := hx6.put2 hp7 n95.symm nm5.symm
  have hx47 := hx46.put2 hp7 n49 nm4.symm
  have c9 := Box.cell he7
  clear c5
  have c5 := hx57.cell
  have tn := ba_nonempty hs7
  go_wp2_with (first
    | (go_at_call 108; have hq := eye_fail g9 s7 201 w7 he7; (with_reducible refine hq.mono ?_); rintro e w' ⟨rfl, rfl⟩; refine stop ?_))
  unfold Stop
  have hc : (201 : Int) ≠ 0 := by decide
  generalize (201 : Int) = c at *
  refine leaves_cons (f := 107) (args := #[.pointer (some ⟨g5, 0, none⟩), .pointer (some ⟨g4, 0, none⟩)]) (by simp) (by simp [go_sem]) ?_
  refine (read_deferP g9 g5 g4 s7 true c 0 w7 hx57 he7 hx47 n95 n49.symm n45.symm).mono ?_
  rintro e u' w8 ⟨rfl, rfl, hx8, hp8⟩
  have c4 : w8.cell? ⟨g4, 0, none⟩ = some (.int .i64 c) := hx8.cell 0
  refine ⟨.int .i64 c, ?_, ⟨c, hc, rfl⟩, put_over HB6 hp7 hp8 hge9 hg4⟩
  simp [results, Tryd.results71, go_sem, c4]
theorem read_any (l : List UInt8) (gm : Nat) (v : Value) (w : World) (hz : l.length ≤ 100000000000) (hr : encB.R w v l) (hm : Box w gm Msg.zero.arr 41) :
    Calls Tryd.prog 71 #[v, .func (.func 72) #[] #[.pointer (some ⟨gm, 0, none⟩)]] w fun e w' =>
      ((∃ m, getM ⟨l.toArray⟩ = some (m, ⟨#[]⟩) ∧ e = .returned (.int .i64 0) ∧ Box w' gm m.arr 41) ∨ ((∀ m, getM ⟨l.toArray⟩ ≠ some (m, ⟨#[]⟩)) ∧ ∃ c, c ≠ 0 ∧ e = .returned (.int .i64 c))) ∧ Put w w' gm := by
  have hz' : (⟨l.toArray⟩ : ByteArray).size ≤ 100000000000 := by show l.toArray.size ≤ _; simpa using hz
  have hb := BodyNo.of ⟨l.toArray⟩ hz' gm
  cases h : getM ⟨l.toArray⟩ with
  | none =>
    rw [h] at hb
    exact (read_no l gm v w hb hr hm).mono fun e w' ⟨h1, h2⟩ => ⟨.inr ⟨by simp, h1⟩, h2⟩
  | some p =>
    obtain ⟨m, s'⟩ := p
    by_cases hs : s' = ⟨#[]⟩
    · subst hs
      exact (read_ok m l gm v w (Body.of h hz' gm) hr hm).mono fun e w' ⟨h1, h2, h3⟩ => ⟨.inl ⟨m, rfl, h1, h2⟩, h3⟩
    · rw [h] at hb
      refine (read_more s' hs l gm v w hb hr hm).mono fun e w' ⟨h1, h2⟩ => ⟨.inr ⟨fun m' e => hs ?_, h1⟩, h2⟩
      simp only [Option.some.injEq, Prod.mk.injEq] at e
      exact e.2
end Go.Proofs.YtbkffeabikjnhaaDoor
