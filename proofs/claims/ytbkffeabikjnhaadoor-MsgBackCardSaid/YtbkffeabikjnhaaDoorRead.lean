/- octet.Read with the closure of msg.Get, where the bytes can be. -/
import Derived.Test.YtbkffeabikjnhaaDoorBody
import Derived.Test.YtbkffeabikjnhaaDoorPut
import Derived.Recover
namespace Go.Proofs.YtbkffeabikjnhaaDoor
open Go.RowKit

theorem ev_alloc1 {P : Program} {ops : Array Oper} {rest : List Oper} {o : Oper} {a : Act} {Q : Exit → Act → World → Prop} {W : World} (hgd : o.guard = none) (t : TypeId) (ho : o.op = .alloc t) {z : Value} (hz : (P.info? t).map (·.zero) = some (some z)) (hc : z.cells = #[z])
    (h : ∀ g w1, Box w1 g #[z] t → Below W.heap.size W w1 → W.heap.size ≤ g → g < w1.heap.size → wpList P ops Q rest (a.put o.dst (.pointer (some ⟨g, 0, none⟩))) w1) : wpList P ops Q (o :: rest) a W := by
  refine event hgd (v := .pointer (some ⟨W.heap.size, 0, none⟩)) (w1 := W.alloc (.cells #[z] t)) ?_ (h _ _ (Box.new W #[z] t) (bl_alloc (Below.refl _ _) _) (Nat.le_refl _) (by simp))
  obtain ⟨i, hi, hzz⟩ := Option.map_eq_some_iff.1 hz
  simp [execOp, ho, Instr.alloc, zeroValue, typeInfo, hi, hzz, hc, newVar, newRow]
theorem zeroErrno : (Tryd.prog.info? 42).map (·.zero) = some (some (.int .i64 0)) := by kernel_rfl
theorem zeroPEye : (Tryd.prog.info? 99).map (·.zero) = some (some (.pointer none)) := by kernel_rfl

theorem sizePEye : (Tryd.prog.info? 99).map (·.size) = some 1 := by kernel_rfl
/-- What is deferred, nobody panicking: the eye is shut. -/
theorem read_defer (ge gv gr : Nat) (s : ByteArray) (b : Bool) (_ : Value) (w : World) (hv : Box w gv #[.pointer (some ⟨ge, 0, none⟩)] 99) (he : Box w ge #[.string s, .bool b] 143) (_ : ge ≠ gv) :
    CallsD Tryd.prog 107 #[.pointer (some ⟨gv, 0, none⟩), .pointer (some ⟨gr, 0, none⟩)] .returning w fun e u' w' => u' = .returning ∧ (e = .returned (.tuple #[]) ∧ w' = w.setCell ⟨ge, 1, none⟩ (.bool false)) := by
  have c0 := Box.cell hv 0
  have c1 := Box.cell he 1
  have f1 := Box.frozen he 1
  refine callsD_of_wpS Tryd.func107 rfl fun c₀ cs hu => ?_
  have c0' : w.cell? ⟨gv, 0, none⟩ = some (.pointer (some ⟨ge, 0, none⟩)) := c0
  have c1' : w.cell? ⟨ge, 1, none⟩ = some (.bool b) := c1
  clear c0 c1
  apply wpS_seq
  refine wpS_of_wp ?_
  simp only [Tryd.ntmps107, List.size_toArray, List.length_cons, List.length_nil, Nat.reduceAdd, Nat.reduceSub, Array.replicate_succ, Array.replicate_zero, List.push_toArray, List.append_toArray, List.nil_append, List.cons_append]
  go_wp2
  simp only [Exit.thenS]
  apply wpS_seq
  apply wpS_region
  simp [wpOpsS, go_sem, recoverD, hu, Exit.thenS]
  refine wpS_of_wp ?_
  go_wp2
  clear c0' c1' f1 hv he
  cases c₀
  simp_all [bodyPostS, results, Tryd.results107]

theorem fn_neq_nil (f : Fn) (a c : Array Value) : ∀ w, (binOp .neq 103 (.func f a c) .nilFunc).run Tryd.prog w = .ok (.bool true) w := by
  intro w
  have h : ∀ d, (Op.equalIn (d + 1) 103 (.func f a c) .nilFunc).run Tryd.prog w = .ok false w := fun d => by
    simp [Op.equalIn, run_underlying Tryd.underlying103]
  have h2 := h 9999
  simp only [binOp, Op.equal, Op.maxDepth, Sem.run_bind]
  rw [h2]
  rfl
/-- What the closure is to do to the eye and to m. -/
def Body (r : Msg) (s : ByteArray) (gm : Nat) : Prop := ∀ (g : Nat) (w : World), EyeAt w g s → Box w gm Msg.zero.arr 41 → g ≠ gm →
  Calls Tryd.prog 72 #[.pointer (some ⟨g, 0, none⟩), .pointer (some ⟨gm, 0, none⟩)] w fun e w' => e = .returned (.tuple #[]) ∧ EyeAt w' g ⟨#[]⟩ ∧ Box w' gm r.arr 41 ∧ Put2 w w' g gm

theorem read_ok (r : Msg) (l : List UInt8) (gm : Nat) (v : Value) (w : World) (hb : Body r ⟨l.toArray⟩ gm) (hr : encB.R w v l) (hm : Box w gm Msg.zero.arr 41) :
    Calls Tryd.prog 71 #[v, .func (.func 72) #[] #[.pointer (some ⟨gm, 0, none⟩)]] w fun e w' => e = .returned (.int .i64 0) ∧ Box w' gm r.arr 41 ∧ Put w w' gm := by
  have hmf : ∀ (fn : Fn) (first cap : Array Value) (w : World), (Instr.makeFunc fn first cap).run Tryd.prog w = .ok (.func fn first cap) w := fun _ _ _ _ => rfl
  have hconv : ∀ w1, Below w.heap.size w w1 → (convert 54 9 v).run Tryd.prog w1 = .ok (.string ⟨l.toArray⟩) w1 := fun w1 hb1 => conv_bytes (hr.below hb1) 54 9 5 Tryd.underlying54 Tryd.underlying5 Tryd.underlying9
  have hnf := fn_neq_nil
  have HB := hide hb
  clear hb
  go_enter_defers Tryd.func71, Tryd.ntmps71
  go_wp2_with (first
    | ((with_reducible refine gate (N := 4) rfl ?_); refine ev_alloc1 rfl 42 rfl zeroErrno rfl ?_; intro g4 w4 hx4 hb4 hg4 hl4; have hc4 := hconv w4 hb4; clear hconv)
    | ((with_reducible refine gate (N := 9) rfl ?_); refine ev_box rfl 143 (.tmp 8) rfl rfl ?_; intro g9 w9 hx9 hb9 hg9 hl9)
    | ((with_reducible refine gate (N := 5) rfl ?_); refine ev_alloc1 rfl 99 rfl zeroPEye rfl ?_; intro g5 w5 hx5 hb5 hg5 hl5; refine stop ?_))
  unfold Stop
  refine ev_set rfl 99 (.tmp 5) (.tmp 9) rfl rfl hx5 (v := .pointer (some ⟨g9, 0, none⟩)) (cs' := #[.pointer (some ⟨g9, 0, none⟩)]) rfl (by simp [Value.cells, Value.oneCell']) sizePEye (by simp [Value.cells]) (by simp [Value.cells]) ?_
  intro w6 hx6 hp6
  have n95 : g9 ≠ g5 := by omega
  have n45 : g4 ≠ g5 := by have := hb9.size; omega
  have n49 : g4 ≠ g9 := by omega
  have hlm := hm.lt
  have nm5 : gm ≠ g5 := by have := hb4.size; have := hb9.size; omega
  have nm9 : gm ≠ g9 := by have := hb4.size; omega
  have nm4 : gm ≠ g4 := by omega
  have he6 : EyeAt w6 g9 ⟨l.toArray⟩ := (hx9.below hb5).put hp6 n95
  have hm6 := ((hm.below hb4).below hb9 |>.below hb5).put hp6 nm5
  have hx46 := ((hx4.below hb9).below hb5).put hp6 n45
  have hge9 : w.heap.size ≤ g9 := by have := hb4.size; omega
  have hge5 : w.heap.size ≤ g5 := by have := hb4.size; have := hb9.size; omega
  have HB6 := Put.below (bl_then (bl_then hb4 hb9) hb5) hp6 hge5
  clear hx4 hx5 hx9 hm hr hb4 hb9 hb5 hp6 hc4 hl4 hg9 hl9 hg5 hl5
  have c5 := hx6.cell
  have he := hide (unhide HB g9 w6 he6 hm6 nm9.symm)
  clear HB
  go_wp2_with (first
    | (go_at_call 72; (with_reducible refine (unhide he).mono ?_); rintro e w7 ⟨rfl, he7, hm7, hp7⟩; clear he; have hx57 := hx6.put2 hp7 n95.symm nm5.symm; have hx47 := hx46.put2 hp7 n49 nm4.symm; clear c5; have c5 := hx57.cell; have c9 := Box.cell he7; have c4 := hx47.cell; have f4 := hx47.frozen; refine stop ?_))
  unfold Stop
  go_wp2
  clear c5 c9 c4 f4 hmf hnf
  have hx8 := hx47.set_ 0 (.int .i64 0) (cs' := #[.int .i64 0]) rfl
  have hp8 := Box.setPut w7 g4 0 (.int .i64 0)
  have hv8 := hx57.put hp8 n45.symm
  have he8 : EyeAt _ g9 ⟨#[]⟩ := Box.put he7 hp8 n49.symm
  have hm8 := hm7.put hp8 nm4
  have hP7 : Put w w7 gm := ⟨hp7.os.trans HB6.os, hp7.tape.trans HB6.tape, hp7.output.trans HB6.output, Nat.le_trans HB6.size hp7.size, fun k hk h1 => (hp7.block k (Nat.lt_of_lt_of_le hk HB6.size) (by omega) h1).trans (HB6.block k hk)⟩
  have hP8 := hP7.newPut hp8 hg4
  generalize w7.setCell ⟨g4, 0, none⟩ (.int .i64 0) = w8 at *
  refine leaves_cons (f := 107) (args := #[.pointer (some ⟨g5, 0, none⟩), .pointer (some ⟨g4, 0, none⟩)]) (by simp) (by simp [go_sem]) ?_
  refine (read_defer g9 g5 g4 ⟨#[]⟩ true (.tuple #[]) w8 hv8 he8 n95).mono ?_
  rintro e u' w'' ⟨rfl, rfl, rfl⟩
  have hx9 := hx8.put (Box.setPut w8 g9 1 (.bool false)) n49
  have hm9 := hm8.put (Box.setPut w8 g9 1 (.bool false)) nm9
  have hP9 := hP8.newSet (p := ⟨g9, 1, none⟩) hge9 (.bool false)
  generalize w8.setCell ⟨g9, 1, none⟩ (.bool false) = w9 at *
  have c4 : w9.cell? ⟨g4, 0, none⟩ = some (.int .i64 0) := hx9.cell 0
  refine ⟨.int .i64 0, ?_, rfl, hm9, hP9⟩
  simp [results, Tryd.results71, go_sem, c4]
end Go.Proofs.YtbkffeabikjnhaaDoor
