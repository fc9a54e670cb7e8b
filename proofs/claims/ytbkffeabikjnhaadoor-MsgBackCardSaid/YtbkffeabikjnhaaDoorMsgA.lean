/- Messages: data; Check and what it calls. -/
import Derived.Test.YtbkffeabikjnhaaDoorProg
import Derived.Test.YtbkffeabikjnhaaDoorMsg
import Derived.Test.YtbkffeabikjnhaaDoorEv
namespace Go.Proofs.YtbkffeabikjnhaaDoor
open Go.RowKit

structure Mk where
  (boot n : Int)
  deriving DecidableEq
abbrev Mk.val (m : Mk) : Value := .agg #[.int .i64 m.boot, .int .i64 m.n]
structure Msg where
  (kind src dst vol : Int)
  (base mark : Mk)
  (index total : Int)
  (seen : V8)
  data : ByteArray
  deriving DecidableEq
def Msg.cells (m : Msg) : List Value := [.int .i64 m.kind, .int .i64 m.src, .int .i64 m.dst, .int .i64 m.vol, .int .i64 m.base.boot, .int .i64 m.base.n, .int .i64 m.mark.boot, .int .i64 m.mark.n, .int .i64 m.index, .int .i64 m.total,
  .int .i64 m.seen.a0, .int .i64 m.seen.a1, .int .i64 m.seen.a2, .int .i64 m.seen.a3, .int .i64 m.seen.a4, .int .i64 m.seen.a5, .int .i64 m.seen.a6, .int .i64 m.seen.a7, .string m.data]
abbrev Msg.val (m : Msg) : Value := .agg #[.int .i64 m.kind, .int .i64 m.src, .int .i64 m.dst, .int .i64 m.vol, .int .i64 m.base.boot, .int .i64 m.base.n, .int .i64 m.mark.boot, .int .i64 m.mark.n, .int .i64 m.index, .int .i64 m.total,
  .int .i64 m.seen.a0, .int .i64 m.seen.a1, .int .i64 m.seen.a2, .int .i64 m.seen.a3, .int .i64 m.seen.a4, .int .i64 m.seen.a5, .int .i64 m.seen.a6, .int .i64 m.seen.a7, .string m.data]

theorem mark_eq (a b : Mk) : ∀ w, (binOp .eql 39 a.val b.val).run Tryd.prog w = .ok (.bool (decide (a = b))) w := by
  have h : eqCells Tryd.prog 3 39 [.int .i64 a.boot, .int .i64 a.n] [.int .i64 b.boot, .int .i64 b.n] = some (a.boot == b.boot && (a.n == b.n && true)) := by kernel_rfl
  have e : (a.boot == b.boot && (a.n == b.n && true)) = decide (a = b) := by
    obtain ⟨a1, a2⟩ := a; obtain ⟨b1, b2⟩ := b
    rw [Bool.eq_iff_iff]; simp
  rw [e] at h
  exact run_eql_cells 3 (by decide) (by kernel_rfl) h
def beqMsg (a b : Msg) : Bool := a.kind == b.kind && (a.src == b.src && (a.dst == b.dst && (a.vol == b.vol && ((a.base.boot == b.base.boot && (a.base.n == b.base.n && true)) && ((a.mark.boot == b.mark.boot && (a.mark.n == b.mark.n && true)) && (a.index == b.index && (a.total == b.total && (
    (a.seen.a0 == b.seen.a0 && (a.seen.a1 == b.seen.a1 && (a.seen.a2 == b.seen.a2 && (a.seen.a3 == b.seen.a3 && (a.seen.a4 == b.seen.a4 && (a.seen.a5 == b.seen.a5 && (a.seen.a6 == b.seen.a6 && (a.seen.a7 == b.seen.a7 && true)))))))) && (a.data == b.data && true)))))))))
theorem beq_ba (a b : ByteArray) : (a == b) = decide (a = b) := by
  rw [beq_toListBytes, ByteArray.toList_eq, ByteArray.toList_eq]
  obtain ⟨⟨x⟩⟩ := a
  obtain ⟨⟨y⟩⟩ := b
  rw [Bool.eq_iff_iff]; simp
theorem beqMsg_eq (a b : Msg) : beqMsg a b = decide (a = b) := by
  obtain ⟨a1, a2, a3, a4, ⟨a5, a6⟩, ⟨a7, a8⟩, a9, a10, ⟨c0, c1, c2, c3, c4, c5, c6, c7⟩, a11⟩ := a
  obtain ⟨b1, b2, b3, b4, ⟨b5, b6⟩, ⟨b7, b8⟩, b9, b10, ⟨d0, d1, d2, d3, d4, d5, d6, d7⟩, b11⟩ := b
  rw [Bool.eq_iff_iff]; simp [beqMsg, beq_ba]
theorem msg_cells (a b : Msg) : eqCells Tryd.prog 4 41 a.cells b.cells = some (decide (a = b)) := by
  rw [← beqMsg_eq]
  exact eqCells_struct Tryd.underlying41 Tryd.stoodInHeld41 (by kernel_rfl)
theorem msg_eq (a b : Msg) : ∀ w, (binOp .eql 41 a.val b.val).run Tryd.prog w = .ok (.bool (decide (a = b))) w :=
  run_eql_cells 4 (by decide) (by kernel_rfl) (msg_cells a b)
theorem msg_neq (a b : Msg) : ∀ w, (binOp .neq 41 a.val b.val).run Tryd.prog w = .ok (.bool (!decide (a = b))) w :=
  run_neq_cells 4 (by decide) (by kernel_rfl) (msg_cells a b)

theorem sizeMsg : (Tryd.prog.info? 41).map (·.size) = some 19 := by kernel_rfl
theorem aggMsg : isAggT Tryd.prog 41 = true := by kernel_rfl
theorem msg_same (a b : Msg) (w : World) :
    Calls Tryd.prog 51 #[a.val, b.val] w fun e w' => e = .returned (.bool (decide (a = b))) ∧ Below w.heap.size w w' := by
  have he := msg_eq a b
  go_enter Tryd.func51, Tryd.ntmps51
  go_wp2_with (first
    | ((with_reducible refine gate (N := 2) rfl ?_); refine ev_box rfl 41 (.tmp 0) rfl rfl ?_; intro g1 w1 hx1 hb1 hg1 hl1)
    | ((with_reducible refine gate (N := 3) rfl ?_); refine ev_box rfl 41 (.tmp 1) rfl rfl ?_; intro g2 w2 hx2 hb2 hg2 hl2)
    | ((with_reducible refine gate (N := 5) rfl ?_); refine ev_load rfl 41 (.tmp 2) rfl rfl (hx1.below hb2) aggMsg sizeMsg ?_)
    | ((with_reducible refine gate (N := 6) rfl ?_); refine ev_load rfl 41 (.tmp 3) rfl rfl hx2 aggMsg sizeMsg ?_))
  go_ret
  exact ⟨rfl, bl_then hb1 hb2⟩
end Go.Proofs.YtbkffeabikjnhaaDoor
