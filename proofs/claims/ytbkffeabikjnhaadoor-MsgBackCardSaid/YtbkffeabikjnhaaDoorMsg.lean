/- Messages: contracts of Put and what it calls. -/
import Derived.Test.YtbkffeabikjnhaaDoorProg
import Derived.Test.YtbkffeabikjnhaaDoorVec
import Derived.Test.YtbkffeabikjnhaaDoorCrc
namespace Go.Proofs.YtbkffeabikjnhaaDoor
open Go.RowKit

theorem put_mark (b n : Int) (v : Value) (xs : List UInt8) (w : World) (hr : encB.R w v xs) (hl : xs.length ≤ 100000000) :
    Calls Tryd.prog 62 #[v, .agg #[.int .i64 b, .int .i64 n]] w fun e w' => ∃ v', e = .returned v' ∧ encB.O w' w.heap.size 5 v' (xs ++ putN b 6 ++ putN n 6) ∧ Below w.heap.size w w' := by
  have hl2 : (xs ++ putN b 6).length ≤ 1000000000 := by rw [List.length_append, putN_length]; omega
  go_enter Tryd.func62, Tryd.ntmps62
  go_wp2
  have hb0 : Below w.heap.size w (w.alloc (.cells #[.int .i64 b, .int .i64 n] 39)) := bl_alloc (Below.refl _ _) _
  have hr0 := hr.below hb0
  have hz : (w.alloc (.cells #[.int .i64 b, .int .i64 n] 39)).heap.size = w.heap.size + 1 := by simp
  have h0 : (w.alloc (.cells #[.int .i64 b, .int .i64 n] 39)).cell? ⟨w.heap.size, 0, none⟩ = some (.int .i64 b) := by simp
  have h1 : (w.alloc (.cells #[.int .i64 b, .int .i64 n] 39)).cell? ⟨w.heap.size, 1, none⟩ = some (.int .i64 n) := by simp
  generalize w.alloc (.cells #[.int .i64 b, .int .i64 n] 39) = W at *
  go_region_held3 (fun w' => w'.cell? ⟨w.heap.size, 0, none⟩ = some (.int .i64 b) ∧ w'.cell? ⟨w.heap.size, 1, none⟩ = some (.int .i64 n)) (go_keep)
    (first | (go_at_call 60; have hq := oct_put b 6 v xs W.drew (by omega) (by omega) hr0 (by omega); with_reducible refine hq.mono ?_; rintro e w1 ⟨v1, rfl, ho1, hb1⟩; have hk1 := bcell hb1; obtain ⟨hc1, hf1⟩ := hk1; have hz1 : w.heap.size < w1.heap.size := by have := hb1.size; simp at this; omega)
           | (go_at_call 60; have hq := oct_put n 6 v1 (xs ++ putN b 6) w1 (by omega) (by omega) ho1.read hl2; with_reducible refine hq.mono ?_; rintro e w2 ⟨v2, rfl, ho2, hb2⟩; have hk2 := bcell hb2; obtain ⟨hc2, hf2⟩ := hk2))
  go_wp2
  go_ret
  exact ⟨_, rfl, Enc.O.weaken ho2 (by omega), bl_then (bl_then hb0 (bl_of_drew hb1)) hb2⟩
end Go.Proofs.YtbkffeabikjnhaaDoor
