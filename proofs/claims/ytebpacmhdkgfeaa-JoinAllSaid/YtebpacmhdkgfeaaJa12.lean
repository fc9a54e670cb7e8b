/- Texts laid together: Awk11, Small11, Ref10, Law11a. -/
import Derived.Test.YtebpacmhdkgfeaaJa11
set_option linter.unusedSimpArgs false
set_option linter.unusedVariables false
/- Chapter 11's example walked. -/
namespace Go.Proofs.Ytebpacmhdkgfeaa
open Go.RowKit
set_option maxHeartbeats 8000000
set_option maxRecDepth 100000
theorem awake11 (w : World) : Calls Try.prog 12 #[] w fun e w' => e = .returned (.bool true) ∧ Below w.heap.size w w' := by
  have hL := Loc.nil w NoM
  go_enter Try.func12, Try.ntmps12
  go_upto_region 4 with (first
    | ((with_reducible refine gate (N := 1) rfl ?_); (refine lI rfl hL rfl cy ?_; clear hL; intro g1 w1 hL)) | ((with_reducible refine gate (N := 2) rfl ?_); (refine lI rfl hL rfl cy ?_; clear hL; intro g2 w2 hL)) | ((with_reducible refine gate (N := 3) rfl ?_); (refine lI rfl hL rfl cy ?_; clear hL; intro g3 w3 hL))
    | ((with_reducible refine gate (N := 16) rfl ?_); refine lM (cs := [.int .i64 1, .int .i64 0, .int .i64 1, .int .i64 0, .int .i64 1, .int .i64 0, .int .i64 0, .int .i64 0, .string ⟨#[120]⟩, .int .i64 1, .int .i64 0, .int .i64 0, .int .i64 0, .int .i64 0, .int .i64 0, .int .i64 0, .int .i64 0, .int .i64 0, .int .i64 0, .int .i64 0, .int .i64 0, .int .i64 0, .int .i64 0, .int .i64 0, .int .i64 0]) rfl hL rfl rfl rfl (by kernel_rfl) ?_; clear hL; intro g16 wq hL)
    | ((with_reducible refine qD rfl rfl ?_); (refine lI rfl hL rfl cy ?_; clear hL; intro gq wq hL)) | ((with_reducible refine qE rfl rfl ?_); (refine lJ rfl hL rfl rfl cy ?_; clear hL; intro gq wq hL)) | ((with_reducible refine qB rfl rfl ?_); (first | (refine lC rfl hL rfl rfl HasV.mem (by rfl) ?_) | (refine lA rfl hL rfl rfl HasV.mem (by rfl) ?_) | (refine lF rfl hL rfl rfl HasV.mem SegC.seg ?_))) | ((with_reducible refine qC rfl rfl ?_); (first | (refine lH rfl hL rfl rfl rfl cy (by rfl) ?_) | (refine lG rfl hL rfl rfl rfl cy (by rfl) (by rfl) ?_)); clear hL; intro wq hL) | ((with_reducible refine qA rfl rfl ?_ ?_); (exact wz rfl rfl rfl (by with_reducible rfl)); (first | (refine lD (wz rfl rfl rfl rfl) hL rfl rfl HasV.mem (by rfl) ?_) | (refine lB (wz rfl rfl rfl rfl) hL rfl rfl HasV.mem (by rfl) ?_) | (refine lE (wz rfl rfl rfl rfl) hL rfl rfl HasV.mem SegC.seg ?_))))
  refine region_held (fun wx => Box wx g3 ([.int .i64 1, .int .i64 0, .int .i64 0, .int .i64 0, .int .i64 0, .int .i64 0, .int .i64 0, .int .i64 0, .slice none 0 0, .slice (some ⟨g16, 0, none⟩) 1 1] : List Value).toArray 27) (by kernel_rfl) hL ?_
  intro w4 hL
  refine heldTake (i := 0) nx (by kernel_rfl) (by kernel_rfl) (by kernel_rfl) (by exact fun _ _ _ h => h) (y_loadAll (fun _ h => h) (by rfl) (by rfl) (by rfl) (by infer_instance) (by infer_instance) (by rfl)) (hL.box (g := g3) HasV.mem) ?_
  (try simp only [Act.put, zs, zt, zu])
  refine heldTake (i := 1) nx (by kernel_rfl) (by kernel_rfl) (by kernel_rfl) (by exact fun _ _ _ h => h) (y_loadAll (fun _ h => h) (by rfl) (by rfl) (by rfl) (by infer_instance) (by infer_instance) (by rfl)) (hL.box (g := g3) HasV.mem) ?_
  (try simp only [Act.put, zs, zt, zu])
  apply heldEitherXX (fun (g4 g5 : Nat) w' => Loc w NoM w' [var g5 [.int .i64 0, .int .i64 0, .int .i64 0, .int .i64 0, .int .i64 0, .int .i64 0, .int .i64 0, .int .i64 0, .slice none 0 0, .slice none 0 0] 27, var g4 [.int .i64 0, .int .i64 0, .int .i64 0, .int .i64 0, .int .i64 0, .int .i64 0, .int .i64 0, .int .i64 0, .slice none 0 0, .slice none 0 0] 27, var g3 [.int .i64 1, .int .i64 0, .int .i64 0, .int .i64 0, .int .i64 0, .int .i64 0, .int .i64 0, .int .i64 0, .slice none 0 0, .slice (some ⟨g16, 0, none⟩) 1 1] 27, var g16 [.int .i64 1, .int .i64 0, .int .i64 1, .int .i64 0, .int .i64 1, .int .i64 0, .int .i64 0, .int .i64 0, .string ⟨#[120]⟩, .int .i64 1, .int .i64 0, .int .i64 0, .int .i64 0, .int .i64 0, .int .i64 0, .int .i64 0, .int .i64 0, .int .i64 0, .int .i64 0, .int .i64 0, .int .i64 0, .int .i64 0, .int .i64 0, .int .i64 0, .int .i64 0] 48, var g2 [.int .i64 1, .int .i64 0, .int .i64 1, .int .i64 0, .int .i64 1, .int .i64 0, .int .i64 0, .int .i64 0, .string ⟨#[120]⟩, .int .i64 1, .int .i64 0, .int .i64 0, .int .i64 0, .int .i64 0, .int .i64 0, .int .i64 0, .int .i64 0, .int .i64 0, .int .i64 0, .int .i64 0, .int .i64 0, .int .i64 0, .int .i64 0, .int .i64 0, .int .i64 0] 48, var g1 [.int .i64 1, .int .i64 0] 34]) (by kernel_rfl)
  case hi =>
    intro hG
    refine wpOp_alloc (i := 2) nx rfl hL rfl CellsC.of ?_
    intro g4 w5 hL
    refine ⟨hL.box (g := g3) HasV.mem, ?_⟩
    (try simp only [Act.put, zs, zt, zu])
    refine heldOne (i := 3) (by kernel_rfl) ?_
    refine wpOp_alloc (i := 3) nx rfl hL rfl CellsC.of ?_
    intro g5 w5 hL
    refine ⟨hL.box (g := g3) HasV.mem, ?_⟩
    (try simp only [Act.put, zs, zt, zu])
    exact hG g4 g5 _ hL
  case hj =>
    intro hG
    refine wpOp_alloc (i := 3) nx rfl hL rfl CellsC.of ?_
    intro g5 w5 hL
    refine ⟨hL.box (g := g3) HasV.mem, ?_⟩
    (try simp only [Act.put, zs, zt, zu])
    refine heldOne (i := 2) (by kernel_rfl) ?_
    refine wpOp_alloc (i := 2) nx rfl hL rfl CellsC.of ?_
    intro g4 w5 hL
    refine ⟨hL.box (g := g3) HasV.mem, ?_⟩
    (try simp only [Act.put, zs, zt, zu])
    exact hG g4 g5 _ hL.comm
  intro g4 g5 w6 hL
  refine heldStore (i := 4) nx (by kernel_rfl) rfl hL rfl (by rfl) (by rfl) (cells_agg _ rfl) (by rfl) ?_
  intro w7 hL
  refine ⟨(hL.box (g := g3) HasV.mem), ?_⟩
  (try simp only [Act.put, zs, zt, zu])
  refine heldStore (i := 5) nx (by kernel_rfl) rfl hL rfl (by rfl) (by rfl) (cells_agg _ rfl) (by rfl) ?_
  intro w8 hL
  refine ⟨(hL.box (g := g3) HasV.mem), ?_⟩
  (try simp only [Act.put, zs, zt, zu])
  refine wpAnyH_done (by kernel_rfl) ?_ _
  go_upto_region 5 with fail
  refine region_held (fun wx => Box wx g1 ([.int .i64 1, .int .i64 0] : List Value).toArray 34) (by kernel_rfl) hL ?_
  intro w9 hL
  refine heldTake (i := 0) nx (by kernel_rfl) (by kernel_rfl) (by kernel_rfl) (by exact fun _ _ _ h => h) (y_pure (v := .agg #[.int .i64 2, .int .i64 0, .int .i64 0, .int .i64 0, .int .i64 0, .int .i64 0, .int .i64 0, .int .i64 0]) (by rfl) (fun w => by first | rfl | kernel_rfl | simp [execOp, go_sem])) (hL.box (g := g1) HasV.mem) ?_
  (try simp only [Act.put, zs, zt, zu])
  refine heldTake (i := 1) nx (by kernel_rfl) (by kernel_rfl) (by kernel_rfl) (by exact fun _ _ _ h => h) (y_loadAll (fun _ h => h) (by rfl) (by rfl) (by rfl) (by infer_instance) (by infer_instance) (by rfl)) (hL.box (g := g1) HasV.mem) ?_
  (try simp only [Act.put, zs, zt, zu])
  refine heldTake (i := 2) nx (by kernel_rfl) (by kernel_rfl) (by kernel_rfl) (by exact fun _ _ _ h => h) (y_pure (v := .agg #[.int .i64 2, .int .i64 0, .int .i64 0, .int .i64 0, .int .i64 0, .int .i64 0, .int .i64 0, .int .i64 0]) (by rfl) (fun w => by first | rfl | kernel_rfl | simp [execOp, go_sem])) (hL.box (g := g1) HasV.mem) ?_
  (try simp only [Act.put, zs, zt, zu])
  refine heldTake (i := 3) nx (by kernel_rfl) (by kernel_rfl) (by kernel_rfl) (by exact fun _ _ _ h => h) (y_pure (v := .agg #[.int .i64 1, .int .i64 0, .int .i64 0, .int .i64 0, .int .i64 0, .int .i64 0, .int .i64 0, .int .i64 0, .string ⟨#[]⟩, .int .i64 0, .int .i64 0, .int .i64 0, .int .i64 0, .int .i64 0, .int .i64 0, .int .i64 0, .int .i64 0, .int .i64 2, .int .i64 0, .int .i64 0, .int .i64 0, .int .i64 0, .int .i64 0, .int .i64 0, .int .i64 0]) (by rfl) (fun w => by first | rfl | kernel_rfl | simp [execOp, go_sem])) (hL.box (g := g1) HasV.mem) ?_
  (try simp only [Act.put, zs, zt, zu])
  refine heldTake (i := 5) nx (by kernel_rfl) (by kernel_rfl) (by kernel_rfl) (by exact fun _ _ _ h => h) (y_pure (v := .pointer (some ⟨g4, 0, none⟩)) (by rfl) (fun w => by simp [execOp, Instr.fieldAt, go_sem])) (hL.box (g := g1) HasV.mem) ?_
  (try simp only [Act.put, zs, zt, zu])
  apply heldEitherX (fun (gx : Nat) w' => Loc w NoM w' [var gx [.int .i64 1, .int .i64 0, .int .i64 0, .int .i64 0, .int .i64 0, .int .i64 0, .int .i64 0, .int .i64 0, .string ⟨#[]⟩, .int .i64 0, .int .i64 0, .int .i64 0, .int .i64 0, .int .i64 0, .int .i64 0, .int .i64 0, .int .i64 0, .int .i64 2, .int .i64 0, .int .i64 0, .int .i64 0, .int .i64 0, .int .i64 0, .int .i64 0, .int .i64 0] 48, var g5 [.int .i64 1, .int .i64 0, .int .i64 0, .int .i64 0, .int .i64 0, .int .i64 0, .int .i64 0, .int .i64 0, .slice none 0 0, .slice (some ⟨g16, 0, none⟩) 1 1] 27, var g4 [.int .i64 2, .int .i64 0, .int .i64 0, .int .i64 0, .int .i64 0, .int .i64 0, .int .i64 0, .int .i64 0, .slice none 0 0, .slice (some ⟨g16, 0, none⟩) 1 1] 27, var g3 [.int .i64 1, .int .i64 0, .int .i64 0, .int .i64 0, .int .i64 0, .int .i64 0, .int .i64 0, .int .i64 0, .slice none 0 0, .slice (some ⟨g16, 0, none⟩) 1 1] 27, var g16 [.int .i64 1, .int .i64 0, .int .i64 1, .int .i64 0, .int .i64 1, .int .i64 0, .int .i64 0, .int .i64 0, .string ⟨#[120]⟩, .int .i64 1, .int .i64 0, .int .i64 0, .int .i64 0, .int .i64 0, .int .i64 0, .int .i64 0, .int .i64 0, .int .i64 0, .int .i64 0, .int .i64 0, .int .i64 0, .int .i64 0, .int .i64 0, .int .i64 0, .int .i64 0] 48, var g2 [.int .i64 1, .int .i64 0, .int .i64 1, .int .i64 0, .int .i64 1, .int .i64 0, .int .i64 0, .int .i64 0, .string ⟨#[120]⟩, .int .i64 1, .int .i64 0, .int .i64 0, .int .i64 0, .int .i64 0, .int .i64 0, .int .i64 0, .int .i64 0, .int .i64 0, .int .i64 0, .int .i64 0, .int .i64 0, .int .i64 0, .int .i64 0, .int .i64 0, .int .i64 0] 48, var g1 [.int .i64 1, .int .i64 0] 34]) (by kernel_rfl)
  case hi =>
    intro hG
    refine wpOp_lit (i := 4) (cs := [.int .i64 1, .int .i64 0, .int .i64 0, .int .i64 0, .int .i64 0, .int .i64 0, .int .i64 0, .int .i64 0, .string ⟨#[]⟩, .int .i64 0, .int .i64 0, .int .i64 0, .int .i64 0, .int .i64 0, .int .i64 0, .int .i64 0, .int .i64 0, .int .i64 2, .int .i64 0, .int .i64 0, .int .i64 0, .int .i64 0, .int .i64 0, .int .i64 0, .int .i64 0]) nx rfl hL rfl rfl rfl (by kernel_rfl) ?_
    intro gx w10 hL
    refine ⟨hL.box (g := g1) HasV.mem, ?_⟩
    (try simp only [Act.put, zs, zt, zu])
    refine heldStore (i := 6) nx (by kernel_rfl) rfl hL rfl (by rfl) (by rfl) (cells_agg _ rfl) (by rfl) ?_
    intro w11 hL
    refine ⟨(hL.box (g := g1) HasV.mem), ?_⟩
    (try simp only [Act.put, zs, zt, zu])
    exact hG gx _ hL
  case hj =>
    intro hG
    refine wpOp_store (i := 6) nx rfl hL rfl (by rfl) (by rfl) (cells_agg _ rfl) (by rfl) ?_
    intro w11 hL
    refine ⟨hL.box (g := g1) HasV.mem, ?_⟩
    (try simp only [Act.put, zs, zt, zu])
    refine heldOne (i := 4) (by kernel_rfl) ?_
    refine wpOp_lit (i := 4) (cs := [.int .i64 1, .int .i64 0, .int .i64 0, .int .i64 0, .int .i64 0, .int .i64 0, .int .i64 0, .int .i64 0, .string ⟨#[]⟩, .int .i64 0, .int .i64 0, .int .i64 0, .int .i64 0, .int .i64 0, .int .i64 0, .int .i64 0, .int .i64 0, .int .i64 2, .int .i64 0, .int .i64 0, .int .i64 0, .int .i64 0, .int .i64 0, .int .i64 0, .int .i64 0]) nx rfl hL rfl rfl rfl (by kernel_rfl) ?_
    intro gx w10 hL
    refine ⟨hL.box (g := g1) HasV.mem, ?_⟩
    (try simp only [Act.put, zs, zt, zu])
    exact hG gx _ hL
  intro gx w12 hL
  refine heldTake (i := 7) nx (by kernel_rfl) (by kernel_rfl) (by kernel_rfl) (by exact fun _ _ _ h => h) (y_pure (v := .pointer (some ⟨g4, 9, none⟩)) (by rfl) (fun w => by simp [execOp, Instr.fieldAt, go_sem])) (hL.box (g := g1) HasV.mem) ?_
  (try simp only [Act.put, zs, zt, zu])
  refine heldStore (i := 8) nx (by kernel_rfl) rfl hL rfl (by rfl) (by rfl) cy (by rfl) ?_
  intro w13 hL
  refine ⟨(hL.box (g := g1) HasV.mem), ?_⟩
  (try simp only [Act.put, zs, zt, zu])
  refine wpAnyH_done (by kernel_rfl) ?_ _
  go_upto_region 6 with fail
  refine region_held (fun wx => Box wx g1 ([.int .i64 1, .int .i64 0] : List Value).toArray 34) (by kernel_rfl) hL ?_
  intro w9 hL
  refine heldTake (i := 0) nx (by kernel_rfl) (by kernel_rfl) (by kernel_rfl) (by exact fun _ _ _ h => h) (y_pure (v := .agg #[.int .i64 1, .int .i64 2, .int .i64 0, .int .i64 0, .int .i64 0, .int .i64 0, .int .i64 0, .int .i64 0]) (by rfl) (fun w => by first | rfl | kernel_rfl | simp [execOp, go_sem])) (hL.box (g := g1) HasV.mem) ?_
  (try simp only [Act.put, zs, zt, zu])
  refine heldTake (i := 1) nx (by kernel_rfl) (by kernel_rfl) (by kernel_rfl) (by exact fun _ _ _ h => h) (y_loadAll (fun _ h => h) (by rfl) (by rfl) (by rfl) (by infer_instance) (by infer_instance) (by rfl)) (hL.box (g := g1) HasV.mem) ?_
  (try simp only [Act.put, zs, zt, zu])
  refine heldTake (i := 2) nx (by kernel_rfl) (by kernel_rfl) (by kernel_rfl) (by exact fun _ _ _ h => h) (y_pure (v := .agg #[.int .i64 1, .int .i64 2, .int .i64 0, .int .i64 0, .int .i64 0, .int .i64 0, .int .i64 0, .int .i64 0]) (by rfl) (fun w => by first | rfl | kernel_rfl | simp [execOp, go_sem])) (hL.box (g := g1) HasV.mem) ?_
  (try simp only [Act.put, zs, zt, zu])
  refine heldTake (i := 3) nx (by kernel_rfl) (by kernel_rfl) (by kernel_rfl) (by exact fun _ _ _ h => h) (y_pure (v := .agg #[.int .i64 1, .int .i64 0, .int .i64 0, .int .i64 0, .int .i64 0, .int .i64 0, .int .i64 0, .int .i64 0, .string ⟨#[]⟩, .int .i64 1, .int .i64 2, .int .i64 0, .int .i64 0, .int .i64 0, .int .i64 0, .int .i64 0, .int .i64 0, .int .i64 0, .int .i64 0, .int .i64 0, .int .i64 0, .int .i64 0, .int .i64 0, .int .i64 0, .int .i64 0]) (by rfl) (fun w => by first | rfl | kernel_rfl | simp [execOp, go_sem])) (hL.box (g := g1) HasV.mem) ?_
  (try simp only [Act.put, zs, zt, zu])
  refine heldTake (i := 5) nx (by kernel_rfl) (by kernel_rfl) (by kernel_rfl) (by exact fun _ _ _ h => h) (y_pure (v := .pointer (some ⟨g5, 0, none⟩)) (by rfl) (fun w => by simp [execOp, Instr.fieldAt, go_sem])) (hL.box (g := g1) HasV.mem) ?_
  (try simp only [Act.put, zs, zt, zu])
  apply heldEitherX (fun (gy : Nat) w' => Loc w NoM w' [var gy [.int .i64 1, .int .i64 0, .int .i64 0, .int .i64 0, .int .i64 0, .int .i64 0, .int .i64 0, .int .i64 0, .string ⟨#[]⟩, .int .i64 1, .int .i64 2, .int .i64 0, .int .i64 0, .int .i64 0, .int .i64 0, .int .i64 0, .int .i64 0, .int .i64 0, .int .i64 0, .int .i64 0, .int .i64 0, .int .i64 0, .int .i64 0, .int .i64 0, .int .i64 0] 48, var gx [.int .i64 1, .int .i64 0, .int .i64 0, .int .i64 0, .int .i64 0, .int .i64 0, .int .i64 0, .int .i64 0, .string ⟨#[]⟩, .int .i64 0, .int .i64 0, .int .i64 0, .int .i64 0, .int .i64 0, .int .i64 0, .int .i64 0, .int .i64 0, .int .i64 2, .int .i64 0, .int .i64 0, .int .i64 0, .int .i64 0, .int .i64 0, .int .i64 0, .int .i64 0] 48, var g5 [.int .i64 1, .int .i64 2, .int .i64 0, .int .i64 0, .int .i64 0, .int .i64 0, .int .i64 0, .int .i64 0, .slice none 0 0, .slice (some ⟨g16, 0, none⟩) 1 1] 27, var g4 [.int .i64 2, .int .i64 0, .int .i64 0, .int .i64 0, .int .i64 0, .int .i64 0, .int .i64 0, .int .i64 0, .slice none 0 0, .slice (some ⟨gx, 0, none⟩) 1 1] 27, var g3 [.int .i64 1, .int .i64 0, .int .i64 0, .int .i64 0, .int .i64 0, .int .i64 0, .int .i64 0, .int .i64 0, .slice none 0 0, .slice (some ⟨g16, 0, none⟩) 1 1] 27, var g16 [.int .i64 1, .int .i64 0, .int .i64 1, .int .i64 0, .int .i64 1, .int .i64 0, .int .i64 0, .int .i64 0, .string ⟨#[120]⟩, .int .i64 1, .int .i64 0, .int .i64 0, .int .i64 0, .int .i64 0, .int .i64 0, .int .i64 0, .int .i64 0, .int .i64 0, .int .i64 0, .int .i64 0, .int .i64 0, .int .i64 0, .int .i64 0, .int .i64 0, .int .i64 0] 48, var g2 [.int .i64 1, .int .i64 0, .int .i64 1, .int .i64 0, .int .i64 1, .int .i64 0, .int .i64 0, .int .i64 0, .string ⟨#[120]⟩, .int .i64 1, .int .i64 0, .int .i64 0, .int .i64 0, .int .i64 0, .int .i64 0, .int .i64 0, .int .i64 0, .int .i64 0, .int .i64 0, .int .i64 0, .int .i64 0, .int .i64 0, .int .i64 0, .int .i64 0, .int .i64 0] 48, var g1 [.int .i64 1, .int .i64 0] 34]) (by kernel_rfl)
  case hi =>
    intro hG
    refine wpOp_lit (i := 4) (cs := [.int .i64 1, .int .i64 0, .int .i64 0, .int .i64 0, .int .i64 0, .int .i64 0, .int .i64 0, .int .i64 0, .string ⟨#[]⟩, .int .i64 1, .int .i64 2, .int .i64 0, .int .i64 0, .int .i64 0, .int .i64 0, .int .i64 0, .int .i64 0, .int .i64 0, .int .i64 0, .int .i64 0, .int .i64 0, .int .i64 0, .int .i64 0, .int .i64 0, .int .i64 0]) nx rfl hL rfl rfl rfl (by kernel_rfl) ?_
    intro gy w10 hL
    refine ⟨hL.box (g := g1) HasV.mem, ?_⟩
    (try simp only [Act.put, zs, zt, zu])
    refine heldStore (i := 6) nx (by kernel_rfl) rfl hL rfl (by rfl) (by rfl) (cells_agg _ rfl) (by rfl) ?_
    intro w11 hL
    refine ⟨(hL.box (g := g1) HasV.mem), ?_⟩
    (try simp only [Act.put, zs, zt, zu])
    exact hG gy _ hL
  case hj =>
    intro hG
    refine wpOp_store (i := 6) nx rfl hL rfl (by rfl) (by rfl) (cells_agg _ rfl) (by rfl) ?_
    intro w11 hL
    refine ⟨hL.box (g := g1) HasV.mem, ?_⟩
    (try simp only [Act.put, zs, zt, zu])
    refine heldOne (i := 4) (by kernel_rfl) ?_
    refine wpOp_lit (i := 4) (cs := [.int .i64 1, .int .i64 0, .int .i64 0, .int .i64 0, .int .i64 0, .int .i64 0, .int .i64 0, .int .i64 0, .string ⟨#[]⟩, .int .i64 1, .int .i64 2, .int .i64 0, .int .i64 0, .int .i64 0, .int .i64 0, .int .i64 0, .int .i64 0, .int .i64 0, .int .i64 0, .int .i64 0, .int .i64 0, .int .i64 0, .int .i64 0, .int .i64 0, .int .i64 0]) nx rfl hL rfl rfl rfl (by kernel_rfl) ?_
    intro gy w10 hL
    refine ⟨hL.box (g := g1) HasV.mem, ?_⟩
    (try simp only [Act.put, zs, zt, zu])
    exact hG gy _ hL
  intro gy w12 hL
  refine heldTake (i := 7) nx (by kernel_rfl) (by kernel_rfl) (by kernel_rfl) (by exact fun _ _ _ h => h) (y_pure (v := .pointer (some ⟨g5, 9, none⟩)) (by rfl) (fun w => by simp [execOp, Instr.fieldAt, go_sem])) (hL.box (g := g1) HasV.mem) ?_
  (try simp only [Act.put, zs, zt, zu])
  refine heldStore (i := 8) nx (by kernel_rfl) rfl hL rfl (by rfl) (by rfl) cy (by rfl) ?_
  intro w13 hL
  refine ⟨(hL.box (g := g1) HasV.mem), ?_⟩
  (try simp only [Act.put, zs, zt, zu])
  refine wpAnyH_done (by kernel_rfl) ?_ _
  go_upto_region 7 with fail
  refine region_held (fun wx => Box wx g3 ([.int .i64 1, .int .i64 0, .int .i64 0, .int .i64 0, .int .i64 0, .int .i64 0, .int .i64 0, .int .i64 0, .slice none 0 0, .slice (some ⟨g16, 0, none⟩) 1 1] : List Value).toArray 27 ∧ Box wx g4 ([.int .i64 2, .int .i64 0, .int .i64 0, .int .i64 0, .int .i64 0, .int .i64 0, .int .i64 0, .int .i64 0, .slice none 0 0, .slice (some ⟨gx, 0, none⟩) 1 1] : List Value).toArray 27 ∧ Box wx g5 ([.int .i64 1, .int .i64 2, .int .i64 0, .int .i64 0, .int .i64 0, .int .i64 0, .int .i64 0, .int .i64 0, .slice none 0 0, .slice (some ⟨gy, 0, none⟩) 1 1] : List Value).toArray 27) (by kernel_rfl) hL ?_
  intro w14 hL
  refine heldTake (i := 0) nx (by kernel_rfl) (by kernel_rfl) (by kernel_rfl) (by exact fun _ _ _ h => h) (y_loadAll (fun _ h => h.1) (by rfl) (by rfl) (by rfl) (by infer_instance) (by infer_instance) (by rfl)) ⟨hL.box (g := g3) HasV.mem, hL.box (g := g4) HasV.mem, hL.box (g := g5) HasV.mem⟩ ?_
  (try simp only [Act.put, zs, zt, zu])
  refine heldTake (i := 1) nx (by kernel_rfl) (by kernel_rfl) (by kernel_rfl) (by exact fun _ _ _ h => h) (y_loadAll (fun _ h => h.2.1) (by rfl) (by rfl) (by rfl) (by infer_instance) (by infer_instance) (by rfl)) ⟨hL.box (g := g3) HasV.mem, hL.box (g := g4) HasV.mem, hL.box (g := g5) HasV.mem⟩ ?_
  (try simp only [Act.put, zs, zt, zu])
  refine heldTake (i := 2) nx (by kernel_rfl) (by kernel_rfl) (by kernel_rfl) (by exact fun _ _ _ h => h) (y_loadAll (fun _ h => h.2.2) (by rfl) (by rfl) (by rfl) (by infer_instance) (by infer_instance) (by rfl)) ⟨hL.box (g := g3) HasV.mem, hL.box (g := g4) HasV.mem, hL.box (g := g5) HasV.mem⟩ ?_
  (try simp only [Act.put, zs, zt, zu])
  apply heldEither3 (fun (r1 r2 : Sta) (g6 : Nat) w' => r2.seen = ⟨2, 2, 0, 0, 0, 0, 0, 0⟩ ∧ Loc w NoM w' [row encK w.heap.size 48 r2.links.val [xboth], var g6 [.int .i64 0, .int .i64 0, .int .i64 0, .int .i64 0, .int .i64 0, .int .i64 0, .int .i64 0, .int .i64 0, .slice none 0 0, .slice none 0 0] 27, var gy [.int .i64 1, .int .i64 0, .int .i64 0, .int .i64 0, .int .i64 0, .int .i64 0, .int .i64 0, .int .i64 0, .string ⟨#[]⟩, .int .i64 1, .int .i64 2, .int .i64 0, .int .i64 0, .int .i64 0, .int .i64 0, .int .i64 0, .int .i64 0, .int .i64 0, .int .i64 0, .int .i64 0, .int .i64 0, .int .i64 0, .int .i64 0, .int .i64 0, .int .i64 0] 48, var gx [.int .i64 1, .int .i64 0, .int .i64 0, .int .i64 0, .int .i64 0, .int .i64 0, .int .i64 0, .int .i64 0, .string ⟨#[]⟩, .int .i64 0, .int .i64 0, .int .i64 0, .int .i64 0, .int .i64 0, .int .i64 0, .int .i64 0, .int .i64 0, .int .i64 2, .int .i64 0, .int .i64 0, .int .i64 0, .int .i64 0, .int .i64 0, .int .i64 0, .int .i64 0] 48, var g5 [.int .i64 1, .int .i64 2, .int .i64 0, .int .i64 0, .int .i64 0, .int .i64 0, .int .i64 0, .int .i64 0, .slice none 0 0, .slice (some ⟨gy, 0, none⟩) 1 1] 27, var g4 [.int .i64 2, .int .i64 0, .int .i64 0, .int .i64 0, .int .i64 0, .int .i64 0, .int .i64 0, .int .i64 0, .slice none 0 0, .slice (some ⟨gx, 0, none⟩) 1 1] 27, var g3 [.int .i64 1, .int .i64 0, .int .i64 0, .int .i64 0, .int .i64 0, .int .i64 0, .int .i64 0, .int .i64 0, .slice none 0 0, .slice (some ⟨g16, 0, none⟩) 1 1] 27, var g16 [.int .i64 1, .int .i64 0, .int .i64 1, .int .i64 0, .int .i64 1, .int .i64 0, .int .i64 0, .int .i64 0, .string ⟨#[120]⟩, .int .i64 1, .int .i64 0, .int .i64 0, .int .i64 0, .int .i64 0, .int .i64 0, .int .i64 0, .int .i64 0, .int .i64 0, .int .i64 0, .int .i64 0, .int .i64 0, .int .i64 0, .int .i64 0, .int .i64 0, .int .i64 0] 48, var g2 [.int .i64 1, .int .i64 0, .int .i64 1, .int .i64 0, .int .i64 1, .int .i64 0, .int .i64 0, .int .i64 0, .string ⟨#[120]⟩, .int .i64 1, .int .i64 0, .int .i64 0, .int .i64 0, .int .i64 0, .int .i64 0, .int .i64 0, .int .i64 0, .int .i64 0, .int .i64 0, .int .i64 0, .int .i64 0, .int .i64 0, .int .i64 0, .int .i64 0, .int .i64 0] 48, var g1 [.int .i64 1, .int .i64 0] 34]) (by kernel_rfl)
  case hi =>
    intro hG
    refine heldCall (i := 3) (Nth.get nx) (by rfl) (enter2 Try.func13 (by kernel_rfl) (by kernel_rfl) (by rfl) (by rfl) (by rfl)) (st_two ⟨xv2, ⟨none, 0, 0⟩, ⟨some ⟨gx, 0, none⟩, 1, 1⟩⟩ ⟨xv12, ⟨none, 0, 0⟩, ⟨some ⟨gy, 0, none⟩, 1, 1⟩⟩ ⟨xv2, [], [xl1]⟩ ⟨xv12, [], [xl2]⟩ _ (ok_one (l := xl1) (hL.box (g := gx) HasV.mem)) (ok_one (l := xl2) (hL.box (g := gy) HasV.mem)) rfl rfl (by decide) (xv2.join xv12) rfl [xl12] links12) ?_
    rintro e w15 ⟨r1, rfl, hs1, hL15⟩
    replace hL := hL.takeAll (hL15.weakRow hL.size)
    simp only [List.cons_append, List.nil_append] at hL
    refine ⟨_, rfl, ⟨hL.box (g := g3) HasV.mem, hL.box (g := g4) HasV.mem, hL.box (g := g5) HasV.mem⟩, ?_⟩
    (try simp only [Act.put, zs, zt, zu])
    refine heldBoth (i := 4) (j := 5) (by kernel_rfl) ?b1 ?b2
    case b1 =>
      refine heldCall (i := 4) (Nth.get nx) (by rfl) (enter2 Try.func13 (by kernel_rfl) (by kernel_rfl) (by rfl) (by rfl) (by rfl)) (st_two ⟨xv1, ⟨none, 0, 0⟩, ⟨some ⟨g16, 0, none⟩, 1, 1⟩⟩ r1 ⟨xv1, [], [xl0]⟩ ⟨xv2.join xv12, [], [xl12]⟩ _ (ok_one (l := xl0) (hL.box (g := g16) HasV.mem)) (ok_res hL (.head _) (.tail _ (.head _)) hs1) rfl rfl (by decide) ⟨2, 2, 0, 0, 0, 0, 0, 0⟩ seen12 [xboth] links_both) ?_
      rintro e w16 ⟨r2, rfl, hs2, hL16⟩
      replace hL := hL.takeAll (hL16.weakRow hL.size)
      simp only [List.cons_append, List.nil_append] at hL
      refine ⟨_, rfl, ⟨hL.box (g := g3) HasV.mem, hL.box (g := g4) HasV.mem, hL.box (g := g5) HasV.mem⟩, ?_⟩
      (try simp only [Act.put, zs, zt, zu])
      refine heldOne (i := 5) (by kernel_rfl) ?_
      refine wpOp_alloc (i := 5) nx rfl hL rfl CellsC.of ?_
      intro g6 w17 hL
      refine ⟨⟨hL.box (g := g3) HasV.mem, hL.box (g := g4) HasV.mem, hL.box (g := g5) HasV.mem⟩, ?_⟩
      (try simp only [Act.put, zs, zt, zu])
      exact hG r1 r2 g6 _ ⟨hs2, (hL.sub (.cons_cons _ (.cons_cons _ (.cons _ (.cons _ (.cons _ (.refl _))))))).comm⟩
    case b2 =>
      refine wpOp_alloc (i := 5) nx rfl hL rfl CellsC.of ?_
      intro g6 w17 hL
      refine ⟨⟨hL.box (g := g3) HasV.mem, hL.box (g := g4) HasV.mem, hL.box (g := g5) HasV.mem⟩, ?_⟩
      (try simp only [Act.put, zs, zt, zu])
      refine heldOne (i := 4) (by kernel_rfl) ?_
      refine heldCall (i := 4) (Nth.get nx) (by rfl) (enter2 Try.func13 (by kernel_rfl) (by kernel_rfl) (by rfl) (by rfl) (by rfl)) (st_two ⟨xv1, ⟨none, 0, 0⟩, ⟨some ⟨g16, 0, none⟩, 1, 1⟩⟩ r1 ⟨xv1, [], [xl0]⟩ ⟨xv2.join xv12, [], [xl12]⟩ _ (ok_one (l := xl0) (hL.box (g := g16) HasV.mem)) (ok_res hL (.tail _ (.head _)) (.tail _ (.tail _ (.head _))) hs1) rfl rfl (by decide) ⟨2, 2, 0, 0, 0, 0, 0, 0⟩ seen12 [xboth] links_both) ?_
      rintro e w16 ⟨r2, rfl, hs2, hL16⟩
      replace hL := hL.takeAll (hL16.weakRow hL.size)
      simp only [List.cons_append, List.nil_append] at hL
      refine ⟨_, rfl, ⟨hL.box (g := g3) HasV.mem, hL.box (g := g4) HasV.mem, hL.box (g := g5) HasV.mem⟩, ?_⟩
      (try simp only [Act.put, zs, zt, zu])
      exact hG r1 r2 g6 _ ⟨hs2, hL.sub (.cons_cons _ (.cons _ (.cons_cons _ (.cons _ (.cons _ (.refl _))))))⟩
  case hj =>
    intro hG
    refine wpOp_alloc (i := 5) nx rfl hL rfl CellsC.of ?_
    intro g6 w17 hL
    refine ⟨⟨hL.box (g := g3) HasV.mem, hL.box (g := g4) HasV.mem, hL.box (g := g5) HasV.mem⟩, ?_⟩
    (try simp only [Act.put, zs, zt, zu])
    refine heldOne (i := 3) (by kernel_rfl) ?_
    refine heldCall (i := 3) (Nth.get nx) (by rfl) (enter2 Try.func13 (by kernel_rfl) (by kernel_rfl) (by rfl) (by rfl) (by rfl)) (st_two ⟨xv2, ⟨none, 0, 0⟩, ⟨some ⟨gx, 0, none⟩, 1, 1⟩⟩ ⟨xv12, ⟨none, 0, 0⟩, ⟨some ⟨gy, 0, none⟩, 1, 1⟩⟩ ⟨xv2, [], [xl1]⟩ ⟨xv12, [], [xl2]⟩ _ (ok_one (l := xl1) (hL.box (g := gx) HasV.mem)) (ok_one (l := xl2) (hL.box (g := gy) HasV.mem)) rfl rfl (by decide) (xv2.join xv12) rfl [xl12] links12) ?_
    rintro e w15 ⟨r1, rfl, hs1, hL15⟩
    replace hL := hL.takeAll (hL15.weakRow hL.size)
    simp only [List.cons_append, List.nil_append] at hL
    refine ⟨_, rfl, ⟨hL.box (g := g3) HasV.mem, hL.box (g := g4) HasV.mem, hL.box (g := g5) HasV.mem⟩, ?_⟩
    (try simp only [Act.put, zs, zt, zu])
    refine heldOne (i := 4) (by kernel_rfl) ?_
    refine heldCall (i := 4) (Nth.get nx) (by rfl) (enter2 Try.func13 (by kernel_rfl) (by kernel_rfl) (by rfl) (by rfl) (by rfl)) (st_two ⟨xv1, ⟨none, 0, 0⟩, ⟨some ⟨g16, 0, none⟩, 1, 1⟩⟩ r1 ⟨xv1, [], [xl0]⟩ ⟨xv2.join xv12, [], [xl12]⟩ _ (ok_one (l := xl0) (hL.box (g := g16) HasV.mem)) (ok_res hL (.head _) (.tail _ (.head _)) hs1) rfl rfl (by decide) ⟨2, 2, 0, 0, 0, 0, 0, 0⟩ seen12 [xboth] links_both) ?_
    rintro e w16 ⟨r2, rfl, hs2, hL16⟩
    replace hL := hL.takeAll (hL16.weakRow hL.size)
    simp only [List.cons_append, List.nil_append] at hL
    refine ⟨_, rfl, ⟨hL.box (g := g3) HasV.mem, hL.box (g := g4) HasV.mem, hL.box (g := g5) HasV.mem⟩, ?_⟩
    (try simp only [Act.put, zs, zt, zu])
    exact hG r1 r2 g6 _ ⟨hs2, hL.sub (.cons_cons _ (.cons _ (.cons _ (.cons _ (.cons_cons _ (.refl _))))))⟩
  rintro r1 ⟨sv2, nd2, lk2⟩ g6 w18 ⟨hs2, hL⟩
  obtain rfl : sv2 = ⟨2, 2, 0, 0, 0, 0, 0, 0⟩ := hs2
  obtain ⟨la2, ln2, lc2⟩ := lk2
  rcases own_casesG hL with ⟨-, e2⟩ | ⟨gb, cb, e2, -, -, -⟩
  · cases e2
  replace e2 : Value.slice la2 ln2 lc2 = .slice (some ⟨gb, 0, none⟩) 1 cb := e2
  injection e2 with e3 e4 e5
  subst e3 e4 e5
  refine heldStore (i := 6) nx (by kernel_rfl) rfl hL rfl (by rfl) (by rfl) (cells_agg [.int .i64 2, .int .i64 2, .int .i64 0, .int .i64 0, .int .i64 0, .int .i64 0, .int .i64 0, .int .i64 0, .slice nd2.a nd2.n nd2.c, .slice (some ⟨gb, 0, none⟩) 1 lc2] rfl) (by rfl) ?_
  intro w19 hL
  refine ⟨⟨hL.box (g := g3) HasV.mem, hL.box (g := g4) HasV.mem, hL.box (g := g5) HasV.mem⟩, ?_⟩
  (try simp only [Act.put, zs, zt, zu])
  refine wpAnyH_done (by kernel_rfl) ?_ _
  have HZB : Hid (∀ (l' : List Item) (w' : World), Loc w NoM w' l' → row encK w.heap.size 48 (.slice (some ⟨gb, 0, none⟩) 1 lc2) [xboth] ∈ l' → w'.rangeAt gb (0 + 0 * 25) (Lnk.cells xboth)) := Lib.hid (fun l' w' h hm => row_range (h.own (E := encK) hm) (y := xboth) (i := 0) rfl)
  go_wp2_with (first
    | ((with_reducible refine gate (N := 7) rfl ?_); (refine lI rfl hL rfl cy ?_; clear hL; intro g7 w7 hL))
    | (go_at_call 13; have hq := st_two ⟨xv1, ⟨none, 0, 0⟩, ⟨some ⟨g16, 0, none⟩, 1, 1⟩⟩ ⟨xv2, ⟨none, 0, 0⟩, ⟨some ⟨gx, 0, none⟩, 1, 1⟩⟩ ⟨xv1, [], [xl0]⟩ ⟨xv2, [], [xl1]⟩ _ (ok_one (l := xl0) (hL.box (g := g16) HasV.mem)) (ok_one (l := xl1) (hL.box (g := gx) HasV.mem)) rfl rfl (by decide) xv2 seen_dead [xdead] links_dead; (refine hq.mono ?_); rintro e w21 ⟨r3, rfl, hs3, hL21⟩; replace hL := hL.takeAll (hL21.weakRow hL.size); simp only [List.cons_append, List.nil_append] at hL; clear hq hL21; refine stop ?_)
    | ((with_reducible refine qD rfl rfl ?_); (refine lI rfl hL rfl cy ?_; clear hL; intro gq wq hL)) | ((with_reducible refine qE rfl rfl ?_); (refine lJ rfl hL rfl rfl cy ?_; clear hL; intro gq wq hL)) | ((with_reducible refine qB rfl rfl ?_); (first | (refine lC rfl hL rfl rfl HasV.mem (by rfl) ?_) | (refine lA rfl hL rfl rfl HasV.mem (by rfl) ?_) | (refine lF rfl hL rfl rfl HasV.mem SegC.seg ?_))) | ((with_reducible refine qC rfl rfl ?_); (first | (refine lH rfl hL rfl rfl rfl cy (by rfl) ?_) | (refine lG rfl hL rfl rfl rfl cy (by rfl) (by rfl) ?_)); clear hL; intro wq hL) | ((with_reducible refine qA rfl rfl ?_ ?_); (exact wz rfl rfl rfl (by with_reducible rfl)); (first | (refine lD (wz rfl rfl rfl rfl) hL rfl rfl HasV.mem (by rfl) ?_) | (refine lB (wz rfl rfl rfl rfl) hL rfl rfl HasV.mem (by rfl) ?_) | (refine lE (wz rfl rfl rfl rfl) hL rfl rfl HasV.mem SegC.seg ?_))))
  unfold Stop
  obtain ⟨sv3, nd3, lk3⟩ := r3
  obtain rfl : sv3 = xv2 := hs3
  obtain ⟨la3, ln3, lc3⟩ := lk3
  rcases own_casesG hL with ⟨-, e2⟩ | ⟨gd, cd, e2, -, -, -⟩
  · cases e2
  replace e2 : Value.slice la3 ln3 lc3 = .slice (some ⟨gd, 0, none⟩) 1 cd := e2
  injection e2 with e3 e4 e5
  subst e3 e4 e5
  obtain ⟨na3, nn3, nc3⟩ := nd3
  have hrn := (hL.own (E := encN) (.tail _ (.head _))).read
  obtain ⟨ao3, cc3, e6, -⟩ := R_elem hrn
  replace e6 : Value.slice na3 nn3 nc3 = .slice ao3 0 cc3 := e6
  injection e6 with e7 e8 e9
  subst e7 e8 e9
  clear hrn
  have HRN : Hid (∀ (l' : List Item) (w' : World) (b : Nat), Loc w NoM w' l' → row encN b 43 (.slice na3 0 nc3) [] ∈ l' → encN.R w' (.slice na3 0 nc3) []) := Lib.hid (fun l' w' b h hm => (h.own (E := encN) hm).read)
  have HZD : Hid (∀ (l' : List Item) (w' : World), Loc w NoM w' l' → row encK w.heap.size 48 (.slice (some ⟨gd, 0, none⟩) 1 lc3) [xdead] ∈ l' → w'.rangeAt gd (0 + 0 * 25) (Lnk.cells xdead)) := Lib.hid (fun l' w' h hm => row_range (h.own (E := encK) hm) (y := xdead) (i := 0) rfl)
  have hve := vec_eq ⟨2, 2, 0, 0, 0, 0, 0, 0⟩ ⟨2, 2, 0, 0, 0, 0, 0, 0⟩ (r := true) (by decide)
  simp only at hve
  unfold Sta.cells
  simp only [xv2]
  have hqb := Lib.hid (fun wx => (show Calls Try.prog 35 #[.agg (encK.cells xboth).toArray] wx (fun e w' => e = .returned (.bool true) ∧ Below wx.heap.size wx w') from by
    have h9 := join_alive xboth wx
    rw [alive_both] at h9
    exact h9))
  have hqd := Lib.hid (fun wx => (show Calls Try.prog 35 #[.agg (encK.cells xdead).toArray] wx (fun e w' => e = .returned (.bool false) ∧ Below wx.heap.size wx w') from by
    have h9 := join_alive xdead wx
    rw [alive_dead] at h9
    exact h9))
  go_wp2_with (first
    | ((with_reducible refine gate (N := 7) rfl ?_); (refine lI rfl hL rfl cy ?_; clear hL; intro g7 w7 hL))
    | ((with_reducible refine gate (N := 50) rfl ?_); refine ev_loadRG (wz rfl rfl rfl rfl) rfl rfl (HZB.out _ _ hL mx) (by rfl) ?_)
    | ((with_reducible refine gate (N := 58) rfl ?_); refine ev_loadR1G (wz rfl rfl rfl rfl) rfl rfl (range_part (j := 8) (n := 1) (vs := [.string ⟨#[120]⟩]) (HZB.out _ _ hL mx) (show Seg (Lnk.cells xboth) 8 1 [.string ⟨#[120]⟩] from Seg.of rfl (by decide))) ?_)
    | ((with_reducible refine gate (N := 65) rfl ?_); refine ev_loadRG (wz rfl rfl rfl rfl) rfl rfl (HZD.out _ _ hL mx) (by rfl) ?_)
    | (go_at_call 35; first | (refine (hqb.out _).mono ?_; rintro e w31 ⟨rfl, hb31⟩; have hL := hL.call hb31; clear hb31) | (refine (hqd.out _).mono ?_; rintro e w31 ⟨rfl, hb31⟩; have hL := hL.call hb31; clear hb31))
    | (go_at_call 18; have hq := join_prune1 xv2 xv2 na3 (some ⟨gd, 0, none⟩) nc3 lc3 xdead _ (HRN.out _ _ _ hL mx) (hL.own (E := encK) (base := w.heap.size) (e := 48) (v := .slice (some ⟨gd, 0, none⟩) 1 lc3) (xs := [xdead]) mx).read rfl alive_dead (by rw [meet_dead]; decide) (by rw [meet_dead]; decide) (by rw [meet_dead]; decide) key_dead; (refine hq.mono ?_); rintro e w32 ⟨⟨pa, pc, rfl⟩, hb32⟩; clear hq; have hfd : ∀ wx, (Instr.field 27 (.agg #[.int .i64 xv2.a0, .int .i64 xv2.a1, .int .i64 xv2.a2, .int .i64 xv2.a3, .int .i64 xv2.a4, .int .i64 xv2.a5, .int .i64 xv2.a6, .int .i64 xv2.a7, .slice pa 0 pc, .slice none 0 0]) 2).run Try.prog wx = .ok (.slice none 0 0) wx := (fun wx => by kernel_rfl); have hL := hL.call hb32; clear hb32)
    | ((with_reducible refine qD rfl rfl ?_); (refine lI rfl hL rfl cy ?_; clear hL; intro gq wq hL)) | ((with_reducible refine qE rfl rfl ?_); (refine lJ rfl hL rfl rfl cy ?_; clear hL; intro gq wq hL)) | ((with_reducible refine qB rfl rfl ?_); (first | (refine lC rfl hL rfl rfl HasV.mem (by rfl) ?_) | (refine lA rfl hL rfl rfl HasV.mem (by rfl) ?_) | (refine lF rfl hL rfl rfl HasV.mem SegC.seg ?_))) | ((with_reducible refine qC rfl rfl ?_); (first | (refine lH rfl hL rfl rfl rfl cy (by rfl) ?_) | (refine lG rfl hL rfl rfl rfl cy (by rfl) (by rfl) ?_)); clear hL; intro wq hL) | ((with_reducible refine qA rfl rfl ?_ ?_); (exact wz rfl rfl rfl (by with_reducible rfl)); (first | (refine lD (wz rfl rfl rfl rfl) hL rfl rfl HasV.mem (by rfl) ?_) | (refine lB (wz rfl rfl rfl rfl) hL rfl rfl HasV.mem (by rfl) ?_) | (refine lE (wz rfl rfl rfl rfl) hL rfl rfl HasV.mem SegC.seg ?_))))
  go_ret
  exact ⟨rfl, hL.below⟩
end Go.Proofs.Ytebpacmhdkgfeaa


/- Chapter 11's laws: how much states may hold; States as a contract by what states say. -/
namespace Go.Proofs.Ytebpacmhdkgfeaa
open Go.RowKit
set_option maxHeartbeats 4000000
set_option maxRecDepth 20000
def encSt : Enc Sta := ⟨10, by decide, Sta.cells, fun _ => rfl, fun _ => ones_of rfl⟩
instance : SizeT Try.prog 27 encSt.sz := inferInstanceAs (SizeT Try.prog 27 10)
structure StaD.small (d : StaD) : Prop where
  plain : d.plain
  nodes : d.nodes.length ≤ 40
  links : d.links.length ≤ 40
theorem sta_shape {s : Sta} {d : StaD} {w : World} (h : s.Ok w d) : ∃ a c b e, s = ⟨d.seen, ⟨a, d.nodes.length, c⟩, ⟨b, d.links.length, e⟩⟩ := by
  obtain ⟨sv, ⟨a1, n1, c1⟩, ⟨a2, n2, c2⟩⟩ := s
  obtain ⟨h1, ⟨ns, hns, -, hnd⟩, hlk⟩ := h
  simp only at h1
  obtain ⟨ao, c, e1, -⟩ := R_elem hns
  obtain ⟨bo, e, e2, -⟩ := R_elem hlk
  replace e1 : Value.slice a1 n1 c1 = .slice ao ns.length c := e1
  replace e2 : Value.slice a2 n2 c2 = .slice bo d.links.length e := e2
  injection e1 with e3 e4 e5
  injection e2 with e6 e7 e8
  refine ⟨a1, c1, a2, c2, ?_⟩
  rw [h1, e4, e7, ← hnd, List.length_map]
theorem small11 (v : Value) (ss : List Sta) (ds : List StaD) (w : World) (h : encSt.R w v ss) (hl : ss.length = ds.length) (hO : ∀ i (h1 : i < ss.length) (h2 : i < ds.length), ss[i].Ok w ds[i]) :
    Calls Try.prog 11 #[v] w fun e w' => (∃ b, e = .returned (.bool b) ∧ (b = true → ∀ d ∈ ds, d.small)) ∧ Below w.heap.size w w' := by
  have hL := Loc.nil w NoM
  have hm := R_max h
  obtain ⟨ao, c, rfl, hel⟩ := R_elem h
  have HO := Lib.hid hO
  have HLN := Lib.hid hl
  clear h hO hl
  go_enter Try.func11, Try.ntmps11
  go_wp2_with (first | ((with_reducible refine qD rfl rfl ?_); (refine lI rfl hL rfl cy ?_; clear hL; intro gq wq hL)) | ((with_reducible refine qE rfl rfl ?_); (refine lJ rfl hL rfl rfl cy ?_; clear hL; intro gq wq hL)) | ((with_reducible refine qB rfl rfl ?_); (first | (refine lC rfl hL rfl rfl HasV.mem (by rfl) ?_) | (refine lA rfl hL rfl rfl HasV.mem (by rfl) ?_) | (refine lF rfl hL rfl rfl HasV.mem SegC.seg ?_))) | ((with_reducible refine qC rfl rfl ?_); (first | (refine lH rfl hL rfl rfl rfl cy (by rfl) ?_) | (refine lG rfl hL rfl rfl rfl cy (by rfl) (by rfl) ?_)); clear hL; intro wq hL) | ((with_reducible refine qA rfl rfl ?_ ?_); (exact wz rfl rfl rfl (by with_reducible rfl)); (first | (refine lD (wz rfl rfl rfl rfl) hL rfl rfl HasV.mem (by rfl) ?_) | (refine lB (wz rfl rfl rfl rfl) hL rfl rfl HasV.mem (by rfl) ?_) | (refine lE (wz rfl rfl rfl rfl) hL rfl rfl HasV.mem SegC.seg ?_))))
  go_loopw [7] (fun i wr => ∃ k : Nat, k ≤ ss.length ∧ i = .int .i64 k ∧ Hid (∀ j (h : j < ds.length), j < k → ds[j].small) ∧ Loc w NoM wr []) (fun i _ => ss.length - (intOf i).toNat)
  case atStart => exact ⟨0, by omega, rfl, Lib.hid (fun j _ h => absurd h (by omega)), hL⟩
  case round =>
    clear hL
    obtain ⟨k, hk, rfl, HS, hL⟩ := hrel
    by_cases hlt : k < ss.length
    · have hlt2 : k < ds.length := by have := HLN.out; omega
      obtain ⟨q1, o1, rfl, r1⟩ := hel k hlt
      have hok := HO.out k hlt hlt2
      obtain ⟨na, nc, la, lc, hsh⟩ := sta_shape hok
      have HK : Hid (∀ d, d = ds[k] → d.small → ∀ j (h : j < ds.length), j < k + 1 → ds[j].small) := Lib.hid (fun d hd hs j h hj => by
        rcases Nat.lt_or_ge j k with h1 | h1
        · exact HS.out j h h1
        · obtain rfl : j = k := by omega
          rw [← hd]; exact hs)
      obtain ⟨d, hd⟩ : ∃ d, d = ds[k] := ⟨_, rfl⟩
      rw [← hd] at hok hsh
      have HDK := Lib.hid hd
      have hq := Lib.hid (fun (wx : World) (hb : Below w.heap.size w wx) => plain_small ss[k] d wx (hok.below hb))
      rw [hsh] at hq
      have hz : w.rangeAt q1 (o1 + k * 10) (Sta.cells ss[k]) := r1
      rw [hsh] at hz
      unfold Sta.cells at hz
      clear r1 hsh hok hd
      have hnz : (0 : Int) ≤ (d.nodes.length : Int) := by omega
      go_wp2_with (first
        | ((with_reducible refine qF rfl rfl ?_); refine lL rfl rfl rfl rfl hlt ?_)
        | ((with_reducible refine gate (N := 10) rfl ?_); refine lK rfl rfl rfl (range_below hz hL.below) (by rfl) ?_)
        | (go_at_call 20; (refine (hq.out _ hL.below).mono ?_); rintro e w9 ⟨⟨b, rfl, hbp⟩, hb9⟩; have HBP := Lib.hid hbp; clear hbp hq; have hL := hL.call hb9; clear hb9; refine stop ?_)
        | ((with_reducible refine gate (N := 4) rfl ?_); (refine lI rfl hL rfl cy ?_; clear hL; intro g4 w4 hL))
        | ((with_reducible refine qD rfl rfl ?_); (refine lI rfl hL rfl cy ?_; clear hL; intro gq wq hL)) | ((with_reducible refine qE rfl rfl ?_); (refine lJ rfl hL rfl rfl cy ?_; clear hL; intro gq wq hL)) | ((with_reducible refine qB rfl rfl ?_); (first | (refine lC rfl hL rfl rfl HasV.mem (by rfl) ?_) | (refine lA rfl hL rfl rfl HasV.mem (by rfl) ?_) | (refine lF rfl hL rfl rfl HasV.mem SegC.seg ?_))) | ((with_reducible refine qC rfl rfl ?_); (first | (refine lH rfl hL rfl rfl rfl cy (by rfl) ?_) | (refine lG rfl hL rfl rfl rfl cy (by rfl) (by rfl) ?_)); clear hL; intro wq hL) | ((with_reducible refine qA rfl rfl ?_ ?_); (exact wz rfl rfl rfl (by with_reducible rfl)); (first | (refine lD (wz rfl rfl rfl rfl) hL rfl rfl HasV.mem (by rfl) ?_) | (refine lB (wz rfl rfl rfl rfl) hL rfl rfl HasV.mem (by rfl) ?_) | (refine lE (wz rfl rfl rfl rfl) hL rfl rfl HasV.mem SegC.seg ?_))))
      unfold Stop
      cases b
      · go_wp2_with (first | ((with_reducible refine qD rfl rfl ?_); (refine lI rfl hL rfl cy ?_; clear hL; intro gq wq hL)) | ((with_reducible refine qE rfl rfl ?_); (refine lJ rfl hL rfl rfl cy ?_; clear hL; intro gq wq hL)) | ((with_reducible refine qB rfl rfl ?_); (first | (refine lC rfl hL rfl rfl HasV.mem (by rfl) ?_) | (refine lA rfl hL rfl rfl HasV.mem (by rfl) ?_) | (refine lF rfl hL rfl rfl HasV.mem SegC.seg ?_))) | ((with_reducible refine qC rfl rfl ?_); (first | (refine lH rfl hL rfl rfl rfl cy (by rfl) ?_) | (refine lG rfl hL rfl rfl rfl cy (by rfl) (by rfl) ?_)); clear hL; intro wq hL) | ((with_reducible refine qA rfl rfl ?_ ?_); (exact wz rfl rfl rfl (by with_reducible rfl)); (first | (refine lD (wz rfl rfl rfl rfl) hL rfl rfl HasV.mem (by rfl) ?_) | (refine lB (wz rfl rfl rfl rfl) hL rfl rfl HasV.mem (by rfl) ?_) | (refine lE (wz rfl rfl rfl rfl) hL rfl rfl HasV.mem SegC.seg ?_))))
        go_ret
        exact ⟨by simp, hL.below⟩
      · by_cases hn : 40 < d.nodes.length
        · have t1 : decide ((d.nodes.length : Int) > 40) = true := (by first | (simp; done) | (simp; omega))
          go_wp2_with (first | ((with_reducible refine qD rfl rfl ?_); (refine lI rfl hL rfl cy ?_; clear hL; intro gq wq hL)) | ((with_reducible refine qE rfl rfl ?_); (refine lJ rfl hL rfl rfl cy ?_; clear hL; intro gq wq hL)) | ((with_reducible refine qB rfl rfl ?_); (first | (refine lC rfl hL rfl rfl HasV.mem (by rfl) ?_) | (refine lA rfl hL rfl rfl HasV.mem (by rfl) ?_) | (refine lF rfl hL rfl rfl HasV.mem SegC.seg ?_))) | ((with_reducible refine qC rfl rfl ?_); (first | (refine lH rfl hL rfl rfl rfl cy (by rfl) ?_) | (refine lG rfl hL rfl rfl rfl cy (by rfl) (by rfl) ?_)); clear hL; intro wq hL) | ((with_reducible refine qA rfl rfl ?_ ?_); (exact wz rfl rfl rfl (by with_reducible rfl)); (first | (refine lD (wz rfl rfl rfl rfl) hL rfl rfl HasV.mem (by rfl) ?_) | (refine lB (wz rfl rfl rfl rfl) hL rfl rfl HasV.mem (by rfl) ?_) | (refine lE (wz rfl rfl rfl rfl) hL rfl rfl HasV.mem SegC.seg ?_))))
          go_ret
          exact ⟨by simp, hL.below⟩
        · have t1 : decide ((d.nodes.length : Int) > 40) = false := (by first | (simp; done) | (simp; omega))
          by_cases hm2 : 40 < d.links.length
          · have t2 : decide ((d.links.length : Int) > 40) = true := (by first | (simp; done) | (simp; omega))
            go_wp2_with (first | ((with_reducible refine qD rfl rfl ?_); (refine lI rfl hL rfl cy ?_; clear hL; intro gq wq hL)) | ((with_reducible refine qE rfl rfl ?_); (refine lJ rfl hL rfl rfl cy ?_; clear hL; intro gq wq hL)) | ((with_reducible refine qB rfl rfl ?_); (first | (refine lC rfl hL rfl rfl HasV.mem (by rfl) ?_) | (refine lA rfl hL rfl rfl HasV.mem (by rfl) ?_) | (refine lF rfl hL rfl rfl HasV.mem SegC.seg ?_))) | ((with_reducible refine qC rfl rfl ?_); (first | (refine lH rfl hL rfl rfl rfl cy (by rfl) ?_) | (refine lG rfl hL rfl rfl rfl cy (by rfl) (by rfl) ?_)); clear hL; intro wq hL) | ((with_reducible refine qA rfl rfl ?_ ?_); (exact wz rfl rfl rfl (by with_reducible rfl)); (first | (refine lD (wz rfl rfl rfl rfl) hL rfl rfl HasV.mem (by rfl) ?_) | (refine lB (wz rfl rfl rfl rfl) hL rfl rfl HasV.mem (by rfl) ?_) | (refine lE (wz rfl rfl rfl rfl) hL rfl rfl HasV.mem SegC.seg ?_))))
            go_ret
            exact ⟨by simp, hL.below⟩
          · have t2 : decide ((d.links.length : Int) > 40) = false := (by first | (simp; done) | (simp; omega))
            have HS2 := Lib.hid (HK.out d HDK.out ⟨HBP.out rfl, by omega, by omega⟩)
            go_wp2_with (first | ((with_reducible refine qD rfl rfl ?_); (refine lI rfl hL rfl cy ?_; clear hL; intro gq wq hL)) | ((with_reducible refine qE rfl rfl ?_); (refine lJ rfl hL rfl rfl cy ?_; clear hL; intro gq wq hL)) | ((with_reducible refine qB rfl rfl ?_); (first | (refine lC rfl hL rfl rfl HasV.mem (by rfl) ?_) | (refine lA rfl hL rfl rfl HasV.mem (by rfl) ?_) | (refine lF rfl hL rfl rfl HasV.mem SegC.seg ?_))) | ((with_reducible refine qC rfl rfl ?_); (first | (refine lH rfl hL rfl rfl rfl cy (by rfl) ?_) | (refine lG rfl hL rfl rfl rfl cy (by rfl) (by rfl) ?_)); clear hL; intro wq hL) | ((with_reducible refine qA rfl rfl ?_ ?_); (exact wz rfl rfl rfl (by with_reducible rfl)); (first | (refine lD (wz rfl rfl rfl rfl) hL rfl rfl HasV.mem (by rfl) ?_) | (refine lB (wz rfl rfl rfl rfl) hL rfl rfl HasV.mem (by rfl) ?_) | (refine lE (wz rfl rfl rfl rfl) hL rfl rfl HasV.mem SegC.seg ?_))))
            go_roundw
            case rel => exact ⟨k + 1, by omega, by go_num, HS2, hL.sub (List.nil_sublist _)⟩
            case measure => simp [intOf]; omega
    · obtain rfl : k = ss.length := by omega
      go_wp2_with (first | ((with_reducible refine qD rfl rfl ?_); (refine lI rfl hL rfl cy ?_; clear hL; intro gq wq hL)) | ((with_reducible refine qE rfl rfl ?_); (refine lJ rfl hL rfl rfl cy ?_; clear hL; intro gq wq hL)) | ((with_reducible refine qB rfl rfl ?_); (first | (refine lC rfl hL rfl rfl HasV.mem (by rfl) ?_) | (refine lA rfl hL rfl rfl HasV.mem (by rfl) ?_) | (refine lF rfl hL rfl rfl HasV.mem SegC.seg ?_))) | ((with_reducible refine qC rfl rfl ?_); (first | (refine lH rfl hL rfl rfl rfl cy (by rfl) ?_) | (refine lG rfl hL rfl rfl rfl cy (by rfl) (by rfl) ?_)); clear hL; intro wq hL) | ((with_reducible refine qA rfl rfl ?_ ?_); (exact wz rfl rfl rfl (by with_reducible rfl)); (first | (refine lD (wz rfl rfl rfl rfl) hL rfl rfl HasV.mem (by rfl) ?_) | (refine lB (wz rfl rfl rfl rfl) hL rfl rfl HasV.mem (by rfl) ?_) | (refine lE (wz rfl rfl rfl rfl) hL rfl rfl HasV.mem SegC.seg ?_))))
      go_ret
      refine ⟨⟨true, rfl, fun _ d hd => ?_⟩, hL.below⟩
      obtain ⟨j, hj, rfl⟩ := List.mem_iff_getElem.1 hd
      exact HS.out j hj (by have := HLN.out; omega)
/-- States, by what is said. -/
theorem states_ok (s t : Sta) (ds dt : StaD) (w : World) (hs : s.Ok w ds) (ht : t.Ok w dt) (B : Nat) (hB : ∀ n ∈ ds.nodes ++ dt.nodes, n.ps.length ≤ B ∧ n.xs.length ≤ B) (hn : ds.nodes.length + dt.nodes.length ≤ 1000000) (hBn : B * (ds.nodes.length + dt.nodes.length) ≤ 100000000) (hl : ds.links.length + dt.links.length ≤ 100000000) :
    Calls Try.prog 13 #[.agg (Sta.cells s).toArray, .agg (Sta.cells t).toArray] w fun e w' => ∃ r : Sta, e = .returned (.agg (Sta.cells r).toArray) ∧ r.Ok w' (ds.join dt) ∧ (∀ n ∈ (ds.join dt).nodes, n.ps.length ≤ B * (ds.nodes.length + dt.nodes.length) ∧ n.xs.length ≤ B * (ds.nodes.length + dt.nodes.length)) ∧ Below w.heap.size w w' :=
  (join_States s t ds dt w hs ht B hB hn hBn hl).mono fun e w' ⟨r, he, hsn, F, L, hd, hb, hL⟩ => by
    refine ⟨r, he, ⟨hsn, ⟨L, (hL.own (.head _)).read, hL.nested (.refl _ _) (.tail _ (.tail _ (.head _))), hd⟩, (hL.own (.tail _ (.head _))).read⟩, fun n hn => ?_, hL.below⟩
    rw [← hd] at hn
    obtain ⟨m, hm, rfl⟩ := List.mem_map.1 hn
    exact hb m hm
theorem join_nodes_len (ds dt : StaD) : (ds.join dt).nodes.length ≤ ds.nodes.length + dt.nodes.length := by
  show ((nodesD (ds.nodes ++ dt.nodes)).map InoD.norm).length ≤ _
  rw [List.length_map, ← List.length_append]; exact nodes_len _
theorem join_links_len (ds dt : StaD) : (ds.join dt).links.length ≤ ds.links.length + dt.links.length := by
  show (linksD (ds.links ++ dt.links)).length ≤ _
  rw [← List.length_append]; exact links_len _
/-- How much a state holds, at most. -/
structure StaD.Fit (B N : Nat) (d : StaD) : Prop where
  nodes : d.nodes.length ≤ N
  links : d.links.length ≤ N
  each : ∀ n ∈ d.nodes, n.ps.length ≤ B ∧ n.xs.length ≤ B
theorem StaD.small.fit {d : StaD} (h : d.small) : d.Fit 120 40 := ⟨h.nodes, h.links, fun n hn => ⟨h.plain.ps n hn, h.plain.xs n hn⟩⟩
theorem StaD.Fit.mono {B N B' N' : Nat} {d : StaD} (h : d.Fit B N) (hB : B ≤ B') (hN : N ≤ N') : d.Fit B' N' := ⟨Nat.le_trans h.nodes hN, Nat.le_trans h.links hN, fun n hn => ⟨Nat.le_trans (h.each n hn).1 hB, Nat.le_trans (h.each n hn).2 hB⟩⟩
theorem states_fit (s t : Sta) (ds dt : StaD) (w : World) (hs : s.Ok w ds) (ht : t.Ok w dt) (B N : Nat) (hB : B * (2 * N) ≤ 100000000) (hN : N ≤ 100000) (f1 : ds.Fit B N) (f2 : dt.Fit B N) :
    Calls Try.prog 13 #[.agg (Sta.cells s).toArray, .agg (Sta.cells t).toArray] w fun e w' => ∃ r : Sta, e = .returned (.agg (Sta.cells r).toArray) ∧ r.Ok w' (ds.join dt) ∧ (ds.join dt).Fit (B * (2 * N)) (2 * N) ∧ Below w.heap.size w w' :=
  (states_ok s t ds dt w hs ht B (fun n hn => (List.mem_append.1 hn).elim (f1.each n) (f2.each n)) (by have := f1.nodes; have := f2.nodes; omega)
    (Nat.le_trans (Nat.mul_le_mul_left B (by have := f1.nodes; have := f2.nodes; omega)) hB) (by have := f1.links; have := f2.links; omega)).mono fun e w' ⟨r, he, ho, hb, hbw⟩ => by
    have hm : B * (ds.nodes.length + dt.nodes.length) ≤ B * (2 * N) := Nat.mul_le_mul_left B (by have := f1.nodes; have := f2.nodes; omega)
    have h1 := join_nodes_len ds dt
    have h2 := join_links_len ds dt
    have := f1.nodes; have := f2.nodes; have := f1.links; have := f2.links
    exact ⟨r, he, ho, ⟨by omega, by omega, fun n hn => ⟨Nat.le_trans (hb n hn).1 hm, Nat.le_trans (hb n hn).2 hm⟩⟩, hbw⟩
theorem two_ok {w : World} {s t : Sta} {a b : StaD} (h1 : s.Ok w a) (h2 : t.Ok w b) : ∀ i (p : i < [s, t].length) (q : i < [a, b].length), [s, t][i].Ok w [a, b][i]
  | 0, _, _ => h1
  | 1, _, _ => h2
  | i + 2, p, _ => by simp at p; omega
end Go.Proofs.Ytebpacmhdkgfeaa


/- The document's Node (chapter 10): the inode of an id. -/
namespace Go.Proofs.Ytebpacmhdkgfeaa
open Go.RowKit
set_option maxHeartbeats 4000000
set_option maxRecDepth 20000
theorem stampJ_eql (a b : Mk) {r : Bool} (h : decide (a = b) = r) : ∀ w, (binOp .eql 34 (.agg #[.int .i64 a.boot, .int .i64 a.n]) (.agg #[.int .i64 b.boot, .int .i64 b.n])).run Try.prog w = .ok (.bool r) w := by
  have h0 : eqCells Try.prog 3 34 [.int .i64 a.boot, .int .i64 a.n] [.int .i64 b.boot, .int .i64 b.n] = some (a.boot == b.boot && (a.n == b.n && true)) := by kernel_rfl
  have e : (a.boot == b.boot && (a.n == b.n && true)) = r := by
    rw [← h]
    obtain ⟨a1, a2⟩ := a; obtain ⟨b1, b2⟩ := b
    rw [Bool.eq_iff_iff]; simp
  rw [e] at h0
  exact run_eql_cells 3 (by decide) (by kernel_rfl) h0
theorem res_cell_tmp {P : Program} {fn : Func} {p q : Tmp} {ty : TypeId} (h : fn.results = #[.cell p ty, .tmp q]) (tmps : Array Value) (w : World) (g : Nat) (t : TypeId) (cs : Array Value) (v : Value)
    (hp : tmps.getD p undef = .pointer (some ⟨g, 0, none⟩)) (hq : tmps.getD q undef = v) (hg : Box w g cs t) (ha : isAggT P ty = true) (hi : (P.info? ty).map (·.size) = some cs.size) :
    (results fn tmps).run P w = .ok (.tuple #[.agg cs, v]) w := by
  have hp' : tmps[p]?.getD undef = .pointer (some ⟨g, 0, none⟩) := by simpa using hp
  have hq' : tmps[q]?.getD undef = v := by simpa using hq
  cases hu : P.underlying ty with
  | none => simp [isAggT, hu] at ha
  | some d =>
    have hd : (match d with | .struct _ | .array _ _ => true | _ => false) = true := by unfold isAggT at ha; rw [hu] at ha; cases d <;> simp_all
    simp [results, h, hp', hq', asAddr, run_loadVar_row w g t ty cs (0, 0) d hg hu hd hi]
/-- What is got of what was put is what was put. -/
def ino0 : Ino := ⟨⟨⟨0, 0⟩, 0, ⟨#[]⟩, ⟨⟨0, 0⟩, 0, 0⟩, ⟨⟨0, 0⟩, 0⟩⟩, ⟨none, 0, 0⟩, ⟨none, 0, 0⟩⟩
theorem ref10_node (s : Sta) (ns : List Nd) (id : Mk) (w : World) (hn : encN.R w s.nodes.val ns) :
    Calls Try.prog 15 #[.agg (Sta.cells s).toArray, .agg #[.int .i64 id.boot, .int .i64 id.n]] w fun e w' => ((∃ n ∈ ns, n.s.hd.id = id ∧ e = .returned (.tuple #[.agg (Ino.cells n.s).toArray, .bool true])) ∨ ((∀ n ∈ ns, n.s.hd.id ≠ id) ∧ e = .returned (.tuple #[.agg (Ino.cells ino0).toArray, .bool false]))) ∧ Below w.heap.size w w' := by
  have hL := Loc.nil w NoM
  obtain ⟨sv, ⟨sa, sn, sc⟩, ⟨la, ln, lc⟩⟩ := s
  have hm := R_max hn
  obtain ⟨ao, c, e1, hel⟩ := R_elem hn
  replace e1 : Value.slice sa sn sc = .slice ao ns.length c := e1
  injection e1 with e2 e3 e4
  subst e2 e3 e4
  clear hn
  unfold Sta.cells
  simp only
  go_enter Try.func15, Try.ntmps15
  go_wp2_with (first | ((with_reducible refine gate (N := 2) rfl ?_); (refine lJ rfl hL rfl rfl cy ?_; clear hL; intro g2 w2 hL)) | ((with_reducible refine gate (N := 3) rfl ?_); (refine lJ rfl hL rfl rfl cy ?_; clear hL; intro g3 w3 hL)) | ((with_reducible refine gate (N := 4) rfl ?_); (refine lI rfl hL rfl cy ?_; clear hL; intro g4 w4 hL)) | ((with_reducible refine qD rfl rfl ?_); (refine lI rfl hL rfl cy ?_; clear hL; intro gq wq hL)) | ((with_reducible refine qE rfl rfl ?_); (refine lJ rfl hL rfl rfl cy ?_; clear hL; intro gq wq hL)) | ((with_reducible refine qB rfl rfl ?_); (first | (refine lC rfl hL rfl rfl HasV.mem (by rfl) ?_) | (refine lA rfl hL rfl rfl HasV.mem (by rfl) ?_) | (refine lF rfl hL rfl rfl HasV.mem SegC.seg ?_))) | ((with_reducible refine qC rfl rfl ?_); (first | (refine lH rfl hL rfl rfl rfl cy (by rfl) ?_) | (refine lG rfl hL rfl rfl rfl cy (by rfl) (by rfl) ?_)); clear hL; intro wq hL) | ((with_reducible refine qA rfl rfl ?_ ?_); (exact wz rfl rfl rfl (by with_reducible rfl)); (first | (refine lD (wz rfl rfl rfl rfl) hL rfl rfl HasV.mem (by rfl) ?_) | (refine lB (wz rfl rfl rfl rfl) hL rfl rfl HasV.mem (by rfl) ?_) | (refine lE (wz rfl rfl rfl rfl) hL rfl rfl HasV.mem SegC.seg ?_))))
  go_loopw [11] (fun i wr => ∃ k : Nat, k ≤ ns.length ∧ i = .int .i64 k ∧ Hid (∀ j (h : j < ns.length), j < k → ns[j].s.hd.id ≠ id) ∧ Loc w NoM wr [var g4 (Ino.cells ino0) 43, var g3 [.int .i64 id.boot, .int .i64 id.n] 34]) (fun i _ => ns.length - (intOf i).toNat)
  case atStart => exact ⟨0, by omega, rfl, Lib.hid (fun j _ h => absurd h (by omega)), hL.sub (.cons_cons _ (.cons_cons _ (List.nil_sublist _)))⟩
  case round =>
    clear hL
    obtain ⟨k, hk, rfl, HN, hL⟩ := hrel
    unfold Ino.cells ino0 at hL
    simp only at hL
    by_cases hlt : k < ns.length
    · obtain ⟨q1, o1, rfl, r1⟩ := hel k hlt
      have hz : w.rangeAt q1 (o1 + k * 13) (Ino.cells ns[k].s) := r1
      have HE := Lib.hid (fun (r : Bool) (hr : decide (ns[k].s.hd.id = id) = r) => stampJ_eql ns[k].s.hd.id id hr)
      have HM := Lib.hid (List.getElem_mem hlt)
      have HX : Hid (∃ x, ns[k] = x) := Lib.hid ⟨_, rfl⟩
      obtain ⟨x, hx⟩ := HX.out
      rw [hx] at hz HE HM
      have HK := Lib.hid hx
      clear r1 hx HX
      unfold Ino.cells at hz
      by_cases he : x.s.hd.id = id
      · have h1 := HE.out true (by simp [he])
        have HI := Lib.hid he
        clear he
        go_wp2_with (first
          | ((with_reducible refine qF rfl rfl ?_); refine lL rfl rfl rfl rfl hlt ?_)
          | ((with_reducible refine gate (N := 14) rfl ?_); refine lK rfl rfl rfl (range_below hz hL.below) (by rfl) ?_)
          | ((with_reducible refine gate (N := 7) rfl ?_); (refine lI rfl hL rfl cy ?_; clear hL; intro g7 w7 hL))
          | ((with_reducible refine qD rfl rfl ?_); (refine lI rfl hL rfl cy ?_; clear hL; intro gq wq hL)) | ((with_reducible refine qE rfl rfl ?_); (refine lJ rfl hL rfl rfl cy ?_; clear hL; intro gq wq hL)) | ((with_reducible refine qB rfl rfl ?_); (first | (refine lC rfl hL rfl rfl HasV.mem (by rfl) ?_) | (refine lA rfl hL rfl rfl HasV.mem (by rfl) ?_) | (refine lF rfl hL rfl rfl HasV.mem SegC.seg ?_))) | ((with_reducible refine qC rfl rfl ?_); (first | (refine lH rfl hL rfl rfl rfl cy (by rfl) ?_) | (refine lG rfl hL rfl rfl rfl cy (by rfl) (by rfl) ?_)); clear hL; intro wq hL) | ((with_reducible refine qA rfl rfl ?_ ?_); (exact wz rfl rfl rfl (by with_reducible rfl)); (first | (refine lD (wz rfl rfl rfl rfl) hL rfl rfl HasV.mem (by rfl) ?_) | (refine lB (wz rfl rfl rfl rfl) hL rfl rfl HasV.mem (by rfl) ?_) | (refine lE (wz rfl rfl rfl rfl) hL rfl rfl HasV.mem SegC.seg ?_))))
        exact bodyPost_ret (res_cell_tmp rfl _ _ g4 43 (Ino.cells x.s).toArray (.bool true) rfl rfl (hL.box (g := g4) HasV.mem) (by kernel_rfl) (by kernel_rfl)) rfl ⟨.inl ⟨x, HM.out, HI.out, rfl⟩, hL.below⟩
      · have h1 := HE.out false (by simp [he])
        have HN2 : Hid (∀ j (h : j < ns.length), j < k + 1 → ns[j].s.hd.id ≠ id) := Lib.hid (fun j h hj => by
          rcases Nat.lt_or_ge j k with h2 | h2
          · exact HN.out j h h2
          · obtain rfl : j = k := by omega
            rw [HK.out]; exact he)
        clear he
        go_wp2_with (first
          | ((with_reducible refine qF rfl rfl ?_); refine lL rfl rfl rfl rfl hlt ?_)
          | ((with_reducible refine gate (N := 14) rfl ?_); refine lK rfl rfl rfl (range_below hz hL.below) (by rfl) ?_)
          | ((with_reducible refine gate (N := 7) rfl ?_); (refine lI rfl hL rfl cy ?_; clear hL; intro g7 w7 hL))
          | ((with_reducible refine qD rfl rfl ?_); (refine lI rfl hL rfl cy ?_; clear hL; intro gq wq hL)) | ((with_reducible refine qE rfl rfl ?_); (refine lJ rfl hL rfl rfl cy ?_; clear hL; intro gq wq hL)) | ((with_reducible refine qB rfl rfl ?_); (first | (refine lC rfl hL rfl rfl HasV.mem (by rfl) ?_) | (refine lA rfl hL rfl rfl HasV.mem (by rfl) ?_) | (refine lF rfl hL rfl rfl HasV.mem SegC.seg ?_))) | ((with_reducible refine qC rfl rfl ?_); (first | (refine lH rfl hL rfl rfl rfl cy (by rfl) ?_) | (refine lG rfl hL rfl rfl rfl cy (by rfl) (by rfl) ?_)); clear hL; intro wq hL) | ((with_reducible refine qA rfl rfl ?_ ?_); (exact wz rfl rfl rfl (by with_reducible rfl)); (first | (refine lD (wz rfl rfl rfl rfl) hL rfl rfl HasV.mem (by rfl) ?_) | (refine lB (wz rfl rfl rfl rfl) hL rfl rfl HasV.mem (by rfl) ?_) | (refine lE (wz rfl rfl rfl rfl) hL rfl rfl HasV.mem SegC.seg ?_))))
        go_roundw
        case rel => exact ⟨k + 1, by omega, by go_num, HN2, hL.sub (.cons _ (.refl _))⟩
        case measure => simp [intOf]; omega
    · obtain rfl : k = ns.length := by omega
      go_wp2_with (first | ((with_reducible refine qD rfl rfl ?_); (refine lI rfl hL rfl cy ?_; clear hL; intro gq wq hL)) | ((with_reducible refine qE rfl rfl ?_); (refine lJ rfl hL rfl rfl cy ?_; clear hL; intro gq wq hL)) | ((with_reducible refine qB rfl rfl ?_); (first | (refine lC rfl hL rfl rfl HasV.mem (by rfl) ?_) | (refine lA rfl hL rfl rfl HasV.mem (by rfl) ?_) | (refine lF rfl hL rfl rfl HasV.mem SegC.seg ?_))) | ((with_reducible refine qC rfl rfl ?_); (first | (refine lH rfl hL rfl rfl rfl cy (by rfl) ?_) | (refine lG rfl hL rfl rfl rfl cy (by rfl) (by rfl) ?_)); clear hL; intro wq hL) | ((with_reducible refine qA rfl rfl ?_ ?_); (exact wz rfl rfl rfl (by with_reducible rfl)); (first | (refine lD (wz rfl rfl rfl rfl) hL rfl rfl HasV.mem (by rfl) ?_) | (refine lB (wz rfl rfl rfl rfl) hL rfl rfl HasV.mem (by rfl) ?_) | (refine lE (wz rfl rfl rfl rfl) hL rfl rfl HasV.mem SegC.seg ?_))))
      refine bodyPost_ret (res_cell_tmp rfl _ _ g4 43 (Ino.cells ino0).toArray (.bool false) rfl rfl (hL.box (g := g4) HasV.mem) (by kernel_rfl) (by kernel_rfl)) rfl ⟨.inr ⟨fun n hn => ?_, rfl⟩, hL.below⟩
      obtain ⟨j, hj, rfl⟩ := List.mem_iff_getElem.1 hn
      exact HN.out j hj hj
end Go.Proofs.Ytebpacmhdkgfeaa


/- The law JoinAll walked. -/
namespace Go.Proofs.Ytebpacmhdkgfeaa
open Go.RowKit
set_option maxHeartbeats 8000000
set_option maxRecDepth 100000
theorem joined_nodes (a b : StaD) : (∀ n ∈ a.nodes ++ b.nodes, (∃ m ∈ (a.join b).nodes, m.hd.id = n.hd.id) ∧ ∀ m ∈ (a.join b).nodes, m.hd.id = n.hd.id → m.Above n) ∧ ∀ m ∈ (a.join b).nodes, ∃ n ∈ a.nodes ++ b.nodes, n.hd.id = m.hd.id := by
  refine ⟨fun n hn => ⟨?_, fun m hm he => ?_⟩, fun m hm => ?_⟩
  · obtain ⟨p, hp, he⟩ := nodes_has hn
    exact ⟨p.norm, List.mem_map.2 ⟨p, hp, rfl⟩, he⟩
  · obtain ⟨p, hp, rfl⟩ := List.mem_map.1 hm
    have h := nodes_above hn hp he.symm
    exact ⟨h.kind, h.attr, h.size⟩
  · obtain ⟨p, hp, rfl⟩ := List.mem_map.1 hm
    have h9 := nodes_of hp
    exact h9
theorem joined_links (a b : StaD) : ∀ l ∈ a.links ++ b.links, (∃ m ∈ (a.join b).links, m.id = l.id) ∧ ∀ m ∈ (a.join b).links, m.id = l.id → m.Above l := fun l hl =>
  ⟨links_has hl, fun m hm he => links_above hl hm he.symm⟩
theorem node_in (s : Sta) (d : StaD) (id : Mk) (w w0 : World) (h : s.Ok w0 d) (hb : Below w0.heap.size w0 w) :
    Calls Try.prog 15 #[.agg (Sta.cells s).toArray, .agg #[.int .i64 id.boot, .int .i64 id.n]] w fun e w' => (∃ (x : Ino) (f : Bool), e = .returned (.tuple #[.agg (Ino.cells x).toArray, .bool f]) ∧ Hid ((f = true → ∃ n ∈ d.nodes, n.hd = x.hd ∧ x.hd.id = id) ∧ (f = false → ∀ n ∈ d.nodes, n.hd.id ≠ id))) ∧ Below w.heap.size w w' := by
  obtain ⟨ns, h1, h2, h3⟩ := h.nodes
  refine (ref10_node s ns id w (h1.below hb)).mono ?_
  rintro e w9 ⟨⟨n, hn, he, rfl⟩ | ⟨hn, rfl⟩, hb9⟩
  · exact ⟨⟨n.s, true, rfl, Lib.hid ⟨fun _ => ⟨n.d, h3 ▸ List.mem_map.2 ⟨n, hn, rfl⟩, (h2 n hn).hd.symm, he⟩, fun h => (by cases h)⟩⟩, hb9⟩
  · refine ⟨⟨ino0, false, rfl, Lib.hid ⟨fun h => (by cases h), fun _ m hm => ?_⟩⟩, hb9⟩
    rw [← h3] at hm
    obtain ⟨n, hn9, rfl⟩ := List.mem_map.1 hm
    rw [← (h2 n hn9).hd]
    exact hn n hn9
theorem node_rows {v : V8} {a : Option Addr} {n c : Nat} {l : Sl} {w : World} {d : StaD} (h : Sta.Ok w ⟨v, ⟨a, n, c⟩, l⟩ d) :
    ∀ j (hj : j < d.nodes.length), ∃ q o x, a = some ⟨q, o, none⟩ ∧ w.rangeAt q (o + j * 13) (Ino.cells x) ∧ x.hd = d.nodes[j].hd := by
  obtain ⟨ns, h1, h2, h3⟩ := h.nodes
  intro j hj
  have hl : ns.length = d.nodes.length := by rw [← h3, List.length_map]
  obtain ⟨ao, c9, e1, hel⟩ := R_elem h1
  replace e1 : Value.slice a n c = .slice ao ns.length c9 := e1
  injection e1 with e2 e3 e4
  obtain ⟨q, o, e5, hr⟩ := hel j (by omega)
  refine ⟨q, o, ns[j].s, e2.trans e5, hr, ?_⟩
  rw [(h2 _ (List.getElem_mem _)).hd]
  simp only [← h3, List.getElem_map]
theorem link_rows {v : V8} {a : Option Addr} {n c : Nat} {m : Sl} {w : World} {d : StaD} (h : Sta.Ok w ⟨v, m, ⟨a, n, c⟩⟩ d) :
    ∀ j (hj : j < d.links.length), ∃ q o, a = some ⟨q, o, none⟩ ∧ w.rangeAt q (o + j * 25) (Lnk.cells d.links[j]) := by
  intro j hj
  obtain ⟨ao, c9, e1, hel⟩ := R_elem h.links
  replace e1 : Value.slice a n c = .slice ao d.links.length c9 := e1
  injection e1 with e2 e3 e4
  obtain ⟨q, o, e5, hr⟩ := hel j hj
  exact ⟨q, o, e2.trans e5, hr⟩
theorem nodes_max {s : Sta} {w : World} {d : StaD} (h : s.Ok w d) : d.nodes.length ≤ 9223372036854775807 := by
  obtain ⟨ns, h1, h2, h3⟩ := h.nodes
  have := R_max h1
  rw [← h3, List.length_map]; exact this
theorem links_max {s : Sta} {w : World} {d : StaD} (h : s.Ok w d) : d.links.length ≤ 9223372036854775807 := R_max h.links
theorem law_JoinAll (s : Sta) (da : StaD) (t : Sta) (db : StaD) (w : World) (hO0 : s.Ok w da) (hw0 : da.wf maxLen) (hO1 : t.Ok w db) (hw1 : db.wf maxLen) :
    Calls Try.prog 3 #[.agg (Sta.cells s).toArray, .agg (Sta.cells t).toArray] w fun e w' => e = .returned (.bool true) ∧ Below w.heap.size w w' := by
  have hL := Loc.nil w NoM
  clear hw0 hw1
  obtain ⟨a1, c1, a2, c2, rfl⟩ := sta_shape hO0
  obtain ⟨b1, e1, b2, e2, rfl⟩ := sta_shape hO1
  unfold Sta.cells
  simp only
  go_enter Try.func3, Try.ntmps3
  go_wp2_with (first
    | ((with_reducible refine gate (N := 2) rfl ?_); (refine lJ rfl hL rfl rfl cy ?_; clear hL; intro g2 w2 hL)) | ((with_reducible refine gate (N := 3) rfl ?_); (refine lJ rfl hL rfl rfl cy ?_; clear hL; intro g3 w3 hL))
    | ((with_reducible refine gate (N := 25) rfl ?_); refine lM (cs := ([.int .i64 da.seen.a0, .int .i64 da.seen.a1, .int .i64 da.seen.a2, .int .i64 da.seen.a3, .int .i64 da.seen.a4, .int .i64 da.seen.a5, .int .i64 da.seen.a6, .int .i64 da.seen.a7, .slice a1 da.nodes.length c1, .slice a2 da.links.length c2] ++ [.int .i64 db.seen.a0, .int .i64 db.seen.a1, .int .i64 db.seen.a2, .int .i64 db.seen.a3, .int .i64 db.seen.a4, .int .i64 db.seen.a5, .int .i64 db.seen.a6, .int .i64 db.seen.a7, .slice b1 db.nodes.length e1, .slice b2 db.links.length e2] : List Value)) rfl hL rfl rfl rfl (by kernel_rfl) ?_; clear hL; intro g25 wq hL)
    | (go_at_call 11; have hq := small11 (.slice (some ⟨g25, 0, none⟩) 2 2) [⟨da.seen, ⟨a1, da.nodes.length, c1⟩, ⟨a2, da.links.length, c2⟩⟩, ⟨db.seen, ⟨b1, db.nodes.length, e1⟩, ⟨b2, db.links.length, e2⟩⟩] [da, db] _ (R_box (E := encSt) (t := 27) _ (hL.box (g := g25) HasV.mem) (by simp [Enc.all, encSt, Sta.cells]) (by simp)) rfl (two_ok (hO0.below hL.below) (hO1.below hL.below)); (with_reducible refine hq.mono ?_); rintro e w9 ⟨⟨b, rfl, hbs⟩, hb9⟩; clear hq; have hL := hL.call hb9; clear hb9; refine stop ?_)
    | ((with_reducible refine qD rfl rfl ?_); (refine lI rfl hL rfl cy ?_; clear hL; intro gq wq hL)) | ((with_reducible refine qE rfl rfl ?_); (refine lJ rfl hL rfl rfl cy ?_; clear hL; intro gq wq hL)) | ((with_reducible refine qB rfl rfl ?_); (first | (refine lC rfl hL rfl rfl HasV.mem (by rfl) ?_) | (refine lA rfl hL rfl rfl HasV.mem (by rfl) ?_) | (refine lF rfl hL rfl rfl HasV.mem SegC.seg ?_))) | ((with_reducible refine qC rfl rfl ?_); (first | (refine lH rfl hL rfl rfl rfl cy (by rfl) ?_) | (refine lG rfl hL rfl rfl rfl cy (by rfl) (by rfl) ?_)); clear hL; intro wq hL) | ((with_reducible refine qA rfl rfl ?_ ?_); (exact wz rfl rfl rfl (by with_reducible rfl)); (first | (refine lD (wz rfl rfl rfl rfl) hL rfl rfl HasV.mem (by rfl) ?_) | (refine lB (wz rfl rfl rfl rfl) hL rfl rfl HasV.mem (by rfl) ?_) | (refine lE (wz rfl rfl rfl rfl) hL rfl rfl HasV.mem SegC.seg ?_))))
  unfold Stop
  cases b
  · clear hbs
    go_wp2_with (first
      | (go_at_call 12; (with_reducible refine (awake11 _).mono ?_); rintro e w10 ⟨rfl, hb10⟩; have hL := hL.call hb10; clear hb10)
      | ((with_reducible refine qD rfl rfl ?_); (refine lI rfl hL rfl cy ?_; clear hL; intro gq wq hL)) | ((with_reducible refine qE rfl rfl ?_); (refine lJ rfl hL rfl rfl cy ?_; clear hL; intro gq wq hL)) | ((with_reducible refine qB rfl rfl ?_); (first | (refine lC rfl hL rfl rfl HasV.mem (by rfl) ?_) | (refine lA rfl hL rfl rfl HasV.mem (by rfl) ?_) | (refine lF rfl hL rfl rfl HasV.mem SegC.seg ?_))) | ((with_reducible refine qC rfl rfl ?_); (first | (refine lH rfl hL rfl rfl rfl cy (by rfl) ?_) | (refine lG rfl hL rfl rfl rfl cy (by rfl) (by rfl) ?_)); clear hL; intro wq hL) | ((with_reducible refine qA rfl rfl ?_ ?_); (exact wz rfl rfl rfl (by with_reducible rfl)); (first | (refine lD (wz rfl rfl rfl rfl) hL rfl rfl HasV.mem (by rfl) ?_) | (refine lB (wz rfl rfl rfl rfl) hL rfl rfl HasV.mem (by rfl) ?_) | (refine lE (wz rfl rfl rfl rfl) hL rfl rfl HasV.mem SegC.seg ?_))))
    go_ret
    exact ⟨rfl, hL.below⟩
  · have hsm := hbs rfl
    have fa := (hsm da (.head _)).fit
    have fb := (hsm db (.tail _ (.head _))).fit
    clear hsm hbs
    go_wp2_with (first
      | (go_at_call 13; have hq := states_fit ⟨da.seen, ⟨a1, da.nodes.length, c1⟩, ⟨a2, da.links.length, c2⟩⟩ ⟨db.seen, ⟨b1, db.nodes.length, e1⟩, ⟨b2, db.links.length, e2⟩⟩ da db _ (hO0.below hL.below) (hO1.below hL.below) 120 40 (by decide) (by decide) fa fb; (refine hq.mono ?_); rintro e w11 ⟨r, rfl, orr, fab, hb11⟩; clear hq; have hL := hL.call hb11; clear hb11; refine stop ?_)
      | ((with_reducible refine qD rfl rfl ?_); (refine lI rfl hL rfl cy ?_; clear hL; intro gq wq hL)) | ((with_reducible refine qE rfl rfl ?_); (refine lJ rfl hL rfl rfl cy ?_; clear hL; intro gq wq hL)) | ((with_reducible refine qB rfl rfl ?_); (first | (refine lC rfl hL rfl rfl HasV.mem (by rfl) ?_) | (refine lA rfl hL rfl rfl HasV.mem (by rfl) ?_) | (refine lF rfl hL rfl rfl HasV.mem SegC.seg ?_))) | ((with_reducible refine qC rfl rfl ?_); (first | (refine lH rfl hL rfl rfl rfl cy (by rfl) ?_) | (refine lG rfl hL rfl rfl rfl cy (by rfl) (by rfl) ?_)); clear hL; intro wq hL) | ((with_reducible refine qA rfl rfl ?_ ?_); (exact wz rfl rfl rfl (by with_reducible rfl)); (first | (refine lD (wz rfl rfl rfl rfl) hL rfl rfl HasV.mem (by rfl) ?_) | (refine lB (wz rfl rfl rfl rfl) hL rfl rfl HasV.mem (by rfl) ?_) | (refine lE (wz rfl rfl rfl rfl) hL rfl rfl HasV.mem SegC.seg ?_))))
    unfold Stop
    have OS := Lib.hid (hO0.below hL.below)
    have OT := Lib.hid (hO1.below hL.below)
    have hx2 := hL.box (g := g2) HasV.mem
    have hx3 := hL.box (g := g3) HasV.mem
    have hb0 := Lib.hid hL.below
    have HSEEN : Hid (da.seen.within (da.join db).seen = true ∧ db.seen.within (da.join db).seen = true) := Lib.hid ⟨V8.within_l _ _, V8.within_r _ _⟩
    have HND := Lib.hid (joined_nodes da db)
    have HLD := Lib.hid (joined_links da db)
    obtain ⟨r1, f1, r2, f2, rfl⟩ := sta_shape orr
    have ORR := Lib.hid orr
    clear hL hO0 hO1 fa fb fab orr
    generalize da.join db = dj at *
    have hL := Loc.nil w11 NoM
    unfold Sta.cells
    simp only
    go_wp2_with (first
      | ((with_reducible refine gate (N := 5) rfl ?_); (refine lI rfl hL rfl cy ?_; clear hL; intro g5 w5 hL))
      | ((with_reducible refine gate (N := 34) rfl ?_); refine lM (cs := ([.int .i64 da.seen.a0, .int .i64 da.seen.a1, .int .i64 da.seen.a2, .int .i64 da.seen.a3, .int .i64 da.seen.a4, .int .i64 da.seen.a5, .int .i64 da.seen.a6, .int .i64 da.seen.a7, .slice a1 da.nodes.length c1, .slice a2 da.links.length c2] ++ [.int .i64 db.seen.a0, .int .i64 db.seen.a1, .int .i64 db.seen.a2, .int .i64 db.seen.a3, .int .i64 db.seen.a4, .int .i64 db.seen.a5, .int .i64 db.seen.a6, .int .i64 db.seen.a7, .slice b1 db.nodes.length e1, .slice b2 db.links.length e2] : List Value)) rfl hL rfl rfl rfl (by kernel_rfl) ?_; clear hL; intro g34 wq hL)
      | ((with_reducible refine gate (N := 32) rfl ?_); refine ev_loadBA rfl (Loc.old hL hx2 not_noM) rfl rfl (show Seg [.int .i64 da.seen.a0, .int .i64 da.seen.a1, .int .i64 da.seen.a2, .int .i64 da.seen.a3, .int .i64 da.seen.a4, .int .i64 da.seen.a5, .int .i64 da.seen.a6, .int .i64 da.seen.a7, .slice a1 da.nodes.length c1, .slice a2 da.links.length c2] 0 10 [.int .i64 da.seen.a0, .int .i64 da.seen.a1, .int .i64 da.seen.a2, .int .i64 da.seen.a3, .int .i64 da.seen.a4, .int .i64 da.seen.a5, .int .i64 da.seen.a6, .int .i64 da.seen.a7, .slice a1 da.nodes.length c1, .slice a2 da.links.length c2] from Seg.of rfl (by simp)) ?_)
      | ((with_reducible refine gate (N := 33) rfl ?_); refine ev_loadBA rfl (Loc.old hL hx3 not_noM) rfl rfl (show Seg [.int .i64 db.seen.a0, .int .i64 db.seen.a1, .int .i64 db.seen.a2, .int .i64 db.seen.a3, .int .i64 db.seen.a4, .int .i64 db.seen.a5, .int .i64 db.seen.a6, .int .i64 db.seen.a7, .slice b1 db.nodes.length e1, .slice b2 db.links.length e2] 0 10 [.int .i64 db.seen.a0, .int .i64 db.seen.a1, .int .i64 db.seen.a2, .int .i64 db.seen.a3, .int .i64 db.seen.a4, .int .i64 db.seen.a5, .int .i64 db.seen.a6, .int .i64 db.seen.a7, .slice b1 db.nodes.length e1, .slice b2 db.links.length e2] from Seg.of rfl (by simp)) ?_)
      | ((with_reducible refine qD rfl rfl ?_); (refine lI rfl hL rfl cy ?_; clear hL; intro gq wq hL)) | ((with_reducible refine qE rfl rfl ?_); (refine lJ rfl hL rfl rfl cy ?_; clear hL; intro gq wq hL)) | ((with_reducible refine qB rfl rfl ?_); (first | (refine lC rfl hL rfl rfl HasV.mem (by rfl) ?_) | (refine lA rfl hL rfl rfl HasV.mem (by rfl) ?_) | (refine lF rfl hL rfl rfl HasV.mem SegC.seg ?_))) | ((with_reducible refine qC rfl rfl ?_); (first | (refine lH rfl hL rfl rfl rfl cy (by rfl) ?_) | (refine lG rfl hL rfl rfl rfl cy (by rfl) (by rfl) ?_)); clear hL; intro wq hL) | ((with_reducible refine qA rfl rfl ?_ ?_); (exact wz rfl rfl rfl (by with_reducible rfl)); (first | (refine lD (wz rfl rfl rfl rfl) hL rfl rfl HasV.mem (by rfl) ?_) | (refine lB (wz rfl rfl rfl rfl) hL rfl rfl HasV.mem (by rfl) ?_) | (refine lE (wz rfl rfl rfl rfl) hL rfl rfl HasV.mem SegC.seg ?_))))
    have HX2 := Lib.hid hx2
    have HX3 := Lib.hid hx3
    have HJ := Lib.hid (link_rows ORR.out)
    have HI := Lib.hid (node_rows ORR.out)
    have hmj1 := nodes_max ORR.out
    have hmj2 := links_max ORR.out
    clear hx2 hx3
    obtain ⟨HEL, -⟩ : Hid (∀ k, k < 2 → ∃ d a c b e, Seg ([.int .i64 da.seen.a0, .int .i64 da.seen.a1, .int .i64 da.seen.a2, .int .i64 da.seen.a3, .int .i64 da.seen.a4, .int .i64 da.seen.a5, .int .i64 da.seen.a6, .int .i64 da.seen.a7, .slice a1 da.nodes.length c1, .slice a2 da.links.length c2] ++ [.int .i64 db.seen.a0, .int .i64 db.seen.a1, .int .i64 db.seen.a2, .int .i64 db.seen.a3, .int .i64 db.seen.a4, .int .i64 db.seen.a5, .int .i64 db.seen.a6, .int .i64 db.seen.a7, .slice b1 db.nodes.length e1, .slice b2 db.links.length e2] : List Value) (0 + k * 10) 10 [.int .i64 d.seen.a0, .int .i64 d.seen.a1, .int .i64 d.seen.a2, .int .i64 d.seen.a3, .int .i64 d.seen.a4, .int .i64 d.seen.a5, .int .i64 d.seen.a6, .int .i64 d.seen.a7, .slice a d.nodes.length c, .slice b d.links.length e] ∧ Sta.Ok w11 ⟨d.seen, ⟨a, d.nodes.length, c⟩, ⟨b, d.links.length, e⟩⟩ d ∧ d.seen.within dj.seen = true ∧
        (∀ n ∈ d.nodes, (∃ m ∈ dj.nodes, m.hd.id = n.hd.id) ∧ ∀ m ∈ dj.nodes, m.hd.id = n.hd.id → m.Above n) ∧ (∀ l ∈ d.links, (∃ m ∈ dj.links, m.id = l.id) ∧ ∀ m ∈ dj.links, m.id = l.id → m.Above l)) ∧ True := ⟨Lib.hid (fun k hk => by
      rcases k with _ | _ | k
      · exact ⟨da, a1, c1, a2, c2, Seg.of rfl (by simp), OS.out, HSEEN.out.1, fun n hn => HND.out.1 n (List.mem_append_left _ hn), fun n hn => HLD.out n (List.mem_append_left _ hn)⟩
      · exact ⟨db, b1, e1, b2, e2, Seg.of rfl (by simp), OT.out, HSEEN.out.2, fun n hn => HND.out.1 n (List.mem_append_right _ hn), fun n hn => HLD.out n (List.mem_append_right _ hn)⟩
      · omega), trivial⟩
    have HFIN := Lib.hid HND.out.2
    clear HSEEN HND HLD
    go_loopw [36] (fun i wr => ∃ k : Nat, k ≤ 2 ∧ i = .int .i64 k ∧ Loc w11 NoM wr [var g34 ([.int .i64 da.seen.a0, .int .i64 da.seen.a1, .int .i64 da.seen.a2, .int .i64 da.seen.a3, .int .i64 da.seen.a4, .int .i64 da.seen.a5, .int .i64 da.seen.a6, .int .i64 da.seen.a7, .slice a1 da.nodes.length c1, .slice a2 da.links.length c2] ++ [.int .i64 db.seen.a0, .int .i64 db.seen.a1, .int .i64 db.seen.a2, .int .i64 db.seen.a3, .int .i64 db.seen.a4, .int .i64 db.seen.a5, .int .i64 db.seen.a6, .int .i64 db.seen.a7, .slice b1 db.nodes.length e1, .slice b2 db.links.length e2] : List Value) 27, var g5 [.int .i64 dj.seen.a0, .int .i64 dj.seen.a1, .int .i64 dj.seen.a2, .int .i64 dj.seen.a3, .int .i64 dj.seen.a4, .int .i64 dj.seen.a5, .int .i64 dj.seen.a6, .int .i64 dj.seen.a7, .slice r1 dj.nodes.length f1, .slice r2 dj.links.length f2] 27]) (fun i _ => 2 - (intOf i).toNat)
    case atStart => exact ⟨0, by omega, rfl, hL.sub (by first | exact .refl _ | (trace_state; sorry))⟩
    case round =>
      clear hL
      obtain ⟨k, hk, rfl, hL⟩ := hrel
      by_cases hlt : k < 2
      · obtain ⟨d, a, c, b, e, hsg, OKd, hw9, HNs, HLs⟩ := HEL.out k hlt
        have hwi := Lib.hid (fun wx => (show Calls Try.prog 14 #[.agg #[.int .i64 d.seen.a0, .int .i64 d.seen.a1, .int .i64 d.seen.a2, .int .i64 d.seen.a3, .int .i64 d.seen.a4, .int .i64 d.seen.a5, .int .i64 d.seen.a6, .int .i64 d.seen.a7], .agg #[.int .i64 dj.seen.a0, .int .i64 dj.seen.a1, .int .i64 dj.seen.a2, .int .i64 dj.seen.a3, .int .i64 dj.seen.a4, .int .i64 dj.seen.a5, .int .i64 dj.seen.a6, .int .i64 dj.seen.a7]] wx (fun e w' => e = .returned (.bool true) ∧ Below wx.heap.size wx w') from by
          have h9 := ref09_within d.seen dj.seen wx
          rw [hw9] at h9
          exact h9))
        have OD := Lib.hid OKd
        have HN9 := Lib.hid HNs
        have HL9 := Lib.hid HLs
        have HR := Lib.hid (node_rows OKd)
        have HQ := Lib.hid (link_rows OKd)
        have hm1 := nodes_max OKd
        have hm2 := links_max OKd
        have HSG := Lib.hid hsg
        clear hsg OKd hw9 HNs HLs
        go_wp2_with (first
          | ((with_reducible refine qF rfl rfl ?_); refine lL rfl rfl rfl rfl (show k < 2 from hlt) ?_)
          | ((with_reducible refine gate (N := 39) rfl ?_); refine lK rfl rfl rfl (range_of_box (hL.box (g := g34) HasV.mem) HSG.out) (by rfl) ?_)
          | (go_at_call 14; (with_reducible refine (hwi.out _).mono ?_); rintro e w12 ⟨rfl, hb12⟩; have hL := hL.call hb12; clear hb12)
          | ((with_reducible refine gate (N := 7) rfl ?_); (refine lI rfl hL rfl cy ?_; clear hL; intro g7 w7 hL))
          | ((with_reducible refine qD rfl rfl ?_); (refine lI rfl hL rfl cy ?_; clear hL; intro gq wq hL)) | ((with_reducible refine qE rfl rfl ?_); (refine lJ rfl hL rfl rfl cy ?_; clear hL; intro gq wq hL)) | ((with_reducible refine qB rfl rfl ?_); (first | (refine lC rfl hL rfl rfl HasV.mem (by rfl) ?_) | (refine lA rfl hL rfl rfl HasV.mem (by rfl) ?_) | (refine lF rfl hL rfl rfl HasV.mem SegC.seg ?_))) | ((with_reducible refine qC rfl rfl ?_); (first | (refine lH rfl hL rfl rfl rfl cy (by rfl) ?_) | (refine lG rfl hL rfl rfl rfl cy (by rfl) (by rfl) ?_)); clear hL; intro wq hL) | ((with_reducible refine qA rfl rfl ?_ ?_); (exact wz rfl rfl rfl (by with_reducible rfl)); (first | (refine lD (wz rfl rfl rfl rfl) hL rfl rfl HasV.mem (by rfl) ?_) | (refine lB (wz rfl rfl rfl rfl) hL rfl rfl HasV.mem (by rfl) ?_) | (refine lE (wz rfl rfl rfl rfl) hL rfl rfl HasV.mem SegC.seg ?_))))
        go_loopw [49] (fun i wr => ∃ j : Nat, j ≤ d.nodes.length ∧ i = .int .i64 j ∧ Loc w11 NoM wr [var g7 [.int .i64 d.seen.a0, .int .i64 d.seen.a1, .int .i64 d.seen.a2, .int .i64 d.seen.a3, .int .i64 d.seen.a4, .int .i64 d.seen.a5, .int .i64 d.seen.a6, .int .i64 d.seen.a7, .slice a d.nodes.length c, .slice b d.links.length e] 27, var g34 ([.int .i64 da.seen.a0, .int .i64 da.seen.a1, .int .i64 da.seen.a2, .int .i64 da.seen.a3, .int .i64 da.seen.a4, .int .i64 da.seen.a5, .int .i64 da.seen.a6, .int .i64 da.seen.a7, .slice a1 da.nodes.length c1, .slice a2 da.links.length c2] ++ [.int .i64 db.seen.a0, .int .i64 db.seen.a1, .int .i64 db.seen.a2, .int .i64 db.seen.a3, .int .i64 db.seen.a4, .int .i64 db.seen.a5, .int .i64 db.seen.a6, .int .i64 db.seen.a7, .slice b1 db.nodes.length e1, .slice b2 db.links.length e2] : List Value) 27, var g5 [.int .i64 dj.seen.a0, .int .i64 dj.seen.a1, .int .i64 dj.seen.a2, .int .i64 dj.seen.a3, .int .i64 dj.seen.a4, .int .i64 dj.seen.a5, .int .i64 dj.seen.a6, .int .i64 dj.seen.a7, .slice r1 dj.nodes.length f1, .slice r2 dj.links.length f2] 27]) (fun i _ => d.nodes.length - (intOf i).toNat)
        case atStart => exact ⟨0, by omega, rfl, hL.sub (.refl _)⟩
        case round =>
          clear hL
          obtain ⟨j, hj, rfl, hL⟩ := hrel
          by_cases hlj : j < d.nodes.length
          · obtain ⟨q1, o1, x, rfl, hz, hxd⟩ := HR.out j hlj
            obtain ⟨⟨m0, hm0, hme0⟩, hab⟩ := HN9.out _ (List.getElem_mem hlj)
            rw [← hxd] at hme0 hab
            have HM0 := Lib.hid hme0
            have HAB := Lib.hid hab
            have hnd := Lib.hid (fun wx (hbx : Below w11.heap.size w11 wx) => node_in ⟨dj.seen, ⟨r1, dj.nodes.length, f1⟩, ⟨r2, dj.links.length, f2⟩⟩ dj x.hd.id wx w11 ORR.out hbx)
            unfold Ino.cells at hz
            have HX := Lib.hid hxd
            clear hxd hme0 hab
            go_wp2_with (first
              | ((with_reducible refine qF rfl rfl ?_); refine lL rfl rfl rfl rfl hlj ?_)
              | ((with_reducible refine gate (N := 52) rfl ?_); refine lK rfl rfl rfl (range_below hz hL.below) (by rfl) ?_)
              | (go_at_call 15; (refine (hnd.out _ hL.below).mono ?_); rintro e w12 ⟨⟨y, f, rfl, HY⟩, hb12⟩; have hL := hL.call hb12; clear hb12; refine stop ?_)
              | ((with_reducible refine gate (N := 9) rfl ?_); (refine lI rfl hL rfl cy ?_; clear hL; intro g9 w9 hL)) | ((with_reducible refine gate (N := 10) rfl ?_); (refine lI rfl hL rfl cy ?_; clear hL; intro g10 w10 hL))
              | ((with_reducible refine qD rfl rfl ?_); (refine lI rfl hL rfl cy ?_; clear hL; intro gq wq hL)) | ((with_reducible refine qE rfl rfl ?_); (refine lJ rfl hL rfl rfl cy ?_; clear hL; intro gq wq hL)) | ((with_reducible refine qB rfl rfl ?_); (first | (refine lC rfl hL rfl rfl HasV.mem (by rfl) ?_) | (refine lA rfl hL rfl rfl HasV.mem (by rfl) ?_) | (refine lF rfl hL rfl rfl HasV.mem SegC.seg ?_))) | ((with_reducible refine qC rfl rfl ?_); (first | (refine lH rfl hL rfl rfl rfl cy (by rfl) ?_) | (refine lG rfl hL rfl rfl rfl cy (by rfl) (by rfl) ?_)); clear hL; intro wq hL) | ((with_reducible refine qA rfl rfl ?_ ?_); (exact wz rfl rfl rfl (by with_reducible rfl)); (first | (refine lD (wz rfl rfl rfl rfl) hL rfl rfl HasV.mem (by rfl) ?_) | (refine lB (wz rfl rfl rfl rfl) hL rfl rfl HasV.mem (by rfl) ?_) | (refine lE (wz rfl rfl rfl rfl) hL rfl rfl HasV.mem SegC.seg ?_))))
            unfold Stop
            cases f
            · exact absurd HM0.out (HY.out.2 rfl m0 hm0)
            · obtain ⟨m, hm, hmy, hyi⟩ := HY.out.1 rfl
              have hA := HAB.out m hm (hmy ▸ hyi)
              obtain ⟨hA1, hA2, hA3⟩ := hA
              rw [hmy, ← HX.out] at hA1 hA2 hA3
              have hl1 := Lib.hid (fun wx => (show Calls Try.prog 16 #[.agg #[.int .i64 y.hd.attr.at_.boot, .int .i64 y.hd.attr.at_.n], .agg #[.int .i64 x.hd.attr.at_.boot, .int .i64 x.hd.attr.at_.n]] wx (fun e w' => e = .returned (.bool false) ∧ Below wx.heap.size wx w') from by
                have h9 := ref09_less y.hd.attr.at_ x.hd.attr.at_ wx
                rw [Mk.lssB_not hA2] at h9
                exact h9))
              have hl2 := Lib.hid (fun wx => (show Calls Try.prog 16 #[.agg #[.int .i64 y.hd.size.at_.boot, .int .i64 y.hd.size.at_.n], .agg #[.int .i64 x.hd.size.at_.boot, .int .i64 x.hd.size.at_.n]] wx (fun e w' => e = .returned (.bool false) ∧ Below wx.heap.size wx w') from by
                have h9 := ref09_less y.hd.size.at_ x.hd.size.at_ wx
                rw [Mk.lssB_not hA3] at h9
                exact h9))
              have t0 : decide (y.hd.kind < x.hd.kind) = false := (by first | (simp; done) | (simp; omega))
              clear HY hA1 hA2 hA3 hmy hyi hm
              unfold Ino.cells
              go_wp2_with (first
                | (go_at_call 16; (first | (with_reducible refine (hl1.out _).mono ?_) | (with_reducible refine (hl2.out _).mono ?_)); rintro e w12 ⟨rfl, hb12⟩; have hL := hL.call hb12; clear hb12)
                | ((with_reducible refine gate (N := 10) rfl ?_); (refine lI rfl hL rfl cy ?_; clear hL; intro g10 w10 hL))
                | ((with_reducible refine qD rfl rfl ?_); (refine lI rfl hL rfl cy ?_; clear hL; intro gq wq hL)) | ((with_reducible refine qE rfl rfl ?_); (refine lJ rfl hL rfl rfl cy ?_; clear hL; intro gq wq hL)) | ((with_reducible refine qB rfl rfl ?_); (first | (refine lC rfl hL rfl rfl HasV.mem (by rfl) ?_) | (refine lA rfl hL rfl rfl HasV.mem (by rfl) ?_) | (refine lF rfl hL rfl rfl HasV.mem SegC.seg ?_))) | ((with_reducible refine qC rfl rfl ?_); (first | (refine lH rfl hL rfl rfl rfl cy (by rfl) ?_) | (refine lG rfl hL rfl rfl rfl cy (by rfl) (by rfl) ?_)); clear hL; intro wq hL) | ((with_reducible refine qA rfl rfl ?_ ?_); (exact wz rfl rfl rfl (by with_reducible rfl)); (first | (refine lD (wz rfl rfl rfl rfl) hL rfl rfl HasV.mem (by rfl) ?_) | (refine lB (wz rfl rfl rfl rfl) hL rfl rfl HasV.mem (by rfl) ?_) | (refine lE (wz rfl rfl rfl rfl) hL rfl rfl HasV.mem SegC.seg ?_))))
              go_roundw
              case rel => exact ⟨j + 1, by omega, by go_num, hL.sub (by first | exact .cons _ (.refl _) | exact .cons _ (.cons _ (.refl _)) | (trace_state; sorry))⟩
              case measure => simp [intOf]; omega
          · obtain rfl : j = d.nodes.length := by omega
            go_wp2_with (first | ((with_reducible refine qD rfl rfl ?_); (refine lI rfl hL rfl cy ?_; clear hL; intro gq wq hL)) | ((with_reducible refine qE rfl rfl ?_); (refine lJ rfl hL rfl rfl cy ?_; clear hL; intro gq wq hL)) | ((with_reducible refine qB rfl rfl ?_); (first | (refine lC rfl hL rfl rfl HasV.mem (by rfl) ?_) | (refine lA rfl hL rfl rfl HasV.mem (by rfl) ?_) | (refine lF rfl hL rfl rfl HasV.mem SegC.seg ?_))) | ((with_reducible refine qC rfl rfl ?_); (first | (refine lH rfl hL rfl rfl rfl cy (by rfl) ?_) | (refine lG rfl hL rfl rfl rfl cy (by rfl) (by rfl) ?_)); clear hL; intro wq hL) | ((with_reducible refine qA rfl rfl ?_ ?_); (exact wz rfl rfl rfl (by with_reducible rfl)); (first | (refine lD (wz rfl rfl rfl rfl) hL rfl rfl HasV.mem (by rfl) ?_) | (refine lB (wz rfl rfl rfl rfl) hL rfl rfl HasV.mem (by rfl) ?_) | (refine lE (wz rfl rfl rfl rfl) hL rfl rfl HasV.mem SegC.seg ?_))))
            go_loopw [91] (fun i wr => ∃ j : Nat, j ≤ d.links.length ∧ i = .int .i64 j ∧ Loc w11 NoM wr [var g7 [.int .i64 d.seen.a0, .int .i64 d.seen.a1, .int .i64 d.seen.a2, .int .i64 d.seen.a3, .int .i64 d.seen.a4, .int .i64 d.seen.a5, .int .i64 d.seen.a6, .int .i64 d.seen.a7, .slice a d.nodes.length c, .slice b d.links.length e] 27, var g34 ([.int .i64 da.seen.a0, .int .i64 da.seen.a1, .int .i64 da.seen.a2, .int .i64 da.seen.a3, .int .i64 da.seen.a4, .int .i64 da.seen.a5, .int .i64 da.seen.a6, .int .i64 da.seen.a7, .slice a1 da.nodes.length c1, .slice a2 da.links.length c2] ++ [.int .i64 db.seen.a0, .int .i64 db.seen.a1, .int .i64 db.seen.a2, .int .i64 db.seen.a3, .int .i64 db.seen.a4, .int .i64 db.seen.a5, .int .i64 db.seen.a6, .int .i64 db.seen.a7, .slice b1 db.nodes.length e1, .slice b2 db.links.length e2] : List Value) 27, var g5 [.int .i64 dj.seen.a0, .int .i64 dj.seen.a1, .int .i64 dj.seen.a2, .int .i64 dj.seen.a3, .int .i64 dj.seen.a4, .int .i64 dj.seen.a5, .int .i64 dj.seen.a6, .int .i64 dj.seen.a7, .slice r1 dj.nodes.length f1, .slice r2 dj.links.length f2] 27]) (fun i _ => d.links.length - (intOf i).toNat)
            case atStart => exact ⟨0, by omega, rfl, hL.sub (.refl _)⟩
            case round =>
              clear hL hj hlj
              obtain ⟨j, hj, rfl, hL⟩ := hrel
              by_cases hlj : j < d.links.length
              · obtain ⟨q1, o1, rfl, hz⟩ := HQ.out j hlj
                obtain ⟨⟨m0, hm0, hme0⟩, hab⟩ := HL9.out _ (List.getElem_mem hlj)
                obtain ⟨l, hl⟩ : ∃ l, l = d.links[j] := ⟨_, rfl⟩
                rw [← hl] at hme0 hab hz
                clear hl
                have HM0 := Lib.hid (show ∃ m ∈ dj.links, m.id = l.id from ⟨m0, hm0, hme0⟩)
                have HAB := Lib.hid hab
                unfold Lnk.cells at hz
                clear hme0 hab hm0
                go_wp2_with (first
                  | ((with_reducible refine qF rfl rfl ?_); refine lL rfl rfl rfl rfl hlj ?_)
                  | ((with_reducible refine gate (N := 94) rfl ?_); refine lK rfl rfl rfl (range_below hz hL.below) (by rfl) ?_)
                  | ((with_reducible refine gate (N := 13) rfl ?_); (refine lI rfl hL rfl cy ?_; clear hL; intro g13 w13 hL))
                  | ((with_reducible refine qD rfl rfl ?_); (refine lI rfl hL rfl cy ?_; clear hL; intro gq wq hL)) | ((with_reducible refine qE rfl rfl ?_); (refine lJ rfl hL rfl rfl cy ?_; clear hL; intro gq wq hL)) | ((with_reducible refine qB rfl rfl ?_); (first | (refine lC rfl hL rfl rfl HasV.mem (by rfl) ?_) | (refine lA rfl hL rfl rfl HasV.mem (by rfl) ?_) | (refine lF rfl hL rfl rfl HasV.mem SegC.seg ?_))) | ((with_reducible refine qC rfl rfl ?_); (first | (refine lH rfl hL rfl rfl rfl cy (by rfl) ?_) | (refine lG rfl hL rfl rfl rfl cy (by rfl) (by rfl) ?_)); clear hL; intro wq hL) | ((with_reducible refine qA rfl rfl ?_ ?_); (exact wz rfl rfl rfl (by with_reducible rfl)); (first | (refine lD (wz rfl rfl rfl rfl) hL rfl rfl HasV.mem (by rfl) ?_) | (refine lB (wz rfl rfl rfl rfl) hL rfl rfl HasV.mem (by rfl) ?_) | (refine lE (wz rfl rfl rfl rfl) hL rfl rfl HasV.mem SegC.seg ?_))))
                go_loopw [14, 98] (fun z i wr => ∃ (u : Nat) (y : Bool), u ≤ dj.links.length ∧ z = .bool y ∧ i = .int .i64 u ∧ Hid (y = true ∨ ∀ v (h : v < dj.links.length), v < u → dj.links[v].id ≠ l.id) ∧ Loc w11 NoM wr [var g13 [.int .i64 l.id.boot, .int .i64 l.id.n, .int .i64 l.node.boot, .int .i64 l.node.n, .int .i64 l.at_.boot, .int .i64 l.at_.n, .int .i64 l.parent.boot, .int .i64 l.parent.n, .string l.name, .int .i64 l.alive.a0, .int .i64 l.alive.a1, .int .i64 l.alive.a2, .int .i64 l.alive.a3, .int .i64 l.alive.a4, .int .i64 l.alive.a5, .int .i64 l.alive.a6, .int .i64 l.alive.a7, .int .i64 l.dead.a0, .int .i64 l.dead.a1, .int .i64 l.dead.a2, .int .i64 l.dead.a3, .int .i64 l.dead.a4, .int .i64 l.dead.a5, .int .i64 l.dead.a6, .int .i64 l.dead.a7] 48, var g7 [.int .i64 d.seen.a0, .int .i64 d.seen.a1, .int .i64 d.seen.a2, .int .i64 d.seen.a3, .int .i64 d.seen.a4, .int .i64 d.seen.a5, .int .i64 d.seen.a6, .int .i64 d.seen.a7, .slice a d.nodes.length c, .slice (some ⟨q1, o1, none⟩) d.links.length e] 27, var g34 ([.int .i64 da.seen.a0, .int .i64 da.seen.a1, .int .i64 da.seen.a2, .int .i64 da.seen.a3, .int .i64 da.seen.a4, .int .i64 da.seen.a5, .int .i64 da.seen.a6, .int .i64 da.seen.a7, .slice a1 da.nodes.length c1, .slice a2 da.links.length c2] ++ [.int .i64 db.seen.a0, .int .i64 db.seen.a1, .int .i64 db.seen.a2, .int .i64 db.seen.a3, .int .i64 db.seen.a4, .int .i64 db.seen.a5, .int .i64 db.seen.a6, .int .i64 db.seen.a7, .slice b1 db.nodes.length e1, .slice b2 db.links.length e2] : List Value) 27, var g5 [.int .i64 dj.seen.a0, .int .i64 dj.seen.a1, .int .i64 dj.seen.a2, .int .i64 dj.seen.a3, .int .i64 dj.seen.a4, .int .i64 dj.seen.a5, .int .i64 dj.seen.a6, .int .i64 dj.seen.a7, .slice r1 dj.nodes.length f1, .slice r2 dj.links.length f2] 27]) (fun _ i _ => dj.links.length - (intOf i).toNat)
                case atStart => exact ⟨0, false, by omega, rfl, rfl, Lib.hid (.inr fun v _ h => absurd h (by omega)), hL.sub (.refl _)⟩
                case round =>
                  clear hL
                  obtain ⟨u, y, hu, rfl, rfl, HC, hL⟩ := hrel
                  by_cases hlu : u < dj.links.length
                  · obtain ⟨q2, o2, rfl, hz2⟩ := HJ.out u hlu
                    obtain ⟨x, hx⟩ : ∃ x, x = dj.links[u] := ⟨_, rfl⟩
                    have HMX := Lib.hid (show x ∈ dj.links from hx ▸ List.getElem_mem hlu)
                    rw [← hx] at hz2
                    have HX := Lib.hid hx
                    unfold Lnk.cells at hz2
                    clear hx
                    cases y
                    · by_cases he : x.id = l.id
                      · have hA := HAB.out x HMX.out he
                        obtain ⟨hA1, hA2, hA3⟩ := hA
                        have hl1 := Lib.hid (fun wx => (show Calls Try.prog 16 #[.agg #[.int .i64 x.at_.boot, .int .i64 x.at_.n], .agg #[.int .i64 l.at_.boot, .int .i64 l.at_.n]] wx (fun e w' => e = .returned (.bool false) ∧ Below wx.heap.size wx w') from by
                          have h9 := ref09_less x.at_ l.at_ wx
                          rw [Mk.lssB_not hA1] at h9
                          exact h9))
                        have hl2 := Lib.hid (fun wx => (show Calls Try.prog 14 #[.agg #[.int .i64 l.alive.a0, .int .i64 l.alive.a1, .int .i64 l.alive.a2, .int .i64 l.alive.a3, .int .i64 l.alive.a4, .int .i64 l.alive.a5, .int .i64 l.alive.a6, .int .i64 l.alive.a7], .agg #[.int .i64 x.alive.a0, .int .i64 x.alive.a1, .int .i64 x.alive.a2, .int .i64 x.alive.a3, .int .i64 x.alive.a4, .int .i64 x.alive.a5, .int .i64 x.alive.a6, .int .i64 x.alive.a7]] wx (fun e w' => e = .returned (.bool true) ∧ Below wx.heap.size wx w') from by
                          have h9 := ref09_within l.alive x.alive wx
                          rw [hA2] at h9
                          exact h9))
                        have hl3 := Lib.hid (fun wx => (show Calls Try.prog 14 #[.agg #[.int .i64 l.dead.a0, .int .i64 l.dead.a1, .int .i64 l.dead.a2, .int .i64 l.dead.a3, .int .i64 l.dead.a4, .int .i64 l.dead.a5, .int .i64 l.dead.a6, .int .i64 l.dead.a7], .agg #[.int .i64 x.dead.a0, .int .i64 x.dead.a1, .int .i64 x.dead.a2, .int .i64 x.dead.a3, .int .i64 x.dead.a4, .int .i64 x.dead.a5, .int .i64 x.dead.a6, .int .i64 x.dead.a7]] wx (fun e w' => e = .returned (.bool true) ∧ Below wx.heap.size wx w') from by
                          have h9 := ref09_within l.dead x.dead wx
                          rw [hA3] at h9
                          exact h9))
                        have hq1 := stampJ_eql x.id l.id (r := true) (by simp [he])
                        clear hA1 hA2 hA3 he
                        go_wp2_with (first
                          | ((with_reducible refine qF rfl rfl ?_); refine lL rfl rfl rfl rfl hlu ?_)
                          | ((with_reducible refine gate (N := 101) rfl ?_); refine lK rfl rfl rfl (range_below hz2 hL.below) (by rfl) ?_)
                          | (go_at_call 16; (with_reducible refine (hl1.out _).mono ?_); rintro e w12 ⟨rfl, hb12⟩; have hL := hL.call hb12; clear hb12)
                          | (go_at_call 14; (first | (with_reducible refine (hl2.out _).mono ?_) | (with_reducible refine (hl3.out _).mono ?_)); rintro e w12 ⟨rfl, hb12⟩; have hL := hL.call hb12; clear hb12)
                          | ((with_reducible refine gate (N := 16) rfl ?_); (refine lI rfl hL rfl cy ?_; clear hL; intro g16 w16 hL))
                          | ((with_reducible refine qD rfl rfl ?_); (refine lI rfl hL rfl cy ?_; clear hL; intro gq wq hL)) | ((with_reducible refine qE rfl rfl ?_); (refine lJ rfl hL rfl rfl cy ?_; clear hL; intro gq wq hL)) | ((with_reducible refine qB rfl rfl ?_); (first | (refine lC rfl hL rfl rfl HasV.mem (by rfl) ?_) | (refine lA rfl hL rfl rfl HasV.mem (by rfl) ?_) | (refine lF rfl hL rfl rfl HasV.mem SegC.seg ?_))) | ((with_reducible refine qC rfl rfl ?_); (first | (refine lH rfl hL rfl rfl rfl cy (by rfl) ?_) | (refine lG rfl hL rfl rfl rfl cy (by rfl) (by rfl) ?_)); clear hL; intro wq hL) | ((with_reducible refine qA rfl rfl ?_ ?_); (exact wz rfl rfl rfl (by with_reducible rfl)); (first | (refine lD (wz rfl rfl rfl rfl) hL rfl rfl HasV.mem (by rfl) ?_) | (refine lB (wz rfl rfl rfl rfl) hL rfl rfl HasV.mem (by rfl) ?_) | (refine lE (wz rfl rfl rfl rfl) hL rfl rfl HasV.mem SegC.seg ?_))))
                        go_roundw
                        case rel => exact ⟨u + 1, true, by omega, rfl, by go_num, Lib.hid (.inl rfl), hL.sub (.cons _ (.refl _))⟩
                        case measure => simp [intOf]; omega
                      · have hq1 := stampJ_eql x.id l.id (r := false) (by simp [he])
                        have HC2 : Hid (false = true ∨ ∀ v (h : v < dj.links.length), v < u + 1 → dj.links[v].id ≠ l.id) := Lib.hid (.inr fun v h hv => by
                          rcases Nat.lt_or_ge v u with h2 | h2
                          · rcases HC.out with h3 | h3
                            · cases h3
                            · exact h3 v h h2
                          · obtain rfl : v = u := by omega
                            rw [← HX.out]; exact he)
                        clear he
                        go_wp2_with (first
                          | ((with_reducible refine qF rfl rfl ?_); refine lL rfl rfl rfl rfl hlu ?_)
                          | ((with_reducible refine gate (N := 101) rfl ?_); refine lK rfl rfl rfl (range_below hz2 hL.below) (by rfl) ?_)
                          | ((with_reducible refine gate (N := 16) rfl ?_); (refine lI rfl hL rfl cy ?_; clear hL; intro g16 w16 hL))
                          | ((with_reducible refine qD rfl rfl ?_); (refine lI rfl hL rfl cy ?_; clear hL; intro gq wq hL)) | ((with_reducible refine qE rfl rfl ?_); (refine lJ rfl hL rfl rfl cy ?_; clear hL; intro gq wq hL)) | ((with_reducible refine qB rfl rfl ?_); (first | (refine lC rfl hL rfl rfl HasV.mem (by rfl) ?_) | (refine lA rfl hL rfl rfl HasV.mem (by rfl) ?_) | (refine lF rfl hL rfl rfl HasV.mem SegC.seg ?_))) | ((with_reducible refine qC rfl rfl ?_); (first | (refine lH rfl hL rfl rfl rfl cy (by rfl) ?_) | (refine lG rfl hL rfl rfl rfl cy (by rfl) (by rfl) ?_)); clear hL; intro wq hL) | ((with_reducible refine qA rfl rfl ?_ ?_); (exact wz rfl rfl rfl (by with_reducible rfl)); (first | (refine lD (wz rfl rfl rfl rfl) hL rfl rfl HasV.mem (by rfl) ?_) | (refine lB (wz rfl rfl rfl rfl) hL rfl rfl HasV.mem (by rfl) ?_) | (refine lE (wz rfl rfl rfl rfl) hL rfl rfl HasV.mem SegC.seg ?_))))
                        go_roundw
                        case rel => exact ⟨u + 1, false, by omega, rfl, by go_num, HC2, hL.sub (.cons _ (.refl _))⟩
                        case measure => simp [intOf]; omega
                    · go_wp2_with (first
                        | ((with_reducible refine qF rfl rfl ?_); refine lL rfl rfl rfl rfl hlu ?_)
                        | ((with_reducible refine gate (N := 101) rfl ?_); refine lK rfl rfl rfl (range_below hz2 hL.below) (by rfl) ?_)
                        | ((with_reducible refine gate (N := 16) rfl ?_); (refine lI rfl hL rfl cy ?_; clear hL; intro g16 w16 hL))
                        | ((with_reducible refine qD rfl rfl ?_); (refine lI rfl hL rfl cy ?_; clear hL; intro gq wq hL)) | ((with_reducible refine qE rfl rfl ?_); (refine lJ rfl hL rfl rfl cy ?_; clear hL; intro gq wq hL)) | ((with_reducible refine qB rfl rfl ?_); (first | (refine lC rfl hL rfl rfl HasV.mem (by rfl) ?_) | (refine lA rfl hL rfl rfl HasV.mem (by rfl) ?_) | (refine lF rfl hL rfl rfl HasV.mem SegC.seg ?_))) | ((with_reducible refine qC rfl rfl ?_); (first | (refine lH rfl hL rfl rfl rfl cy (by rfl) ?_) | (refine lG rfl hL rfl rfl rfl cy (by rfl) (by rfl) ?_)); clear hL; intro wq hL) | ((with_reducible refine qA rfl rfl ?_ ?_); (exact wz rfl rfl rfl (by with_reducible rfl)); (first | (refine lD (wz rfl rfl rfl rfl) hL rfl rfl HasV.mem (by rfl) ?_) | (refine lB (wz rfl rfl rfl rfl) hL rfl rfl HasV.mem (by rfl) ?_) | (refine lE (wz rfl rfl rfl rfl) hL rfl rfl HasV.mem SegC.seg ?_))))
                      go_roundw
                      case rel => exact ⟨u + 1, true, by omega, rfl, by go_num, Lib.hid (.inl rfl), hL.sub (.cons _ (.refl _))⟩
                      case measure => simp [intOf]; omega
                  · obtain rfl : u = dj.links.length := by omega
                    cases y
                    · obtain ⟨m, hm, hmi⟩ := HM0.out
                      obtain ⟨v, hv, rfl⟩ := List.mem_iff_getElem.1 hm
                      rcases HC.out with h3 | h3
                      · cases h3
                      · exact absurd hmi (h3 v hv hv)
                    · go_wp2_with (first | ((with_reducible refine qD rfl rfl ?_); (refine lI rfl hL rfl cy ?_; clear hL; intro gq wq hL)) | ((with_reducible refine qE rfl rfl ?_); (refine lJ rfl hL rfl rfl cy ?_; clear hL; intro gq wq hL)) | ((with_reducible refine qB rfl rfl ?_); (first | (refine lC rfl hL rfl rfl HasV.mem (by rfl) ?_) | (refine lA rfl hL rfl rfl HasV.mem (by rfl) ?_) | (refine lF rfl hL rfl rfl HasV.mem SegC.seg ?_))) | ((with_reducible refine qC rfl rfl ?_); (first | (refine lH rfl hL rfl rfl rfl cy (by rfl) ?_) | (refine lG rfl hL rfl rfl rfl cy (by rfl) (by rfl) ?_)); clear hL; intro wq hL) | ((with_reducible refine qA rfl rfl ?_ ?_); (exact wz rfl rfl rfl (by with_reducible rfl)); (first | (refine lD (wz rfl rfl rfl rfl) hL rfl rfl HasV.mem (by rfl) ?_) | (refine lB (wz rfl rfl rfl rfl) hL rfl rfl HasV.mem (by rfl) ?_) | (refine lE (wz rfl rfl rfl rfl) hL rfl rfl HasV.mem SegC.seg ?_))))
                      go_roundw
                      case rel => exact ⟨j + 1, by omega, by go_num, hL.sub (.cons _ (.refl _))⟩
                      case measure => simp [intOf]; omega
              · obtain rfl : j = d.links.length := by omega
                go_wp2_with (first | ((with_reducible refine qD rfl rfl ?_); (refine lI rfl hL rfl cy ?_; clear hL; intro gq wq hL)) | ((with_reducible refine qE rfl rfl ?_); (refine lJ rfl hL rfl rfl cy ?_; clear hL; intro gq wq hL)) | ((with_reducible refine qB rfl rfl ?_); (first | (refine lC rfl hL rfl rfl HasV.mem (by rfl) ?_) | (refine lA rfl hL rfl rfl HasV.mem (by rfl) ?_) | (refine lF rfl hL rfl rfl HasV.mem SegC.seg ?_))) | ((with_reducible refine qC rfl rfl ?_); (first | (refine lH rfl hL rfl rfl rfl cy (by rfl) ?_) | (refine lG rfl hL rfl rfl rfl cy (by rfl) (by rfl) ?_)); clear hL; intro wq hL) | ((with_reducible refine qA rfl rfl ?_ ?_); (exact wz rfl rfl rfl (by with_reducible rfl)); (first | (refine lD (wz rfl rfl rfl rfl) hL rfl rfl HasV.mem (by rfl) ?_) | (refine lB (wz rfl rfl rfl rfl) hL rfl rfl HasV.mem (by rfl) ?_) | (refine lE (wz rfl rfl rfl rfl) hL rfl rfl HasV.mem SegC.seg ?_))))
                go_roundw
                case rel => exact ⟨k + 1, by omega, by go_num, hL.sub (.cons _ (.refl _))⟩
                case measure => simp [intOf]; omega
      · obtain rfl : k = 2 := by omega
        go_wp2_with (first | ((with_reducible refine qD rfl rfl ?_); (refine lI rfl hL rfl cy ?_; clear hL; intro gq wq hL)) | ((with_reducible refine qE rfl rfl ?_); (refine lJ rfl hL rfl rfl cy ?_; clear hL; intro gq wq hL)) | ((with_reducible refine qB rfl rfl ?_); (first | (refine lC rfl hL rfl rfl HasV.mem (by rfl) ?_) | (refine lA rfl hL rfl rfl HasV.mem (by rfl) ?_) | (refine lF rfl hL rfl rfl HasV.mem SegC.seg ?_))) | ((with_reducible refine qC rfl rfl ?_); (first | (refine lH rfl hL rfl rfl rfl cy (by rfl) ?_) | (refine lG rfl hL rfl rfl rfl cy (by rfl) (by rfl) ?_)); clear hL; intro wq hL) | ((with_reducible refine qA rfl rfl ?_ ?_); (exact wz rfl rfl rfl (by with_reducible rfl)); (first | (refine lD (wz rfl rfl rfl rfl) hL rfl rfl HasV.mem (by rfl) ?_) | (refine lB (wz rfl rfl rfl rfl) hL rfl rfl HasV.mem (by rfl) ?_) | (refine lE (wz rfl rfl rfl rfl) hL rfl rfl HasV.mem SegC.seg ?_))))
        go_loopw [140] (fun i wr => ∃ j : Nat, j ≤ dj.nodes.length ∧ i = .int .i64 j ∧ Loc w11 NoM wr [var g34 ([.int .i64 da.seen.a0, .int .i64 da.seen.a1, .int .i64 da.seen.a2, .int .i64 da.seen.a3, .int .i64 da.seen.a4, .int .i64 da.seen.a5, .int .i64 da.seen.a6, .int .i64 da.seen.a7, .slice a1 da.nodes.length c1, .slice a2 da.links.length c2] ++ [.int .i64 db.seen.a0, .int .i64 db.seen.a1, .int .i64 db.seen.a2, .int .i64 db.seen.a3, .int .i64 db.seen.a4, .int .i64 db.seen.a5, .int .i64 db.seen.a6, .int .i64 db.seen.a7, .slice b1 db.nodes.length e1, .slice b2 db.links.length e2] : List Value) 27, var g5 [.int .i64 dj.seen.a0, .int .i64 dj.seen.a1, .int .i64 dj.seen.a2, .int .i64 dj.seen.a3, .int .i64 dj.seen.a4, .int .i64 dj.seen.a5, .int .i64 dj.seen.a6, .int .i64 dj.seen.a7, .slice r1 dj.nodes.length f1, .slice r2 dj.links.length f2] 27]) (fun i _ => dj.nodes.length - (intOf i).toNat)
        case atStart => exact ⟨0, by omega, rfl, hL.sub (.refl _)⟩
        case round =>
          clear hL
          obtain ⟨j, hj, rfl, hL⟩ := hrel
          by_cases hlj : j < dj.nodes.length
          · obtain ⟨q1, o1, x, rfl, hz, hxd⟩ := HI.out j hlj
            obtain ⟨n0, hn0, hne0⟩ := HFIN.out _ (List.getElem_mem hlj)
            rw [← hxd] at hne0
            have HN0 := Lib.hid (show (∃ n ∈ da.nodes, n.hd.id = x.hd.id) ∨ ∃ n ∈ db.nodes, n.hd.id = x.hd.id from (List.mem_append.1 hn0).elim (fun h => .inl ⟨_, h, hne0⟩) (fun h => .inr ⟨_, h, hne0⟩))
            clear hn0 hne0 hxd
            have hn1 := Lib.hid (fun wx (hbx : Below w11.heap.size w11 wx) => node_in ⟨da.seen, ⟨a1, da.nodes.length, c1⟩, ⟨a2, da.links.length, c2⟩⟩ da x.hd.id wx w11 OS.out hbx)
            have hn2 := Lib.hid (fun wx (hbx : Below w11.heap.size w11 wx) => node_in ⟨db.seen, ⟨b1, db.nodes.length, e1⟩, ⟨b2, db.links.length, e2⟩⟩ db x.hd.id wx w11 OT.out hbx)
            unfold Ino.cells at hz
            go_wp2_with (first
              | ((with_reducible refine qF rfl rfl ?_); refine lL rfl rfl rfl rfl hlj ?_)
              | ((with_reducible refine gate (N := 143) rfl ?_); refine lK rfl rfl rfl (range_below hz hL.below) (by rfl) ?_)
              | ((with_reducible refine gate (N := 145) rfl ?_); refine ev_loadBA rfl (Loc.old hL HX2.out not_noM) rfl rfl (show Seg [.int .i64 da.seen.a0, .int .i64 da.seen.a1, .int .i64 da.seen.a2, .int .i64 da.seen.a3, .int .i64 da.seen.a4, .int .i64 da.seen.a5, .int .i64 da.seen.a6, .int .i64 da.seen.a7, .slice a1 da.nodes.length c1, .slice a2 da.links.length c2] 0 10 [.int .i64 da.seen.a0, .int .i64 da.seen.a1, .int .i64 da.seen.a2, .int .i64 da.seen.a3, .int .i64 da.seen.a4, .int .i64 da.seen.a5, .int .i64 da.seen.a6, .int .i64 da.seen.a7, .slice a1 da.nodes.length c1, .slice a2 da.links.length c2] from Seg.of rfl (by simp)) ?_)
              | ((with_reducible refine gate (N := 152) rfl ?_); refine ev_loadBA rfl (Loc.old hL HX3.out not_noM) rfl rfl (show Seg [.int .i64 db.seen.a0, .int .i64 db.seen.a1, .int .i64 db.seen.a2, .int .i64 db.seen.a3, .int .i64 db.seen.a4, .int .i64 db.seen.a5, .int .i64 db.seen.a6, .int .i64 db.seen.a7, .slice b1 db.nodes.length e1, .slice b2 db.links.length e2] 0 10 [.int .i64 db.seen.a0, .int .i64 db.seen.a1, .int .i64 db.seen.a2, .int .i64 db.seen.a3, .int .i64 db.seen.a4, .int .i64 db.seen.a5, .int .i64 db.seen.a6, .int .i64 db.seen.a7, .slice b1 db.nodes.length e1, .slice b2 db.links.length e2] from Seg.of rfl (by simp)) ?_)
              | (go_at_call 15; (first | (refine (hn1.out _ hL.below).mono ?_) | (refine (hn2.out _ hL.below).mono ?_)); rintro e w12 ⟨⟨y, f, rfl, HY⟩, hb12⟩; have hL := hL.call hb12; clear hb12; refine stop ?_)
              | ((with_reducible refine gate (N := 18) rfl ?_); (refine lI rfl hL rfl cy ?_; clear hL; intro g18 w18 hL)) | ((with_reducible refine gate (N := 19) rfl ?_); (refine lI rfl hL rfl cy ?_; clear hL; intro g19 w19 hL))
              | ((with_reducible refine qD rfl rfl ?_); (refine lI rfl hL rfl cy ?_; clear hL; intro gq wq hL)) | ((with_reducible refine qE rfl rfl ?_); (refine lJ rfl hL rfl rfl cy ?_; clear hL; intro gq wq hL)) | ((with_reducible refine qB rfl rfl ?_); (first | (refine lC rfl hL rfl rfl HasV.mem (by rfl) ?_) | (refine lA rfl hL rfl rfl HasV.mem (by rfl) ?_) | (refine lF rfl hL rfl rfl HasV.mem SegC.seg ?_))) | ((with_reducible refine qC rfl rfl ?_); (first | (refine lH rfl hL rfl rfl rfl cy (by rfl) ?_) | (refine lG rfl hL rfl rfl rfl cy (by rfl) (by rfl) ?_)); clear hL; intro wq hL) | ((with_reducible refine qA rfl rfl ?_ ?_); (exact wz rfl rfl rfl (by with_reducible rfl)); (first | (refine lD (wz rfl rfl rfl rfl) hL rfl rfl HasV.mem (by rfl) ?_) | (refine lB (wz rfl rfl rfl rfl) hL rfl rfl HasV.mem (by rfl) ?_) | (refine lE (wz rfl rfl rfl rfl) hL rfl rfl HasV.mem SegC.seg ?_))))
            unfold Stop
            have HY1 := HY
            unfold Ino.cells
            go_wp2_with (first
              | ((with_reducible refine gate (N := 152) rfl ?_); refine ev_loadBA rfl (Loc.old hL HX3.out not_noM) rfl rfl (show Seg [.int .i64 db.seen.a0, .int .i64 db.seen.a1, .int .i64 db.seen.a2, .int .i64 db.seen.a3, .int .i64 db.seen.a4, .int .i64 db.seen.a5, .int .i64 db.seen.a6, .int .i64 db.seen.a7, .slice b1 db.nodes.length e1, .slice b2 db.links.length e2] 0 10 [.int .i64 db.seen.a0, .int .i64 db.seen.a1, .int .i64 db.seen.a2, .int .i64 db.seen.a3, .int .i64 db.seen.a4, .int .i64 db.seen.a5, .int .i64 db.seen.a6, .int .i64 db.seen.a7, .slice b1 db.nodes.length e1, .slice b2 db.links.length e2] from Seg.of rfl (by simp)) ?_)
              | (go_at_call 15; (refine (hn2.out _ hL.below).mono ?_); rintro e w12 ⟨⟨y2, f2, rfl, HY2⟩, hb12⟩; have hL := hL.call hb12; clear hb12; refine stop ?_)
              | ((with_reducible refine gate (N := 19) rfl ?_); (refine lI rfl hL rfl cy ?_; clear hL; intro g19 w19 hL)) | ((with_reducible refine gate (N := 21) rfl ?_); (refine lI rfl hL rfl cy ?_; clear hL; intro g21 w21 hL))
              | ((with_reducible refine qD rfl rfl ?_); (refine lI rfl hL rfl cy ?_; clear hL; intro gq wq hL)) | ((with_reducible refine qE rfl rfl ?_); (refine lJ rfl hL rfl rfl cy ?_; clear hL; intro gq wq hL)) | ((with_reducible refine qB rfl rfl ?_); (first | (refine lC rfl hL rfl rfl HasV.mem (by rfl) ?_) | (refine lA rfl hL rfl rfl HasV.mem (by rfl) ?_) | (refine lF rfl hL rfl rfl HasV.mem SegC.seg ?_))) | ((with_reducible refine qC rfl rfl ?_); (first | (refine lH rfl hL rfl rfl rfl cy (by rfl) ?_) | (refine lG rfl hL rfl rfl rfl cy (by rfl) (by rfl) ?_)); clear hL; intro wq hL) | ((with_reducible refine qA rfl rfl ?_ ?_); (exact wz rfl rfl rfl (by with_reducible rfl)); (first | (refine lD (wz rfl rfl rfl rfl) hL rfl rfl HasV.mem (by rfl) ?_) | (refine lB (wz rfl rfl rfl rfl) hL rfl rfl HasV.mem (by rfl) ?_) | (refine lE (wz rfl rfl rfl rfl) hL rfl rfl HasV.mem SegC.seg ?_))))
            unfold Stop
            have hff : f = true ∨ (f = false ∧ f2 = true) := by
              cases f
              · right
                refine ⟨rfl, ?_⟩
                cases f2
                · rcases HN0.out with ⟨n, hn, he⟩ | ⟨n, hn, he⟩
                  · exact absurd he (HY1.out.2 rfl n hn)
                  · exact absurd he (HY2.out.2 rfl n hn)
                · rfl
              · exact .inl rfl
            clear HY HY1 HY2
            unfold Ino.cells
            rcases hff with rfl | ⟨rfl, rfl⟩
            · go_wp2_with (first
                | ((with_reducible refine gate (N := 21) rfl ?_); (refine lI rfl hL rfl cy ?_; clear hL; intro g21 w21 hL))
                | ((with_reducible refine qD rfl rfl ?_); (refine lI rfl hL rfl cy ?_; clear hL; intro gq wq hL)) | ((with_reducible refine qE rfl rfl ?_); (refine lJ rfl hL rfl rfl cy ?_; clear hL; intro gq wq hL)) | ((with_reducible refine qB rfl rfl ?_); (first | (refine lC rfl hL rfl rfl HasV.mem (by rfl) ?_) | (refine lA rfl hL rfl rfl HasV.mem (by rfl) ?_) | (refine lF rfl hL rfl rfl HasV.mem SegC.seg ?_))) | ((with_reducible refine qC rfl rfl ?_); (first | (refine lH rfl hL rfl rfl rfl cy (by rfl) ?_) | (refine lG rfl hL rfl rfl rfl cy (by rfl) (by rfl) ?_)); clear hL; intro wq hL) | ((with_reducible refine qA rfl rfl ?_ ?_); (exact wz rfl rfl rfl (by with_reducible rfl)); (first | (refine lD (wz rfl rfl rfl rfl) hL rfl rfl HasV.mem (by rfl) ?_) | (refine lB (wz rfl rfl rfl rfl) hL rfl rfl HasV.mem (by rfl) ?_) | (refine lE (wz rfl rfl rfl rfl) hL rfl rfl HasV.mem SegC.seg ?_))))
              go_roundw
              case rel => exact ⟨j + 1, by omega, by go_num, hL.sub (by repeat (first | exact .refl _ | apply List.Sublist.cons))⟩
              case measure => simp [intOf]; omega
            · go_wp2_with (first
                | ((with_reducible refine gate (N := 21) rfl ?_); (refine lI rfl hL rfl cy ?_; clear hL; intro g21 w21 hL))
                | ((with_reducible refine qD rfl rfl ?_); (refine lI rfl hL rfl cy ?_; clear hL; intro gq wq hL)) | ((with_reducible refine qE rfl rfl ?_); (refine lJ rfl hL rfl rfl cy ?_; clear hL; intro gq wq hL)) | ((with_reducible refine qB rfl rfl ?_); (first | (refine lC rfl hL rfl rfl HasV.mem (by rfl) ?_) | (refine lA rfl hL rfl rfl HasV.mem (by rfl) ?_) | (refine lF rfl hL rfl rfl HasV.mem SegC.seg ?_))) | ((with_reducible refine qC rfl rfl ?_); (first | (refine lH rfl hL rfl rfl rfl cy (by rfl) ?_) | (refine lG rfl hL rfl rfl rfl cy (by rfl) (by rfl) ?_)); clear hL; intro wq hL) | ((with_reducible refine qA rfl rfl ?_ ?_); (exact wz rfl rfl rfl (by with_reducible rfl)); (first | (refine lD (wz rfl rfl rfl rfl) hL rfl rfl HasV.mem (by rfl) ?_) | (refine lB (wz rfl rfl rfl rfl) hL rfl rfl HasV.mem (by rfl) ?_) | (refine lE (wz rfl rfl rfl rfl) hL rfl rfl HasV.mem SegC.seg ?_))))
              go_roundw
              case rel => exact ⟨j + 1, by omega, by go_num, hL.sub (by repeat (first | exact .refl _ | apply List.Sublist.cons))⟩
              case measure => simp [intOf]; omega
          · obtain rfl : j = dj.nodes.length := by omega
            go_wp2_with (first
              | (go_at_call 12; (with_reducible refine (awake11 _).mono ?_); rintro e w10 ⟨rfl, hb10⟩; have hL := hL.call hb10; clear hb10)
              | ((with_reducible refine qD rfl rfl ?_); (refine lI rfl hL rfl cy ?_; clear hL; intro gq wq hL)) | ((with_reducible refine qE rfl rfl ?_); (refine lJ rfl hL rfl rfl cy ?_; clear hL; intro gq wq hL)) | ((with_reducible refine qB rfl rfl ?_); (first | (refine lC rfl hL rfl rfl HasV.mem (by rfl) ?_) | (refine lA rfl hL rfl rfl HasV.mem (by rfl) ?_) | (refine lF rfl hL rfl rfl HasV.mem SegC.seg ?_))) | ((with_reducible refine qC rfl rfl ?_); (first | (refine lH rfl hL rfl rfl rfl cy (by rfl) ?_) | (refine lG rfl hL rfl rfl rfl cy (by rfl) (by rfl) ?_)); clear hL; intro wq hL) | ((with_reducible refine qA rfl rfl ?_ ?_); (exact wz rfl rfl rfl (by with_reducible rfl)); (first | (refine lD (wz rfl rfl rfl rfl) hL rfl rfl HasV.mem (by rfl) ?_) | (refine lB (wz rfl rfl rfl rfl) hL rfl rfl HasV.mem (by rfl) ?_) | (refine lE (wz rfl rfl rfl rfl) hL rfl rfl HasV.mem SegC.seg ?_))))
            go_ret
            exact ⟨rfl, hb0.out.trans (hL.below.mono hb0.out.size)⟩
end Go.Proofs.Ytebpacmhdkgfeaa

