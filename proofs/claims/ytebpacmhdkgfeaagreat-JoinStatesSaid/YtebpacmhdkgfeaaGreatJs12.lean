/- Texts laid together: Awk11, Small11, Clo11, Law11s. -/
import Derived.Test.YtebpacmhdkgfeaaGreatJs11
set_option linter.unusedSimpArgs false
set_option linter.unusedVariables false
namespace Go.Proofs.YtebpacmhdkgfeaaGreat
open Go.RowKit
set_option maxHeartbeats 8000000
set_option maxRecDepth 100000
theorem awake11 (w : World) : Calls Tryz.prog 8 #[] w fun e w' => e = .returned (.bool true) ∧ Below w.heap.size w w' := by
  have hL := Loc.nil w NoM
  go_enter Tryz.func8, Tryz.ntmps8
  go_upto_region 4 with (first
    | ((with_reducible refine gate (N := 1) rfl ?_); (refine lI rfl hL rfl cy ?_; clear hL; intro g1 w1 hL)) | ((with_reducible refine gate (N := 2) rfl ?_); (refine lI rfl hL rfl cy ?_; clear hL; intro g2 w2 hL)) | ((with_reducible refine gate (N := 3) rfl ?_); (refine lI rfl hL rfl cy ?_; clear hL; intro g3 w3 hL))
    | ((with_reducible refine gate (N := 16) rfl ?_); refine lM (cs := [.int .i64 1, .int .i64 0, .int .i64 1, .int .i64 0, .int .i64 1, .int .i64 0, .int .i64 0, .int .i64 0, .string ⟨#[120]⟩, .int .i64 1, .int .i64 0, .int .i64 0, .int .i64 0, .int .i64 0, .int .i64 0, .int .i64 0, .int .i64 0, .int .i64 0, .int .i64 0, .int .i64 0, .int .i64 0, .int .i64 0, .int .i64 0, .int .i64 0, .int .i64 0]) rfl hL rfl rfl rfl (by kernel_rfl) ?_; clear hL; intro g16 wq hL)
    | ((with_reducible refine qB rfl rfl ?_); (refine lA rfl hL rfl rfl HasV.mem (by rfl) ?_)) | ((with_reducible refine qC rfl rfl ?_); (refine lH rfl hL rfl rfl rfl cy (by rfl) ?_); clear hL; intro wq hL))
  refine region_held (fun wx => Box wx g3 ([.int .i64 1, .int .i64 0, .int .i64 0, .int .i64 0, .int .i64 0, .int .i64 0, .int .i64 0, .int .i64 0, .slice none 0 0, .slice (some ⟨g16, 0, none⟩) 1 1] : List Value).toArray 27) (by kernel_rfl) hL ?_
  intro w4 hL
  refine heldTake (i := 0) nx (by kernel_rfl) (by kernel_rfl) (by kernel_rfl) (by exact fun _ _ _ h => h) (y_loadAll (fun _ h => h) (by rfl) (by rfl) (by rfl) (by infer_instance) (by infer_instance) (by rfl)) (hL.box (g := g3) HasV.mem) ?_
  (try simp only [Act.put, zs, zt, zu])
  refine heldTake (i := 1) nx (by kernel_rfl) (by kernel_rfl) (by kernel_rfl) (by exact fun _ _ _ h => h) (y_loadAll (fun _ h => h) (by rfl) (by rfl) (by rfl) (by infer_instance) (by infer_instance) (by rfl)) (hL.box (g := g3) HasV.mem) ?_
  (try simp only [Act.put, zs, zt, zu])
  apply heldEitherXX (fun (g4 g5 : Nat) w' => Loc w NoM w' [var g5 [.int .i64 0, .int .i64 0, .int .i64 0, .int .i64 0, .int .i64 0, .int .i64 0, .int .i64 0, .int .i64 0, .slice none 0 0, .slice none 0 0] 27, var g4 [.int .i64 0, .int .i64 0, .int .i64 0, .int .i64 0, .int .i64 0, .int .i64 0, .int .i64 0, .int .i64 0, .slice none 0 0, .slice none 0 0] 27, var g3 [.int .i64 1, .int .i64 0, .int .i64 0, .int .i64 0, .int .i64 0, .int .i64 0, .int .i64 0, .int .i64 0, .slice none 0 0, .slice (some ⟨g16, 0, none⟩) 1 1] 27, var g16 [.int .i64 1, .int .i64 0, .int .i64 1, .int .i64 0, .int .i64 1, .int .i64 0, .int .i64 0, .int .i64 0, .string ⟨#[120]⟩, .int .i64 1, .int .i64 0, .int .i64 0, .int .i64 0, .int .i64 0, .int .i64 0, .int .i64 0, .int .i64 0, .int .i64 0, .int .i64 0, .int .i64 0, .int .i64 0, .int .i64 0, .int .i64 0, .int .i64 0, .int .i64 0] 46, var g2 [.int .i64 1, .int .i64 0, .int .i64 1, .int .i64 0, .int .i64 1, .int .i64 0, .int .i64 0, .int .i64 0, .string ⟨#[120]⟩, .int .i64 1, .int .i64 0, .int .i64 0, .int .i64 0, .int .i64 0, .int .i64 0, .int .i64 0, .int .i64 0, .int .i64 0, .int .i64 0, .int .i64 0, .int .i64 0, .int .i64 0, .int .i64 0, .int .i64 0, .int .i64 0] 46, var g1 [.int .i64 1, .int .i64 0] 44]) (by kernel_rfl)
  case hi =>
    intro hG
    refine wpOp_alloc (i := 2) nx rfl hL rfl CellsC.of ?_
    intro g4 w5 hL
    refine ⟨hL.box (g := g3) HasV.mem, ?_⟩
    (try simp only [Act.put, zs, zt, zu])
    refine heldOne (i := 3) (by kernel_rfl) ?_
    refine wpOp_alloc (i := 3) nx rfl hL rfl CellsC.of ?_
    intro g5 w5 hL
    refine ⟨hL.box (g := g3) HasV.mem, ?_⟩
    (try simp only [Act.put, zs, zt, zu])
    exact hG g4 g5 _ hL
  case hj =>
    intro hG
    refine wpOp_alloc (i := 3) nx rfl hL rfl CellsC.of ?_
    intro g5 w5 hL
    refine ⟨hL.box (g := g3) HasV.mem, ?_⟩
    (try simp only [Act.put, zs, zt, zu])
    refine heldOne (i := 2) (by kernel_rfl) ?_
    refine wpOp_alloc (i := 2) nx rfl hL rfl CellsC.of ?_
    intro g4 w5 hL
    refine ⟨hL.box (g := g3) HasV.mem, ?_⟩
    (try simp only [Act.put, zs, zt, zu])
    exact hG g4 g5 _ hL.comm
  intro g4 g5 w6 hL
  refine heldStore (i := 4) nx (by kernel_rfl) rfl hL rfl (by rfl) (by rfl) (cells_agg _ rfl) (by rfl) ?_
  intro w7 hL
  refine ⟨(hL.box (g := g3) HasV.mem), ?_⟩
  (try simp only [Act.put, zs, zt, zu])
  refine heldStore (i := 5) nx (by kernel_rfl) rfl hL rfl (by rfl) (by rfl) (cells_agg _ rfl) (by rfl) ?_
  intro w8 hL
  refine ⟨(hL.box (g := g3) HasV.mem), ?_⟩
  (try simp only [Act.put, zs, zt, zu])
  refine wpAnyH_done (by kernel_rfl) ?_ _
  go_upto_region 5 with fail
  refine region_held (fun wx => Box wx g1 ([.int .i64 1, .int .i64 0] : List Value).toArray 44) (by kernel_rfl) hL ?_
  intro w9 hL
  refine heldTake (i := 0) nx (by kernel_rfl) (by kernel_rfl) (by kernel_rfl) (by exact fun _ _ _ h => h) (y_pure (v := .agg #[.int .i64 2, .int .i64 0, .int .i64 0, .int .i64 0, .int .i64 0, .int .i64 0, .int .i64 0, .int .i64 0]) (by rfl) (fun w => by first | rfl | kernel_rfl | simp [execOp, go_sem])) (hL.box (g := g1) HasV.mem) ?_
  (try simp only [Act.put, zs, zt, zu])
  refine heldTake (i := 1) nx (by kernel_rfl) (by kernel_rfl) (by kernel_rfl) (by exact fun _ _ _ h => h) (y_loadAll (fun _ h => h) (by rfl) (by rfl) (by rfl) (by infer_instance) (by infer_instance) (by rfl)) (hL.box (g := g1) HasV.mem) ?_
  (try simp only [Act.put, zs, zt, zu])
  refine heldTake (i := 2) nx (by kernel_rfl) (by kernel_rfl) (by kernel_rfl) (by exact fun _ _ _ h => h) (y_pure (v := .agg #[.int .i64 2, .int .i64 0, .int .i64 0, .int .i64 0, .int .i64 0, .int .i64 0, .int .i64 0, .int .i64 0]) (by rfl) (fun w => by first | rfl | kernel_rfl | simp [execOp, go_sem])) (hL.box (g := g1) HasV.mem) ?_
  (try simp only [Act.put, zs, zt, zu])
  refine heldTake (i := 3) nx (by kernel_rfl) (by kernel_rfl) (by kernel_rfl) (by exact fun _ _ _ h => h) (y_pure (v := .agg #[.int .i64 1, .int .i64 0, .int .i64 0, .int .i64 0, .int .i64 0, .int .i64 0, .int .i64 0, .int .i64 0, .string ⟨#[]⟩, .int .i64 0, .int .i64 0, .int .i64 0, .int .i64 0, .int .i64 0, .int .i64 0, .int .i64 0, .int .i64 0, .int .i64 2, .int .i64 0, .int .i64 0, .int .i64 0, .int .i64 0, .int .i64 0, .int .i64 0, .int .i64 0]) (by rfl) (fun w => by first | rfl | kernel_rfl | simp [execOp, go_sem])) (hL.box (g := g1) HasV.mem) ?_
  (try simp only [Act.put, zs, zt, zu])
  refine heldTake (i := 5) nx (by kernel_rfl) (by kernel_rfl) (by kernel_rfl) (by exact fun _ _ _ h => h) (y_pure (v := .pointer (some ⟨g4, 0, none⟩)) (by rfl) (fun w => by simp [execOp, Instr.fieldAt, go_sem])) (hL.box (g := g1) HasV.mem) ?_
  (try simp only [Act.put, zs, zt, zu])
  apply heldEitherX (fun (gx : Nat) w' => Loc w NoM w' [var gx [.int .i64 1, .int .i64 0, .int .i64 0, .int .i64 0, .int .i64 0, .int .i64 0, .int .i64 0, .int .i64 0, .string ⟨#[]⟩, .int .i64 0, .int .i64 0, .int .i64 0, .int .i64 0, .int .i64 0, .int .i64 0, .int .i64 0, .int .i64 0, .int .i64 2, .int .i64 0, .int .i64 0, .int .i64 0, .int .i64 0, .int .i64 0, .int .i64 0, .int .i64 0] 46, var g5 [.int .i64 1, .int .i64 0, .int .i64 0, .int .i64 0, .int .i64 0, .int .i64 0, .int .i64 0, .int .i64 0, .slice none 0 0, .slice (some ⟨g16, 0, none⟩) 1 1] 27, var g4 [.int .i64 2, .int .i64 0, .int .i64 0, .int .i64 0, .int .i64 0, .int .i64 0, .int .i64 0, .int .i64 0, .slice none 0 0, .slice (some ⟨g16, 0, none⟩) 1 1] 27, var g3 [.int .i64 1, .int .i64 0, .int .i64 0, .int .i64 0, .int .i64 0, .int .i64 0, .int .i64 0, .int .i64 0, .slice none 0 0, .slice (some ⟨g16, 0, none⟩) 1 1] 27, var g16 [.int .i64 1, .int .i64 0, .int .i64 1, .int .i64 0, .int .i64 1, .int .i64 0, .int .i64 0, .int .i64 0, .string ⟨#[120]⟩, .int .i64 1, .int .i64 0, .int .i64 0, .int .i64 0, .int .i64 0, .int .i64 0, .int .i64 0, .int .i64 0, .int .i64 0, .int .i64 0, .int .i64 0, .int .i64 0, .int .i64 0, .int .i64 0, .int .i64 0, .int .i64 0] 46, var g2 [.int .i64 1, .int .i64 0, .int .i64 1, .int .i64 0, .int .i64 1, .int .i64 0, .int .i64 0, .int .i64 0, .string ⟨#[120]⟩, .int .i64 1, .int .i64 0, .int .i64 0, .int .i64 0, .int .i64 0, .int .i64 0, .int .i64 0, .int .i64 0, .int .i64 0, .int .i64 0, .int .i64 0, .int .i64 0, .int .i64 0, .int .i64 0, .int .i64 0, .int .i64 0] 46, var g1 [.int .i64 1, .int .i64 0] 44]) (by kernel_rfl)
  case hi =>
    intro hG
    refine wpOp_lit (i := 4) (cs := [.int .i64 1, .int .i64 0, .int .i64 0, .int .i64 0, .int .i64 0, .int .i64 0, .int .i64 0, .int .i64 0, .string ⟨#[]⟩, .int .i64 0, .int .i64 0, .int .i64 0, .int .i64 0, .int .i64 0, .int .i64 0, .int .i64 0, .int .i64 0, .int .i64 2, .int .i64 0, .int .i64 0, .int .i64 0, .int .i64 0, .int .i64 0, .int .i64 0, .int .i64 0]) nx rfl hL rfl rfl rfl (by kernel_rfl) ?_
    intro gx w10 hL
    refine ⟨hL.box (g := g1) HasV.mem, ?_⟩
    (try simp only [Act.put, zs, zt, zu])
    refine heldStore (i := 6) nx (by kernel_rfl) rfl hL rfl (by rfl) (by rfl) (cells_agg _ rfl) (by rfl) ?_
    intro w11 hL
    refine ⟨(hL.box (g := g1) HasV.mem), ?_⟩
    (try simp only [Act.put, zs, zt, zu])
    exact hG gx _ hL
  case hj =>
    intro hG
    refine wpOp_store (i := 6) nx rfl hL rfl (by rfl) (by rfl) (cells_agg _ rfl) (by rfl) ?_
    intro w11 hL
    refine ⟨hL.box (g := g1) HasV.mem, ?_⟩
    (try simp only [Act.put, zs, zt, zu])
    refine heldOne (i := 4) (by kernel_rfl) ?_
    refine wpOp_lit (i := 4) (cs := [.int .i64 1, .int .i64 0, .int .i64 0, .int .i64 0, .int .i64 0, .int .i64 0, .int .i64 0, .int .i64 0, .string ⟨#[]⟩, .int .i64 0, .int .i64 0, .int .i64 0, .int .i64 0, .int .i64 0, .int .i64 0, .int .i64 0, .int .i64 0, .int .i64 2, .int .i64 0, .int .i64 0, .int .i64 0, .int .i64 0, .int .i64 0, .int .i64 0, .int .i64 0]) nx rfl hL rfl rfl rfl (by kernel_rfl) ?_
    intro gx w10 hL
    refine ⟨hL.box (g := g1) HasV.mem, ?_⟩
    (try simp only [Act.put, zs, zt, zu])
    exact hG gx _ hL
  intro gx w12 hL
  refine heldTake (i := 7) nx (by kernel_rfl) (by kernel_rfl) (by kernel_rfl) (by exact fun _ _ _ h => h) (y_pure (v := .pointer (some ⟨g4, 9, none⟩)) (by rfl) (fun w => by simp [execOp, Instr.fieldAt, go_sem])) (hL.box (g := g1) HasV.mem) ?_
  (try simp only [Act.put, zs, zt, zu])
  refine heldStore (i := 8) nx (by kernel_rfl) rfl hL rfl (by rfl) (by rfl) cy (by rfl) ?_
  intro w13 hL
  refine ⟨(hL.box (g := g1) HasV.mem), ?_⟩
  (try simp only [Act.put, zs, zt, zu])
  refine wpAnyH_done (by kernel_rfl) ?_ _
  go_upto_region 6 with fail
  refine region_held (fun wx => Box wx g1 ([.int .i64 1, .int .i64 0] : List Value).toArray 44) (by kernel_rfl) hL ?_
  intro w9 hL
  refine heldTake (i := 0) nx (by kernel_rfl) (by kernel_rfl) (by kernel_rfl) (by exact fun _ _ _ h => h) (y_pure (v := .agg #[.int .i64 1, .int .i64 2, .int .i64 0, .int .i64 0, .int .i64 0, .int .i64 0, .int .i64 0, .int .i64 0]) (by rfl) (fun w => by first | rfl | kernel_rfl | simp [execOp, go_sem])) (hL.box (g := g1) HasV.mem) ?_
  (try simp only [Act.put, zs, zt, zu])
  refine heldTake (i := 1) nx (by kernel_rfl) (by kernel_rfl) (by kernel_rfl) (by exact fun _ _ _ h => h) (y_loadAll (fun _ h => h) (by rfl) (by rfl) (by rfl) (by infer_instance) (by infer_instance) (by rfl)) (hL.box (g := g1) HasV.mem) ?_
  (try simp only [Act.put, zs, zt, zu])
  refine heldTake (i := 2) nx (by kernel_rfl) (by kernel_rfl) (by kernel_rfl) (by exact fun _ _ _ h => h) (y_pure (v := .agg #[.int .i64 1, .int .i64 2, .int .i64 0, .int .i64 0, .int .i64 0, .int .i64 0, .int .i64 0, .int .i64 0]) (by rfl) (fun w => by first | rfl | kernel_rfl | simp [execOp, go_sem])) (hL.box (g := g1) HasV.mem) ?_
  (try simp only [Act.put, zs, zt, zu])
  refine heldTake (i := 3) nx (by kernel_rfl) (by kernel_rfl) (by kernel_rfl) (by exact fun _ _ _ h => h) (y_pure (v := .agg #[.int .i64 1, .int .i64 0, .int .i64 0, .int .i64 0, .int .i64 0, .int .i64 0, .int .i64 0, .int .i64 0, .string ⟨#[]⟩, .int .i64 1, .int .i64 2, .int .i64 0, .int .i64 0, .int .i64 0, .int .i64 0, .int .i64 0, .int .i64 0, .int .i64 0, .int .i64 0, .int .i64 0, .int .i64 0, .int .i64 0, .int .i64 0, .int .i64 0, .int .i64 0]) (by rfl) (fun w => by first | rfl | kernel_rfl | simp [execOp, go_sem])) (hL.box (g := g1) HasV.mem) ?_
  (try simp only [Act.put, zs, zt, zu])
  refine heldTake (i := 5) nx (by kernel_rfl) (by kernel_rfl) (by kernel_rfl) (by exact fun _ _ _ h => h) (y_pure (v := .pointer (some ⟨g5, 0, none⟩)) (by rfl) (fun w => by simp [execOp, Instr.fieldAt, go_sem])) (hL.box (g := g1) HasV.mem) ?_
  (try simp only [Act.put, zs, zt, zu])
  apply heldEitherX (fun (gy : Nat) w' => Loc w NoM w' [var gy [.int .i64 1, .int .i64 0, .int .i64 0, .int .i64 0, .int .i64 0, .int .i64 0, .int .i64 0, .int .i64 0, .string ⟨#[]⟩, .int .i64 1, .int .i64 2, .int .i64 0, .int .i64 0, .int .i64 0, .int .i64 0, .int .i64 0, .int .i64 0, .int .i64 0, .int .i64 0, .int .i64 0, .int .i64 0, .int .i64 0, .int .i64 0, .int .i64 0, .int .i64 0] 46, var gx [.int .i64 1, .int .i64 0, .int .i64 0, .int .i64 0, .int .i64 0, .int .i64 0, .int .i64 0, .int .i64 0, .string ⟨#[]⟩, .int .i64 0, .int .i64 0, .int .i64 0, .int .i64 0, .int .i64 0, .int .i64 0, .int .i64 0, .int .i64 0, .int .i64 2, .int .i64 0, .int .i64 0, .int .i64 0, .int .i64 0, .int .i64 0, .int .i64 0, .int .i64 0] 46, var g5 [.int .i64 1, .int .i64 2, .int .i64 0, .int .i64 0, .int .i64 0, .int .i64 0, .int .i64 0, .int .i64 0, .slice none 0 0, .slice (some ⟨g16, 0, none⟩) 1 1] 27, var g4 [.int .i64 2, .int .i64 0, .int .i64 0, .int .i64 0, .int .i64 0, .int .i64 0, .int .i64 0, .int .i64 0, .slice none 0 0, .slice (some ⟨gx, 0, none⟩) 1 1] 27, var g3 [.int .i64 1, .int .i64 0, .int .i64 0, .int .i64 0, .int .i64 0, .int .i64 0, .int .i64 0, .int .i64 0, .slice none 0 0, .slice (some ⟨g16, 0, none⟩) 1 1] 27, var g16 [.int .i64 1, .int .i64 0, .int .i64 1, .int .i64 0, .int .i64 1, .int .i64 0, .int .i64 0, .int .i64 0, .string ⟨#[120]⟩, .int .i64 1, .int .i64 0, .int .i64 0, .int .i64 0, .int .i64 0, .int .i64 0, .int .i64 0, .int .i64 0, .int .i64 0, .int .i64 0, .int .i64 0, .int .i64 0, .int .i64 0, .int .i64 0, .int .i64 0, .int .i64 0] 46, var g2 [.int .i64 1, .int .i64 0, .int .i64 1, .int .i64 0, .int .i64 1, .int .i64 0, .int .i64 0, .int .i64 0, .string ⟨#[120]⟩, .int .i64 1, .int .i64 0, .int .i64 0, .int .i64 0, .int .i64 0, .int .i64 0, .int .i64 0, .int .i64 0, .int .i64 0, .int .i64 0, .int .i64 0, .int .i64 0, .int .i64 0, .int .i64 0, .int .i64 0, .int .i64 0] 46, var g1 [.int .i64 1, .int .i64 0] 44]) (by kernel_rfl)
  case hi =>
    intro hG
    refine wpOp_lit (i := 4) (cs := [.int .i64 1, .int .i64 0, .int .i64 0, .int .i64 0, .int .i64 0, .int .i64 0, .int .i64 0, .int .i64 0, .string ⟨#[]⟩, .int .i64 1, .int .i64 2, .int .i64 0, .int .i64 0, .int .i64 0, .int .i64 0, .int .i64 0, .int .i64 0, .int .i64 0, .int .i64 0, .int .i64 0, .int .i64 0, .int .i64 0, .int .i64 0, .int .i64 0, .int .i64 0]) nx rfl hL rfl rfl rfl (by kernel_rfl) ?_
    intro gy w10 hL
    refine ⟨hL.box (g := g1) HasV.mem, ?_⟩
    (try simp only [Act.put, zs, zt, zu])
    refine heldStore (i := 6) nx (by kernel_rfl) rfl hL rfl (by rfl) (by rfl) (cells_agg _ rfl) (by rfl) ?_
    intro w11 hL
    refine ⟨(hL.box (g := g1) HasV.mem), ?_⟩
    (try simp only [Act.put, zs, zt, zu])
    exact hG gy _ hL
  case hj =>
    intro hG
    refine wpOp_store (i := 6) nx rfl hL rfl (by rfl) (by rfl) (cells_agg _ rfl) (by rfl) ?_
    intro w11 hL
    refine ⟨hL.box (g := g1) HasV.mem, ?_⟩
    (try simp only [Act.put, zs, zt, zu])
    refine heldOne (i := 4) (by kernel_rfl) ?_
    refine wpOp_lit (i := 4) (cs := [.int .i64 1, .int .i64 0, .int .i64 0, .int .i64 0, .int .i64 0, .int .i64 0, .int .i64 0, .int .i64 0, .string ⟨#[]⟩, .int .i64 1, .int .i64 2, .int .i64 0, .int .i64 0, .int .i64 0, .int .i64 0, .int .i64 0, .int .i64 0, .int .i64 0, .int .i64 0, .int .i64 0, .int .i64 0, .int .i64 0, .int .i64 0, .int .i64 0, .int .i64 0]) nx rfl hL rfl rfl rfl (by kernel_rfl) ?_
    intro gy w10 hL
    refine ⟨hL.box (g := g1) HasV.mem, ?_⟩
    (try simp only [Act.put, zs, zt, zu])
    exact hG gy _ hL
  intro gy w12 hL
  refine heldTake (i := 7) nx (by kernel_rfl) (by kernel_rfl) (by kernel_rfl) (by exact fun _ _ _ h => h) (y_pure (v := .pointer (some ⟨g5, 9, none⟩)) (by rfl) (fun w => by simp [execOp, Instr.fieldAt, go_sem])) (hL.box (g := g1) HasV.mem) ?_
  (try simp only [Act.put, zs, zt, zu])
  refine heldStore (i := 8) nx (by kernel_rfl) rfl hL rfl (by rfl) (by rfl) cy (by rfl) ?_
  intro w13 hL
  refine ⟨(hL.box (g := g1) HasV.mem), ?_⟩
  (try simp only [Act.put, zs, zt, zu])
  refine wpAnyH_done (by kernel_rfl) ?_ _
  go_upto_region 7 with fail
  refine region_held (fun wx => Box wx g3 ([.int .i64 1, .int .i64 0, .int .i64 0, .int .i64 0, .int .i64 0, .int .i64 0, .int .i64 0, .int .i64 0, .slice none 0 0, .slice (some ⟨g16, 0, none⟩) 1 1] : List Value).toArray 27 ∧ Box wx g4 ([.int .i64 2, .int .i64 0, .int .i64 0, .int .i64 0, .int .i64 0, .int .i64 0, .int .i64 0, .int .i64 0, .slice none 0 0, .slice (some ⟨gx, 0, none⟩) 1 1] : List Value).toArray 27 ∧ Box wx g5 ([.int .i64 1, .int .i64 2, .int .i64 0, .int .i64 0, .int .i64 0, .int .i64 0, .int .i64 0, .int .i64 0, .slice none 0 0, .slice (some ⟨gy, 0, none⟩) 1 1] : List Value).toArray 27) (by kernel_rfl) hL ?_
  intro w14 hL
  refine heldTake (i := 0) nx (by kernel_rfl) (by kernel_rfl) (by kernel_rfl) (by exact fun _ _ _ h => h) (y_loadAll (fun _ h => h.1) (by rfl) (by rfl) (by rfl) (by infer_instance) (by infer_instance) (by rfl)) ⟨hL.box (g := g3) HasV.mem, hL.box (g := g4) HasV.mem, hL.box (g := g5) HasV.mem⟩ ?_
  (try simp only [Act.put, zs, zt, zu])
  refine heldTake (i := 1) nx (by kernel_rfl) (by kernel_rfl) (by kernel_rfl) (by exact fun _ _ _ h => h) (y_loadAll (fun _ h => h.2.1) (by rfl) (by rfl) (by rfl) (by infer_instance) (by infer_instance) (by rfl)) ⟨hL.box (g := g3) HasV.mem, hL.box (g := g4) HasV.mem, hL.box (g := g5) HasV.mem⟩ ?_
  (try simp only [Act.put, zs, zt, zu])
  refine heldTake (i := 2) nx (by kernel_rfl) (by kernel_rfl) (by kernel_rfl) (by exact fun _ _ _ h => h) (y_loadAll (fun _ h => h.2.2) (by rfl) (by rfl) (by rfl) (by infer_instance) (by infer_instance) (by rfl)) ⟨hL.box (g := g3) HasV.mem, hL.box (g := g4) HasV.mem, hL.box (g := g5) HasV.mem⟩ ?_
  (try simp only [Act.put, zs, zt, zu])
  apply heldEither3 (fun (r1 r2 : Sta) (g6 : Nat) w' => r2.seen = ⟨2, 2, 0, 0, 0, 0, 0, 0⟩ ∧ Loc w NoM w' [row encK w.heap.size 46 r2.links.val [xboth], var g6 [.int .i64 0, .int .i64 0, .int .i64 0, .int .i64 0, .int .i64 0, .int .i64 0, .int .i64 0, .int .i64 0, .slice none 0 0, .slice none 0 0] 27, var gy [.int .i64 1, .int .i64 0, .int .i64 0, .int .i64 0, .int .i64 0, .int .i64 0, .int .i64 0, .int .i64 0, .string ⟨#[]⟩, .int .i64 1, .int .i64 2, .int .i64 0, .int .i64 0, .int .i64 0, .int .i64 0, .int .i64 0, .int .i64 0, .int .i64 0, .int .i64 0, .int .i64 0, .int .i64 0, .int .i64 0, .int .i64 0, .int .i64 0, .int .i64 0] 46, var gx [.int .i64 1, .int .i64 0, .int .i64 0, .int .i64 0, .int .i64 0, .int .i64 0, .int .i64 0, .int .i64 0, .string ⟨#[]⟩, .int .i64 0, .int .i64 0, .int .i64 0, .int .i64 0, .int .i64 0, .int .i64 0, .int .i64 0, .int .i64 0, .int .i64 2, .int .i64 0, .int .i64 0, .int .i64 0, .int .i64 0, .int .i64 0, .int .i64 0, .int .i64 0] 46, var g5 [.int .i64 1, .int .i64 2, .int .i64 0, .int .i64 0, .int .i64 0, .int .i64 0, .int .i64 0, .int .i64 0, .slice none 0 0, .slice (some ⟨gy, 0, none⟩) 1 1] 27, var g4 [.int .i64 2, .int .i64 0, .int .i64 0, .int .i64 0, .int .i64 0, .int .i64 0, .int .i64 0, .int .i64 0, .slice none 0 0, .slice (some ⟨gx, 0, none⟩) 1 1] 27, var g3 [.int .i64 1, .int .i64 0, .int .i64 0, .int .i64 0, .int .i64 0, .int .i64 0, .int .i64 0, .int .i64 0, .slice none 0 0, .slice (some ⟨g16, 0, none⟩) 1 1] 27, var g16 [.int .i64 1, .int .i64 0, .int .i64 1, .int .i64 0, .int .i64 1, .int .i64 0, .int .i64 0, .int .i64 0, .string ⟨#[120]⟩, .int .i64 1, .int .i64 0, .int .i64 0, .int .i64 0, .int .i64 0, .int .i64 0, .int .i64 0, .int .i64 0, .int .i64 0, .int .i64 0, .int .i64 0, .int .i64 0, .int .i64 0, .int .i64 0, .int .i64 0, .int .i64 0] 46, var g2 [.int .i64 1, .int .i64 0, .int .i64 1, .int .i64 0, .int .i64 1, .int .i64 0, .int .i64 0, .int .i64 0, .string ⟨#[120]⟩, .int .i64 1, .int .i64 0, .int .i64 0, .int .i64 0, .int .i64 0, .int .i64 0, .int .i64 0, .int .i64 0, .int .i64 0, .int .i64 0, .int .i64 0, .int .i64 0, .int .i64 0, .int .i64 0, .int .i64 0, .int .i64 0] 46, var g1 [.int .i64 1, .int .i64 0] 44]) (by kernel_rfl)
  case hi =>
    intro hG
    refine heldCall (i := 3) (Nth.get nx) (by rfl) (enter2 Tryz.func10 (by kernel_rfl) (by kernel_rfl) (by rfl) (by rfl) (by rfl)) (st_two ⟨xv2, ⟨none, 0, 0⟩, ⟨some ⟨gx, 0, none⟩, 1, 1⟩⟩ ⟨xv12, ⟨none, 0, 0⟩, ⟨some ⟨gy, 0, none⟩, 1, 1⟩⟩ ⟨xv2, [], [xl1]⟩ ⟨xv12, [], [xl2]⟩ _ (ok_one (l := xl1) (hL.box (g := gx) HasV.mem)) (ok_one (l := xl2) (hL.box (g := gy) HasV.mem)) rfl rfl (by decide) (xv2.join xv12) rfl [xl12] links12) ?_
    rintro e w15 ⟨r1, rfl, hs1, hL15⟩
    replace hL := hL.takeAll (hL15.weakRow hL.size)
    simp only [List.cons_append, List.nil_append] at hL
    refine ⟨_, rfl, ⟨hL.box (g := g3) HasV.mem, hL.box (g := g4) HasV.mem, hL.box (g := g5) HasV.mem⟩, ?_⟩
    (try simp only [Act.put, zs, zt, zu])
    refine heldBoth (i := 4) (j := 5) (by kernel_rfl) ?b1 ?b2
    case b1 =>
      refine heldCall (i := 4) (Nth.get nx) (by rfl) (enter2 Tryz.func10 (by kernel_rfl) (by kernel_rfl) (by rfl) (by rfl) (by rfl)) (st_two ⟨xv1, ⟨none, 0, 0⟩, ⟨some ⟨g16, 0, none⟩, 1, 1⟩⟩ r1 ⟨xv1, [], [xl0]⟩ ⟨xv2.join xv12, [], [xl12]⟩ _ (ok_one (l := xl0) (hL.box (g := g16) HasV.mem)) (ok_res hL (.head _) (.tail _ (.head _)) hs1) rfl rfl (by decide) ⟨2, 2, 0, 0, 0, 0, 0, 0⟩ seen12 [xboth] links_both) ?_
      rintro e w16 ⟨r2, rfl, hs2, hL16⟩
      replace hL := hL.takeAll (hL16.weakRow hL.size)
      simp only [List.cons_append, List.nil_append] at hL
      refine ⟨_, rfl, ⟨hL.box (g := g3) HasV.mem, hL.box (g := g4) HasV.mem, hL.box (g := g5) HasV.mem⟩, ?_⟩
      (try simp only [Act.put, zs, zt, zu])
      refine heldOne (i := 5) (by kernel_rfl) ?_
      refine wpOp_alloc (i := 5) nx rfl hL rfl CellsC.of ?_
      intro g6 w17 hL
      refine ⟨⟨hL.box (g := g3) HasV.mem, hL.box (g := g4) HasV.mem, hL.box (g := g5) HasV.mem⟩, ?_⟩
      (try simp only [Act.put, zs, zt, zu])
      exact hG r1 r2 g6 _ ⟨hs2, (hL.sub (.cons_cons _ (.cons_cons _ (.cons _ (.cons _ (.cons _ (.refl _))))))).comm⟩
    case b2 =>
      refine wpOp_alloc (i := 5) nx rfl hL rfl CellsC.of ?_
      intro g6 w17 hL
      refine ⟨⟨hL.box (g := g3) HasV.mem, hL.box (g := g4) HasV.mem, hL.box (g := g5) HasV.mem⟩, ?_⟩
      (try simp only [Act.put, zs, zt, zu])
      refine heldOne (i := 4) (by kernel_rfl) ?_
      refine heldCall (i := 4) (Nth.get nx) (by rfl) (enter2 Tryz.func10 (by kernel_rfl) (by kernel_rfl) (by rfl) (by rfl) (by rfl)) (st_two ⟨xv1, ⟨none, 0, 0⟩, ⟨some ⟨g16, 0, none⟩, 1, 1⟩⟩ r1 ⟨xv1, [], [xl0]⟩ ⟨xv2.join xv12, [], [xl12]⟩ _ (ok_one (l := xl0) (hL.box (g := g16) HasV.mem)) (ok_res hL (.tail _ (.head _)) (.tail _ (.tail _ (.head _))) hs1) rfl rfl (by decide) ⟨2, 2, 0, 0, 0, 0, 0, 0⟩ seen12 [xboth] links_both) ?_
      rintro e w16 ⟨r2, rfl, hs2, hL16⟩
      replace hL := hL.takeAll (hL16.weakRow hL.size)
      simp only [List.cons_append, List.nil_append] at hL
      refine ⟨_, rfl, ⟨hL.box (g := g3) HasV.mem, hL.box (g := g4) HasV.mem, hL.box (g := g5) HasV.mem⟩, ?_⟩
      (try simp only [Act.put, zs, zt, zu])
      exact hG r1 r2 g6 _ ⟨hs2, hL.sub (.cons_cons _ (.cons _ (.cons_cons _ (.cons _ (.cons _ (.refl _))))))⟩
  case hj =>
    intro hG
    refine wpOp_alloc (i := 5) nx rfl hL rfl CellsC.of ?_
    intro g6 w17 hL
    refine ⟨⟨hL.box (g := g3) HasV.mem, hL.box (g := g4) HasV.mem, hL.box (g := g5) HasV.mem⟩, ?_⟩
    (try simp only [Act.put, zs, zt, zu])
    refine heldOne (i := 3) (by kernel_rfl) ?_
    refine heldCall (i := 3) (Nth.get nx) (by rfl) (enter2 Tryz.func10 (by kernel_rfl) (by kernel_rfl) (by rfl) (by rfl) (by rfl)) (st_two ⟨xv2, ⟨none, 0, 0⟩, ⟨some ⟨gx, 0, none⟩, 1, 1⟩⟩ ⟨xv12, ⟨none, 0, 0⟩, ⟨some ⟨gy, 0, none⟩, 1, 1⟩⟩ ⟨xv2, [], [xl1]⟩ ⟨xv12, [], [xl2]⟩ _ (ok_one (l := xl1) (hL.box (g := gx) HasV.mem)) (ok_one (l := xl2) (hL.box (g := gy) HasV.mem)) rfl rfl (by decide) (xv2.join xv12) rfl [xl12] links12) ?_
    rintro e w15 ⟨r1, rfl, hs1, hL15⟩
    replace hL := hL.takeAll (hL15.weakRow hL.size)
    simp only [List.cons_append, List.nil_append] at hL
    refine ⟨_, rfl, ⟨hL.box (g := g3) HasV.mem, hL.box (g := g4) HasV.mem, hL.box (g := g5) HasV.mem⟩, ?_⟩
    (try simp only [Act.put, zs, zt, zu])
    refine heldOne (i := 4) (by kernel_rfl) ?_
    refine heldCall (i := 4) (Nth.get nx) (by rfl) (enter2 Tryz.func10 (by kernel_rfl) (by kernel_rfl) (by rfl) (by rfl) (by rfl)) (st_two ⟨xv1, ⟨none, 0, 0⟩, ⟨some ⟨g16, 0, none⟩, 1, 1⟩⟩ r1 ⟨xv1, [], [xl0]⟩ ⟨xv2.join xv12, [], [xl12]⟩ _ (ok_one (l := xl0) (hL.box (g := g16) HasV.mem)) (ok_res hL (.head _) (.tail _ (.head _)) hs1) rfl rfl (by decide) ⟨2, 2, 0, 0, 0, 0, 0, 0⟩ seen12 [xboth] links_both) ?_
    rintro e w16 ⟨r2, rfl, hs2, hL16⟩
    replace hL := hL.takeAll (hL16.weakRow hL.size)
    simp only [List.cons_append, List.nil_append] at hL
    refine ⟨_, rfl, ⟨hL.box (g := g3) HasV.mem, hL.box (g := g4) HasV.mem, hL.box (g := g5) HasV.mem⟩, ?_⟩
    (try simp only [Act.put, zs, zt, zu])
    exact hG r1 r2 g6 _ ⟨hs2, hL.sub (.cons_cons _ (.cons _ (.cons _ (.cons _ (.cons_cons _ (.refl _))))))⟩
  rintro r1 ⟨sv2, nd2, lk2⟩ g6 w18 ⟨hs2, hL⟩
  obtain rfl : sv2 = ⟨2, 2, 0, 0, 0, 0, 0, 0⟩ := hs2
  obtain ⟨la2, ln2, lc2⟩ := lk2
  rcases own_casesG hL with ⟨-, e2⟩ | ⟨gb, cb, e2, -, -, -⟩
  · cases e2
  replace e2 : Value.slice la2 ln2 lc2 = .slice (some ⟨gb, 0, none⟩) 1 cb := e2
  injection e2 with e3 e4 e5
  subst e3 e4 e5
  refine heldStore (i := 6) nx (by kernel_rfl) rfl hL rfl (by rfl) (by rfl) (cells_agg [.int .i64 2, .int .i64 2, .int .i64 0, .int .i64 0, .int .i64 0, .int .i64 0, .int .i64 0, .int .i64 0, .slice nd2.a nd2.n nd2.c, .slice (some ⟨gb, 0, none⟩) 1 lc2] rfl) (by rfl) ?_
  intro w19 hL
  refine ⟨⟨hL.box (g := g3) HasV.mem, hL.box (g := g4) HasV.mem, hL.box (g := g5) HasV.mem⟩, ?_⟩
  (try simp only [Act.put, zs, zt, zu])
  refine wpAnyH_done (by kernel_rfl) ?_ _
  have HZB : Hid (∀ (l' : List Item) (w' : World), Loc w NoM w' l' → row encK w.heap.size 46 (.slice (some ⟨gb, 0, none⟩) 1 lc2) [xboth] ∈ l' → w'.rangeAt gb (0 + 0 * 25) (Lnk.cells xboth)) := Lib.hid (fun l' w' h hm => row_range (h.own (E := encK) hm) (y := xboth) (i := 0) rfl)
  go_wp2_with (first
    | ((with_reducible refine gate (N := 7) rfl ?_); (refine lI rfl hL rfl cy ?_; clear hL; intro g7 w7 hL))
    | (go_at_call 10; have hq := st_two ⟨xv1, ⟨none, 0, 0⟩, ⟨some ⟨g16, 0, none⟩, 1, 1⟩⟩ ⟨xv2, ⟨none, 0, 0⟩, ⟨some ⟨gx, 0, none⟩, 1, 1⟩⟩ ⟨xv1, [], [xl0]⟩ ⟨xv2, [], [xl1]⟩ _ (ok_one (l := xl0) (hL.box (g := g16) HasV.mem)) (ok_one (l := xl1) (hL.box (g := gx) HasV.mem)) rfl rfl (by decide) xv2 seen_dead [xdead] links_dead; (refine hq.mono ?_); rintro e w21 ⟨r3, rfl, hs3, hL21⟩; replace hL := hL.takeAll (hL21.weakRow hL.size); simp only [List.cons_append, List.nil_append] at hL; clear hq hL21; refine stop ?_)
    | ((with_reducible refine qB rfl rfl ?_); (refine lA rfl hL rfl rfl HasV.mem (by rfl) ?_)))
  unfold Stop
  obtain ⟨sv3, nd3, lk3⟩ := r3
  obtain rfl : sv3 = xv2 := hs3
  obtain ⟨la3, ln3, lc3⟩ := lk3
  rcases own_casesG hL with ⟨-, e2⟩ | ⟨gd, cd, e2, -, -, -⟩
  · cases e2
  replace e2 : Value.slice la3 ln3 lc3 = .slice (some ⟨gd, 0, none⟩) 1 cd := e2
  injection e2 with e3 e4 e5
  subst e3 e4 e5
  obtain ⟨na3, nn3, nc3⟩ := nd3
  have hrn := (hL.own (E := encN) (.tail _ (.head _))).read
  obtain ⟨ao3, cc3, e6, -⟩ := R_elem hrn
  replace e6 : Value.slice na3 nn3 nc3 = .slice ao3 0 cc3 := e6
  injection e6 with e7 e8 e9
  subst e7 e8 e9
  clear hrn
  have HRN : Hid (∀ (l' : List Item) (w' : World) (b : Nat), Loc w NoM w' l' → row encN b 58 (.slice na3 0 nc3) [] ∈ l' → encN.R w' (.slice na3 0 nc3) []) := Lib.hid (fun l' w' b h hm => (h.own (E := encN) hm).read)
  have HZD : Hid (∀ (l' : List Item) (w' : World), Loc w NoM w' l' → row encK w.heap.size 46 (.slice (some ⟨gd, 0, none⟩) 1 lc3) [xdead] ∈ l' → w'.rangeAt gd (0 + 0 * 25) (Lnk.cells xdead)) := Lib.hid (fun l' w' h hm => row_range (h.own (E := encK) hm) (y := xdead) (i := 0) rfl)
  have hve := vec_eq ⟨2, 2, 0, 0, 0, 0, 0, 0⟩ ⟨2, 2, 0, 0, 0, 0, 0, 0⟩ (r := true) (by decide)
  simp only at hve
  unfold Sta.cells
  simp only [xv2]
  have hqb := Lib.hid (fun wx => (show Calls Tryz.prog 23 #[.agg (encK.cells xboth).toArray] wx (fun e w' => e = .returned (.bool true) ∧ Below wx.heap.size wx w') from by
    have h9 := join_alive xboth wx
    rw [alive_both] at h9
    exact h9))
  have hqd := Lib.hid (fun wx => (show Calls Tryz.prog 23 #[.agg (encK.cells xdead).toArray] wx (fun e w' => e = .returned (.bool false) ∧ Below wx.heap.size wx w') from by
    have h9 := join_alive xdead wx
    rw [alive_dead] at h9
    exact h9))
  go_wp2_with (first
    | ((with_reducible refine gate (N := 7) rfl ?_); (refine lI rfl hL rfl cy ?_; clear hL; intro g7 w7 hL))
    | ((with_reducible refine gate (N := 50) rfl ?_); refine ev_loadRG (wz rfl rfl rfl rfl) rfl rfl (HZB.out _ _ hL mx) (by rfl) ?_)
    | ((with_reducible refine gate (N := 58) rfl ?_); refine ev_loadR1G (wz rfl rfl rfl rfl) rfl rfl (range_part (j := 8) (n := 1) (vs := [.string ⟨#[120]⟩]) (HZB.out _ _ hL mx) (show Seg (Lnk.cells xboth) 8 1 [.string ⟨#[120]⟩] from Seg.of rfl (by decide))) ?_)
    | ((with_reducible refine gate (N := 65) rfl ?_); refine ev_loadRG (wz rfl rfl rfl rfl) rfl rfl (HZD.out _ _ hL mx) (by rfl) ?_)
    | (go_at_call 23; first | (refine (hqb.out _).mono ?_; rintro e w31 ⟨rfl, hb31⟩; have hL := hL.call hb31; clear hb31) | (refine (hqd.out _).mono ?_; rintro e w31 ⟨rfl, hb31⟩; have hL := hL.call hb31; clear hb31))
    | (go_at_call 20; have hq := join_prune1 xv2 xv2 na3 (some ⟨gd, 0, none⟩) nc3 lc3 xdead _ (HRN.out _ _ _ hL mx) (hL.own (E := encK) (base := w.heap.size) (e := 46) (v := .slice (some ⟨gd, 0, none⟩) 1 lc3) (xs := [xdead]) mx).read rfl alive_dead (by rw [meet_dead]; decide) (by rw [meet_dead]; decide) (by rw [meet_dead]; decide) key_dead; (refine hq.mono ?_); rintro e w32 ⟨⟨pa, pc, rfl⟩, hb32⟩; clear hq; have hfd : ∀ wx, (Instr.field 27 (.agg #[.int .i64 xv2.a0, .int .i64 xv2.a1, .int .i64 xv2.a2, .int .i64 xv2.a3, .int .i64 xv2.a4, .int .i64 xv2.a5, .int .i64 xv2.a6, .int .i64 xv2.a7, .slice pa 0 pc, .slice none 0 0]) 2).run Tryz.prog wx = .ok (.slice none 0 0) wx := (fun wx => by kernel_rfl); have hL := hL.call hb32; clear hb32)
    | ((with_reducible refine qB rfl rfl ?_); (refine lC rfl hL rfl rfl HasV.mem (by rfl) ?_)) | ((with_reducible refine qC rfl rfl ?_); (refine lH rfl hL rfl rfl rfl cy (by rfl) ?_); clear hL; intro wq hL) | ((with_reducible refine qA rfl rfl ?_ ?_); (exact wz rfl rfl rfl (by with_reducible rfl)); (first | (refine lD (wz rfl rfl rfl rfl) hL rfl rfl HasV.mem (by rfl) ?_) | (refine lB (wz rfl rfl rfl rfl) hL rfl rfl HasV.mem (by rfl) ?_) | (refine lE (wz rfl rfl rfl rfl) hL rfl rfl HasV.mem SegC.seg ?_))))
  go_ret
  exact ⟨rfl, hL.below⟩
end Go.Proofs.YtebpacmhdkgfeaaGreat

namespace Go.Proofs.YtebpacmhdkgfeaaGreat
open Go.RowKit
set_option maxHeartbeats 4000000
set_option maxRecDepth 20000
def encSt : Enc Sta := ⟨10, by decide, Sta.cells, fun _ => rfl, fun _ => ones_of rfl⟩
instance : SizeT Tryz.prog 27 encSt.sz := inferInstanceAs (SizeT Tryz.prog 27 10)
structure StaD.small (d : StaD) : Prop where
  plain : d.plain
  nodes : d.nodes.length ≤ 40
  links : d.links.length ≤ 40
theorem sta_shape {s : Sta} {d : StaD} {w : World} (h : s.Ok w d) : ∃ a c b e, s = ⟨d.seen, ⟨a, d.nodes.length, c⟩, ⟨b, d.links.length, e⟩⟩ := by
  obtain ⟨sv, ⟨a1, n1, c1⟩, ⟨a2, n2, c2⟩⟩ := s
  obtain ⟨h1, ⟨ns, hns, -, hnd⟩, hlk⟩ := h
  simp only at h1
  obtain ⟨ao, c, e1, -⟩ := R_elem hns
  obtain ⟨bo, e, e2, -⟩ := R_elem hlk
  replace e1 : Value.slice a1 n1 c1 = .slice ao ns.length c := e1
  replace e2 : Value.slice a2 n2 c2 = .slice bo d.links.length e := e2
  injection e1 with e3 e4 e5
  injection e2 with e6 e7 e8
  refine ⟨a1, c1, a2, c2, ?_⟩
  rw [h1, e4, e7, ← hnd, List.length_map]
theorem small11 (v : Value) (ss : List Sta) (ds : List StaD) (w : World) (h : encSt.R w v ss) (hl : ss.length = ds.length) (hO : ∀ i (h1 : i < ss.length) (h2 : i < ds.length), ss[i].Ok w ds[i]) :
    Calls Tryz.prog 7 #[v] w fun e w' => (∃ b, e = .returned (.bool b) ∧ (b = true → ∀ d ∈ ds, d.small)) ∧ Below w.heap.size w w' := by
  have hL := Loc.nil w NoM
  have hm := R_max h
  obtain ⟨ao, c, rfl, hel⟩ := R_elem h
  have HO := Lib.hid hO
  have HLN := Lib.hid hl
  clear h hO hl
  go_enter Tryz.func7, Tryz.ntmps7
  go_wp2_with fail
  go_loopw [7] (fun i wr => ∃ k : Nat, k ≤ ss.length ∧ i = .int .i64 k ∧ Hid (∀ j (h : j < ds.length), j < k → ds[j].small) ∧ Loc w NoM wr []) (fun i _ => ss.length - (intOf i).toNat)
  case atStart => exact ⟨0, by omega, rfl, Lib.hid (fun j _ h => absurd h (by omega)), hL⟩
  case round =>
    clear hL
    obtain ⟨k, hk, rfl, HS, hL⟩ := hrel
    by_cases hlt : k < ss.length
    · have hlt2 : k < ds.length := by have := HLN.out; omega
      obtain ⟨q1, o1, rfl, r1⟩ := hel k hlt
      have hok := HO.out k hlt hlt2
      obtain ⟨na, nc, la, lc, hsh⟩ := sta_shape hok
      have HK : Hid (∀ d, d = ds[k] → d.small → ∀ j (h : j < ds.length), j < k + 1 → ds[j].small) := Lib.hid (fun d hd hs j h hj => by
        rcases Nat.lt_or_ge j k with h1 | h1
        · exact HS.out j h h1
        · obtain rfl : j = k := by omega
          rw [← hd]; exact hs)
      obtain ⟨d, hd⟩ : ∃ d, d = ds[k] := ⟨_, rfl⟩
      rw [← hd] at hok hsh
      have HDK := Lib.hid hd
      have hq := Lib.hid (fun (wx : World) (hb : Below w.heap.size w wx) => plain_small ss[k] d wx (hok.below hb))
      rw [hsh] at hq
      have hz : w.rangeAt q1 (o1 + k * 10) (Sta.cells ss[k]) := r1
      rw [hsh] at hz
      unfold Sta.cells at hz
      clear r1 hsh hok hd
      have hnz : (0 : Int) ≤ (d.nodes.length : Int) := by omega
      go_wp2_with (first
        | ((with_reducible refine qF rfl rfl ?_); refine lL rfl rfl rfl rfl hlt ?_)
        | ((with_reducible refine gate (N := 10) rfl ?_); refine lK rfl rfl rfl (range_below hz hL.below) (by rfl) ?_)
        | (go_at_call 22; (refine (hq.out _ hL.below).mono ?_); rintro e w9 ⟨⟨b, rfl, hbp⟩, hb9⟩; have HBP := Lib.hid hbp; clear hbp hq; have hL := hL.call hb9; clear hb9; refine stop ?_)
        | ((with_reducible refine gate (N := 4) rfl ?_); (refine lI rfl hL rfl cy ?_; clear hL; intro g4 w4 hL))
        | ((with_reducible refine qB rfl rfl ?_); (refine lA rfl hL rfl rfl HasV.mem (by rfl) ?_)) | ((with_reducible refine qC rfl rfl ?_); (refine lH rfl hL rfl rfl rfl cy (by rfl) ?_); clear hL; intro wq hL))
      unfold Stop
      cases b
      · go_wp2_with fail
        go_ret
        exact ⟨by simp, hL.below⟩
      · by_cases hn : 40 < d.nodes.length
        · have t1 : decide ((d.nodes.length : Int) > 40) = true := (by first | (simp; done) | (simp; omega))
          go_wp2_with (first | ((with_reducible refine qA rfl rfl ?_ ?_); (exact wz rfl rfl rfl (by with_reducible rfl)); (refine lD (wz rfl rfl rfl rfl) hL rfl rfl HasV.mem (by rfl) ?_)))
          go_ret
          exact ⟨by simp, hL.below⟩
        · have t1 : decide ((d.nodes.length : Int) > 40) = false := (by first | (simp; done) | (simp; omega))
          by_cases hm2 : 40 < d.links.length
          · have t2 : decide ((d.links.length : Int) > 40) = true := (by first | (simp; done) | (simp; omega))
            go_wp2_with (first | ((with_reducible refine qA rfl rfl ?_ ?_); (exact wz rfl rfl rfl (by with_reducible rfl)); (refine lD (wz rfl rfl rfl rfl) hL rfl rfl HasV.mem (by rfl) ?_)))
            go_ret
            exact ⟨by simp, hL.below⟩
          · have t2 : decide ((d.links.length : Int) > 40) = false := (by first | (simp; done) | (simp; omega))
            have HS2 := Lib.hid (HK.out d HDK.out ⟨HBP.out rfl, by omega, by omega⟩)
            go_wp2_with (first | ((with_reducible refine qA rfl rfl ?_ ?_); (exact wz rfl rfl rfl (by with_reducible rfl)); (refine lD (wz rfl rfl rfl rfl) hL rfl rfl HasV.mem (by rfl) ?_)))
            go_roundw
            case rel => exact ⟨k + 1, by omega, by go_num, HS2, hL.sub (List.nil_sublist _)⟩
            case measure => simp [intOf]; omega
    · obtain rfl : k = ss.length := by omega
      go_wp2_with fail
      go_ret
      refine ⟨⟨true, rfl, fun _ d hd => ?_⟩, hL.below⟩
      obtain ⟨j, hj, rfl⟩ := List.mem_iff_getElem.1 hd
      exact HS.out j hj (by have := HLN.out; omega)
theorem states_ok (s t : Sta) (ds dt : StaD) (w : World) (hs : s.Ok w ds) (ht : t.Ok w dt) (B : Nat) (hB : ∀ n ∈ ds.nodes ++ dt.nodes, n.ps.length ≤ B ∧ n.xs.length ≤ B) (hn : ds.nodes.length + dt.nodes.length ≤ 1000000) (hBn : B * (ds.nodes.length + dt.nodes.length) ≤ 100000000) (hl : ds.links.length + dt.links.length ≤ 100000000) :
    Calls Tryz.prog 10 #[.agg (Sta.cells s).toArray, .agg (Sta.cells t).toArray] w fun e w' => ∃ r : Sta, e = .returned (.agg (Sta.cells r).toArray) ∧ r.Ok w' (ds.join dt) ∧ (∀ n ∈ (ds.join dt).nodes, n.ps.length ≤ B * (ds.nodes.length + dt.nodes.length) ∧ n.xs.length ≤ B * (ds.nodes.length + dt.nodes.length)) ∧ Below w.heap.size w w' :=
  (join_States s t ds dt w hs ht B hB hn hBn hl).mono fun e w' ⟨r, he, hsn, F, L, hd, hb, hL⟩ => by
    refine ⟨r, he, ⟨hsn, ⟨L, (hL.own (.head _)).read, hL.nested (.refl _ _) (.tail _ (.tail _ (.head _))), hd⟩, (hL.own (.tail _ (.head _))).read⟩, fun n hn => ?_, hL.below⟩
    rw [← hd] at hn
    obtain ⟨m, hm, rfl⟩ := List.mem_map.1 hn
    exact hb m hm
theorem join_nodes_len (ds dt : StaD) : (ds.join dt).nodes.length ≤ ds.nodes.length + dt.nodes.length := by
  show ((nodesD (ds.nodes ++ dt.nodes)).map InoD.norm).length ≤ _
  rw [List.length_map, ← List.length_append]; exact nodes_len _
theorem join_links_len (ds dt : StaD) : (ds.join dt).links.length ≤ ds.links.length + dt.links.length := by
  show (linksD (ds.links ++ dt.links)).length ≤ _
  rw [← List.length_append]; exact links_len _
structure StaD.Fit (B N : Nat) (d : StaD) : Prop where
  nodes : d.nodes.length ≤ N
  links : d.links.length ≤ N
  each : ∀ n ∈ d.nodes, n.ps.length ≤ B ∧ n.xs.length ≤ B
theorem StaD.small.fit {d : StaD} (h : d.small) : d.Fit 120 40 := ⟨h.nodes, h.links, fun n hn => ⟨h.plain.ps n hn, h.plain.xs n hn⟩⟩
theorem StaD.Fit.mono {B N B' N' : Nat} {d : StaD} (h : d.Fit B N) (hB : B ≤ B') (hN : N ≤ N') : d.Fit B' N' := ⟨Nat.le_trans h.nodes hN, Nat.le_trans h.links hN, fun n hn => ⟨Nat.le_trans (h.each n hn).1 hB, Nat.le_trans (h.each n hn).2 hB⟩⟩
theorem states_fit (s t : Sta) (ds dt : StaD) (w : World) (hs : s.Ok w ds) (ht : t.Ok w dt) (B N : Nat) (hB : B * (2 * N) ≤ 100000000) (hN : N ≤ 100000) (f1 : ds.Fit B N) (f2 : dt.Fit B N) :
    Calls Tryz.prog 10 #[.agg (Sta.cells s).toArray, .agg (Sta.cells t).toArray] w fun e w' => ∃ r : Sta, e = .returned (.agg (Sta.cells r).toArray) ∧ r.Ok w' (ds.join dt) ∧ (ds.join dt).Fit (B * (2 * N)) (2 * N) ∧ Below w.heap.size w w' :=
  (states_ok s t ds dt w hs ht B (fun n hn => (List.mem_append.1 hn).elim (f1.each n) (f2.each n)) (by have := f1.nodes; have := f2.nodes; omega)
    (Nat.le_trans (Nat.mul_le_mul_left B (by have := f1.nodes; have := f2.nodes; omega)) hB) (by have := f1.links; have := f2.links; omega)).mono fun e w' ⟨r, he, ho, hb, hbw⟩ => by
    have hm : B * (ds.nodes.length + dt.nodes.length) ≤ B * (2 * N) := Nat.mul_le_mul_left B (by have := f1.nodes; have := f2.nodes; omega)
    have h1 := join_nodes_len ds dt
    have h2 := join_links_len ds dt
    have := f1.nodes; have := f2.nodes; have := f1.links; have := f2.links
    exact ⟨r, he, ho, ⟨by omega, by omega, fun n hn => ⟨Nat.le_trans (hb n hn).1 hm, Nat.le_trans (hb n hn).2 hm⟩⟩, hbw⟩
theorem two_ok {w : World} {s t : Sta} {a b : StaD} (h1 : s.Ok w a) (h2 : t.Ok w b) : ∀ i (p : i < [s, t].length) (q : i < [a, b].length), [s, t][i].Ok w [a, b][i]
  | 0, _, _ => h1
  | 1, _, _ => h2
  | i + 2, p, _ => by simp at p; omega
end Go.Proofs.YtebpacmhdkgfeaaGreat

namespace Go.Proofs.YtebpacmhdkgfeaaGreat
open Go.RowKit
theorem clone_fit (s : Sta) (d : StaD) (w00 w : World) (hs : s.Ok w00 d) (hb : Below w00.heap.size w00 w) (f : d.Fit 120 40) :
    Calls Tryz.prog 9 #[.agg (Sta.cells s).toArray] w fun e w' => ∃ r : Sta, e = .returned (.agg (Sta.cells r).toArray) ∧ ∃ F, Loc w NoM w' [sta w00 F r d] :=
  facts_clone s d w00 w hs hb (fun n hn => ⟨Nat.le_trans (f.each n hn).1 (by decide), Nat.le_trans (f.each n hn).2 (by decide)⟩) (Nat.le_trans f.nodes (by decide)) (Nat.le_trans f.links (by decide))
end Go.Proofs.YtebpacmhdkgfeaaGreat

namespace Go.Proofs.YtebpacmhdkgfeaaGreat
open Go.RowKit
set_option maxHeartbeats 8000000
set_option maxRecDepth 100000
theorem doc_fit (s t : Sta) (ds dt : StaD) (w : World) (hs : s.Ok w ds) (ht : t.Ok w dt) (f1 : ds.Fit 120 40) (f2 : dt.Fit 120 40) (hz : ∀ n ∈ ds.nodes ++ dt.nodes, n.Z) (hzl : ∀ l ∈ ds.links ++ dt.links, l.Z) :
    Calls Tryz.prog 12 #[.agg (Sta.cells s).toArray, .agg (Sta.cells t).toArray] w fun e w' => ∃ r : Sta, e = .returned (.agg (Sta.cells r).toArray) ∧ r.Ok w' (ds.join dt) ∧ Below w.heap.size w w' := by
  have h1 := f1.nodes; have h2 := f2.nodes; have h3 := f1.links; have h4 := f2.links
  exact ref11_states s t ds dt w hs ht 120 (fun n hn => (List.mem_append.1 hn).elim (f1.each n) (f2.each n)) (by omega) (by omega) (by decide) (by omega) hz hzl
theorem law_JoinStates (s : Sta) (da : StaD) (t : Sta) (db : StaD) (w : World) (hO0 : s.Ok w da) (hw0 : da.wf maxLen) (hO1 : t.Ok w db) (hw1 : db.wf maxLen) :
    Calls Tryz.prog 3 #[.agg (Sta.cells s).toArray, .agg (Sta.cells t).toArray] w fun e w' => e = .returned (.bool true) ∧ Below w.heap.size w w' := by
  have hL := Loc.nil w NoM
  have ZN : Hid (∀ n ∈ da.nodes ++ db.nodes, n.Z) := Lib.hid fun n hn => (List.mem_append.1 hn).elim (fun hn => InoD.Z_of_wf (hw0.nodes n hn) (Nat.le_refl _)) fun hn => InoD.Z_of_wf (hw1.nodes n hn) (Nat.le_refl _)
  have ZL : Hid (∀ l ∈ da.links ++ db.links, l.Z) := Lib.hid fun n hn => (List.mem_append.1 hn).elim (fun hn => (hw0.links n hn).name) fun hn => (hw1.links n hn).name
  clear hw0 hw1
  go_enter Tryz.func3, Tryz.ntmps3
  go_wp2_with (first
    | ((with_reducible refine gate (N := 2) rfl ?_); (refine lJ rfl hL rfl rfl cy ?_; clear hL; intro g2 w2 hL)) | ((with_reducible refine gate (N := 3) rfl ?_); (refine lJ rfl hL rfl rfl cy ?_; clear hL; intro g3 w3 hL))
    | ((with_reducible refine gate (N := 10) rfl ?_); refine lM (cs := Sta.cells s ++ Sta.cells t) rfl hL rfl rfl rfl (by kernel_rfl) ?_; clear hL; intro g10 wq hL)
    | (go_at_call 7; have hq := small11 (.slice (some ⟨g10, 0, none⟩) 2 2) [s, t] [da, db] _ (R_box (E := encSt) (t := 27) [s, t] (hL.box (g := g10) HasV.mem) (by simp [Enc.all, encSt]) (by simp)) rfl (two_ok (hO0.below hL.below) (hO1.below hL.below)); (with_reducible refine hq.mono ?_); rintro e w9 ⟨⟨b, rfl, hbs⟩, hb9⟩; clear hq; have hL := hL.call hb9; clear hb9; refine stop ?_)
    | ((with_reducible refine qB rfl rfl ?_); (refine lA rfl hL rfl rfl HasV.mem (by rfl) ?_)))
  unfold Stop
  cases b
  · clear hbs
    go_wp2_with (first
      | (go_at_call 8; (with_reducible refine (awake11 _).mono ?_); rintro e w10 ⟨rfl, hb10⟩; have hL := hL.call hb10; clear hb10))
    go_ret
    exact ⟨rfl, hL.below⟩
  · have hsm := hbs rfl
    have fa := (hsm da (.head _)).fit
    have fb := (hsm db (.tail _ (.head _))).fit
    clear hsm hbs
    have os := hO0.below hL.below
    have ot := hO1.below hL.below
    have hx2 := hL.box (g := g2) HasV.mem
    have hx3 := hL.box (g := g3) HasV.mem
    have hb0 := Lib.hid hL.below
    clear hL hO0 hO1
    have hL := Loc.nil w9 NoM
    go_upto_region 3 with fail
    refine region_held (fun wx => Box wx g2 (Sta.cells s).toArray 27 ∧ Box wx g3 (Sta.cells t).toArray 27) (by kernel_rfl) hL ?_
    clear hL
    intro w40 hL
    refine heldTake (i := 0) nx (by kernel_rfl) (by kernel_rfl) (by kernel_rfl) (by exact fun _ _ _ h => h) (y_loadAll (fun _ h => h.1) (by rfl) (by rfl) (by rfl) (by infer_instance) (by infer_instance) (by rfl)) ⟨hx2.below hL.below, hx3.below hL.below⟩ ?_
    (try simp only [Act.put, zs, zt, zu])
    refine heldTake (i := 2) nx (by kernel_rfl) (by kernel_rfl) (by kernel_rfl) (by exact fun _ _ _ h => h) (y_loadAll (fun _ h => h.2) (by rfl) (by rfl) (by rfl) (by infer_instance) (by infer_instance) (by rfl)) ⟨hx2.below hL.below, hx3.below hL.below⟩ ?_
    (try simp only [Act.put, zs, zt, zu])
    apply held4X (I := fun (p q : Nat) (x y : Sta) wx => ∃ F1 F2, Loc w9 NoM wx [var p [.int .i64 0, .int .i64 0, .int .i64 0, .int .i64 0, .int .i64 0, .int .i64 0, .int .i64 0, .int .i64 0, .slice none 0 0, .slice none 0 0] 27, var q [.int .i64 0, .int .i64 0, .int .i64 0, .int .i64 0, .int .i64 0, .int .i64 0, .int .i64 0, .int .i64 0, .slice none 0 0, .slice none 0 0] 27, sta w9 F1 x da, sta w9 F2 y db])
    case h =>
      intro hG
      apply heldThree (i := 1) (j := 4) (k := 5) (by kernel_rfl)
      case hi =>
        refine heldCall (i := 1) (Nth.get nx) (by rfl) (enter1 Tryz.func9 (by kernel_rfl) (by kernel_rfl) (by rfl) (by rfl)) (clone_fit s da w9 _ os hL.below fa) ?_
        rintro e wq ⟨x, rfl, F1, hL5⟩
        replace hL := hL.takeAll hL5
        simp only [List.cons_append, List.nil_append] at hL
        clear hL5
        refine ⟨_, rfl, ⟨hx2.below hL.below, hx3.below hL.below⟩, ?_⟩
        (try simp only [Act.put, zs, zt, zu])
        apply heldThree (i := 3) (j := 4) (k := 5) (by kernel_rfl)
        case hi =>
          refine heldCall (i := 3) (Nth.get nx) (by rfl) (enter1 Tryz.func9 (by kernel_rfl) (by kernel_rfl) (by rfl) (by rfl)) (clone_fit t db w9 _ ot hL.below fb) ?_
          rintro e wq ⟨y, rfl, F2, hL5⟩
          replace hL := hL.takeAll hL5
          simp only [List.cons_append, List.nil_append] at hL
          clear hL5
          refine ⟨_, rfl, ⟨hx2.below hL.below, hx3.below hL.below⟩, ?_⟩
          (try simp only [Act.put, zs, zt, zu])
          apply heldBoth (i := 4) (j := 5) (by kernel_rfl)
          case hi =>
            refine wpOp_alloc (i := 4) (t := 27) (cs := [.int .i64 0, .int .i64 0, .int .i64 0, .int .i64 0, .int .i64 0, .int .i64 0, .int .i64 0, .int .i64 0, .slice none 0 0, .slice none 0 0]) nx rfl hL rfl (cells_agg _ rfl) ?_
            intro p wq hL
            refine ⟨⟨hx2.below hL.below, hx3.below hL.below⟩, ?_⟩
            (try simp only [Act.put, zs, zt, zu])
            refine heldOne (i := 5) (by kernel_rfl) ?_
            refine wpOp_alloc (i := 5) (t := 27) (cs := [.int .i64 0, .int .i64 0, .int .i64 0, .int .i64 0, .int .i64 0, .int .i64 0, .int .i64 0, .int .i64 0, .slice none 0 0, .slice none 0 0]) nx rfl hL rfl (cells_agg _ rfl) ?_
            intro q wq hL
            refine ⟨⟨hx2.below hL.below, hx3.below hL.below⟩, ?_⟩
            (try simp only [Act.put, zs, zt, zu])
            exact hG p q x y _ ⟨F1, F2, hL.perm ((List.Perm.swap _ _ _).trans (((List.Perm.swap _ _ _).cons _).cons _))⟩
          case hj =>
            refine wpOp_alloc (i := 5) (t := 27) (cs := [.int .i64 0, .int .i64 0, .int .i64 0, .int .i64 0, .int .i64 0, .int .i64 0, .int .i64 0, .int .i64 0, .slice none 0 0, .slice none 0 0]) nx rfl hL rfl (cells_agg _ rfl) ?_
            intro q wq hL
            refine ⟨⟨hx2.below hL.below, hx3.below hL.below⟩, ?_⟩
            (try simp only [Act.put, zs, zt, zu])
            refine heldOne (i := 4) (by kernel_rfl) ?_
            refine wpOp_alloc (i := 4) (t := 27) (cs := [.int .i64 0, .int .i64 0, .int .i64 0, .int .i64 0, .int .i64 0, .int .i64 0, .int .i64 0, .int .i64 0, .slice none 0 0, .slice none 0 0]) nx rfl hL rfl (cells_agg _ rfl) ?_
            intro p wq hL
            refine ⟨⟨hx2.below hL.below, hx3.below hL.below⟩, ?_⟩
            (try simp only [Act.put, zs, zt, zu])
            exact hG p q x y _ ⟨F1, F2, hL.perm (((List.Perm.swap _ _ _).cons _).cons _)⟩
        case hj =>
          refine wpOp_alloc (i := 4) (t := 27) (cs := [.int .i64 0, .int .i64 0, .int .i64 0, .int .i64 0, .int .i64 0, .int .i64 0, .int .i64 0, .int .i64 0, .slice none 0 0, .slice none 0 0]) nx rfl hL rfl (cells_agg _ rfl) ?_
          intro p wq hL
          refine ⟨⟨hx2.below hL.below, hx3.below hL.below⟩, ?_⟩
          (try simp only [Act.put, zs, zt, zu])
          apply heldBoth (i := 3) (j := 5) (by kernel_rfl)
          case hi =>
            refine heldCall (i := 3) (Nth.get nx) (by rfl) (enter1 Tryz.func9 (by kernel_rfl) (by kernel_rfl) (by rfl) (by rfl)) (clone_fit t db w9 _ ot hL.below fb) ?_
            rintro e wq ⟨y, rfl, F2, hL5⟩
            replace hL := hL.takeAll hL5
            simp only [List.cons_append, List.nil_append] at hL
            clear hL5
            refine ⟨_, rfl, ⟨hx2.below hL.below, hx3.below hL.below⟩, ?_⟩
            (try simp only [Act.put, zs, zt, zu])
            refine heldOne (i := 5) (by kernel_rfl) ?_
            refine wpOp_alloc (i := 5) (t := 27) (cs := [.int .i64 0, .int .i64 0, .int .i64 0, .int .i64 0, .int .i64 0, .int .i64 0, .int .i64 0, .int .i64 0, .slice none 0 0, .slice none 0 0]) nx rfl hL rfl (cells_agg _ rfl) ?_
            intro q wq hL
            refine ⟨⟨hx2.below hL.below, hx3.below hL.below⟩, ?_⟩
            (try simp only [Act.put, zs, zt, zu])
            exact hG p q x y _ ⟨F1, F2, hL.perm ((((List.Perm.swap _ _ _).cons _).trans (((List.Perm.swap _ _ _).cons _).cons _)).trans (List.Perm.swap _ _ _))⟩
          case hj =>
            refine wpOp_alloc (i := 5) (t := 27) (cs := [.int .i64 0, .int .i64 0, .int .i64 0, .int .i64 0, .int .i64 0, .int .i64 0, .int .i64 0, .int .i64 0, .slice none 0 0, .slice none 0 0]) nx rfl hL rfl (cells_agg _ rfl) ?_
            intro q wq hL
            refine ⟨⟨hx2.below hL.below, hx3.below hL.below⟩, ?_⟩
            (try simp only [Act.put, zs, zt, zu])
            refine heldOne (i := 3) (by kernel_rfl) ?_
            refine heldCall (i := 3) (Nth.get nx) (by rfl) (enter1 Tryz.func9 (by kernel_rfl) (by kernel_rfl) (by rfl) (by rfl)) (clone_fit t db w9 _ ot hL.below fb) ?_
            rintro e wq ⟨y, rfl, F2, hL5⟩
            replace hL := hL.takeAll hL5
            simp only [List.cons_append, List.nil_append] at hL
            clear hL5
            refine ⟨_, rfl, ⟨hx2.below hL.below, hx3.below hL.below⟩, ?_⟩
            (try simp only [Act.put, zs, zt, zu])
            exact hG p q x y _ ⟨F1, F2, hL.perm ((((List.Perm.swap _ _ _).trans ((List.Perm.swap _ _ _).cons _)).trans (((List.Perm.swap _ _ _).cons _).cons _)).trans (List.Perm.swap _ _ _))⟩
        case hk =>
          refine wpOp_alloc (i := 5) (t := 27) (cs := [.int .i64 0, .int .i64 0, .int .i64 0, .int .i64 0, .int .i64 0, .int .i64 0, .int .i64 0, .int .i64 0, .slice none 0 0, .slice none 0 0]) nx rfl hL rfl (cells_agg _ rfl) ?_
          intro q wq hL
          refine ⟨⟨hx2.below hL.below, hx3.below hL.below⟩, ?_⟩
          (try simp only [Act.put, zs, zt, zu])
          apply heldBoth (i := 3) (j := 4) (by kernel_rfl)
          case hi =>
            refine heldCall (i := 3) (Nth.get nx) (by rfl) (enter1 Tryz.func9 (by kernel_rfl) (by kernel_rfl) (by rfl) (by rfl)) (clone_fit t db w9 _ ot hL.below fb) ?_
            rintro e wq ⟨y, rfl, F2, hL5⟩
            replace hL := hL.takeAll hL5
            simp only [List.cons_append, List.nil_append] at hL
            clear hL5
            refine ⟨_, rfl, ⟨hx2.below hL.below, hx3.below hL.below⟩, ?_⟩
            (try simp only [Act.put, zs, zt, zu])
            refine heldOne (i := 4) (by kernel_rfl) ?_
            refine wpOp_alloc (i := 4) (t := 27) (cs := [.int .i64 0, .int .i64 0, .int .i64 0, .int .i64 0, .int .i64 0, .int .i64 0, .int .i64 0, .int .i64 0, .slice none 0 0, .slice none 0 0]) nx rfl hL rfl (cells_agg _ rfl) ?_
            intro p wq hL
            refine ⟨⟨hx2.below hL.below, hx3.below hL.below⟩, ?_⟩
            (try simp only [Act.put, zs, zt, zu])
            exact hG p q x y _ ⟨F1, F2, hL.perm (((List.Perm.swap _ _ _).cons _).trans (((List.Perm.swap _ _ _).cons _).cons _))⟩
          case hj =>
            refine wpOp_alloc (i := 4) (t := 27) (cs := [.int .i64 0, .int .i64 0, .int .i64 0, .int .i64 0, .int .i64 0, .int .i64 0, .int .i64 0, .int .i64 0, .slice none 0 0, .slice none 0 0]) nx rfl hL rfl (cells_agg _ rfl) ?_
            intro p wq hL
            refine ⟨⟨hx2.below hL.below, hx3.below hL.below⟩, ?_⟩
            (try simp only [Act.put, zs, zt, zu])
            refine heldOne (i := 3) (by kernel_rfl) ?_
            refine heldCall (i := 3) (Nth.get nx) (by rfl) (enter1 Tryz.func9 (by kernel_rfl) (by kernel_rfl) (by rfl) (by rfl)) (clone_fit t db w9 _ ot hL.below fb) ?_
            rintro e wq ⟨y, rfl, F2, hL5⟩
            replace hL := hL.takeAll hL5
            simp only [List.cons_append, List.nil_append] at hL
            clear hL5
            refine ⟨_, rfl, ⟨hx2.below hL.below, hx3.below hL.below⟩, ?_⟩
            (try simp only [Act.put, zs, zt, zu])
            exact hG p q x y _ ⟨F1, F2, hL.perm (((List.Perm.swap _ _ _).trans ((List.Perm.swap _ _ _).cons _)).trans (((List.Perm.swap _ _ _).cons _).cons _))⟩
      case hj =>
        refine wpOp_alloc (i := 4) (t := 27) (cs := [.int .i64 0, .int .i64 0, .int .i64 0, .int .i64 0, .int .i64 0, .int .i64 0, .int .i64 0, .int .i64 0, .slice none 0 0, .slice none 0 0]) nx rfl hL rfl (cells_agg _ rfl) ?_
        intro p wq hL
        refine ⟨⟨hx2.below hL.below, hx3.below hL.below⟩, ?_⟩
        (try simp only [Act.put, zs, zt, zu])
        apply heldBoth (i := 1) (j := 5) (by kernel_rfl)
        case hi =>
          refine heldCall (i := 1) (Nth.get nx) (by rfl) (enter1 Tryz.func9 (by kernel_rfl) (by kernel_rfl) (by rfl) (by rfl)) (clone_fit s da w9 _ os hL.below fa) ?_
          rintro e wq ⟨x, rfl, F1, hL5⟩
          replace hL := hL.takeAll hL5
          simp only [List.cons_append, List.nil_append] at hL
          clear hL5
          refine ⟨_, rfl, ⟨hx2.below hL.below, hx3.below hL.below⟩, ?_⟩
          (try simp only [Act.put, zs, zt, zu])
          apply heldBoth (i := 3) (j := 5) (by kernel_rfl)
          case hi =>
            refine heldCall (i := 3) (Nth.get nx) (by rfl) (enter1 Tryz.func9 (by kernel_rfl) (by kernel_rfl) (by rfl) (by rfl)) (clone_fit t db w9 _ ot hL.below fb) ?_
            rintro e wq ⟨y, rfl, F2, hL5⟩
            replace hL := hL.takeAll hL5
            simp only [List.cons_append, List.nil_append] at hL
            clear hL5
            refine ⟨_, rfl, ⟨hx2.below hL.below, hx3.below hL.below⟩, ?_⟩
            (try simp only [Act.put, zs, zt, zu])
            refine heldOne (i := 5) (by kernel_rfl) ?_
            refine wpOp_alloc (i := 5) (t := 27) (cs := [.int .i64 0, .int .i64 0, .int .i64 0, .int .i64 0, .int .i64 0, .int .i64 0, .int .i64 0, .int .i64 0, .slice none 0 0, .slice none 0 0]) nx rfl hL rfl (cells_agg _ rfl) ?_
            intro q wq hL
            refine ⟨⟨hx2.below hL.below, hx3.below hL.below⟩, ?_⟩
            (try simp only [Act.put, zs, zt, zu])
            exact hG p q x y _ ⟨F1, F2, hL.perm (((((List.Perm.swap _ _ _).cons _).trans (((List.Perm.swap _ _ _).cons _).cons _)).trans ((List.Perm.swap _ _ _).cons _)).trans (List.Perm.swap _ _ _))⟩
          case hj =>
            refine wpOp_alloc (i := 5) (t := 27) (cs := [.int .i64 0, .int .i64 0, .int .i64 0, .int .i64 0, .int .i64 0, .int .i64 0, .int .i64 0, .int .i64 0, .slice none 0 0, .slice none 0 0]) nx rfl hL rfl (cells_agg _ rfl) ?_
            intro q wq hL
            refine ⟨⟨hx2.below hL.below, hx3.below hL.below⟩, ?_⟩
            (try simp only [Act.put, zs, zt, zu])
            refine heldOne (i := 3) (by kernel_rfl) ?_
            refine heldCall (i := 3) (Nth.get nx) (by rfl) (enter1 Tryz.func9 (by kernel_rfl) (by kernel_rfl) (by rfl) (by rfl)) (clone_fit t db w9 _ ot hL.below fb) ?_
            rintro e wq ⟨y, rfl, F2, hL5⟩
            replace hL := hL.takeAll hL5
            simp only [List.cons_append, List.nil_append] at hL
            clear hL5
            refine ⟨_, rfl, ⟨hx2.below hL.below, hx3.below hL.below⟩, ?_⟩
            (try simp only [Act.put, zs, zt, zu])
            exact hG p q x y _ ⟨F1, F2, hL.perm (((((List.Perm.swap _ _ _).trans ((List.Perm.swap _ _ _).cons _)).trans (((List.Perm.swap _ _ _).cons _).cons _)).trans ((List.Perm.swap _ _ _).cons _)).trans (List.Perm.swap _ _ _))⟩
        case hj =>
          refine wpOp_alloc (i := 5) (t := 27) (cs := [.int .i64 0, .int .i64 0, .int .i64 0, .int .i64 0, .int .i64 0, .int .i64 0, .int .i64 0, .int .i64 0, .slice none 0 0, .slice none 0 0]) nx rfl hL rfl (cells_agg _ rfl) ?_
          intro q wq hL
          refine ⟨⟨hx2.below hL.below, hx3.below hL.below⟩, ?_⟩
          (try simp only [Act.put, zs, zt, zu])
          refine heldOne (i := 1) (by kernel_rfl) ?_
          refine heldCall (i := 1) (Nth.get nx) (by rfl) (enter1 Tryz.func9 (by kernel_rfl) (by kernel_rfl) (by rfl) (by rfl)) (clone_fit s da w9 _ os hL.below fa) ?_
          rintro e wq ⟨x, rfl, F1, hL5⟩
          replace hL := hL.takeAll hL5
          simp only [List.cons_append, List.nil_append] at hL
          clear hL5
          refine ⟨_, rfl, ⟨hx2.below hL.below, hx3.below hL.below⟩, ?_⟩
          (try simp only [Act.put, zs, zt, zu])
          refine heldOne (i := 3) (by kernel_rfl) ?_
          refine heldCall (i := 3) (Nth.get nx) (by rfl) (enter1 Tryz.func9 (by kernel_rfl) (by kernel_rfl) (by rfl) (by rfl)) (clone_fit t db w9 _ ot hL.below fb) ?_
          rintro e wq ⟨y, rfl, F2, hL5⟩
          replace hL := hL.takeAll hL5
          simp only [List.cons_append, List.nil_append] at hL
          clear hL5
          refine ⟨_, rfl, ⟨hx2.below hL.below, hx3.below hL.below⟩, ?_⟩
          (try simp only [Act.put, zs, zt, zu])
          exact hG p q x y _ ⟨F1, F2, hL.perm ((((((List.Perm.swap _ _ _).trans ((List.Perm.swap _ _ _).cons _)).trans (((List.Perm.swap _ _ _).cons _).cons _)).trans (List.Perm.swap _ _ _)).trans ((List.Perm.swap _ _ _).cons _)).trans (List.Perm.swap _ _ _))⟩
      case hk =>
        refine wpOp_alloc (i := 5) (t := 27) (cs := [.int .i64 0, .int .i64 0, .int .i64 0, .int .i64 0, .int .i64 0, .int .i64 0, .int .i64 0, .int .i64 0, .slice none 0 0, .slice none 0 0]) nx rfl hL rfl (cells_agg _ rfl) ?_
        intro q wq hL
        refine ⟨⟨hx2.below hL.below, hx3.below hL.below⟩, ?_⟩
        (try simp only [Act.put, zs, zt, zu])
        apply heldBoth (i := 1) (j := 4) (by kernel_rfl)
        case hi =>
          refine heldCall (i := 1) (Nth.get nx) (by rfl) (enter1 Tryz.func9 (by kernel_rfl) (by kernel_rfl) (by rfl) (by rfl)) (clone_fit s da w9 _ os hL.below fa) ?_
          rintro e wq ⟨x, rfl, F1, hL5⟩
          replace hL := hL.takeAll hL5
          simp only [List.cons_append, List.nil_append] at hL
          clear hL5
          refine ⟨_, rfl, ⟨hx2.below hL.below, hx3.below hL.below⟩, ?_⟩
          (try simp only [Act.put, zs, zt, zu])
          apply heldBoth (i := 3) (j := 4) (by kernel_rfl)
          case hi =>
            refine heldCall (i := 3) (Nth.get nx) (by rfl) (enter1 Tryz.func9 (by kernel_rfl) (by kernel_rfl) (by rfl) (by rfl)) (clone_fit t db w9 _ ot hL.below fb) ?_
            rintro e wq ⟨y, rfl, F2, hL5⟩
            replace hL := hL.takeAll hL5
            simp only [List.cons_append, List.nil_append] at hL
            clear hL5
            refine ⟨_, rfl, ⟨hx2.below hL.below, hx3.below hL.below⟩, ?_⟩
            (try simp only [Act.put, zs, zt, zu])
            refine heldOne (i := 4) (by kernel_rfl) ?_
            refine wpOp_alloc (i := 4) (t := 27) (cs := [.int .i64 0, .int .i64 0, .int .i64 0, .int .i64 0, .int .i64 0, .int .i64 0, .int .i64 0, .int .i64 0, .slice none 0 0, .slice none 0 0]) nx rfl hL rfl (cells_agg _ rfl) ?_
            intro p wq hL
            refine ⟨⟨hx2.below hL.below, hx3.below hL.below⟩, ?_⟩
            (try simp only [Act.put, zs, zt, zu])
            exact hG p q x y _ ⟨F1, F2, hL.perm ((((List.Perm.swap _ _ _).cons _).trans (((List.Perm.swap _ _ _).cons _).cons _)).trans ((List.Perm.swap _ _ _).cons _))⟩
          case hj =>
            refine wpOp_alloc (i := 4) (t := 27) (cs := [.int .i64 0, .int .i64 0, .int .i64 0, .int .i64 0, .int .i64 0, .int .i64 0, .int .i64 0, .int .i64 0, .slice none 0 0, .slice none 0 0]) nx rfl hL rfl (cells_agg _ rfl) ?_
            intro p wq hL
            refine ⟨⟨hx2.below hL.below, hx3.below hL.below⟩, ?_⟩
            (try simp only [Act.put, zs, zt, zu])
            refine heldOne (i := 3) (by kernel_rfl) ?_
            refine heldCall (i := 3) (Nth.get nx) (by rfl) (enter1 Tryz.func9 (by kernel_rfl) (by kernel_rfl) (by rfl) (by rfl)) (clone_fit t db w9 _ ot hL.below fb) ?_
            rintro e wq ⟨y, rfl, F2, hL5⟩
            replace hL := hL.takeAll hL5
            simp only [List.cons_append, List.nil_append] at hL
            clear hL5
            refine ⟨_, rfl, ⟨hx2.below hL.below, hx3.below hL.below⟩, ?_⟩
            (try simp only [Act.put, zs, zt, zu])
            exact hG p q x y _ ⟨F1, F2, hL.perm ((((List.Perm.swap _ _ _).trans ((List.Perm.swap _ _ _).cons _)).trans (((List.Perm.swap _ _ _).cons _).cons _)).trans ((List.Perm.swap _ _ _).cons _))⟩
        case hj =>
          refine wpOp_alloc (i := 4) (t := 27) (cs := [.int .i64 0, .int .i64 0, .int .i64 0, .int .i64 0, .int .i64 0, .int .i64 0, .int .i64 0, .int .i64 0, .slice none 0 0, .slice none 0 0]) nx rfl hL rfl (cells_agg _ rfl) ?_
          intro p wq hL
          refine ⟨⟨hx2.below hL.below, hx3.below hL.below⟩, ?_⟩
          (try simp only [Act.put, zs, zt, zu])
          refine heldOne (i := 1) (by kernel_rfl) ?_
          refine heldCall (i := 1) (Nth.get nx) (by rfl) (enter1 Tryz.func9 (by kernel_rfl) (by kernel_rfl) (by rfl) (by rfl)) (clone_fit s da w9 _ os hL.below fa) ?_
          rintro e wq ⟨x, rfl, F1, hL5⟩
          replace hL := hL.takeAll hL5
          simp only [List.cons_append, List.nil_append] at hL
          clear hL5
          refine ⟨_, rfl, ⟨hx2.below hL.below, hx3.below hL.below⟩, ?_⟩
          (try simp only [Act.put, zs, zt, zu])
          refine heldOne (i := 3) (by kernel_rfl) ?_
          refine heldCall (i := 3) (Nth.get nx) (by rfl) (enter1 Tryz.func9 (by kernel_rfl) (by kernel_rfl) (by rfl) (by rfl)) (clone_fit t db w9 _ ot hL.below fb) ?_
          rintro e wq ⟨y, rfl, F2, hL5⟩
          replace hL := hL.takeAll hL5
          simp only [List.cons_append, List.nil_append] at hL
          clear hL5
          refine ⟨_, rfl, ⟨hx2.below hL.below, hx3.below hL.below⟩, ?_⟩
          (try simp only [Act.put, zs, zt, zu])
          exact hG p q x y _ ⟨F1, F2, hL.perm (((((List.Perm.swap _ _ _).trans ((List.Perm.swap _ _ _).cons _)).trans (((List.Perm.swap _ _ _).cons _).cons _)).trans (List.Perm.swap _ _ _)).trans ((List.Perm.swap _ _ _).cons _))⟩
    case g =>
      rintro g5 g6 x y w44 ⟨F1, F2, hL⟩
      (try simp only [Act.put, zs, zt, zu])
      refine heldStoreAll (i := 6) (g := g5) (vs := Sta.cells x) (cs := [.int .i64 0, .int .i64 0, .int .i64 0, .int .i64 0, .int .i64 0, .int .i64 0, .int .i64 0, .int .i64 0, .slice none 0 0, .slice none 0 0]) nx (by kernel_rfl) rfl hL rfl (by rfl) (by rfl) (cells_agg _ rfl) (by rfl) (by rfl) ?_
      clear hL; intro w45 hL
      refine ⟨⟨hx2.below hL.below, hx3.below hL.below⟩, ?_⟩
      (try simp only [Act.put, zs, zt, zu])
      refine heldStoreAll (i := 7) (g := g6) (vs := Sta.cells y) (cs := [.int .i64 0, .int .i64 0, .int .i64 0, .int .i64 0, .int .i64 0, .int .i64 0, .int .i64 0, .int .i64 0, .slice none 0 0, .slice none 0 0]) nx (by kernel_rfl) rfl hL rfl (by rfl) (by rfl) (cells_agg _ rfl) (by rfl) (by rfl) ?_
      clear hL; intro w46 hL
      refine ⟨⟨hx2.below hL.below, hx3.below hL.below⟩, ?_⟩
      (try simp only [Act.put, zs, zt, zu])
      refine wpAnyH_done (by kernel_rfl) ?_ _
      go_wp2_with (first
        | (go_at_call 10; have hq := states_fit x y da db _ (hL.staOk (w00 := w9) (F := F1) (s := x) (d := da) (.refl _ _) mx) (hL.staOk (w00 := w9) (F := F2) (s := y) (d := db) (.refl _ _) mx) 120 40 (by decide) (by decide) fa fb; (with_reducible refine hq.mono ?_); rintro e w11 ⟨r, rfl, orr, fab, hb11⟩; clear hq; have hL := hL.call hb11; clear hb11; refine stop ?_)
        | ((with_reducible refine qB rfl rfl ?_); (refine lA rfl hL rfl rfl HasV.mem (by rfl) ?_)))
      unfold Stop
      have ox := hL.staOk (w00 := w9) (F := F1) (s := x) (d := da) (.refl _ _) mx
      have oy := hL.staOk (w00 := w9) (F := F2) (s := y) (d := db) (.refl _ _) mx
      replace os := os.below hL.below
      replace ot := ot.below hL.below
      replace hx2 := hx2.below hL.below
      replace hx3 := hx3.below hL.below
      have hx5 := hL.box (g := g5) HasV.mem
      have hx6 := hL.box (g := g6) HasV.mem
      have hb1 := Lib.hid (hb0.out.trans (hL.below.mono hb0.out.size))
      clear hL hb0
      have hL := Loc.nil w11 NoM
      go_wp2_with (first
        | ((with_reducible refine gate (N := 7) rfl ?_); (refine lI rfl hL rfl cy ?_; clear hL; intro g7 w7 hL))
        | ((with_reducible refine qC rfl rfl ?_); (refine lG rfl hL rfl rfl rfl cy (by rfl) (by rfl) ?_); clear hL; intro wq hL))
      refine region_held (fun wx => Box wx g2 (Sta.cells s).toArray 27 ∧ Box wx g3 (Sta.cells t).toArray 27 ∧ Box wx g5 (Sta.cells x).toArray 27 ∧ Box wx g6 (Sta.cells y).toArray 27 ∧ Box wx g7 (Sta.cells r).toArray 27) (by kernel_rfl) hL ?_
      clear hL
      intro w50 hL
      refine heldTake (i := 0) nx (by kernel_rfl) (by kernel_rfl) (by kernel_rfl) (by exact fun _ _ _ h => h) (y_loadAll (fun _ h => h.2.2.2.2) (by rfl) (by rfl) (by rfl) (by infer_instance) (by infer_instance) (by rfl)) ⟨hx2.below hL.below, hx3.below hL.below, hx5.below hL.below, hx6.below hL.below, hL.box (g := g7) HasV.mem⟩ ?_
      (try simp only [Act.put, zs, zt, zu])
      refine heldTake (i := 1) nx (by kernel_rfl) (by kernel_rfl) (by kernel_rfl) (by exact fun _ _ _ h => h) (y_loadAll (fun _ h => h.1) (by rfl) (by rfl) (by rfl) (by infer_instance) (by infer_instance) (by rfl)) ⟨hx2.below hL.below, hx3.below hL.below, hx5.below hL.below, hx6.below hL.below, hL.box (g := g7) HasV.mem⟩ ?_
      (try simp only [Act.put, zs, zt, zu])
      refine heldTake (i := 2) nx (by kernel_rfl) (by kernel_rfl) (by kernel_rfl) (by exact fun _ _ _ h => h) (y_loadAll (fun _ h => h.2.1) (by rfl) (by rfl) (by rfl) (by infer_instance) (by infer_instance) (by rfl)) ⟨hx2.below hL.below, hx3.below hL.below, hx5.below hL.below, hx6.below hL.below, hL.box (g := g7) HasV.mem⟩ ?_
      (try simp only [Act.put, zs, zt, zu])
      refine heldOne (i := 3) (by kernel_rfl) ?_
      refine heldCall (i := 3) (Nth.get nx) (by rfl) (enter2 Tryz.func12 (by kernel_rfl) (by kernel_rfl) (by rfl) (by rfl) (by rfl)) (doc_fit s t da db _ (os.below hL.below) (ot.below hL.below) fa fb ZN.out ZL.out) ?_
      rintro e wq ⟨r2, rfl, or2, hbq⟩
      replace hL := hL.call hbq
      have or2 : r2.Ok wq (da.join db) := or2
      have hroot := hL.below
      clear hbq
      refine ⟨_, rfl, ⟨hx2.below hL.below, hx3.below hL.below, hx5.below hL.below, hx6.below hL.below, hL.box (g := g7) HasV.mem⟩, ?_⟩
      (try simp only [Act.put, zs, zt, zu])
      refine heldOne (i := 4) (by kernel_rfl) ?_
      refine heldCall (i := 4) (Nth.get nx) (by rfl) (enter2 Tryz.func11 (by kernel_rfl) (by kernel_rfl) (by rfl) (by rfl) (by rfl)) (same_state r r2 (da.join db) _ (orr.below hL.below) or2) ?_
      rintro e wq ⟨rfl, hbq⟩
      replace hL := hL.call hbq
      clear hbq or2 hroot
      refine ⟨_, rfl, ⟨hx2.below hL.below, hx3.below hL.below, hx5.below hL.below, hx6.below hL.below, hL.box (g := g7) HasV.mem⟩, ?_⟩
      (try simp only [Act.put, zs, zt, zu])
      refine heldTake (i := 5) nx (by kernel_rfl) (by kernel_rfl) (by kernel_rfl) (by exact fun _ _ _ h => h) (y_moveG (.bool true) (by rfl) rfl (by rfl)) ⟨hx2.below hL.below, hx3.below hL.below, hx5.below hL.below, hx6.below hL.below, hL.box (g := g7) HasV.mem⟩ ?_
      (try simp only [Act.put, zs, zt, zu])
      refine heldTake (i := 6) nx (by kernel_rfl) (by kernel_rfl) (by kernel_rfl) (by exact fun _ _ _ h => h) (y_loadAll (fun _ h => h.2.2.1) (by rfl) (by rfl) (by rfl) (by infer_instance) (by infer_instance) (by rfl)) ⟨hx2.below hL.below, hx3.below hL.below, hx5.below hL.below, hx6.below hL.below, hL.box (g := g7) HasV.mem⟩ ?_
      (try simp only [Act.put, zs, zt, zu])
      refine heldTake (i := 7) nx (by kernel_rfl) (by kernel_rfl) (by kernel_rfl) (by exact fun _ _ _ h => h) (y_loadAll (fun _ h => h.1) (by rfl) (by rfl) (by rfl) (by infer_instance) (by infer_instance) (by rfl)) ⟨hx2.below hL.below, hx3.below hL.below, hx5.below hL.below, hx6.below hL.below, hL.box (g := g7) HasV.mem⟩ ?_
      (try simp only [Act.put, zs, zt, zu])
      refine heldOne (i := 8) (by kernel_rfl) ?_
      refine heldCall (i := 8) (Nth.get nx) (by rfl) (enter2 Tryz.func11 (by kernel_rfl) (by kernel_rfl) (by rfl) (by rfl) (by rfl)) (same_state x s da _ (ox.below hL.below) (os.below hL.below)) ?_
      rintro e wq ⟨rfl, hbq⟩
      replace hL := hL.call hbq
      clear hbq
      refine ⟨_, rfl, ⟨hx2.below hL.below, hx3.below hL.below, hx5.below hL.below, hx6.below hL.below, hL.box (g := g7) HasV.mem⟩, ?_⟩
      (try simp only [Act.put, zs, zt, zu])
      refine heldOne (i := 9) (by kernel_rfl) ?_
      refine wpOp_runW (v := .bool true) (Nth.get nx) (by rfl) (by rfl) ?_
      refine ⟨⟨hx2.below hL.below, hx3.below hL.below, hx5.below hL.below, hx6.below hL.below, hL.box (g := g7) HasV.mem⟩, ?_⟩
      (try simp only [Act.put, zs, zt, zu])
      refine heldTake (i := 10) nx (by kernel_rfl) (by kernel_rfl) (by kernel_rfl) (by exact fun _ _ _ h => h) (y_moveG (.bool true) (by rfl) rfl (by rfl)) ⟨hx2.below hL.below, hx3.below hL.below, hx5.below hL.below, hx6.below hL.below, hL.box (g := g7) HasV.mem⟩ ?_
      (try simp only [Act.put, zs, zt, zu])
      refine heldTake (i := 11) nx (by kernel_rfl) (by kernel_rfl) (by kernel_rfl) (by exact fun _ _ _ h => h) (y_loadAll (fun _ h => h.2.2.2.1) (by rfl) (by rfl) (by rfl) (by infer_instance) (by infer_instance) (by rfl)) ⟨hx2.below hL.below, hx3.below hL.below, hx5.below hL.below, hx6.below hL.below, hL.box (g := g7) HasV.mem⟩ ?_
      (try simp only [Act.put, zs, zt, zu])
      refine heldTake (i := 12) nx (by kernel_rfl) (by kernel_rfl) (by kernel_rfl) (by exact fun _ _ _ h => h) (y_loadAll (fun _ h => h.2.1) (by rfl) (by rfl) (by rfl) (by infer_instance) (by infer_instance) (by rfl)) ⟨hx2.below hL.below, hx3.below hL.below, hx5.below hL.below, hx6.below hL.below, hL.box (g := g7) HasV.mem⟩ ?_
      (try simp only [Act.put, zs, zt, zu])
      refine heldOne (i := 13) (by kernel_rfl) ?_
      refine heldCall (i := 13) (Nth.get nx) (by rfl) (enter2 Tryz.func11 (by kernel_rfl) (by kernel_rfl) (by rfl) (by rfl) (by rfl)) (same_state y t db _ (oy.below hL.below) (ot.below hL.below)) ?_
      rintro e wq ⟨rfl, hbq⟩
      replace hL := hL.call hbq
      clear hbq
      refine ⟨_, rfl, ⟨hx2.below hL.below, hx3.below hL.below, hx5.below hL.below, hx6.below hL.below, hL.box (g := g7) HasV.mem⟩, ?_⟩
      (try simp only [Act.put, zs, zt, zu])
      refine heldOne (i := 14) (by kernel_rfl) ?_
      refine wpOp_runW (v := .bool true) (Nth.get nx) (by rfl) (by rfl) ?_
      refine ⟨⟨hx2.below hL.below, hx3.below hL.below, hx5.below hL.below, hx6.below hL.below, hL.box (g := g7) HasV.mem⟩, ?_⟩
      (try simp only [Act.put, zs, zt, zu])
      refine heldTake (i := 15) nx (by kernel_rfl) (by kernel_rfl) (by kernel_rfl) (by exact fun _ _ _ h => h) (y_moveG (.bool true) (by rfl) rfl (by rfl)) ⟨hx2.below hL.below, hx3.below hL.below, hx5.below hL.below, hx6.below hL.below, hL.box (g := g7) HasV.mem⟩ ?_
      (try simp only [Act.put, zs, zt, zu])
      refine heldOne (i := 16) (by kernel_rfl) ?_
      refine heldCall (Nth.get nx) (by rfl) (enter0 Tryz.func8 (by kernel_rfl) (by kernel_rfl) rfl) (awake11 _) ?_
      rintro e wq ⟨rfl, hbq⟩
      replace hL := hL.call hbq
      clear hbq
      refine ⟨_, rfl, ⟨hx2.below hL.below, hx3.below hL.below, hx5.below hL.below, hx6.below hL.below, hL.box (g := g7) HasV.mem⟩, ?_⟩
      (try simp only [Act.put, zs, zt, zu])
      refine heldOne (i := 17) (by kernel_rfl) ?_
      refine wpOp_runW (v := .bool true) (Nth.get nx) (by rfl) (by rfl) ?_
      refine ⟨⟨hx2.below hL.below, hx3.below hL.below, hx5.below hL.below, hx6.below hL.below, hL.box (g := g7) HasV.mem⟩, ?_⟩
      (try simp only [Act.put, zs, zt, zu])
      refine heldOne (i := 18) (by kernel_rfl) ?_
      refine wpOp_runW (v := .bool true) (Nth.get nx) (by rfl) (by rfl) ?_
      refine ⟨⟨hx2.below hL.below, hx3.below hL.below, hx5.below hL.below, hx6.below hL.below, hL.box (g := g7) HasV.mem⟩, ?_⟩
      (try simp only [Act.put, zs, zt, zu])
      refine wpAnyH_done (by kernel_rfl) ?_ _
      go_wp2_with fail
      go_ret
      exact ⟨rfl, hb1.out.trans (hL.below.mono hb1.out.size)⟩
end Go.Proofs.YtebpacmhdkgfeaaGreat
