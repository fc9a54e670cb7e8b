/- Texts laid together: Awk11, Small11, JMrg, R11w, Clo11, Law11m. -/
import Derived.Test.YtebpacmhdkgfeaaGreatJm11
set_option linter.unusedSimpArgs false
set_option linter.unusedVariables false
namespace Go.Proofs.YtebpacmhdkgfeaaGreat
open Go.RowKit
set_option maxHeartbeats 8000000
set_option maxRecDepth 100000
theorem awake11 (w : World) : Calls Tryz.prog 8 #[] w fun e w' => e = .returned (.bool true) ∧ Below w.heap.size w w' := by
 have hL := Loc.nil w NoM
 go_enter Tryz.func8, Tryz.ntmps8
 go_upto_region 4 with (first
  | ((with_reducible refine gate (N := 1) rfl ?_); (refine lI rfl hL rfl cy ?_; clear hL; intro g1 w1 hL)) | ((with_reducible refine gate (N := 2) rfl ?_); (refine lI rfl hL rfl cy ?_; clear hL; intro g2 w2 hL)) | ((with_reducible refine gate (N := 3) rfl ?_); (refine lI rfl hL rfl cy ?_; clear hL; intro g3 w3 hL))
  | ((with_reducible refine gate (N := 16) rfl ?_); refine lM (cs := [.int .i64 1, .int .i64 0, .int .i64 1, .int .i64 0, .int .i64 1, .int .i64 0, .int .i64 0, .int .i64 0, .string ⟨#[120]⟩, .int .i64 1, .int .i64 0, .int .i64 0, .int .i64 0, .int .i64 0, .int .i64 0, .int .i64 0, .int .i64 0, .int .i64 0, .int .i64 0, .int .i64 0, .int .i64 0, .int .i64 0, .int .i64 0, .int .i64 0, .int .i64 0]) rfl hL rfl rfl rfl (by kernel_rfl) ?_; clear hL; intro g16 wq hL)
  | ((with_reducible refine qB rfl rfl ?_); (refine lA rfl hL rfl rfl vM (by rfl) ?_)) | ((with_reducible refine qC rfl rfl ?_); (refine lH rfl hL rfl rfl rfl cy (by rfl) ?_); clear hL; intro wq hL))
 refine region_held (fun wx => Box wx g3 ([.int .i64 1, .int .i64 0, .int .i64 0, .int .i64 0, .int .i64 0, .int .i64 0, .int .i64 0, .int .i64 0, .slice none 0 0, .slice (some ⟨g16, 0, none⟩) 1 1] : List Value).toArray 27) (by kernel_rfl) hL ?_
 intro w4 hL
 refine tK (i := 0) (y := y_loadAll (fun _ h => h) (by rfl) (by rfl) (by rfl) (by infer_instance) (by infer_instance) (by rfl)) (s := hL.box (g := g3) vM) (z := ?_)
 (try simp only [Act.put, zs, zt, zu])
 refine tK (i := 1) (y := y_loadAll (fun _ h => h) (by rfl) (by rfl) (by rfl) (by infer_instance) (by infer_instance) (by rfl)) (s := hL.box (g := g3) vM) (z := ?_)
 (try simp only [Act.put, zs, zt, zu])
 apply heldEitherXX (fun (g4 g5 : Nat) w' => Loc w NoM w' [var g5 [.int .i64 0, .int .i64 0, .int .i64 0, .int .i64 0, .int .i64 0, .int .i64 0, .int .i64 0, .int .i64 0, .slice none 0 0, .slice none 0 0] 27, var g4 [.int .i64 0, .int .i64 0, .int .i64 0, .int .i64 0, .int .i64 0, .int .i64 0, .int .i64 0, .int .i64 0, .slice none 0 0, .slice none 0 0] 27, var g3 [.int .i64 1, .int .i64 0, .int .i64 0, .int .i64 0, .int .i64 0, .int .i64 0, .int .i64 0, .int .i64 0, .slice none 0 0, .slice (some ⟨g16, 0, none⟩) 1 1] 27, var g16 [.int .i64 1, .int .i64 0, .int .i64 1, .int .i64 0, .int .i64 1, .int .i64 0, .int .i64 0, .int .i64 0, .string ⟨#[120]⟩, .int .i64 1, .int .i64 0, .int .i64 0, .int .i64 0, .int .i64 0, .int .i64 0, .int .i64 0, .int .i64 0, .int .i64 0, .int .i64 0, .int .i64 0, .int .i64 0, .int .i64 0, .int .i64 0, .int .i64 0, .int .i64 0] 46, var g2 [.int .i64 1, .int .i64 0, .int .i64 1, .int .i64 0, .int .i64 1, .int .i64 0, .int .i64 0, .int .i64 0, .string ⟨#[120]⟩, .int .i64 1, .int .i64 0, .int .i64 0, .int .i64 0, .int .i64 0, .int .i64 0, .int .i64 0, .int .i64 0, .int .i64 0, .int .i64 0, .int .i64 0, .int .i64 0, .int .i64 0, .int .i64 0, .int .i64 0, .int .i64 0] 46, var g1 [.int .i64 1, .int .i64 0] 44]) (by kernel_rfl)
 case hi =>
  intro hG
  refine wpOp_alloc (i := 2) nx rfl hL rfl CellsC.of ?_
  intro g4 w5 hL
  refine ⟨hL.box (g := g3) vM, ?_⟩
  (try simp only [Act.put, zs, zt, zu])
  refine heldOne (i := 3) (by kernel_rfl) ?_
  refine wpOp_alloc (i := 3) nx rfl hL rfl CellsC.of ?_
  intro g5 w5 hL
  refine ⟨hL.box (g := g3) vM, ?_⟩
  (try simp only [Act.put, zs, zt, zu])
  exact hG g4 g5 _ hL
 case hj =>
  intro hG
  refine wpOp_alloc (i := 3) nx rfl hL rfl CellsC.of ?_
  intro g5 w5 hL
  refine ⟨hL.box (g := g3) vM, ?_⟩
  (try simp only [Act.put, zs, zt, zu])
  refine heldOne (i := 2) (by kernel_rfl) ?_
  refine wpOp_alloc (i := 2) nx rfl hL rfl CellsC.of ?_
  intro g4 w5 hL
  refine ⟨hL.box (g := g3) vM, ?_⟩
  (try simp only [Act.put, zs, zt, zu])
  exact hG g4 g5 _ hL.comm
 intro g4 g5 w6 hL
 refine heldStore (i := 4) nx (by kernel_rfl) rfl hL rfl (by rfl) (by rfl) (cells_agg _ rfl) (by rfl) ?_
 intro w7 hL
 refine ⟨(hL.box (g := g3) vM), ?_⟩
 (try simp only [Act.put, zs, zt, zu])
 refine heldStore (i := 5) nx (by kernel_rfl) rfl hL rfl (by rfl) (by rfl) (cells_agg _ rfl) (by rfl) ?_
 intro w8 hL
 refine ⟨(hL.box (g := g3) vM), ?_⟩
 (try simp only [Act.put, zs, zt, zu])
 refine wpAnyH_done (by kernel_rfl) ?_ _
 go_upto_region 5 with fail
 refine region_held (fun wx => Box wx g1 ([.int .i64 1, .int .i64 0] : List Value).toArray 44) (by kernel_rfl) hL ?_
 intro w9 hL
 refine tK (i := 0) (y := y_pure (v := .agg #[.int .i64 2, .int .i64 0, .int .i64 0, .int .i64 0, .int .i64 0, .int .i64 0, .int .i64 0, .int .i64 0]) (by rfl) (fun w => by first | rfl | kernel_rfl | simp [execOp, go_sem])) (s := hL.box (g := g1) vM) (z := ?_)
 (try simp only [Act.put, zs, zt, zu])
 refine tK (i := 1) (y := y_loadAll (fun _ h => h) (by rfl) (by rfl) (by rfl) (by infer_instance) (by infer_instance) (by rfl)) (s := hL.box (g := g1) vM) (z := ?_)
 (try simp only [Act.put, zs, zt, zu])
 refine tK (i := 2) (y := y_pure (v := .agg #[.int .i64 2, .int .i64 0, .int .i64 0, .int .i64 0, .int .i64 0, .int .i64 0, .int .i64 0, .int .i64 0]) (by rfl) (fun w => by first | rfl | kernel_rfl | simp [execOp, go_sem])) (s := hL.box (g := g1) vM) (z := ?_)
 (try simp only [Act.put, zs, zt, zu])
 refine tK (i := 3) (y := y_pure (v := .agg #[.int .i64 1, .int .i64 0, .int .i64 0, .int .i64 0, .int .i64 0, .int .i64 0, .int .i64 0, .int .i64 0, .string ⟨#[]⟩, .int .i64 0, .int .i64 0, .int .i64 0, .int .i64 0, .int .i64 0, .int .i64 0, .int .i64 0, .int .i64 0, .int .i64 2, .int .i64 0, .int .i64 0, .int .i64 0, .int .i64 0, .int .i64 0, .int .i64 0, .int .i64 0]) (by rfl) (fun w => by first | rfl | kernel_rfl | simp [execOp, go_sem])) (s := hL.box (g := g1) vM) (z := ?_)
 (try simp only [Act.put, zs, zt, zu])
 refine tK (i := 5) (y := y_pure (v := .pointer (some ⟨g4, 0, none⟩)) (by rfl) (fun w => by simp [execOp, Instr.fieldAt, go_sem])) (s := hL.box (g := g1) vM) (z := ?_)
 (try simp only [Act.put, zs, zt, zu])
 apply heldEitherX (fun (gx : Nat) w' => Loc w NoM w' [var gx [.int .i64 1, .int .i64 0, .int .i64 0, .int .i64 0, .int .i64 0, .int .i64 0, .int .i64 0, .int .i64 0, .string ⟨#[]⟩, .int .i64 0, .int .i64 0, .int .i64 0, .int .i64 0, .int .i64 0, .int .i64 0, .int .i64 0, .int .i64 0, .int .i64 2, .int .i64 0, .int .i64 0, .int .i64 0, .int .i64 0, .int .i64 0, .int .i64 0, .int .i64 0] 46, var g5 [.int .i64 1, .int .i64 0, .int .i64 0, .int .i64 0, .int .i64 0, .int .i64 0, .int .i64 0, .int .i64 0, .slice none 0 0, .slice (some ⟨g16, 0, none⟩) 1 1] 27, var g4 [.int .i64 2, .int .i64 0, .int .i64 0, .int .i64 0, .int .i64 0, .int .i64 0, .int .i64 0, .int .i64 0, .slice none 0 0, .slice (some ⟨g16, 0, none⟩) 1 1] 27, var g3 [.int .i64 1, .int .i64 0, .int .i64 0, .int .i64 0, .int .i64 0, .int .i64 0, .int .i64 0, .int .i64 0, .slice none 0 0, .slice (some ⟨g16, 0, none⟩) 1 1] 27, var g16 [.int .i64 1, .int .i64 0, .int .i64 1, .int .i64 0, .int .i64 1, .int .i64 0, .int .i64 0, .int .i64 0, .string ⟨#[120]⟩, .int .i64 1, .int .i64 0, .int .i64 0, .int .i64 0, .int .i64 0, .int .i64 0, .int .i64 0, .int .i64 0, .int .i64 0, .int .i64 0, .int .i64 0, .int .i64 0, .int .i64 0, .int .i64 0, .int .i64 0, .int .i64 0] 46, var g2 [.int .i64 1, .int .i64 0, .int .i64 1, .int .i64 0, .int .i64 1, .int .i64 0, .int .i64 0, .int .i64 0, .string ⟨#[120]⟩, .int .i64 1, .int .i64 0, .int .i64 0, .int .i64 0, .int .i64 0, .int .i64 0, .int .i64 0, .int .i64 0, .int .i64 0, .int .i64 0, .int .i64 0, .int .i64 0, .int .i64 0, .int .i64 0, .int .i64 0, .int .i64 0] 46, var g1 [.int .i64 1, .int .i64 0] 44]) (by kernel_rfl)
 case hi =>
  intro hG
  refine wpOp_lit (i := 4) (cs := [.int .i64 1, .int .i64 0, .int .i64 0, .int .i64 0, .int .i64 0, .int .i64 0, .int .i64 0, .int .i64 0, .string ⟨#[]⟩, .int .i64 0, .int .i64 0, .int .i64 0, .int .i64 0, .int .i64 0, .int .i64 0, .int .i64 0, .int .i64 0, .int .i64 2, .int .i64 0, .int .i64 0, .int .i64 0, .int .i64 0, .int .i64 0, .int .i64 0, .int .i64 0]) nx rfl hL rfl rfl rfl (by kernel_rfl) ?_
  intro gx w10 hL
  refine ⟨hL.box (g := g1) vM, ?_⟩
  (try simp only [Act.put, zs, zt, zu])
  refine heldStore (i := 6) nx (by kernel_rfl) rfl hL rfl (by rfl) (by rfl) (cells_agg _ rfl) (by rfl) ?_
  intro w11 hL
  refine ⟨(hL.box (g := g1) vM), ?_⟩
  (try simp only [Act.put, zs, zt, zu])
  exact hG gx _ hL
 case hj =>
  intro hG
  refine wpOp_store (i := 6) nx rfl hL rfl (by rfl) (by rfl) (cells_agg _ rfl) (by rfl) ?_
  intro w11 hL
  refine ⟨hL.box (g := g1) vM, ?_⟩
  (try simp only [Act.put, zs, zt, zu])
  refine heldOne (i := 4) (by kernel_rfl) ?_
  refine wpOp_lit (i := 4) (cs := [.int .i64 1, .int .i64 0, .int .i64 0, .int .i64 0, .int .i64 0, .int .i64 0, .int .i64 0, .int .i64 0, .string ⟨#[]⟩, .int .i64 0, .int .i64 0, .int .i64 0, .int .i64 0, .int .i64 0, .int .i64 0, .int .i64 0, .int .i64 0, .int .i64 2, .int .i64 0, .int .i64 0, .int .i64 0, .int .i64 0, .int .i64 0, .int .i64 0, .int .i64 0]) nx rfl hL rfl rfl rfl (by kernel_rfl) ?_
  intro gx w10 hL
  refine ⟨hL.box (g := g1) vM, ?_⟩
  (try simp only [Act.put, zs, zt, zu])
  exact hG gx _ hL
 intro gx w12 hL
 refine tK (i := 7) (y := y_pure (v := .pointer (some ⟨g4, 9, none⟩)) (by rfl) (fun w => by simp [execOp, Instr.fieldAt, go_sem])) (s := hL.box (g := g1) vM) (z := ?_)
 (try simp only [Act.put, zs, zt, zu])
 refine heldStore (i := 8) nx (by kernel_rfl) rfl hL rfl (by rfl) (by rfl) cy (by rfl) ?_
 intro w13 hL
 refine ⟨(hL.box (g := g1) vM), ?_⟩
 (try simp only [Act.put, zs, zt, zu])
 refine wpAnyH_done (by kernel_rfl) ?_ _
 go_upto_region 6 with fail
 refine region_held (fun wx => Box wx g1 ([.int .i64 1, .int .i64 0] : List Value).toArray 44) (by kernel_rfl) hL ?_
 intro w9 hL
 refine tK (i := 0) (y := y_pure (v := .agg #[.int .i64 1, .int .i64 2, .int .i64 0, .int .i64 0, .int .i64 0, .int .i64 0, .int .i64 0, .int .i64 0]) (by rfl) (fun w => by first | rfl | kernel_rfl | simp [execOp, go_sem])) (s := hL.box (g := g1) vM) (z := ?_)
 (try simp only [Act.put, zs, zt, zu])
 refine tK (i := 1) (y := y_loadAll (fun _ h => h) (by rfl) (by rfl) (by rfl) (by infer_instance) (by infer_instance) (by rfl)) (s := hL.box (g := g1) vM) (z := ?_)
 (try simp only [Act.put, zs, zt, zu])
 refine tK (i := 2) (y := y_pure (v := .agg #[.int .i64 1, .int .i64 2, .int .i64 0, .int .i64 0, .int .i64 0, .int .i64 0, .int .i64 0, .int .i64 0]) (by rfl) (fun w => by first | rfl | kernel_rfl | simp [execOp, go_sem])) (s := hL.box (g := g1) vM) (z := ?_)
 (try simp only [Act.put, zs, zt, zu])
 refine tK (i := 3) (y := y_pure (v := .agg #[.int .i64 1, .int .i64 0, .int .i64 0, .int .i64 0, .int .i64 0, .int .i64 0, .int .i64 0, .int .i64 0, .string ⟨#[]⟩, .int .i64 1, .int .i64 2, .int .i64 0, .int .i64 0, .int .i64 0, .int .i64 0, .int .i64 0, .int .i64 0, .int .i64 0, .int .i64 0, .int .i64 0, .int .i64 0, .int .i64 0, .int .i64 0, .int .i64 0, .int .i64 0]) (by rfl) (fun w => by first | rfl | kernel_rfl | simp [execOp, go_sem])) (s := hL.box (g := g1) vM) (z := ?_)
 (try simp only [Act.put, zs, zt, zu])
 refine tK (i := 5) (y := y_pure (v := .pointer (some ⟨g5, 0, none⟩)) (by rfl) (fun w => by simp [execOp, Instr.fieldAt, go_sem])) (s := hL.box (g := g1) vM) (z := ?_)
 (try simp only [Act.put, zs, zt, zu])
 apply heldEitherX (fun (gy : Nat) w' => Loc w NoM w' [var gy [.int .i64 1, .int .i64 0, .int .i64 0, .int .i64 0, .int .i64 0, .int .i64 0, .int .i64 0, .int .i64 0, .string ⟨#[]⟩, .int .i64 1, .int .i64 2, .int .i64 0, .int .i64 0, .int .i64 0, .int .i64 0, .int .i64 0, .int .i64 0, .int .i64 0, .int .i64 0, .int .i64 0, .int .i64 0, .int .i64 0, .int .i64 0, .int .i64 0, .int .i64 0] 46, var gx [.int .i64 1, .int .i64 0, .int .i64 0, .int .i64 0, .int .i64 0, .int .i64 0, .int .i64 0, .int .i64 0, .string ⟨#[]⟩, .int .i64 0, .int .i64 0, .int .i64 0, .int .i64 0, .int .i64 0, .int .i64 0, .int .i64 0, .int .i64 0, .int .i64 2, .int .i64 0, .int .i64 0, .int .i64 0, .int .i64 0, .int .i64 0, .int .i64 0, .int .i64 0] 46, var g5 [.int .i64 1, .int .i64 2, .int .i64 0, .int .i64 0, .int .i64 0, .int .i64 0, .int .i64 0, .int .i64 0, .slice none 0 0, .slice (some ⟨g16, 0, none⟩) 1 1] 27, var g4 [.int .i64 2, .int .i64 0, .int .i64 0, .int .i64 0, .int .i64 0, .int .i64 0, .int .i64 0, .int .i64 0, .slice none 0 0, .slice (some ⟨gx, 0, none⟩) 1 1] 27, var g3 [.int .i64 1, .int .i64 0, .int .i64 0, .int .i64 0, .int .i64 0, .int .i64 0, .int .i64 0, .int .i64 0, .slice none 0 0, .slice (some ⟨g16, 0, none⟩) 1 1] 27, var g16 [.int .i64 1, .int .i64 0, .int .i64 1, .int .i64 0, .int .i64 1, .int .i64 0, .int .i64 0, .int .i64 0, .string ⟨#[120]⟩, .int .i64 1, .int .i64 0, .int .i64 0, .int .i64 0, .int .i64 0, .int .i64 0, .int .i64 0, .int .i64 0, .int .i64 0, .int .i64 0, .int .i64 0, .int .i64 0, .int .i64 0, .int .i64 0, .int .i64 0, .int .i64 0] 46, var g2 [.int .i64 1, .int .i64 0, .int .i64 1, .int .i64 0, .int .i64 1, .int .i64 0, .int .i64 0, .int .i64 0, .string ⟨#[120]⟩, .int .i64 1, .int .i64 0, .int .i64 0, .int .i64 0, .int .i64 0, .int .i64 0, .int .i64 0, .int .i64 0, .int .i64 0, .int .i64 0, .int .i64 0, .int .i64 0, .int .i64 0, .int .i64 0, .int .i64 0, .int .i64 0] 46, var g1 [.int .i64 1, .int .i64 0] 44]) (by kernel_rfl)
 case hi =>
  intro hG
  refine wpOp_lit (i := 4) (cs := [.int .i64 1, .int .i64 0, .int .i64 0, .int .i64 0, .int .i64 0, .int .i64 0, .int .i64 0, .int .i64 0, .string ⟨#[]⟩, .int .i64 1, .int .i64 2, .int .i64 0, .int .i64 0, .int .i64 0, .int .i64 0, .int .i64 0, .int .i64 0, .int .i64 0, .int .i64 0, .int .i64 0, .int .i64 0, .int .i64 0, .int .i64 0, .int .i64 0, .int .i64 0]) nx rfl hL rfl rfl rfl (by kernel_rfl) ?_
  intro gy w10 hL
  refine ⟨hL.box (g := g1) vM, ?_⟩
  (try simp only [Act.put, zs, zt, zu])
  refine heldStore (i := 6) nx (by kernel_rfl) rfl hL rfl (by rfl) (by rfl) (cells_agg _ rfl) (by rfl) ?_
  intro w11 hL
  refine ⟨(hL.box (g := g1) vM), ?_⟩
  (try simp only [Act.put, zs, zt, zu])
  exact hG gy _ hL
 case hj =>
  intro hG
  refine wpOp_store (i := 6) nx rfl hL rfl (by rfl) (by rfl) (cells_agg _ rfl) (by rfl) ?_
  intro w11 hL
  refine ⟨hL.box (g := g1) vM, ?_⟩
  (try simp only [Act.put, zs, zt, zu])
  refine heldOne (i := 4) (by kernel_rfl) ?_
  refine wpOp_lit (i := 4) (cs := [.int .i64 1, .int .i64 0, .int .i64 0, .int .i64 0, .int .i64 0, .int .i64 0, .int .i64 0, .int .i64 0, .string ⟨#[]⟩, .int .i64 1, .int .i64 2, .int .i64 0, .int .i64 0, .int .i64 0, .int .i64 0, .int .i64 0, .int .i64 0, .int .i64 0, .int .i64 0, .int .i64 0, .int .i64 0, .int .i64 0, .int .i64 0, .int .i64 0, .int .i64 0]) nx rfl hL rfl rfl rfl (by kernel_rfl) ?_
  intro gy w10 hL
  refine ⟨hL.box (g := g1) vM, ?_⟩
  (try simp only [Act.put, zs, zt, zu])
  exact hG gy _ hL
 intro gy w12 hL
 refine tK (i := 7) (y := y_pure (v := .pointer (some ⟨g5, 9, none⟩)) (by rfl) (fun w => by simp [execOp, Instr.fieldAt, go_sem])) (s := hL.box (g := g1) vM) (z := ?_)
 (try simp only [Act.put, zs, zt, zu])
 refine heldStore (i := 8) nx (by kernel_rfl) rfl hL rfl (by rfl) (by rfl) cy (by rfl) ?_
 intro w13 hL
 refine ⟨(hL.box (g := g1) vM), ?_⟩
 (try simp only [Act.put, zs, zt, zu])
 refine wpAnyH_done (by kernel_rfl) ?_ _
 go_upto_region 7 with fail
 refine region_held (fun wx => Box wx g3 ([.int .i64 1, .int .i64 0, .int .i64 0, .int .i64 0, .int .i64 0, .int .i64 0, .int .i64 0, .int .i64 0, .slice none 0 0, .slice (some ⟨g16, 0, none⟩) 1 1] : List Value).toArray 27 ∧ Box wx g4 ([.int .i64 2, .int .i64 0, .int .i64 0, .int .i64 0, .int .i64 0, .int .i64 0, .int .i64 0, .int .i64 0, .slice none 0 0, .slice (some ⟨gx, 0, none⟩) 1 1] : List Value).toArray 27 ∧ Box wx g5 ([.int .i64 1, .int .i64 2, .int .i64 0, .int .i64 0, .int .i64 0, .int .i64 0, .int .i64 0, .int .i64 0, .slice none 0 0, .slice (some ⟨gy, 0, none⟩) 1 1] : List Value).toArray 27) (by kernel_rfl) hL ?_
 intro w14 hL
 refine tK (i := 0) (y := y_loadAll (fun _ h => h.1) (by rfl) (by rfl) (by rfl) (by infer_instance) (by infer_instance) (by rfl)) (s := ⟨hL.box (g := g3) vM, hL.box (g := g4) vM, hL.box (g := g5) vM⟩) (z := ?_)
 (try simp only [Act.put, zs, zt, zu])
 refine tK (i := 1) (y := y_loadAll (fun _ h => h.2.1) (by rfl) (by rfl) (by rfl) (by infer_instance) (by infer_instance) (by rfl)) (s := ⟨hL.box (g := g3) vM, hL.box (g := g4) vM, hL.box (g := g5) vM⟩) (z := ?_)
 (try simp only [Act.put, zs, zt, zu])
 refine tK (i := 2) (y := y_loadAll (fun _ h => h.2.2) (by rfl) (by rfl) (by rfl) (by infer_instance) (by infer_instance) (by rfl)) (s := ⟨hL.box (g := g3) vM, hL.box (g := g4) vM, hL.box (g := g5) vM⟩) (z := ?_)
 (try simp only [Act.put, zs, zt, zu])
 apply heldEither3 (fun (r1 r2 : Sta) (g6 : Nat) w' => r2.seen = ⟨2, 2, 0, 0, 0, 0, 0, 0⟩ ∧ Loc w NoM w' [row encK w.heap.size 46 r2.links.val [xboth], var g6 [.int .i64 0, .int .i64 0, .int .i64 0, .int .i64 0, .int .i64 0, .int .i64 0, .int .i64 0, .int .i64 0, .slice none 0 0, .slice none 0 0] 27, var gy [.int .i64 1, .int .i64 0, .int .i64 0, .int .i64 0, .int .i64 0, .int .i64 0, .int .i64 0, .int .i64 0, .string ⟨#[]⟩, .int .i64 1, .int .i64 2, .int .i64 0, .int .i64 0, .int .i64 0, .int .i64 0, .int .i64 0, .int .i64 0, .int .i64 0, .int .i64 0, .int .i64 0, .int .i64 0, .int .i64 0, .int .i64 0, .int .i64 0, .int .i64 0] 46, var gx [.int .i64 1, .int .i64 0, .int .i64 0, .int .i64 0, .int .i64 0, .int .i64 0, .int .i64 0, .int .i64 0, .string ⟨#[]⟩, .int .i64 0, .int .i64 0, .int .i64 0, .int .i64 0, .int .i64 0, .int .i64 0, .int .i64 0, .int .i64 0, .int .i64 2, .int .i64 0, .int .i64 0, .int .i64 0, .int .i64 0, .int .i64 0, .int .i64 0, .int .i64 0] 46, var g5 [.int .i64 1, .int .i64 2, .int .i64 0, .int .i64 0, .int .i64 0, .int .i64 0, .int .i64 0, .int .i64 0, .slice none 0 0, .slice (some ⟨gy, 0, none⟩) 1 1] 27, var g4 [.int .i64 2, .int .i64 0, .int .i64 0, .int .i64 0, .int .i64 0, .int .i64 0, .int .i64 0, .int .i64 0, .slice none 0 0, .slice (some ⟨gx, 0, none⟩) 1 1] 27, var g3 [.int .i64 1, .int .i64 0, .int .i64 0, .int .i64 0, .int .i64 0, .int .i64 0, .int .i64 0, .int .i64 0, .slice none 0 0, .slice (some ⟨g16, 0, none⟩) 1 1] 27, var g16 [.int .i64 1, .int .i64 0, .int .i64 1, .int .i64 0, .int .i64 1, .int .i64 0, .int .i64 0, .int .i64 0, .string ⟨#[120]⟩, .int .i64 1, .int .i64 0, .int .i64 0, .int .i64 0, .int .i64 0, .int .i64 0, .int .i64 0, .int .i64 0, .int .i64 0, .int .i64 0, .int .i64 0, .int .i64 0, .int .i64 0, .int .i64 0, .int .i64 0, .int .i64 0] 46, var g2 [.int .i64 1, .int .i64 0, .int .i64 1, .int .i64 0, .int .i64 1, .int .i64 0, .int .i64 0, .int .i64 0, .string ⟨#[120]⟩, .int .i64 1, .int .i64 0, .int .i64 0, .int .i64 0, .int .i64 0, .int .i64 0, .int .i64 0, .int .i64 0, .int .i64 0, .int .i64 0, .int .i64 0, .int .i64 0, .int .i64 0, .int .i64 0, .int .i64 0, .int .i64 0] 46, var g1 [.int .i64 1, .int .i64 0] 44]) (by kernel_rfl)
 case hi =>
  intro hG
  refine heldCall (i := 3) (Nth.get nx) (by rfl) (enter2 Tryz.func10 (by kernel_rfl) (by kernel_rfl) (by rfl) (by rfl) (by rfl)) (st_two ⟨xv2, ⟨none, 0, 0⟩, ⟨some ⟨gx, 0, none⟩, 1, 1⟩⟩ ⟨xv12, ⟨none, 0, 0⟩, ⟨some ⟨gy, 0, none⟩, 1, 1⟩⟩ ⟨xv2, [], [xl1]⟩ ⟨xv12, [], [xl2]⟩ _ (ok_one (l := xl1) (hL.box (g := gx) vM)) (ok_one (l := xl2) (hL.box (g := gy) vM)) rfl rfl (by decide) (xv2.join xv12) rfl [xl12] links12) ?_
  rintro e w15 ⟨r1, rfl, hs1, hL15⟩
  replace hL := hL.takeAll (hL15.weakRow hL.size)
  simp only [List.cons_append, List.nil_append] at hL
  refine ⟨_, rfl, ⟨hL.box (g := g3) vM, hL.box (g := g4) vM, hL.box (g := g5) vM⟩, ?_⟩
  (try simp only [Act.put, zs, zt, zu])
  refine heldBoth (i := 4) (j := 5) (by kernel_rfl) ?b1 ?b2
  case b1 =>
   refine heldCall (i := 4) (Nth.get nx) (by rfl) (enter2 Tryz.func10 (by kernel_rfl) (by kernel_rfl) (by rfl) (by rfl) (by rfl)) (st_two ⟨xv1, ⟨none, 0, 0⟩, ⟨some ⟨g16, 0, none⟩, 1, 1⟩⟩ r1 ⟨xv1, [], [xl0]⟩ ⟨xv2.join xv12, [], [xl12]⟩ _ (ok_one (l := xl0) (hL.box (g := g16) vM)) (ok_res hL (.head _) (.tail _ (.head _)) hs1) rfl rfl (by decide) ⟨2, 2, 0, 0, 0, 0, 0, 0⟩ seen12 [xboth] links_both) ?_
   rintro e w16 ⟨r2, rfl, hs2, hL16⟩
   replace hL := hL.takeAll (hL16.weakRow hL.size)
   simp only [List.cons_append, List.nil_append] at hL
   refine ⟨_, rfl, ⟨hL.box (g := g3) vM, hL.box (g := g4) vM, hL.box (g := g5) vM⟩, ?_⟩
   (try simp only [Act.put, zs, zt, zu])
   refine heldOne (i := 5) (by kernel_rfl) ?_
   refine wpOp_alloc (i := 5) nx rfl hL rfl CellsC.of ?_
   intro g6 w17 hL
   refine ⟨⟨hL.box (g := g3) vM, hL.box (g := g4) vM, hL.box (g := g5) vM⟩, ?_⟩
   (try simp only [Act.put, zs, zt, zu])
   exact hG r1 r2 g6 _ ⟨hs2, (hL.sub (.cons_cons _ (.cons_cons _ (.cons _ (.cons _ (.cons _ (.refl _))))))).comm⟩
  case b2 =>
   refine wpOp_alloc (i := 5) nx rfl hL rfl CellsC.of ?_
   intro g6 w17 hL
   refine ⟨⟨hL.box (g := g3) vM, hL.box (g := g4) vM, hL.box (g := g5) vM⟩, ?_⟩
   (try simp only [Act.put, zs, zt, zu])
   refine heldOne (i := 4) (by kernel_rfl) ?_
   refine heldCall (i := 4) (Nth.get nx) (by rfl) (enter2 Tryz.func10 (by kernel_rfl) (by kernel_rfl) (by rfl) (by rfl) (by rfl)) (st_two ⟨xv1, ⟨none, 0, 0⟩, ⟨some ⟨g16, 0, none⟩, 1, 1⟩⟩ r1 ⟨xv1, [], [xl0]⟩ ⟨xv2.join xv12, [], [xl12]⟩ _ (ok_one (l := xl0) (hL.box (g := g16) vM)) (ok_res hL (.tail _ (.head _)) (.tail _ (.tail _ (.head _))) hs1) rfl rfl (by decide) ⟨2, 2, 0, 0, 0, 0, 0, 0⟩ seen12 [xboth] links_both) ?_
   rintro e w16 ⟨r2, rfl, hs2, hL16⟩
   replace hL := hL.takeAll (hL16.weakRow hL.size)
   simp only [List.cons_append, List.nil_append] at hL
   refine ⟨_, rfl, ⟨hL.box (g := g3) vM, hL.box (g := g4) vM, hL.box (g := g5) vM⟩, ?_⟩
   (try simp only [Act.put, zs, zt, zu])
   exact hG r1 r2 g6 _ ⟨hs2, hL.sub (.cons_cons _ (.cons _ (.cons_cons _ (.cons _ (.cons _ (.refl _))))))⟩
 case hj =>
  intro hG
  refine wpOp_alloc (i := 5) nx rfl hL rfl CellsC.of ?_
  intro g6 w17 hL
  refine ⟨⟨hL.box (g := g3) vM, hL.box (g := g4) vM, hL.box (g := g5) vM⟩, ?_⟩
  (try simp only [Act.put, zs, zt, zu])
  refine heldOne (i := 3) (by kernel_rfl) ?_
  refine heldCall (i := 3) (Nth.get nx) (by rfl) (enter2 Tryz.func10 (by kernel_rfl) (by kernel_rfl) (by rfl) (by rfl) (by rfl)) (st_two ⟨xv2, ⟨none, 0, 0⟩, ⟨some ⟨gx, 0, none⟩, 1, 1⟩⟩ ⟨xv12, ⟨none, 0, 0⟩, ⟨some ⟨gy, 0, none⟩, 1, 1⟩⟩ ⟨xv2, [], [xl1]⟩ ⟨xv12, [], [xl2]⟩ _ (ok_one (l := xl1) (hL.box (g := gx) vM)) (ok_one (l := xl2) (hL.box (g := gy) vM)) rfl rfl (by decide) (xv2.join xv12) rfl [xl12] links12) ?_
  rintro e w15 ⟨r1, rfl, hs1, hL15⟩
  replace hL := hL.takeAll (hL15.weakRow hL.size)
  simp only [List.cons_append, List.nil_append] at hL
  refine ⟨_, rfl, ⟨hL.box (g := g3) vM, hL.box (g := g4) vM, hL.box (g := g5) vM⟩, ?_⟩
  (try simp only [Act.put, zs, zt, zu])
  refine heldOne (i := 4) (by kernel_rfl) ?_
  refine heldCall (i := 4) (Nth.get nx) (by rfl) (enter2 Tryz.func10 (by kernel_rfl) (by kernel_rfl) (by rfl) (by rfl) (by rfl)) (st_two ⟨xv1, ⟨none, 0, 0⟩, ⟨some ⟨g16, 0, none⟩, 1, 1⟩⟩ r1 ⟨xv1, [], [xl0]⟩ ⟨xv2.join xv12, [], [xl12]⟩ _ (ok_one (l := xl0) (hL.box (g := g16) vM)) (ok_res hL (.head _) (.tail _ (.head _)) hs1) rfl rfl (by decide) ⟨2, 2, 0, 0, 0, 0, 0, 0⟩ seen12 [xboth] links_both) ?_
  rintro e w16 ⟨r2, rfl, hs2, hL16⟩
  replace hL := hL.takeAll (hL16.weakRow hL.size)
  simp only [List.cons_append, List.nil_append] at hL
  refine ⟨_, rfl, ⟨hL.box (g := g3) vM, hL.box (g := g4) vM, hL.box (g := g5) vM⟩, ?_⟩
  (try simp only [Act.put, zs, zt, zu])
  exact hG r1 r2 g6 _ ⟨hs2, hL.sub (.cons_cons _ (.cons _ (.cons _ (.cons _ (.cons_cons _ (.refl _))))))⟩
 rintro r1 ⟨sv2, nd2, lk2⟩ g6 w18 ⟨hs2, hL⟩
 obtain rfl : sv2 = ⟨2, 2, 0, 0, 0, 0, 0, 0⟩ := hs2
 obtain ⟨la2, ln2, lc2⟩ := lk2
 rcases own_casesG hL with ⟨-, e2⟩ | ⟨gb, cb, e2, -, -, -⟩
 ·cases e2
 replace e2 : Value.slice la2 ln2 lc2 = .slice (some ⟨gb, 0, none⟩) 1 cb := e2
 injection e2 with e3 e4 e5
 subst e3 e4 e5
 refine heldStore (i := 6) nx (by kernel_rfl) rfl hL rfl (by rfl) (by rfl) (cells_agg [.int .i64 2, .int .i64 2, .int .i64 0, .int .i64 0, .int .i64 0, .int .i64 0, .int .i64 0, .int .i64 0, .slice nd2.a nd2.n nd2.c, .slice (some ⟨gb, 0, none⟩) 1 lc2] rfl) (by rfl) ?_
 intro w19 hL
 refine ⟨⟨hL.box (g := g3) vM, hL.box (g := g4) vM, hL.box (g := g5) vM⟩, ?_⟩
 (try simp only [Act.put, zs, zt, zu])
 refine wpAnyH_done (by kernel_rfl) ?_ _
 have HZB : Hid (∀ (l' : List Item) (w' : World), Loc w NoM w' l' → row encK w.heap.size 46 (.slice (some ⟨gb, 0, none⟩) 1 lc2) [xboth] ∈ l' → w'.rangeAt gb (0 + 0 * 25) (Lnk.cells xboth)) := kD (fun l' w' h hm => row_range (h.own (E := encK) hm) (y := xboth) (i := 0) rfl)
 go_wp2_with (first
  | ((with_reducible refine gate (N := 7) rfl ?_); (refine lI rfl hL rfl cy ?_; clear hL; intro g7 w7 hL))
  | (go_at_call 10; have hq := st_two ⟨xv1, ⟨none, 0, 0⟩, ⟨some ⟨g16, 0, none⟩, 1, 1⟩⟩ ⟨xv2, ⟨none, 0, 0⟩, ⟨some ⟨gx, 0, none⟩, 1, 1⟩⟩ ⟨xv1, [], [xl0]⟩ ⟨xv2, [], [xl1]⟩ _ (ok_one (l := xl0) (hL.box (g := g16) vM)) (ok_one (l := xl1) (hL.box (g := gx) vM)) rfl rfl (by decide) xv2 seen_dead [xdead] links_dead; (refine hq.mono ?_); rintro e w21 ⟨r3, rfl, hs3, hL21⟩; replace hL := hL.takeAll (hL21.weakRow hL.size); simp only [List.cons_append, List.nil_append] at hL; clear hq hL21; refine stop ?_)
  | ((with_reducible refine qB rfl rfl ?_); (refine lA rfl hL rfl rfl vM (by rfl) ?_)))
 unfold Stop
 obtain ⟨sv3, nd3, lk3⟩ := r3
 obtain rfl : sv3 = xv2 := hs3
 obtain ⟨la3, ln3, lc3⟩ := lk3
 rcases own_casesG hL with ⟨-, e2⟩ | ⟨gd, cd, e2, -, -, -⟩
 ·cases e2
 replace e2 : Value.slice la3 ln3 lc3 = .slice (some ⟨gd, 0, none⟩) 1 cd := e2
 injection e2 with e3 e4 e5
 subst e3 e4 e5
 obtain ⟨na3, nn3, nc3⟩ := nd3
 have hrn := (hL.own (E := encN) (.tail _ (.head _))).read
 obtain ⟨ao3, cc3, e6, -⟩ := R_elem hrn
 replace e6 : Value.slice na3 nn3 nc3 = .slice ao3 0 cc3 := e6
 injection e6 with e7 e8 e9
 subst e7 e8 e9
 clear hrn
 have HRN : Hid (∀ (l' : List Item) (w' : World) (b : Nat), Loc w NoM w' l' → row encN b 58 (.slice na3 0 nc3) [] ∈ l' → encN.R w' (.slice na3 0 nc3) []) := kD (fun l' w' b h hm => (h.own (E := encN) hm).read)
 have HZD : Hid (∀ (l' : List Item) (w' : World), Loc w NoM w' l' → row encK w.heap.size 46 (.slice (some ⟨gd, 0, none⟩) 1 lc3) [xdead] ∈ l' → w'.rangeAt gd (0 + 0 * 25) (Lnk.cells xdead)) := kD (fun l' w' h hm => row_range (h.own (E := encK) hm) (y := xdead) (i := 0) rfl)
 have hve := vec_eq ⟨2, 2, 0, 0, 0, 0, 0, 0⟩ ⟨2, 2, 0, 0, 0, 0, 0, 0⟩ (r := true) (by decide)
 simp only at hve
 unfold Sta.cells
 simp only [xv2]
 have hqb := kD (fun wx => (show Calls Tryz.prog 23 #[.agg (encK.cells xboth).toArray] wx (fun e w' => e = .returned (.bool true) ∧ Below wx.heap.size wx w') from by
  have h9 := join_alive xboth wx
  rw [alive_both] at h9
  exact h9))
 have hqd := kD (fun wx => (show Calls Tryz.prog 23 #[.agg (encK.cells xdead).toArray] wx (fun e w' => e = .returned (.bool false) ∧ Below wx.heap.size wx w') from by
  have h9 := join_alive xdead wx
  rw [alive_dead] at h9
  exact h9))
 go_wp2_with (first
  | ((with_reducible refine gate (N := 7) rfl ?_); (refine lI rfl hL rfl cy ?_; clear hL; intro g7 w7 hL))
  | ((with_reducible refine gate (N := 50) rfl ?_); refine ev_loadRG (wz rfl rfl rfl rfl) rfl rfl (HZB.out _ _ hL mx) (by rfl) ?_)
  | ((with_reducible refine gate (N := 58) rfl ?_); refine ev_loadR1G (wz rfl rfl rfl rfl) rfl rfl (range_part (j := 8) (n := 1) (vs := [.string ⟨#[120]⟩]) (HZB.out _ _ hL mx) (show Seg (Lnk.cells xboth) 8 1 [.string ⟨#[120]⟩] from Seg.of rfl (by decide))) ?_)
  | ((with_reducible refine gate (N := 65) rfl ?_); refine ev_loadRG (wz rfl rfl rfl rfl) rfl rfl (HZD.out _ _ hL mx) (by rfl) ?_)
  | (go_at_call 23; first | (refine (hqb.out _).mono ?_; rintro e w31 ⟨rfl, hb31⟩; have hL := hL.call hb31; clear hb31) | (refine (hqd.out _).mono ?_; rintro e w31 ⟨rfl, hb31⟩; have hL := hL.call hb31; clear hb31))
  | (go_at_call 20; have hq := join_prune1 xv2 xv2 na3 (some ⟨gd, 0, none⟩) nc3 lc3 xdead _ (HRN.out _ _ _ hL mx) (hL.own (E := encK) (base := w.heap.size) (e := 46) (v := .slice (some ⟨gd, 0, none⟩) 1 lc3) (xs := [xdead]) mx).read rfl alive_dead (by rw [meet_dead]; decide) (by rw [meet_dead]; decide) (by rw [meet_dead]; decide) key_dead; (refine hq.mono ?_); rintro e w32 ⟨⟨pa, pc, rfl⟩, hb32⟩; clear hq; have hfd : ∀ wx, (Instr.field 27 (.agg #[.int .i64 xv2.a0, .int .i64 xv2.a1, .int .i64 xv2.a2, .int .i64 xv2.a3, .int .i64 xv2.a4, .int .i64 xv2.a5, .int .i64 xv2.a6, .int .i64 xv2.a7, .slice pa 0 pc, .slice none 0 0]) 2).run Tryz.prog wx = .ok (.slice none 0 0) wx := (fun wx => by kernel_rfl); have hL := hL.call hb32; clear hb32)
  | ((with_reducible refine qB rfl rfl ?_); (refine lC rfl hL rfl rfl vM (by rfl) ?_)) | ((with_reducible refine qC rfl rfl ?_); (refine lH rfl hL rfl rfl rfl cy (by rfl) ?_); clear hL; intro wq hL) | ((with_reducible refine qA rfl rfl ?_ ?_); (exact wz rfl rfl rfl (by with_reducible rfl)); (first | (refine lD (wz rfl rfl rfl rfl) hL rfl rfl vM (by rfl) ?_) | (refine lB (wz rfl rfl rfl rfl) hL rfl rfl vM (by rfl) ?_) | (refine lE (wz rfl rfl rfl rfl) hL rfl rfl vM SegC.seg ?_))))
 go_ret
 exact ⟨rfl, hL.below⟩
end Go.Proofs.YtebpacmhdkgfeaaGreat

namespace Go.Proofs.YtebpacmhdkgfeaaGreat
open Go.RowKit
set_option maxHeartbeats 4000000
set_option maxRecDepth 20000
def encSt : Enc Sta := ⟨10, by decide, Sta.cells, fun _ => rfl, fun _ => ones_of rfl⟩
instance (priority := low) : SizeT Tryz.prog 27 encSt.sz := inferInstanceAs (SizeT Tryz.prog 27 10)
structure StaD.small (d : StaD) : Prop where
 plain : d.plain
 nodes : d.nodes.length ≤ 40
 links : d.links.length ≤ 40
theorem sta_shape {s : Sta} {d : StaD} {w : World} (h : s.Ok w d) : ∃ a c b e, s = ⟨d.seen, ⟨a, d.nodes.length, c⟩, ⟨b, d.links.length, e⟩⟩ := by
 obtain ⟨sv, ⟨a1, n1, c1⟩, ⟨a2, n2, c2⟩⟩ := s
 obtain ⟨h1, ⟨ns, hns, -, hnd⟩, hlk⟩ := h
 simp only at h1
 obtain ⟨ao, c, e1, -⟩ := R_elem hns
 obtain ⟨bo, e, e2, -⟩ := R_elem hlk
 replace e1 : Value.slice a1 n1 c1 = .slice ao ns.length c := e1
 replace e2 : Value.slice a2 n2 c2 = .slice bo d.links.length e := e2
 injection e1 with e3 e4 e5
 injection e2 with e6 e7 e8
 refine ⟨a1, c1, a2, c2, ?_⟩
 rw [h1, e4, e7, ← hnd, List.length_map]
theorem small11 (v : Value) (ss : List Sta) (ds : List StaD) (w : World) (h : encSt.R w v ss) (hl : ss.length = ds.length) (hO : ∀ i (h1 : i < ss.length) (h2 : i < ds.length), ss[i].Ok w ds[i]) :
  Calls Tryz.prog 7 #[v] w fun e w' => (∃ b, e = .returned (.bool b) ∧ (b = true → ∀ d ∈ ds, d.small)) ∧ Below w.heap.size w w' := by
 have hL := Loc.nil w NoM
 have hm := R_max h
 obtain ⟨ao, c, rfl, hel⟩ := R_elem h
 have HO := kD hO
 have HLN := kD hl
 clear h hO hl
 go_enter Tryz.func7, Tryz.ntmps7
 go_wp2_with fail
 go_loopw [7] (fun i wr => ∃ k : Nat, k ≤ ss.length ∧ i = .int .i64 k ∧ Hid (∀ j (h : j < ds.length), j < k → ds[j].small) ∧ Loc w NoM wr []) (fun i _ => ss.length - (intOf i).toNat)
 case atStart => exact ⟨0, by omega, rfl, kD (fun j _ h => absurd h (by omega)), hL⟩
 case round =>
  clear hL
  obtain ⟨k, hk, rfl, HS, hL⟩ := hrel
  by_cases hlt : k < ss.length
  ·have hlt2 : k < ds.length := by have := HLN.out; omega
   obtain ⟨q1, o1, rfl, r1⟩ := hel k hlt
   have hok := HO.out k hlt hlt2
   obtain ⟨na, nc, la, lc, hsh⟩ := sta_shape hok
   have HK : Hid (∀ d, d = ds[k] → d.small → ∀ j (h : j < ds.length), j < k + 1 → ds[j].small) := kD (fun d hd hs j h hj => by
    rcases Nat.lt_or_ge j k with h1 | h1
    ·exact HS.out j h h1
    ·obtain rfl : j = k := by omega
     rw [← hd]; exact hs)
   obtain ⟨d, hd⟩ : ∃ d, d = ds[k] := ⟨_, rfl⟩
   rw [← hd] at hok hsh
   have HDK := kD hd
   have hq := kD (fun (wx : World) (hb : Below w.heap.size w wx) => plain_small ss[k] d wx (hok.below hb))
   rw [hsh] at hq
   have hz : w.rangeAt q1 (o1 + k * 10) (Sta.cells ss[k]) := r1
   rw [hsh] at hz
   unfold Sta.cells at hz
   clear r1 hsh hok hd
   have hnz : (0 : Int) ≤ (d.nodes.length : Int) := by omega
   go_wp2_with (first
    | ((with_reducible refine qF rfl rfl ?_); refine lL rfl rfl rfl rfl hlt ?_)
    | ((with_reducible refine gate (N := 10) rfl ?_); refine lK rfl rfl rfl (range_below hz hL.below) (by rfl) ?_)
    | (go_at_call 22; (refine (hq.out _ hL.below).mono ?_); rintro e w9 ⟨⟨b, rfl, hbp⟩, hb9⟩; have HBP := kD hbp; clear hbp hq; have hL := hL.call hb9; clear hb9; refine stop ?_)
    | ((with_reducible refine gate (N := 4) rfl ?_); (refine lI rfl hL rfl cy ?_; clear hL; intro g4 w4 hL))
    | ((with_reducible refine qB rfl rfl ?_); (refine lA rfl hL rfl rfl vM (by rfl) ?_)) | ((with_reducible refine qC rfl rfl ?_); (refine lH rfl hL rfl rfl rfl cy (by rfl) ?_); clear hL; intro wq hL))
   unfold Stop
   cases b
   ·go_wp2_with fail
    go_ret
    exact ⟨by simp, hL.below⟩
   ·by_cases hn : 40 < d.nodes.length
    ·have t1 : decide ((d.nodes.length : Int) > 40) = true := (by first | (simp; done) | (simp; omega))
     go_wp2_with (first | ((with_reducible refine qA rfl rfl ?_ ?_); (exact wz rfl rfl rfl (by with_reducible rfl)); (refine lD (wz rfl rfl rfl rfl) hL rfl rfl vM (by rfl) ?_)))
     go_ret
     exact ⟨by simp, hL.below⟩
    ·have t1 : decide ((d.nodes.length : Int) > 40) = false := (by first | (simp; done) | (simp; omega))
     by_cases hm2 : 40 < d.links.length
     ·have t2 : decide ((d.links.length : Int) > 40) = true := (by first | (simp; done) | (simp; omega))
      go_wp2_with (first | ((with_reducible refine qA rfl rfl ?_ ?_); (exact wz rfl rfl rfl (by with_reducible rfl)); (refine lD (wz rfl rfl rfl rfl) hL rfl rfl vM (by rfl) ?_)))
      go_ret
      exact ⟨by simp, hL.below⟩
     ·have t2 : decide ((d.links.length : Int) > 40) = false := (by first | (simp; done) | (simp; omega))
      have HS2 := kD (HK.out d HDK.out ⟨HBP.out rfl, by omega, by omega⟩)
      go_wp2_with (first | ((with_reducible refine qA rfl rfl ?_ ?_); (exact wz rfl rfl rfl (by with_reducible rfl)); (refine lD (wz rfl rfl rfl rfl) hL rfl rfl vM (by rfl) ?_)))
      go_roundw
      case rel => exact ⟨k + 1, by omega, by go_num, HS2, hL.sub (List.nil_sublist _)⟩
      case measure => simp [intOf]; omega
  ·obtain rfl : k = ss.length := by omega
   go_wp2_with fail
   go_ret
   refine ⟨⟨true, rfl, fun _ d hd => ?_⟩, hL.below⟩
   obtain ⟨j, hj, rfl⟩ := List.mem_iff_getElem.1 hd
   exact HS.out j hj (by have := HLN.out; omega)
theorem join_nodes_len (ds dt : StaD) : (ds.join dt).nodes.length ≤ ds.nodes.length + dt.nodes.length := by
 show ((nodesD (ds.nodes ++ dt.nodes)).map InoD.norm).length ≤ _
 rw [List.length_map, ← List.length_append]; exact nodes_len _
theorem join_links_len (ds dt : StaD) : (ds.join dt).links.length ≤ ds.links.length + dt.links.length := by
 show (linksD (ds.links ++ dt.links)).length ≤ _
 rw [← List.length_append]; exact links_len _
structure StaD.Fit (B N : Nat) (d : StaD) : Prop where
 nodes : d.nodes.length ≤ N
 links : d.links.length ≤ N
 each : ∀ n ∈ d.nodes, n.ps.length ≤ B ∧ n.xs.length ≤ B
theorem StaD.small.fit {d : StaD} (h : d.small) : d.Fit 120 40 := ⟨h.nodes, h.links, fun n hn => ⟨h.plain.ps n hn, h.plain.xs n hn⟩⟩
theorem StaD.Fit.mono {B N B' N' : Nat} {d : StaD} (h : d.Fit B N) (hB : B ≤ B') (hN : N ≤ N') : d.Fit B' N' := ⟨Nat.le_trans h.nodes hN, Nat.le_trans h.links hN, fun n hn => ⟨Nat.le_trans (h.each n hn).1 hB, Nat.le_trans (h.each n hn).2 hB⟩⟩
theorem two_ok {w : World} {s t : Sta} {a b : StaD} (h1 : s.Ok w a) (h2 : t.Ok w b) : ∀ i (p : i < [s, t].length) (q : i < [a, b].length), [s, t][i].Ok w [a, b][i]
 | 0, _, _ => h1
 | 1, _, _ => h2
 | i + 2, p, _ => by simp at p; omega
end Go.Proofs.YtebpacmhdkgfeaaGreat

namespace Go.Proofs.YtebpacmhdkgfeaaGreat
open Go.RowKit
set_option maxHeartbeats 8000000
set_option maxRecDepth 20000
theorem any_hd {w : World} {ns : List Nd} {ds : List InoD} (id : Mk) (h : ∀ n ∈ ns, n.s.Ok w n.d) (hd : ns.map (·.d) = ds) : ns.any (fun n => decide (n.s.hd.id = id)) = ds.any (fun n => decide (n.hd.id = id)) := by
 subst hd
 rw [List.any_map, Bool.eq_iff_iff, List.any_eq_true, List.any_eq_true]
 constructor
 ·rintro ⟨n, hn, h1⟩; exact ⟨n, hn, by simpa [(h n hn).hd] using h1⟩
 ·rintro ⟨n, hn, h1⟩; exact ⟨n, hn, by simpa [(h n hn).hd] using h1⟩
theorem missN_ok (s : Sta) (d : StaD) (id : Mk) (w : World) (h : s.Ok w d) :
  Calls Tryz.prog 44 #[.agg (Sta.cells s).toArray, .slice s.nodes.a s.nodes.n s.nodes.c, .agg #[.int .i64 id.boot, .int .i64 id.n], .func (.func 45) #[] #[]] w fun e w' => e = .returned (.bool (d.lostN id)) ∧ Below w.heap.size w w' := by
 obtain ⟨ns, h1, h2, h3⟩ := h.nodes
 have := missN s d ns id w h.seen h1
 rw [any_hd id h2 h3] at this
 exact this
theorem missK_ok (s : Sta) (d : StaD) (id : Mk) (w : World) (h : s.Ok w d) :
  Calls Tryz.prog 48 #[.agg (Sta.cells s).toArray, .slice s.links.a s.links.n s.links.c, .agg #[.int .i64 id.boot, .int .i64 id.n], .func (.func 49) #[] #[]] w fun e w' => e = .returned (.bool (d.lostK id)) ∧ Below w.heap.size w w' :=
 missK s d d.links id w h.seen h.links
section
variable {P : Program} {ops : Array Oper} {rest : List Oper} {o : Oper} {a : Act} {Q : Exit → Act → World → Prop} {W : World}
theorem ev_loadOldG {ty : TypeId} {x : Operand} {n g j : Nat} {cs vs : List Value} {t : TypeId} [ha : AggT P ty] [hn : SizeT P ty n] (hw : Region.wanted o (yielded ops a.tmps) = true) (hB : Box W g cs.toArray t) (ho : o.op = .load ty x) (hx : a.eval x = .pointer (some ⟨g, j, none⟩))
  (hs : Seg cs j n vs) (h : wpList P ops Q rest (a.put o.dst (.agg vs.toArray)) W) : wpList P ops Q (o :: rest) a W := by
 obtain ⟨d, hu, hd⟩ := isRow_of ha.agg
 refine eventG hw (v := .agg vs.toArray) (w1 := W) ?_ h
 unfold execOp
 simp only [ho, hx, Instr.loadAt, Instr.sureAddr, Sem.run_bind, Sem.run_pure, Result.andThen_ok, run_loadVar_mid W g j ty vs d (range_of_box hB hs) hu hd (by rw [hs.len]; exact hn.size)]
end
theorem filter_snoc {α : Type} (p : α → Bool) (xs : List α) (j : Nat) (h : j < xs.length) : (xs.take (j + 1)).filter p = (xs.take j).filter p ++ if p xs[j] = true then [xs[j]] else [] := by
 rw [← List.take_append_getElem h, List.filter_append]
 congr 1
 simp only [List.filter_cons, List.filter_nil]
theorem mrgN_1 (x : Nd) (s t : Sta) (ds dt : StaD) (g2 g3 : Nat) (w : World) (h2 : Box w g2 (Sta.cells s).toArray 27) (h3 : Box w g3 (Sta.cells t).toArray 27) (hs : s.Ok w ds) (ht : t.Ok w dt) :
  Calls Tryz.prog 43 #[.agg (encN.cells x).toArray, .pointer (some ⟨g2, 0, none⟩), .pointer (some ⟨g3, 0, none⟩)] w fun e w' => e = .returned (.bool (ds.lostN x.s.hd.id || dt.lostN x.s.hd.id)) ∧ Below w.heap.size w w' := by
 have hL := Loc.nil w NoM
 obtain ⟨sv, ⟨a1, n1, f1⟩, ⟨a2, n2, f2⟩⟩ := s
 obtain ⟨tv, ⟨b1, m1, e1⟩, ⟨b2, m2, e2⟩⟩ := t
 have HS := kD hs; have HT := kD ht
 clear hs ht
 unfold Sta.cells at h2 h3
 simp only at h2 h3
 obtain ⟨r1, hr1⟩ : ∃ r, ds.lostN x.s.hd.id = r := ⟨_, rfl⟩
 obtain ⟨r2, hr2⟩ : ∃ r, dt.lostN x.s.hd.id = r := ⟨_, rfl⟩
 have HR1 := kD hr1; have HR2 := kD hr2
 rw [hr1, hr2]
 clear hr1 hr2
 show Calls _ _ #[.agg (Ino.cells x.s).toArray, _, _] w _
 unfold Ino.cells
 cases r1
 ·go_enter Tryz.func43, Tryz.ntmps43
  go_wp2_with (first
   | ((with_reducible refine gate (N := 3) rfl ?_); (refine lJ rfl hL rfl rfl (cells_agg _ rfl) ?_; clear hL; intro g9 w9 hL))
   | ((with_reducible refine qB rfl rfl ?_); (first | (refine ev_loadB1 rfl (Loc.old hL h2 not_noM) rfl rfl (by rfl) ?_) | (refine ev_loadBA rfl (Loc.old hL h2 not_noM) rfl rfl (by repeat (first | exact .nil _ | with_reducible apply Seg.take | with_reducible apply Seg.skip)) ?_))) | ((with_reducible refine qA rfl rfl ?_ ?_); (exact wz rfl rfl rfl (by with_reducible rfl)); (refine ev_loadB1G (wz rfl rfl rfl rfl) (Loc.old hL h2 not_noM) rfl rfl (by rfl) ?_)) | ((with_reducible refine qB rfl rfl ?_); (first | (refine ev_loadB1 rfl (Loc.old hL h3 not_noM) rfl rfl (by rfl) ?_) | (refine ev_loadBA rfl (Loc.old hL h3 not_noM) rfl rfl (by repeat (first | exact .nil _ | with_reducible apply Seg.take | with_reducible apply Seg.skip)) ?_))) | ((with_reducible refine qA rfl rfl ?_ ?_); (exact wz rfl rfl rfl (by with_reducible rfl)); (refine ev_loadB1G (wz rfl rfl rfl rfl) (Loc.old hL h3 not_noM) rfl rfl (by rfl) ?_)) | ((with_reducible refine qA rfl rfl ?_ ?_); (exact wz rfl rfl rfl (by with_reducible rfl)); (refine ev_loadOldG (wz rfl rfl rfl rfl) (Loc.old hL h3 not_noM) rfl rfl (by repeat (first | exact .nil _ | with_reducible apply Seg.take | with_reducible apply Seg.skip)) ?_))
   | (go_at_call 44; have hq := missN_ok ⟨sv, ⟨a1, n1, f1⟩, ⟨a2, n2, f2⟩⟩ ds x.s.hd.id _ (HS.out.below hL.below); rw [HR1.out] at hq; (refine hq.mono ?_); rintro e w5 ⟨rfl, hb5⟩; clear hq; have hL := hL.call hb5; clear hb5; clear HR1)
   | (go_at_call 44; have hq := missN_ok ⟨tv, ⟨b1, m1, e1⟩, ⟨b2, m2, e2⟩⟩ dt x.s.hd.id _ (HT.out.below hL.below); rw [HR2.out] at hq; (refine hq.mono ?_); rintro e w5 ⟨rfl, hb5⟩; clear hq; have hL := hL.call hb5; clear hb5; clear HR2)
   | ((with_reducible refine qB rfl rfl ?_); (refine lF rfl hL rfl rfl vM SegC.seg ?_)) | ((with_reducible refine qA rfl rfl ?_ ?_); (exact wz rfl rfl rfl (by with_reducible rfl)); (refine lE (wz rfl rfl rfl rfl) hL rfl rfl vM SegC.seg ?_)))
  go_ret
  exact ⟨rfl, hL.below⟩
 ·go_enter Tryz.func43, Tryz.ntmps43
  go_wp2_with (first
   | ((with_reducible refine gate (N := 3) rfl ?_); (refine lJ rfl hL rfl rfl (cells_agg _ rfl) ?_; clear hL; intro g9 w9 hL))
   | ((with_reducible refine qB rfl rfl ?_); (first | (refine ev_loadB1 rfl (Loc.old hL h2 not_noM) rfl rfl (by rfl) ?_) | (refine ev_loadBA rfl (Loc.old hL h2 not_noM) rfl rfl (by repeat (first | exact .nil _ | with_reducible apply Seg.take | with_reducible apply Seg.skip)) ?_))) | ((with_reducible refine qA rfl rfl ?_ ?_); (exact wz rfl rfl rfl (by with_reducible rfl)); (refine ev_loadB1G (wz rfl rfl rfl rfl) (Loc.old hL h2 not_noM) rfl rfl (by rfl) ?_)) | ((with_reducible refine qB rfl rfl ?_); (first | (refine ev_loadB1 rfl (Loc.old hL h3 not_noM) rfl rfl (by rfl) ?_) | (refine ev_loadBA rfl (Loc.old hL h3 not_noM) rfl rfl (by repeat (first | exact .nil _ | with_reducible apply Seg.take | with_reducible apply Seg.skip)) ?_))) | ((with_reducible refine qA rfl rfl ?_ ?_); (exact wz rfl rfl rfl (by with_reducible rfl)); (refine ev_loadB1G (wz rfl rfl rfl rfl) (Loc.old hL h3 not_noM) rfl rfl (by rfl) ?_)) | ((with_reducible refine qA rfl rfl ?_ ?_); (exact wz rfl rfl rfl (by with_reducible rfl)); (refine ev_loadOldG (wz rfl rfl rfl rfl) (Loc.old hL h3 not_noM) rfl rfl (by repeat (first | exact .nil _ | with_reducible apply Seg.take | with_reducible apply Seg.skip)) ?_))
   | (go_at_call 44; have hq := missN_ok ⟨sv, ⟨a1, n1, f1⟩, ⟨a2, n2, f2⟩⟩ ds x.s.hd.id _ (HS.out.below hL.below); rw [HR1.out] at hq; (refine hq.mono ?_); rintro e w5 ⟨rfl, hb5⟩; clear hq; have hL := hL.call hb5; clear hb5; clear HR1)
   | ((with_reducible refine qB rfl rfl ?_); (refine lF rfl hL rfl rfl vM SegC.seg ?_)))
  go_ret
  exact ⟨rfl, hL.below⟩
set_option maxHeartbeats 4000000 in
theorem mrgN_index (v : Value) (xs : List Nd) (p : Nd → Bool) (c1 c2 : Value) (w : World) (h : encN.R w v xs)
  (hp : ∀ x ∈ xs, ∀ w', Below w.heap.size w w' → Calls Tryz.prog 43 #[.agg (encN.cells x).toArray, c1, c2] w' fun e w'' => e = .returned (.bool (p x)) ∧ Below w'.heap.size w' w'') :
  Calls Tryz.prog 105 #[v, .func (.func 43) #[] #[c1, c2]] w fun e w' => (∃ i : Int, e = .returned (.int .i64 i) ∧ ((i = -1 ∧ ∀ x ∈ xs, p x = false) ∨ ∃ (k : Nat) (hk : k < xs.length), i = (k : Int) ∧ p xs[k] = true ∧ ∀ x ∈ xs.take k, p x = false)) ∧ Below w.heap.size w w' := by
 have hL := Loc.nil w NoM
 have hmx := R_max h
 obtain ⟨ao, c, rfl, hel⟩ := R_elem h
 have HP := kD hp
 clear hp h
 go_enter Tryz.func105, Tryz.ntmps105
 go_wp2_with fail
 have HN : Hid (∀ x ∈ xs.take 0, p x = false) := kD (by simp)
 go_loopw [8] (fun i wr => ∃ k : Nat, k ≤ xs.length ∧ i = .int .i64 k ∧ Hid (∀ x ∈ xs.take k, p x = false) ∧ Loc w NoM wr []) (fun i _ => xs.length - (intOf i).toNat)
 case atStart => exact ⟨0, by omega, rfl, HN, hL⟩
 case round =>
  clear hL HN
  obtain ⟨k, hk, rfl, HN, hL⟩ := hrel
  by_cases hlt : k < xs.length
  ·obtain ⟨g, off, rfl, hr⟩ := hel k hlt
   have hrW : World.rangeAt _ g (off + k * 13) (encN.cells xs[k]) := range_below hr hL.below
   clear hr
   have hx := kD (HP.out _ (List.getElem_mem hlt))
   have HT := kD (show xs.take (k + 1) = xs.take k ++ [xs[k]] from (List.take_append_getElem hlt).symm)
   have HI := kD (fun (h : p xs[k] = true) => (⟨k, hlt, rfl, h, HN.out⟩ : ∃ (k9 : Nat) (hk : k9 < xs.length), (k : Int) = (k9 : Int) ∧ p xs[k9] = true ∧ ∀ x ∈ xs.take k9, p x = false))
   cases hpx : p xs[k]
   ·have HPX := kD hpx
    rw [hpx] at hx
    clear hpx HI
    generalize xs[k] = x at *
    go_wp2_with (first
     | ((with_reducible refine qF rfl rfl ?_); refine lL rfl rfl rfl rfl hlt ?_) | ((with_reducible refine gate (N := 15) rfl ?_); refine lK rfl rfl rfl hrW (by rfl) ?_)
     | (go_at_call 43; (with_reducible refine (hx.out _ hL.below).mono ?_); rintro e w3 ⟨rfl, hb3⟩; have hL := hL.call hb3; clear hb3))
    go_roundw
    case rel => exact ⟨k + 1, by omega, by go_num, kD (by rw [HT.out]; intro y hy; rcases List.mem_append.1 hy with hy | hy; exact HN.out y hy; rw [List.mem_singleton.1 hy]; exact HPX.out), hL⟩
    case measure => simp [intOf]; omega
   ·have HJ := kD (HI.out hpx)
    rw [hpx] at hx
    clear hpx HI HT
    go_wp2_with (first
     | ((with_reducible refine qF rfl rfl ?_); refine lL rfl rfl rfl rfl hlt ?_) | ((with_reducible refine gate (N := 15) rfl ?_); refine lK rfl rfl rfl hrW (by rfl) ?_)
     | (go_at_call 43; (with_reducible refine (hx.out _ hL.below).mono ?_); rintro e w3 ⟨rfl, hb3⟩; have hL := hL.call hb3; clear hb3))
    go_ret
    exact ⟨⟨(k : Int), rfl, .inr HJ.out⟩, hL.below⟩
  ·obtain rfl : k = xs.length := by omega
   go_wp2
   go_ret
   exact ⟨⟨-1, rfl, .inl ⟨rfl, fun x hx => HN.out x (by rw [List.take_length]; exact hx)⟩⟩, hL.below⟩
theorem mrgN_delete (w0 w : World) (l : List Item) (base : Nat) (ao : Option Addr) (c : Nat) (xs : List Nd) (p : Nd → Bool) (c1 c2 : Value) (hL : Loc w0 NoM w (row encN base 58 (.slice ao xs.length c) xs :: l))
  (hp : ∀ x ∈ xs, ∀ wx, Loc w0 NoM wx l → Calls Tryz.prog 43 #[.agg (encN.cells x).toArray, c1, c2] wx fun e w' => e = .returned (.bool (p x)) ∧ Below wx.heap.size wx w') :
  Calls Tryz.prog 42 #[.slice ao xs.length c, .func (.func 43) #[] #[c1, c2]] w fun e w' => ∃ v', e = .returned v' ∧ Loc w0 NoM w' (row encN base 58 v' (xs.filter fun x => !p x) :: l) := by
 have hmx := R_max (hL.own (.head _)).read
 have hq := kD (mrgN_index (.slice ao xs.length c) xs p c1 c2 w (hL.own (.head _)).read (fun x hx w' hb => hp x hx w' ((hL.call hb).drop)))
 have HP := kD hp
 clear hp
 go_enter Tryz.func42, Tryz.ntmps42
 go_wp2_with (first
  | (go_at_call 105; (with_reducible refine hq.out.mono ?_); rintro e w3 ⟨⟨i, rfl, hi⟩, hb3⟩; have hL := hL.call hb3; clear hb3; refine stop ?_))
 unfold Stop
 clear hq
 rcases hi with ⟨rfl, hall⟩ | ⟨k, hk, rfl, hpk, hpre⟩
 ·have HF : Hid ((xs.filter fun x => !p x) = xs) := kD (List.filter_eq_self.2 fun x hx => by simp [hall x hx])
  clear hall
  go_wp2_with fail
  go_ret
  exact ⟨_, rfl, by rw [HF.out]; exact hL⟩
 ·have hne : ((k : Int) == -1) = false := (by first | (simp; done) | (simp; omega))
  have HS : Hid (xs.take k = (xs.take (k + 1)).filter fun x => !p x) := kD (by
   rw [filter_snoc _ _ _ hk, hpk, List.filter_eq_self.2 fun x hx => by simp [hpre x hx]]; simp)
  rcases own_casesM hL (.head _) with ⟨u1, u2⟩ | ⟨go, c3, u1, hcc, hcm, hgo⟩
  ·rw [u2] at hk; exact absurd hk (by simp)
  injection u1 with u1 u2 u3
  subst u1 u3
  clear u2 hpk hpre hgo
  go_wp2_with fail
  go_loopw [5, 6] (fun u v wr => ∃ (i j : Nat) (ys : List Nd), i < j ∧ j ≤ xs.length ∧ u = .int .i64 (i : Int) ∧ v = .int .i64 (j : Int) ∧ Hid (ys.length = xs.length ∧ ys.take i = ((xs.take j).filter fun x => !p x) ∧ ys.drop j = xs.drop j) ∧ Loc w0 NoM wr (row encN base 58 (.slice (some ⟨go, 0, none⟩) xs.length c) ys :: l)) (fun _ v _ => xs.length - (intOf v).toNat)
  case atStart => exact ⟨k, k + 1, xs, by omega, by omega, rfl, by go_num, kD ⟨rfl, HS.out, rfl⟩, hL⟩
  case round =>
   clear hL hne hk
   obtain ⟨i, j, ys, hij, hj, rfl, rfl, HY, hL⟩ := hrel
   by_cases hlt : j < xs.length
   ·have hylt : j < ys.length := by have := HY.out.1; omega
    have hyj : ys[j]? = some xs[j] := by
     have h1 := congrArg (fun l : List Nd => l[0]?) HY.out.2.2
     simp only [List.getElem?_drop, Nat.add_zero] at h1
     rw [h1, List.getElem?_eq_getElem hlt]
    have hz : wr.rangeAt go (0 + j * 13) (encN.cells xs[j]) := by
     have := row_range (hL.own (.head _)) hyj
     rwa [show j * encN.sz = 0 + j * 13 from by show j * 13 = _; omega] at this
    have hx := kD (HP.out _ (List.getElem_mem hlt))
    have HFS := kD (filter_snoc (fun x => !p x) xs j hlt)
    have HD : Hid (ys.drop (j + 1) = xs.drop (j + 1)) := kD (by rw [← List.drop_drop (i := 1) (j := j), ← List.drop_drop (i := 1) (j := j), HY.out.2.2])
    have hil : i < ys.length := by omega
    clear hyj
    cases hpx : p xs[j]
    ·have HPX := kD hpx
     rw [hpx] at hx HFS
     generalize xs[j] = x at *
     have HY2 : Hid ((ys.set i x).length = xs.length ∧ (ys.set i x).take (i + 1) = ((xs.take (j + 1)).filter fun x => !p x) ∧ (ys.set i x).drop (j + 1) = xs.drop (j + 1)) := kD ⟨by rw [List.length_set]; exact HY.out.1, by
      rw [HFS.out, ← HY.out.2.1, List.take_set, List.take_add_one, List.getElem?_eq_getElem hil]
      simp only [Option.toList_some, Bool.not_false, if_true]
      rw [List.set_append_right _ _ (by rw [List.length_take]; omega)]
      have : i - (ys.take i).length = 0 := by rw [List.length_take]; omega
      rw [this]; rfl, by rw [List.drop_set, if_pos (by omega)]; exact HD.out⟩
     clear hpx HPX HFS HD
     go_wp2_with (first
      | ((with_reducible refine gate (N := 24) rfl ?_); refine lL rfl rfl rfl rfl hlt ?_)
      | ((with_reducible refine gate (N := 33) rfl ?_); refine lL rfl rfl rfl rfl (by omega) ?_)
      | ((with_reducible refine gate (N := 25) rfl ?_); refine lK rfl rfl rfl hz (by rfl) ?_)
      | ((with_reducible refine gate (N := 7) rfl ?_); (refine lI rfl hL rfl cy ?_; clear hL; intro g7 w7 hL))
      | (go_at_call 43; (with_reducible refine (hx.out _ (hL.drop).drop).mono ?_); rintro e w3 ⟨rfl, hb3⟩; have hL := hL.call hb3; clear hb3)
      | ((with_reducible refine qC rfl rfl ?_); refine ev_setRow (E := encN) i x rfl hL rfl rfl (by show 0 + i * 13 = i * 13; omega) rfl (cells_agg _ rfl) hil (.there _ (.here _)) ?_; clear hL; intro wq hL)
      | ((with_reducible refine qB rfl rfl ?_); (refine lA rfl hL rfl rfl vM (by rfl) ?_)) | ((with_reducible refine qC rfl rfl ?_); (refine lG rfl hL rfl rfl rfl cy (by rfl) (by rfl) ?_); clear hL; intro wq hL))
     go_roundw
     case rel => exact ⟨i + 1, j + 1, ys.set i x, by omega, by omega, by go_num, by go_num, HY2, hL.drop⟩
     case measure => simp [intOf]; omega
    ·rw [hpx] at hx HFS
     generalize xs[j] = x at *
     have HY2 : Hid (ys.length = xs.length ∧ ys.take i = ((xs.take (j + 1)).filter fun x => !p x) ∧ ys.drop (j + 1) = xs.drop (j + 1)) := kD ⟨HY.out.1, by rw [HFS.out, HY.out.2.1]; simp, HD.out⟩
     clear hpx HFS HD
     go_wp2_with (first
      | ((with_reducible refine gate (N := 24) rfl ?_); refine lL rfl rfl rfl rfl hlt ?_)
      | ((with_reducible refine gate (N := 25) rfl ?_); refine lK rfl rfl rfl hz (by rfl) ?_)
      | ((with_reducible refine gate (N := 7) rfl ?_); (refine lI rfl hL rfl cy ?_; clear hL; intro g7 w7 hL))
      | (go_at_call 43; (with_reducible refine (hx.out _ (hL.drop).drop).mono ?_); rintro e w3 ⟨rfl, hb3⟩; have hL := hL.call hb3; clear hb3)
      | ((with_reducible refine qB rfl rfl ?_); (refine lA rfl hL rfl rfl vM (by rfl) ?_)) | ((with_reducible refine qC rfl rfl ?_); (refine lG rfl hL rfl rfl rfl cy (by rfl) (by rfl) ?_); clear hL; intro wq hL))
     go_roundw
     case rel => exact ⟨i, j + 1, ys, by omega, by omega, by go_num, by go_num, HY2, hL.drop⟩
     case measure => simp [intOf]; omega
   ·obtain rfl : j = xs.length := by omega
    have hs3 : (i : Int) ≤ (xs.length : Int) := by omega
    have hs4 : (i : Int) ≤ (c : Int) := by omega
    have hmn : i ≤ xs.length := by omega
    have HLN : Hid (xs.length = ys.length) := kD HY.out.1.symm
    have HEND : Hid (ys.take i = (xs.filter fun x => !p x)) := kD (by have := HY.out.2.1; rwa [List.take_length] at this)
    go_wp2_with (first
     | ((with_reducible refine gate0 rfl ?_); refine ev_clearRow (E := encN) (k := i) rfl hL rfl rfl (by show i * 13 = i * 13; rfl) rfl rfl (by rfl) (ones_of rfl) HLN.out hmn (.here _) ?_; clear hL; intro wq hL))
    go_ret
    exact ⟨_, rfl, by rw [← HEND.out]; exact hL⟩
theorem mrgK_1 (x : Lnk) (s t : Sta) (ds dt : StaD) (g2 g3 : Nat) (w : World) (h2 : Box w g2 (Sta.cells s).toArray 27) (h3 : Box w g3 (Sta.cells t).toArray 27) (hs : s.Ok w ds) (ht : t.Ok w dt) :
  Calls Tryz.prog 47 #[.agg (encK.cells x).toArray, .pointer (some ⟨g2, 0, none⟩), .pointer (some ⟨g3, 0, none⟩)] w fun e w' => e = .returned (.bool (ds.lostK x.id || dt.lostK x.id)) ∧ Below w.heap.size w w' := by
 have hL := Loc.nil w NoM
 obtain ⟨sv, ⟨a1, n1, f1⟩, ⟨a2, n2, f2⟩⟩ := s
 obtain ⟨tv, ⟨b1, m1, e1⟩, ⟨b2, m2, e2⟩⟩ := t
 have HS := kD hs; have HT := kD ht
 clear hs ht
 unfold Sta.cells at h2 h3
 simp only at h2 h3
 obtain ⟨r1, hr1⟩ : ∃ r, ds.lostK x.id = r := ⟨_, rfl⟩
 obtain ⟨r2, hr2⟩ : ∃ r, dt.lostK x.id = r := ⟨_, rfl⟩
 have HR1 := kD hr1; have HR2 := kD hr2
 rw [hr1, hr2]
 clear hr1 hr2
 show Calls _ _ #[.agg (Lnk.cells x).toArray, _, _] w _
 unfold Lnk.cells
 cases r1
 ·go_enter Tryz.func47, Tryz.ntmps47
  go_wp2_with (first
   | ((with_reducible refine gate (N := 3) rfl ?_); (refine lJ rfl hL rfl rfl (cells_agg _ rfl) ?_; clear hL; intro g9 w9 hL))
   | ((with_reducible refine qB rfl rfl ?_); (first | (refine ev_loadB1 rfl (Loc.old hL h2 not_noM) rfl rfl (by rfl) ?_) | (refine ev_loadBA rfl (Loc.old hL h2 not_noM) rfl rfl (by repeat (first | exact .nil _ | with_reducible apply Seg.take | with_reducible apply Seg.skip)) ?_))) | ((with_reducible refine qA rfl rfl ?_ ?_); (exact wz rfl rfl rfl (by with_reducible rfl)); (refine ev_loadB1G (wz rfl rfl rfl rfl) (Loc.old hL h2 not_noM) rfl rfl (by rfl) ?_)) | ((with_reducible refine qB rfl rfl ?_); (first | (refine ev_loadB1 rfl (Loc.old hL h3 not_noM) rfl rfl (by rfl) ?_) | (refine ev_loadBA rfl (Loc.old hL h3 not_noM) rfl rfl (by repeat (first | exact .nil _ | with_reducible apply Seg.take | with_reducible apply Seg.skip)) ?_))) | ((with_reducible refine qA rfl rfl ?_ ?_); (exact wz rfl rfl rfl (by with_reducible rfl)); (refine ev_loadB1G (wz rfl rfl rfl rfl) (Loc.old hL h3 not_noM) rfl rfl (by rfl) ?_)) | ((with_reducible refine qA rfl rfl ?_ ?_); (exact wz rfl rfl rfl (by with_reducible rfl)); (refine ev_loadOldG (wz rfl rfl rfl rfl) (Loc.old hL h3 not_noM) rfl rfl (by repeat (first | exact .nil _ | with_reducible apply Seg.take | with_reducible apply Seg.skip)) ?_))
   | (go_at_call 48; have hq := missK_ok ⟨sv, ⟨a1, n1, f1⟩, ⟨a2, n2, f2⟩⟩ ds x.id _ (HS.out.below hL.below); rw [HR1.out] at hq; (refine hq.mono ?_); rintro e w5 ⟨rfl, hb5⟩; clear hq; have hL := hL.call hb5; clear hb5; clear HR1)
   | (go_at_call 48; have hq := missK_ok ⟨tv, ⟨b1, m1, e1⟩, ⟨b2, m2, e2⟩⟩ dt x.id _ (HT.out.below hL.below); rw [HR2.out] at hq; (refine hq.mono ?_); rintro e w5 ⟨rfl, hb5⟩; clear hq; have hL := hL.call hb5; clear hb5; clear HR2)
   | ((with_reducible refine qB rfl rfl ?_); (refine lF rfl hL rfl rfl vM SegC.seg ?_)) | ((with_reducible refine qA rfl rfl ?_ ?_); (exact wz rfl rfl rfl (by with_reducible rfl)); (refine lE (wz rfl rfl rfl rfl) hL rfl rfl vM SegC.seg ?_)))
  go_ret
  exact ⟨rfl, hL.below⟩
 ·go_enter Tryz.func47, Tryz.ntmps47
  go_wp2_with (first
   | ((with_reducible refine gate (N := 3) rfl ?_); (refine lJ rfl hL rfl rfl (cells_agg _ rfl) ?_; clear hL; intro g9 w9 hL))
   | ((with_reducible refine qB rfl rfl ?_); (first | (refine ev_loadB1 rfl (Loc.old hL h2 not_noM) rfl rfl (by rfl) ?_) | (refine ev_loadBA rfl (Loc.old hL h2 not_noM) rfl rfl (by repeat (first | exact .nil _ | with_reducible apply Seg.take | with_reducible apply Seg.skip)) ?_))) | ((with_reducible refine qA rfl rfl ?_ ?_); (exact wz rfl rfl rfl (by with_reducible rfl)); (refine ev_loadB1G (wz rfl rfl rfl rfl) (Loc.old hL h2 not_noM) rfl rfl (by rfl) ?_)) | ((with_reducible refine qB rfl rfl ?_); (first | (refine ev_loadB1 rfl (Loc.old hL h3 not_noM) rfl rfl (by rfl) ?_) | (refine ev_loadBA rfl (Loc.old hL h3 not_noM) rfl rfl (by repeat (first | exact .nil _ | with_reducible apply Seg.take | with_reducible apply Seg.skip)) ?_))) | ((with_reducible refine qA rfl rfl ?_ ?_); (exact wz rfl rfl rfl (by with_reducible rfl)); (refine ev_loadB1G (wz rfl rfl rfl rfl) (Loc.old hL h3 not_noM) rfl rfl (by rfl) ?_)) | ((with_reducible refine qA rfl rfl ?_ ?_); (exact wz rfl rfl rfl (by with_reducible rfl)); (refine ev_loadOldG (wz rfl rfl rfl rfl) (Loc.old hL h3 not_noM) rfl rfl (by repeat (first | exact .nil _ | with_reducible apply Seg.take | with_reducible apply Seg.skip)) ?_))
   | (go_at_call 48; have hq := missK_ok ⟨sv, ⟨a1, n1, f1⟩, ⟨a2, n2, f2⟩⟩ ds x.id _ (HS.out.below hL.below); rw [HR1.out] at hq; (refine hq.mono ?_); rintro e w5 ⟨rfl, hb5⟩; clear hq; have hL := hL.call hb5; clear hb5; clear HR1)
   | ((with_reducible refine qB rfl rfl ?_); (refine lF rfl hL rfl rfl vM SegC.seg ?_)))
  go_ret
  exact ⟨rfl, hL.below⟩
set_option maxHeartbeats 4000000 in
theorem mrgK_index (v : Value) (xs : List Lnk) (p : Lnk → Bool) (c1 c2 : Value) (w : World) (h : encK.R w v xs)
  (hp : ∀ x ∈ xs, ∀ w', Below w.heap.size w w' → Calls Tryz.prog 47 #[.agg (encK.cells x).toArray, c1, c2] w' fun e w'' => e = .returned (.bool (p x)) ∧ Below w'.heap.size w' w'') :
  Calls Tryz.prog 109 #[v, .func (.func 47) #[] #[c1, c2]] w fun e w' => (∃ i : Int, e = .returned (.int .i64 i) ∧ ((i = -1 ∧ ∀ x ∈ xs, p x = false) ∨ ∃ (k : Nat) (hk : k < xs.length), i = (k : Int) ∧ p xs[k] = true ∧ ∀ x ∈ xs.take k, p x = false)) ∧ Below w.heap.size w w' := by
 have hL := Loc.nil w NoM
 have hmx := R_max h
 obtain ⟨ao, c, rfl, hel⟩ := R_elem h
 have HP := kD hp
 clear hp h
 go_enter Tryz.func109, Tryz.ntmps109
 go_wp2_with fail
 have HN : Hid (∀ x ∈ xs.take 0, p x = false) := kD (by simp)
 go_loopw [8] (fun i wr => ∃ k : Nat, k ≤ xs.length ∧ i = .int .i64 k ∧ Hid (∀ x ∈ xs.take k, p x = false) ∧ Loc w NoM wr []) (fun i _ => xs.length - (intOf i).toNat)
 case atStart => exact ⟨0, by omega, rfl, HN, hL⟩
 case round =>
  clear hL HN
  obtain ⟨k, hk, rfl, HN, hL⟩ := hrel
  by_cases hlt : k < xs.length
  ·obtain ⟨g, off, rfl, hr⟩ := hel k hlt
   have hrW : World.rangeAt _ g (off + k * 25) (encK.cells xs[k]) := range_below hr hL.below
   clear hr
   have hx := kD (HP.out _ (List.getElem_mem hlt))
   have HT := kD (show xs.take (k + 1) = xs.take k ++ [xs[k]] from (List.take_append_getElem hlt).symm)
   have HI := kD (fun (h : p xs[k] = true) => (⟨k, hlt, rfl, h, HN.out⟩ : ∃ (k9 : Nat) (hk : k9 < xs.length), (k : Int) = (k9 : Int) ∧ p xs[k9] = true ∧ ∀ x ∈ xs.take k9, p x = false))
   cases hpx : p xs[k]
   ·have HPX := kD hpx
    rw [hpx] at hx
    clear hpx HI
    generalize xs[k] = x at *
    go_wp2_with (first
     | ((with_reducible refine qF rfl rfl ?_); refine lL rfl rfl rfl rfl hlt ?_) | ((with_reducible refine gate (N := 15) rfl ?_); refine lK rfl rfl rfl hrW (by rfl) ?_)
     | (go_at_call 47; (with_reducible refine (hx.out _ hL.below).mono ?_); rintro e w3 ⟨rfl, hb3⟩; have hL := hL.call hb3; clear hb3))
    go_roundw
    case rel => exact ⟨k + 1, by omega, by go_num, kD (by rw [HT.out]; intro y hy; rcases List.mem_append.1 hy with hy | hy; exact HN.out y hy; rw [List.mem_singleton.1 hy]; exact HPX.out), hL⟩
    case measure => simp [intOf]; omega
   ·have HJ := kD (HI.out hpx)
    rw [hpx] at hx
    clear hpx HI HT
    go_wp2_with (first
     | ((with_reducible refine qF rfl rfl ?_); refine lL rfl rfl rfl rfl hlt ?_) | ((with_reducible refine gate (N := 15) rfl ?_); refine lK rfl rfl rfl hrW (by rfl) ?_)
     | (go_at_call 47; (with_reducible refine (hx.out _ hL.below).mono ?_); rintro e w3 ⟨rfl, hb3⟩; have hL := hL.call hb3; clear hb3))
    go_ret
    exact ⟨⟨(k : Int), rfl, .inr HJ.out⟩, hL.below⟩
  ·obtain rfl : k = xs.length := by omega
   go_wp2
   go_ret
   exact ⟨⟨-1, rfl, .inl ⟨rfl, fun x hx => HN.out x (by rw [List.take_length]; exact hx)⟩⟩, hL.below⟩
theorem mrgK_delete (w0 w : World) (l : List Item) (base : Nat) (ao : Option Addr) (c : Nat) (xs : List Lnk) (p : Lnk → Bool) (c1 c2 : Value) (hL : Loc w0 NoM w (row encK base 46 (.slice ao xs.length c) xs :: l))
  (hp : ∀ x ∈ xs, ∀ wx, Loc w0 NoM wx l → Calls Tryz.prog 47 #[.agg (encK.cells x).toArray, c1, c2] wx fun e w' => e = .returned (.bool (p x)) ∧ Below wx.heap.size wx w') :
  Calls Tryz.prog 46 #[.slice ao xs.length c, .func (.func 47) #[] #[c1, c2]] w fun e w' => ∃ v', e = .returned v' ∧ Loc w0 NoM w' (row encK base 46 v' (xs.filter fun x => !p x) :: l) := by
 have hmx := R_max (hL.own (.head _)).read
 have hq := kD (mrgK_index (.slice ao xs.length c) xs p c1 c2 w (hL.own (.head _)).read (fun x hx w' hb => hp x hx w' ((hL.call hb).drop)))
 have HP := kD hp
 clear hp
 go_enter Tryz.func46, Tryz.ntmps46
 go_wp2_with (first
  | (go_at_call 109; (with_reducible refine hq.out.mono ?_); rintro e w3 ⟨⟨i, rfl, hi⟩, hb3⟩; have hL := hL.call hb3; clear hb3; refine stop ?_))
 unfold Stop
 clear hq
 rcases hi with ⟨rfl, hall⟩ | ⟨k, hk, rfl, hpk, hpre⟩
 ·have HF : Hid ((xs.filter fun x => !p x) = xs) := kD (List.filter_eq_self.2 fun x hx => by simp [hall x hx])
  clear hall
  go_wp2_with fail
  go_ret
  exact ⟨_, rfl, by rw [HF.out]; exact hL⟩
 ·have hne : ((k : Int) == -1) = false := (by first | (simp; done) | (simp; omega))
  have HS : Hid (xs.take k = (xs.take (k + 1)).filter fun x => !p x) := kD (by
   rw [filter_snoc _ _ _ hk, hpk, List.filter_eq_self.2 fun x hx => by simp [hpre x hx]]; simp)
  rcases own_casesM hL (.head _) with ⟨u1, u2⟩ | ⟨go, c3, u1, hcc, hcm, hgo⟩
  ·rw [u2] at hk; exact absurd hk (by simp)
  injection u1 with u1 u2 u3
  subst u1 u3
  clear u2 hpk hpre hgo
  go_wp2_with fail
  go_loopw [5, 6] (fun u v wr => ∃ (i j : Nat) (ys : List Lnk), i < j ∧ j ≤ xs.length ∧ u = .int .i64 (i : Int) ∧ v = .int .i64 (j : Int) ∧ Hid (ys.length = xs.length ∧ ys.take i = ((xs.take j).filter fun x => !p x) ∧ ys.drop j = xs.drop j) ∧ Loc w0 NoM wr (row encK base 46 (.slice (some ⟨go, 0, none⟩) xs.length c) ys :: l)) (fun _ v _ => xs.length - (intOf v).toNat)
  case atStart => exact ⟨k, k + 1, xs, by omega, by omega, rfl, by go_num, kD ⟨rfl, HS.out, rfl⟩, hL⟩
  case round =>
   clear hL hne hk
   obtain ⟨i, j, ys, hij, hj, rfl, rfl, HY, hL⟩ := hrel
   by_cases hlt : j < xs.length
   ·have hylt : j < ys.length := by have := HY.out.1; omega
    have hyj : ys[j]? = some xs[j] := by
     have h1 := congrArg (fun l : List Lnk => l[0]?) HY.out.2.2
     simp only [List.getElem?_drop, Nat.add_zero] at h1
     rw [h1, List.getElem?_eq_getElem hlt]
    have hz : wr.rangeAt go (0 + j * 25) (encK.cells xs[j]) := by
     have := row_range (hL.own (.head _)) hyj
     rwa [show j * encK.sz = 0 + j * 25 from by show j * 25 = _; omega] at this
    have hx := kD (HP.out _ (List.getElem_mem hlt))
    have HFS := kD (filter_snoc (fun x => !p x) xs j hlt)
    have HD : Hid (ys.drop (j + 1) = xs.drop (j + 1)) := kD (by rw [← List.drop_drop (i := 1) (j := j), ← List.drop_drop (i := 1) (j := j), HY.out.2.2])
    have hil : i < ys.length := by omega
    clear hyj
    cases hpx : p xs[j]
    ·have HPX := kD hpx
     rw [hpx] at hx HFS
     generalize xs[j] = x at *
     have HY2 : Hid ((ys.set i x).length = xs.length ∧ (ys.set i x).take (i + 1) = ((xs.take (j + 1)).filter fun x => !p x) ∧ (ys.set i x).drop (j + 1) = xs.drop (j + 1)) := kD ⟨by rw [List.length_set]; exact HY.out.1, by
      rw [HFS.out, ← HY.out.2.1, List.take_set, List.take_add_one, List.getElem?_eq_getElem hil]
      simp only [Option.toList_some, Bool.not_false, if_true]
      rw [List.set_append_right _ _ (by rw [List.length_take]; omega)]
      have : i - (ys.take i).length = 0 := by rw [List.length_take]; omega
      rw [this]; rfl, by rw [List.drop_set, if_pos (by omega)]; exact HD.out⟩
     clear hpx HPX HFS HD
     go_wp2_with (first
      | ((with_reducible refine gate (N := 24) rfl ?_); refine lL rfl rfl rfl rfl hlt ?_)
      | ((with_reducible refine gate (N := 33) rfl ?_); refine lL rfl rfl rfl rfl (by omega) ?_)
      | ((with_reducible refine gate (N := 25) rfl ?_); refine lK rfl rfl rfl hz (by rfl) ?_)
      | ((with_reducible refine gate (N := 7) rfl ?_); (refine lI rfl hL rfl cy ?_; clear hL; intro g7 w7 hL))
      | (go_at_call 47; (with_reducible refine (hx.out _ (hL.drop).drop).mono ?_); rintro e w3 ⟨rfl, hb3⟩; have hL := hL.call hb3; clear hb3)
      | ((with_reducible refine qC rfl rfl ?_); refine ev_setRow (E := encK) i x rfl hL rfl rfl (by show 0 + i * 25 = i * 25; omega) rfl (cells_agg _ rfl) hil (.there _ (.here _)) ?_; clear hL; intro wq hL)
      | ((with_reducible refine qB rfl rfl ?_); (refine lA rfl hL rfl rfl vM (by rfl) ?_)) | ((with_reducible refine qC rfl rfl ?_); (refine lG rfl hL rfl rfl rfl cy (by rfl) (by rfl) ?_); clear hL; intro wq hL))
     go_roundw
     case rel => exact ⟨i + 1, j + 1, ys.set i x, by omega, by omega, by go_num, by go_num, HY2, hL.drop⟩
     case measure => simp [intOf]; omega
    ·rw [hpx] at hx HFS
     generalize xs[j] = x at *
     have HY2 : Hid (ys.length = xs.length ∧ ys.take i = ((xs.take (j + 1)).filter fun x => !p x) ∧ ys.drop (j + 1) = xs.drop (j + 1)) := kD ⟨HY.out.1, by rw [HFS.out, HY.out.2.1]; simp, HD.out⟩
     clear hpx HFS HD
     go_wp2_with (first
      | ((with_reducible refine gate (N := 24) rfl ?_); refine lL rfl rfl rfl rfl hlt ?_)
      | ((with_reducible refine gate (N := 25) rfl ?_); refine lK rfl rfl rfl hz (by rfl) ?_)
      | ((with_reducible refine gate (N := 7) rfl ?_); (refine lI rfl hL rfl cy ?_; clear hL; intro g7 w7 hL))
      | (go_at_call 47; (with_reducible refine (hx.out _ (hL.drop).drop).mono ?_); rintro e w3 ⟨rfl, hb3⟩; have hL := hL.call hb3; clear hb3)
      | ((with_reducible refine qB rfl rfl ?_); (refine lA rfl hL rfl rfl vM (by rfl) ?_)) | ((with_reducible refine qC rfl rfl ?_); (refine lG rfl hL rfl rfl rfl cy (by rfl) (by rfl) ?_); clear hL; intro wq hL))
     go_roundw
     case rel => exact ⟨i, j + 1, ys, by omega, by omega, by go_num, by go_num, HY2, hL.drop⟩
     case measure => simp [intOf]; omega
   ·obtain rfl : j = xs.length := by omega
    have hs3 : (i : Int) ≤ (xs.length : Int) := by omega
    have hs4 : (i : Int) ≤ (c : Int) := by omega
    have hmn : i ≤ xs.length := by omega
    have HLN : Hid (xs.length = ys.length) := kD HY.out.1.symm
    have HEND : Hid (ys.take i = (xs.filter fun x => !p x)) := kD (by have := HY.out.2.1; rwa [List.take_length] at this)
    go_wp2_with (first
     | ((with_reducible refine gate0 rfl ?_); refine ev_clearRow (E := encK) (k := i) rfl hL rfl rfl (by show i * 25 = i * 25; rfl) rfl rfl (by rfl) (ones_of rfl) HLN.out hmn (.here _) ?_; clear hL; intro wq hL))
    go_ret
    exact ⟨_, rfl, by rw [← HEND.out]; exact hL⟩
def StaD.merge (a b : StaD) : StaD := ⟨(a.join b).seen, (a.join b).nodes.filter fun n => !(a.lostN n.hd.id || b.lostN n.hd.id), (a.join b).links.filter fun l => !(a.lostK l.id || b.lostK l.id)⟩
theorem map_filter_d {L : List Nd} (q : Mk → Bool) (h : ∀ n ∈ L, n.s.hd = n.d.hd) : (L.filter fun n => !q n.s.hd.id).map (·.d) = (L.map (·.d)).filter fun n => !q n.hd.id := by
 induction L with
 | nil => rfl
 | cons n L ih =>
  have h1 := h n (.head _)
  have h2 := ih fun m hm => h m (.tail _ hm)
  simp only [List.map_cons, List.filter_cons, h1]
  split <;> simp [h2]
theorem join_Merge (s t : Sta) (ds dt : StaD) (w : World) (hs : s.Ok w ds) (ht : t.Ok w dt) (B : Nat) (hB : ∀ n ∈ ds.nodes ++ dt.nodes, n.ps.length ≤ B ∧ n.xs.length ≤ B) (hn : ds.nodes.length + dt.nodes.length ≤ 1000000) (hBn : B * (ds.nodes.length + dt.nodes.length) ≤ 100000000) (hl : ds.links.length + dt.links.length ≤ 100000000) :
  Calls Tryz.prog 13 #[.agg (Sta.cells s).toArray, .agg (Sta.cells t).toArray] w fun e w' => ∃ r : Sta, e = .returned (.agg (Sta.cells r).toArray) ∧ r.Ok w' (ds.merge dt) ∧ Below w.heap.size w w' := by
 have hL := Loc.nil w NoM
 have HS := kD hs; have HT := kD ht; have HB := kD hB
 clear hs ht hB
 go_enter Tryz.func13, Tryz.ntmps13
 go_wp2_with (first
  | ((with_reducible refine gate (N := 2) rfl ?_); (refine lJ rfl hL rfl rfl (cells_agg _ rfl) ?_; clear hL; intro g2 w2 hL))
  | ((with_reducible refine gate (N := 3) rfl ?_); (refine lJ rfl hL rfl rfl (cells_agg _ rfl) ?_; clear hL; intro g3 w3 hL))
  | ((with_reducible refine gate (N := 4) rfl ?_); (refine lI rfl hL rfl cy ?_; clear hL; intro g4 w4 hL))
  | (go_at_call 10; have hq := join_States0 s t ds dt w _ hL.below HS.out HT.out B HB.out hn hBn hl; (with_reducible refine hq.mono ?_); rintro e w9 ⟨r, rfl, hse, F, L, hLd, -, hL9⟩; clear hq; replace hL9 := ((hL9.weakRow hL.size).comm.weakRow hL.size).comm; replace hL := hL.takeAll hL9; simp only [List.cons_append, List.nil_append] at hL; clear hL9; refine stop ?_)
  | ((with_reducible refine qB rfl rfl ?_); (refine lA rfl hL rfl rfl vM (by rfl) ?_)))
 unfold Stop
 obtain ⟨rv, ⟨ra, rn, rc⟩, ⟨ka, kn, kc⟩⟩ := r
 obtain ⟨ua, uc, e1, -⟩ := R_elem (hL.own (E := encN) (.head _)).read
 obtain ⟨va, vc, e2, -⟩ := R_elem (hL.own (E := encK) (.tail _ (.head _))).read
 unfold Sl.val at e1 e2 hL
 injection e1 with i1 i2 i3
 injection e2 with j1 j2 j3
 replace i2 : rn = L.length := i2
 replace j2 : kn = (ds.join dt).links.length := j2
 subst i1 i2 i3 j1 j2 j3
 have HSE := kD hse; have HLD := kD hLd
 have HN := kD (fun n hn => (hL.nested (w00 := w) (F := F) (L := L) (.refl _ _) (.tail _ (.tail _ (.head _))) n hn).hd)
 clear hse hLd
 have HKL : Hid ((ds.merge dt).links = (ds.join dt).links.filter fun l => !(ds.lostK l.id || dt.lostK l.id)) := kD rfl
 have HNL : Hid ((ds.merge dt).nodes = (ds.join dt).nodes.filter fun l => !(ds.lostN l.hd.id || dt.lostN l.hd.id)) := kD rfl
 have HSM : Hid ((ds.merge dt).seen = (ds.join dt).seen) := kD rfl
 simp only at hL
 unfold Sta.cells
 simp only
 generalize (ds.join dt).links = K at *
 obtain ⟨qn, hqn⟩ : ∃ q : Nd → Bool, q = fun x => ds.lostN x.s.hd.id || dt.lostN x.s.hd.id := ⟨_, rfl⟩
 obtain ⟨qk, hqk⟩ : ∃ q : Lnk → Bool, q = fun x => ds.lostK x.id || dt.lostK x.id := ⟨_, rfl⟩
 have HQN := kD hqn; have HQK := kD hqk
 clear hqn hqk
 go_wp2_with (first
  | ((with_reducible refine gate (N := 5) rfl ?_); (refine lI rfl hL rfl cy ?_; clear hL; intro g5 w5 hL))
  | (go_at_call 42; have hq := mrgN_delete w _ _ w.heap.size ra rc L qn (.pointer (some ⟨g2, 0, none⟩)) (.pointer (some ⟨g3, 0, none⟩)) hL.comm (fun x hx wx hLx => by rw [HQN.out]; exact mrgN_1 x s t ds dt g2 g3 wx (hLx.box (t := 27) mx) (hLx.box (t := 27) mx) (HS.out.below hLx.below) (HT.out.below hLx.below)); (with_reducible refine hq.mono ?_); clear hL; rintro e w11 ⟨v1, rfl, hL⟩; clear hq; obtain ⟨pa, pc, rfl, -⟩ := R_elem (hL.own (E := encN) (.head _)).read)
  | (go_at_call 46; have hq := mrgK_delete w _ _ w.heap.size ka kc K qk (.pointer (some ⟨g2, 0, none⟩)) (.pointer (some ⟨g3, 0, none⟩)) (hL.perm (List.perm_middle (l₁ := [_, _]) (l₂ := [_, _, _, _]))) (fun x hx wx hLx => by rw [HQK.out]; exact mrgK_1 x s t ds dt g2 g3 wx (hLx.box (t := 27) mx) (hLx.box (t := 27) mx) (HS.out.below hLx.below) (HT.out.below hLx.below)); (with_reducible refine hq.mono ?_); clear hL; rintro e w12 ⟨v2, rfl, hL⟩; clear hq; simp only [List.cons_append, List.nil_append] at hL; obtain ⟨la, lc, rfl, -⟩ := R_elem (hL.own (E := encK) (.head _)).read)
  | ((with_reducible refine qB rfl rfl ?_); (first | (refine lC rfl hL rfl rfl vM (by rfl) ?_) | (refine lA rfl hL rfl rfl vM (by rfl) ?_))) | ((with_reducible refine qC rfl rfl ?_); (refine lH rfl hL rfl rfl rfl cy (by rfl) ?_); clear hL; intro wq hL))
 refine bodyPost_ret (res_cell rfl hL _ rfl vM (by rfl)) rfl ⟨⟨rv, ⟨pa, _, pc⟩, ⟨la, _, lc⟩⟩, rfl, ⟨?_, ⟨L.filter fun x => !qn x, ?_, ?_, ?_⟩, ?_⟩, hL.below⟩
 ·rw [HSM.out]; exact HSE.out
 ·exact (hL.own (E := encN) (base := w.heap.size) (e := 58) (xs := L.filter fun x => !qn x) mx).read
 ·intro n hn
  exact hL.nested (w00 := w) (F := F) (L := L) (.refl _ _) mx n (List.mem_filter.1 hn).1
 ·rw [HNL.out, ← HLD.out, HQN.out]
  exact map_filter_d (fun id => ds.lostN id || dt.lostN id) HN.out
 ·rw [HKL.out]
  have h9 := (hL.own (E := encK) (base := w.heap.size) (e := 46) (xs := K.filter fun x => !qk x) (.head _)).read
  have e9 := HQK.out
  clear hL
  subst e9
  exact h9
end Go.Proofs.YtebpacmhdkgfeaaGreat

namespace Go.Proofs.YtebpacmhdkgfeaaGreat
open Go.RowKit
set_option maxHeartbeats 8000000
set_option maxRecDepth 20000
theorem ref11_noN (s : Sta) (d : StaD) (id : Mk) (w : World) (h : s.Ok w d) :
  Calls Tryz.prog 50 #[.agg (Sta.cells s).toArray, .agg #[.int .i64 id.boot, .int .i64 id.n]] w fun e w' => e = .returned (.bool (d.lostN id)) ∧ Below w.heap.size w w' := by
 have hL := Loc.nil w NoM
 obtain ⟨ns, hns, h2, h3⟩ := h.nodes
 have hany := any_hd id h2 h3
 have HS : Hid (d.lostN id = (s.seen.has id && !(ns.any fun x => decide (x.s.hd.id = id)))) := kD (by rw [hany, h.seen]; rfl)
 obtain ⟨ao, c0, e0, hel⟩ := R_elem hns
 have hmx0 := R_max hns
 rw [HS.out]
 clear h hns h2 h3 hany HS
 obtain ⟨sv, ⟨a1, n1, f1⟩, ⟨a2, n2, f2⟩⟩ := s
 unfold Sl.val at e0
 injection e0 with i1 i2 i3
 simp only at i1 i2 i3
 subst i1 i2 i3
 replace hel : ∀ (i : Nat) (hi : i < ns.length), ∃ g off, a1 = some ⟨g, off, none⟩ ∧ w.rangeAt g (off + i * 13) (Ino.cells ns[i].s) := hel
 have hmx : ns.length ≤ 9223372036854775807 := hmx0
 have HH := kD (fun wx => ref09_has sv id wx)
 unfold Sta.cells
 simp only
 go_enter Tryz.func50, Tryz.ntmps50
 go_wp2_with (first | ((with_reducible refine gate (N := 2) rfl ?_); (refine lJ rfl hL rfl rfl cy ?_; clear hL; intro g2 w2 hL)) | ((with_reducible refine gate (N := 3) rfl ?_); (refine lJ rfl hL rfl rfl cy ?_; clear hL; intro g3 w3 hL)) | ((with_reducible refine qB rfl rfl ?_); (refine lC rfl hL rfl rfl vM (by rfl) ?_)))
 go_loopw [10] (fun i wr => ∃ k : Nat, k ≤ ns.length ∧ i = .int .i64 k ∧ Hid (∀ x ∈ ns.take k, ¬ x.s.hd.id = id) ∧ Loc w NoM wr [var g3 [.int .i64 id.boot, .int .i64 id.n] 44, var g2 [.int .i64 sv.a0, .int .i64 sv.a1, .int .i64 sv.a2, .int .i64 sv.a3, .int .i64 sv.a4, .int .i64 sv.a5, .int .i64 sv.a6, .int .i64 sv.a7, .slice a1 ns.length f1, .slice a2 n2 f2] 27]) (fun i _ => ns.length - (intOf i).toNat)
 case atStart => exact ⟨0, by omega, rfl, kD (by simp), hL⟩
 case round =>
  clear hL
  obtain ⟨k, hk, rfl, HN, hL⟩ := hrel
  by_cases hlt : k < ns.length
  ·obtain ⟨g, off, rfl, hr⟩ := hel k hlt
   have hrW0 : World.rangeAt _ g (off + k * 13) (Ino.cells ns[k].s) := range_below hr hL.below
   have HT := kD (show ns.take (k + 1) = ns.take k ++ [ns[k]] from (List.take_append_getElem hlt).symm)
   have HM := kD (List.getElem_mem hlt)
   clear hr
   generalize ns[k] = x at *
   have hrW : World.rangeAt _ g (off + k * 13) [.int .i64 x.s.hd.id.boot, .int .i64 x.s.hd.id.n, .int .i64 x.s.hd.kind, .string x.s.hd.text, .int .i64 x.s.hd.attr.at_.boot, .int .i64 x.s.hd.attr.at_.n, .int .i64 x.s.hd.attr.mode, .int .u64 x.s.hd.attr.time, .int .i64 x.s.hd.size.at_.boot, .int .i64 x.s.hd.size.at_.n, .int .i64 x.s.hd.size.n, .slice x.s.p.a x.s.p.n x.s.p.c, .slice x.s.x.a x.s.x.n x.s.x.c] := hrW0
   clear hrW0
   by_cases h1 : x.s.hd.id = id
   ·have q1 := stampE x.s.hd.id id (decide_eq_true h1)
    have HA : Hid ((ns.any fun x => decide (x.s.hd.id = id)) = true) := kD (List.any_eq_true.2 ⟨x, HM.out, decide_eq_true h1⟩)
    clear h1
    go_wp2_with (first | ((with_reducible refine qF rfl rfl ?_); refine lL rfl rfl rfl rfl hlt ?_) | ((with_reducible refine gate (N := 13) rfl ?_); refine lK rfl rfl rfl hrW (by rfl) ?_) | ((with_reducible refine gate (N := 6) rfl ?_); (refine lI rfl hL rfl cy ?_; clear hL; intro g6 w6 hL)) | ((with_reducible refine qB rfl rfl ?_); (first | (refine lA rfl hL rfl rfl vM (by rfl) ?_) | (refine lF rfl hL rfl rfl vM SegC.seg ?_))) | ((with_reducible refine qC rfl rfl ?_); (refine lH rfl hL rfl rfl rfl cy (by rfl) ?_); clear hL; intro wq hL))
    go_ret
    exact ⟨by rw [HA.out]; simp, hL.below⟩
   ·have q1 := stampE x.s.hd.id id (decide_eq_false h1)
    have HN2 : Hid (∀ x ∈ ns.take (k + 1), ¬ x.s.hd.id = id) := kD (by
     rw [HT.out]; intro y hy
     rcases List.mem_append.1 hy with hy | hy
     ·exact HN.out y hy
     ·rw [List.mem_singleton.1 hy]; exact h1)
    clear h1
    go_wp2_with (first | ((with_reducible refine qF rfl rfl ?_); refine lL rfl rfl rfl rfl hlt ?_) | ((with_reducible refine gate (N := 13) rfl ?_); refine lK rfl rfl rfl hrW (by rfl) ?_) | ((with_reducible refine gate (N := 6) rfl ?_); (refine lI rfl hL rfl cy ?_; clear hL; intro g6 w6 hL)) | ((with_reducible refine qB rfl rfl ?_); (first | (refine lA rfl hL rfl rfl vM (by rfl) ?_) | (refine lF rfl hL rfl rfl vM SegC.seg ?_))) | ((with_reducible refine qC rfl rfl ?_); (refine lH rfl hL rfl rfl rfl cy (by rfl) ?_); clear hL; intro wq hL))
    go_roundw
    case rel => exact ⟨k + 1, by omega, by go_num, HN2, hL.sub (by repeat (first | exact List.nil_sublist _ | apply List.Sublist.cons_cons | apply List.Sublist.cons))⟩
    case measure => simp [intOf]; omega
  ·obtain rfl : k = ns.length := by omega
   have HA : Hid ((ns.any fun x => decide (x.s.hd.id = id)) = false) := kD (by
    rw [List.any_eq_false]
    intro x hx
    have := HN.out x (by rw [List.take_length]; exact hx)
    simp [this])
   go_wp2_with (first
    | (go_at_call 112; (with_reducible refine (HH.out _).mono ?_); rintro e w5 ⟨rfl, hb5⟩; have hL := hL.call hb5; clear hb5)
    | ((with_reducible refine qB rfl rfl ?_); (first | (refine lA rfl hL rfl rfl vM (by rfl) ?_) | (refine lF rfl hL rfl rfl vM SegC.seg ?_))))
   go_ret
   exact ⟨by rw [HA.out]; simp, hL.below⟩
theorem ref11_noK (s : Sta) (d : StaD) (id : Mk) (w : World) (h : s.Ok w d) :
  Calls Tryz.prog 51 #[.agg (Sta.cells s).toArray, .agg #[.int .i64 id.boot, .int .i64 id.n]] w fun e w' => e = .returned (.bool (d.lostK id)) ∧ Below w.heap.size w w' := by
 have hL := Loc.nil w NoM
 have hlk := h.links
 have HS : Hid (d.lostK id = (s.seen.has id && !(d.links.any fun x => decide (x.id = id)))) := kD (by rw [h.seen]; rfl)
 generalize d.links = ls at *
 obtain ⟨ao, c0, e0, hel⟩ := R_elem hlk
 have hmx0 := R_max hlk
 rw [HS.out]
 clear h hlk HS
 obtain ⟨sv, ⟨a1, n1, f1⟩, ⟨a2, n2, f2⟩⟩ := s
 unfold Sl.val at e0
 injection e0 with i1 i2 i3
 simp only at i1 i2 i3
 subst i1 i2 i3
 replace hel : ∀ (i : Nat) (hi : i < ls.length), ∃ g off, a2 = some ⟨g, off, none⟩ ∧ w.rangeAt g (off + i * 25) (Lnk.cells ls[i]) := hel
 have hmx : ls.length ≤ 9223372036854775807 := hmx0
 have HH := kD (fun wx => ref09_has sv id wx)
 unfold Sta.cells
 simp only
 go_enter Tryz.func51, Tryz.ntmps51
 go_wp2_with (first | ((with_reducible refine gate (N := 2) rfl ?_); (refine lJ rfl hL rfl rfl cy ?_; clear hL; intro g2 w2 hL)) | ((with_reducible refine gate (N := 3) rfl ?_); (refine lJ rfl hL rfl rfl cy ?_; clear hL; intro g3 w3 hL)) | ((with_reducible refine qB rfl rfl ?_); (refine lC rfl hL rfl rfl vM (by rfl) ?_)))
 go_loopw [10] (fun i wr => ∃ k : Nat, k ≤ ls.length ∧ i = .int .i64 k ∧ Hid (∀ x ∈ ls.take k, ¬ x.id = id) ∧ Loc w NoM wr [var g3 [.int .i64 id.boot, .int .i64 id.n] 44, var g2 [.int .i64 sv.a0, .int .i64 sv.a1, .int .i64 sv.a2, .int .i64 sv.a3, .int .i64 sv.a4, .int .i64 sv.a5, .int .i64 sv.a6, .int .i64 sv.a7, .slice a1 n1 f1, .slice a2 ls.length f2] 27]) (fun i _ => ls.length - (intOf i).toNat)
 case atStart => exact ⟨0, by omega, rfl, kD (by simp), hL⟩
 case round =>
  clear hL
  obtain ⟨k, hk, rfl, HN, hL⟩ := hrel
  by_cases hlt : k < ls.length
  ·obtain ⟨g, off, rfl, hr⟩ := hel k hlt
   have hrW0 : World.rangeAt _ g (off + k * 25) (Lnk.cells ls[k]) := range_below hr hL.below
   have HT := kD (show ls.take (k + 1) = ls.take k ++ [ls[k]] from (List.take_append_getElem hlt).symm)
   have HM := kD (List.getElem_mem hlt)
   clear hr
   generalize ls[k] = x at *
   have hrW : World.rangeAt _ g (off + k * 25) [.int .i64 x.id.boot, .int .i64 x.id.n, .int .i64 x.node.boot, .int .i64 x.node.n, .int .i64 x.at_.boot, .int .i64 x.at_.n, .int .i64 x.parent.boot, .int .i64 x.parent.n, .string x.name, .int .i64 x.alive.a0, .int .i64 x.alive.a1, .int .i64 x.alive.a2, .int .i64 x.alive.a3, .int .i64 x.alive.a4, .int .i64 x.alive.a5, .int .i64 x.alive.a6, .int .i64 x.alive.a7, .int .i64 x.dead.a0, .int .i64 x.dead.a1, .int .i64 x.dead.a2, .int .i64 x.dead.a3, .int .i64 x.dead.a4, .int .i64 x.dead.a5, .int .i64 x.dead.a6, .int .i64 x.dead.a7] := hrW0
   clear hrW0
   by_cases h1 : x.id = id
   ·have q1 := stampE x.id id (decide_eq_true h1)
    have HA : Hid ((ls.any fun x => decide (x.id = id)) = true) := kD (List.any_eq_true.2 ⟨x, HM.out, decide_eq_true h1⟩)
    clear h1
    go_wp2_with (first | ((with_reducible refine qF rfl rfl ?_); refine lL rfl rfl rfl rfl hlt ?_) | ((with_reducible refine gate (N := 13) rfl ?_); refine lK rfl rfl rfl hrW (by rfl) ?_) | ((with_reducible refine gate (N := 6) rfl ?_); (refine lI rfl hL rfl cy ?_; clear hL; intro g6 w6 hL)) | ((with_reducible refine qB rfl rfl ?_); (first | (refine lA rfl hL rfl rfl vM (by rfl) ?_) | (refine lF rfl hL rfl rfl vM SegC.seg ?_))) | ((with_reducible refine qC rfl rfl ?_); (refine lH rfl hL rfl rfl rfl cy (by rfl) ?_); clear hL; intro wq hL))
    go_ret
    exact ⟨by rw [HA.out]; simp, hL.below⟩
   ·have q1 := stampE x.id id (decide_eq_false h1)
    have HN2 : Hid (∀ x ∈ ls.take (k + 1), ¬ x.id = id) := kD (by
     rw [HT.out]; intro y hy
     rcases List.mem_append.1 hy with hy | hy
     ·exact HN.out y hy
     ·rw [List.mem_singleton.1 hy]; exact h1)
    clear h1
    go_wp2_with (first | ((with_reducible refine qF rfl rfl ?_); refine lL rfl rfl rfl rfl hlt ?_) | ((with_reducible refine gate (N := 13) rfl ?_); refine lK rfl rfl rfl hrW (by rfl) ?_) | ((with_reducible refine gate (N := 6) rfl ?_); (refine lI rfl hL rfl cy ?_; clear hL; intro g6 w6 hL)) | ((with_reducible refine qB rfl rfl ?_); (first | (refine lA rfl hL rfl rfl vM (by rfl) ?_) | (refine lF rfl hL rfl rfl vM SegC.seg ?_))) | ((with_reducible refine qC rfl rfl ?_); (refine lH rfl hL rfl rfl rfl cy (by rfl) ?_); clear hL; intro wq hL))
    go_roundw
    case rel => exact ⟨k + 1, by omega, by go_num, HN2, hL.sub (by repeat (first | exact List.nil_sublist _ | apply List.Sublist.cons_cons | apply List.Sublist.cons))⟩
    case measure => simp [intOf]; omega
  ·obtain rfl : k = ls.length := by omega
   have HA : Hid ((ls.any fun x => decide (x.id = id)) = false) := kD (by
    rw [List.any_eq_false]
    intro x hx
    have := HN.out x (by rw [List.take_length]; exact hx)
    simp [this])
   go_wp2_with (first
    | (go_at_call 112; (with_reducible refine (HH.out _).mono ?_); rintro e w5 ⟨rfl, hb5⟩; have hL := hL.call hb5; clear hb5)
    | ((with_reducible refine qB rfl rfl ?_); (first | (refine lA rfl hL rfl rfl vM (by rfl) ?_) | (refine lF rfl hL rfl rfl vM SegC.seg ?_))))
   go_ret
   exact ⟨by rw [HA.out]; simp, hL.below⟩
theorem take_filter {α : Type} (p : α → Bool) (xs : List α) (k : Nat) : ((xs.take k).filter p).length ≤ xs.length := Nat.le_trans (List.length_filter_le _ _) (by rw [List.length_take]; omega)
theorem ref11_merge (s t : Sta) (ds dt : StaD) (w : World) (hs : s.Ok w ds) (ht : t.Ok w dt) (B : Nat) (hB : ∀ n ∈ ds.nodes ++ dt.nodes, n.ps.length ≤ B ∧ n.xs.length ≤ B) (hn : ds.nodes.length + dt.nodes.length ≤ 1000000) (hBn : B * (ds.nodes.length + dt.nodes.length) ≤ 10000000) (hB0 : B ≤ 10000000) (hl : ds.links.length + dt.links.length ≤ 100000000) (hz : ∀ n ∈ ds.nodes ++ dt.nodes, n.Z) (hzl : ∀ l ∈ ds.links ++ dt.links, l.Z) :
  Calls Tryz.prog 14 #[.agg (Sta.cells s).toArray, .agg (Sta.cells t).toArray] w fun e w' => ∃ r : Sta, e = .returned (.agg (Sta.cells r).toArray) ∧ r.Ok w' (ds.merge dt) ∧ Below w.heap.size w w' := by
 have hL := Loc.nil w NoM
 have HS := kD hs; have HT := kD ht; have HB := kD hB; have HZ := kD hz; have HZL := kD hzl
 have HJN := kD (join_nodes_len ds dt); have HJK := kD (join_links_len ds dt)
 clear hs ht hB hz hzl
 go_enter Tryz.func14, Tryz.ntmps14
 go_wp2_with (first
  | ((with_reducible refine gate (N := 2) rfl ?_); (refine lJ rfl hL rfl rfl (cells_agg _ rfl) ?_; clear hL; intro g2 w2 hL))
  | ((with_reducible refine gate (N := 3) rfl ?_); (refine lJ rfl hL rfl rfl (cells_agg _ rfl) ?_; clear hL; intro g3 w3 hL))
  | ((with_reducible refine gate (N := 4) rfl ?_); (refine lI rfl hL rfl cy ?_; clear hL; intro g4 w4 hL))
  | (go_at_call 12; have hq := ref11_states0 s t ds dt w _ hL.below (HS.out.below hL.below) (HT.out.below hL.below) B HB.out hn hBn hB0 hl HZ.out HZL.out; (with_reducible refine hq.mono ?_); rintro e w9 ⟨r, rfl, hse, F, L, hLd, hL9⟩; clear hq; replace hL9 := ((hL9.weakRow hL.size).comm.weakRow hL.size).comm; replace hL := hL.takeAll hL9; simp only [List.cons_append, List.nil_append] at hL; clear hL9; refine stop ?_)
  | ((with_reducible refine qB rfl rfl ?_); (refine lA rfl hL rfl rfl vM (by rfl) ?_)))
 unfold Stop
 obtain ⟨rv, ⟨ra, rn, rc⟩, ⟨ka, kn, kc⟩⟩ := r
 obtain ⟨ua, uc, e1, -⟩ := R_elem (hL.own (E := encN) (.head _)).read
 obtain ⟨va, vc, e2, -⟩ := R_elem (hL.own (E := encK) (.tail _ (.head _))).read
 unfold Sl.val at e1 e2 hL
 injection e1 with i1 i2 i3
 injection e2 with j1 j2 j3
 replace i2 : rn = L.length := i2
 replace j2 : kn = (ds.join dt).links.length := j2
 subst i1 i2 i3 j1 j2 j3
 have HSE := kD hse; have HLD := kD hLd
 have HN := kD (fun n hn => (hL.nested (w00 := w) (F := F) (L := L) (.refl _ _) (.tail _ (.tail _ (.head _))) n hn).hd)
 have hbL : L.length ≤ 1000000 := by have h9 := congrArg List.length hLd; rw [List.length_map] at h9; have := HJN.out; omega
 clear hse hLd
 have HKL : Hid ((ds.merge dt).links = (ds.join dt).links.filter fun l => !(ds.lostK l.id || dt.lostK l.id)) := kD rfl
 have HNL : Hid ((ds.merge dt).nodes = (ds.join dt).nodes.filter fun l => !(ds.lostN l.hd.id || dt.lostN l.hd.id)) := kD rfl
 have HSM : Hid ((ds.merge dt).seen = (ds.join dt).seen) := kD rfl
 have hbK : (ds.join dt).links.length ≤ 100000000 := by have := HJK.out; omega
 simp only at hL
 clear HJN HJK
 generalize (ds.join dt).links = K at *
 (try rw [show Sta.cells ⟨rv, ⟨ra, L.length, rc⟩, ⟨ka, K.length, kc⟩⟩ = [.int .i64 rv.a0, .int .i64 rv.a1, .int .i64 rv.a2, .int .i64 rv.a3, .int .i64 rv.a4, .int .i64 rv.a5, .int .i64 rv.a6, .int .i64 rv.a7, .slice ra L.length rc, .slice ka K.length kc] from rfl])
 obtain ⟨qn, hqn⟩ : ∃ q : Nd → Bool, q = fun x => !(ds.lostN x.s.hd.id || dt.lostN x.s.hd.id) := ⟨_, rfl⟩
 obtain ⟨qk, hqk⟩ : ∃ q : Lnk → Bool, q = fun x => !(ds.lostK x.id || dt.lostK x.id) := ⟨_, rfl⟩
 have HQN := kD hqn; have HQK := kD hqk
 clear hqn hqk
 go_wp2_with (first | ((with_reducible refine gate (N := 5) rfl ?_); (refine lI rfl hL rfl cy ?_; clear hL; intro g5 w5 hL)) | ((with_reducible refine gate (N := 6) rfl ?_); (refine lI rfl hL rfl cy ?_; clear hL; intro g6 w6 hL)) | ((with_reducible refine qB rfl rfl ?_); (first | (refine lC rfl hL rfl rfl vM (by rfl) ?_) | (refine lF rfl hL rfl rfl vM SegC.seg ?_))) | ((with_reducible refine qC rfl rfl ?_); (refine lH rfl hL rfl rfl rfl cy (by rfl) ?_); clear hL; intro wq hL))
 have hP : Loc w NoM _ [row encN w.heap.size 58 (.slice ra L.length rc) L, row encK w.heap.size 46 (.slice ka K.length kc) K, nest w F L, var g6 [.int .i64 rv.a0, .int .i64 rv.a1, .int .i64 rv.a2, .int .i64 rv.a3, .int .i64 rv.a4, .int .i64 rv.a5, .int .i64 rv.a6, .int .i64 rv.a7, .slice none 0 0, .slice none 0 0] 27, var g5 [.int .i64 rv.a0, .int .i64 rv.a1, .int .i64 rv.a2, .int .i64 rv.a3, .int .i64 rv.a4, .int .i64 rv.a5, .int .i64 rv.a6, .int .i64 rv.a7, .slice ra L.length rc, .slice ka K.length kc] 27, var g4 [.int .i64 0, .int .i64 0, .int .i64 0, .int .i64 0, .int .i64 0, .int .i64 0, .int .i64 0, .int .i64 0, .slice none 0 0, .slice none 0 0] 27, var g3 (Sta.cells t) 27, var g2 (Sta.cells s) 27] := hL.perm (List.perm_append_comm (l₁ := [_, _]) (l₂ := [_, _, _]) |>.append_right [_, _, _])
 go_loopw [20] (fun i wr => ∃ (k : Nat) (s' : Sl), k ≤ L.length ∧ i = .int .i64 k ∧ Loc w NoM wr [row encN w.heap.size 58 s'.val ((L.take k).filter qn), row encN w.heap.size 58 (.slice ra L.length rc) L, row encK w.heap.size 46 (.slice ka K.length kc) K, nest w F L, var g6 [.int .i64 rv.a0, .int .i64 rv.a1, .int .i64 rv.a2, .int .i64 rv.a3, .int .i64 rv.a4, .int .i64 rv.a5, .int .i64 rv.a6, .int .i64 rv.a7, .slice s'.a s'.n s'.c, .slice none 0 0] 27, var g5 [.int .i64 rv.a0, .int .i64 rv.a1, .int .i64 rv.a2, .int .i64 rv.a3, .int .i64 rv.a4, .int .i64 rv.a5, .int .i64 rv.a6, .int .i64 rv.a7, .slice ra L.length rc, .slice ka K.length kc] 27, var g4 [.int .i64 0, .int .i64 0, .int .i64 0, .int .i64 0, .int .i64 0, .int .i64 0, .int .i64 0, .int .i64 0, .slice none 0 0, .slice none 0 0] 27, var g3 (Sta.cells t) 27, var g2 (Sta.cells s) 27]) (fun i _ => L.length - (intOf i).toNat)
 case atStart => exact ⟨0, ⟨none, 0, 0⟩, by omega, rfl, hP.rowOff encN w.heap.size 58⟩
 case round =>
  clear hL hP
  obtain ⟨k, s', hk, rfl, hL⟩ := hrel
  by_cases hlt : k < L.length
  ·obtain ⟨x, hx⟩ : ∃ x, L[k]? = some x := ⟨_, List.getElem?_eq_getElem hlt⟩
   have hxe : L[k] = x := by rw [List.getElem?_eq_getElem hlt] at hx; exact Option.some.inj hx
   have HF := kD (filter_snoc qn L k hlt)
   rw [hxe] at HF
   have hln := take_filter qn L k
   rcases own_casesM (E := encN) (xs := L) hL (.tail _ (.head _)) with ⟨u1, u2⟩ | ⟨go, c3, u1, -, -, hgo⟩
   ·rw [u2] at hlt; exact absurd hlt (by simp)
   injection u1 with u1 u2 u3
   subst u1 u3
   clear u2 hgo hxe
   have hrW : wr.rangeAt go (0 + k * 13) [.int .i64 x.s.hd.id.boot, .int .i64 x.s.hd.id.n, .int .i64 x.s.hd.kind, .string x.s.hd.text, .int .i64 x.s.hd.attr.at_.boot, .int .i64 x.s.hd.attr.at_.n, .int .i64 x.s.hd.attr.mode, .int .u64 x.s.hd.attr.time, .int .i64 x.s.hd.size.at_.boot, .int .i64 x.s.hd.size.at_.n, .int .i64 x.s.hd.size.n, .slice x.s.p.a x.s.p.n x.s.p.c, .slice x.s.x.a x.s.x.n x.s.x.c] := by
    have := row_range (hL.own (E := encN) (xs := L) (.tail _ (.head _))) (y := x) (i := k) hx
    rwa [show k * encN.sz = 0 + k * 13 from by show k * 13 = _; omega] at this
   clear hx
   obtain ⟨r1, hr1⟩ : ∃ r, ds.lostN x.s.hd.id = r := ⟨_, rfl⟩
   obtain ⟨r2, hr2⟩ : ∃ r, dt.lostN x.s.hd.id = r := ⟨_, rfl⟩
   have HC1 := kD (fun wx (h : Below w.heap.size w wx) => ref11_noN s ds x.s.hd.id wx (HS.out.below h))
   have HC2 := kD (fun wx (h : Below w.heap.size w wx) => ref11_noN t dt x.s.hd.id wx (HT.out.below h))
   have HQ : Hid (qn x = !(r1 || r2)) := kD (by rw [HQN.out, ← hr1, ← hr2])
   rw [hr1] at HC1
   rw [hr2] at HC2
   rw [HQ.out] at HF
   clear hr1 hr2
   generalize hLL : ((L.take k).filter qn) = LL at *
   clear hLL
   cases r1
   ·cases r2
    ·have HF2 : Hid ((L.take (k + 1)).filter qn = LL ++ [x]) := kD (by rw [HF.out]; rfl)
     go_wp2_with (first
      | ((with_reducible refine qF rfl rfl ?_); refine lL rfl rfl rfl rfl hlt ?_) | ((with_reducible refine gate (N := 23) rfl ?_); refine lK rfl rfl rfl hrW (by rfl) ?_) | ((with_reducible refine gate (N := 8) rfl ?_); (refine lI rfl hL rfl cy ?_; clear hL; intro g8 w8 hL))
      | (go_at_call 50; (with_reducible refine (HC1.out _ hL.below).mono ?_); rintro e w5 ⟨rfl, hb5⟩; have hL := hL.call hb5; clear hb5; clear HC1)
      | (go_at_call 50; (with_reducible refine (HC2.out _ hL.below).mono ?_); rintro e w5 ⟨rfl, hb5⟩; have hL := hL.call hb5; clear hb5; clear HC2)
      | ((with_reducible refine gate (N := 39) rfl ?_); refine lM (cs := [.int .i64 x.s.hd.id.boot, .int .i64 x.s.hd.id.n, .int .i64 x.s.hd.kind, .string x.s.hd.text, .int .i64 x.s.hd.attr.at_.boot, .int .i64 x.s.hd.attr.at_.n, .int .i64 x.s.hd.attr.mode, .int .u64 x.s.hd.attr.time, .int .i64 x.s.hd.size.at_.boot, .int .i64 x.s.hd.size.at_.n, .int .i64 x.s.hd.size.n, .slice x.s.p.a x.s.p.n x.s.p.c, .slice x.s.x.a x.s.x.n x.s.x.c]) rfl hL rfl rfl rfl (by kernel_rfl) ?_; clear hL; intro gq wq hL)
      | ((with_reducible refine gate (N := 40) rfl ?_); refine ev_app1L (E := encN) (xs := LL) x rfl hL rfl rfl rfl mx (fun _ => sx) rfl rfl rfl (by omega) hL.size ?_; clear hL; intro ao' c' wq hL)
      | ((with_reducible refine qB rfl rfl ?_); (first | (refine lC rfl hL rfl rfl vM (by rfl) ?_) | (refine lA rfl hL rfl rfl vM (by rfl) ?_) | (refine lF rfl hL rfl rfl vM SegC.seg ?_))) | ((with_reducible refine qC rfl rfl ?_); (refine lH rfl hL rfl rfl rfl cy (by rfl) ?_); clear hL; intro wq hL) | ((with_reducible refine qA rfl rfl ?_ ?_); (exact wz rfl rfl rfl (by with_reducible rfl)); (first | (refine lB (wz rfl rfl rfl rfl) hL rfl rfl vM (by rfl) ?_) | (refine lE (wz rfl rfl rfl rfl) hL rfl rfl vM SegC.seg ?_))))
     go_roundw
     case rel => exact ⟨k + 1, ⟨ao', _, c'⟩, by omega, by go_num, by rw [HF2.out]; exact hL.sub (by repeat (first | exact List.nil_sublist _ | apply List.Sublist.cons_cons | apply List.Sublist.cons))⟩
     case measure => simp [intOf]; omega
    ·go_wp2_with (first
      | ((with_reducible refine qF rfl rfl ?_); refine lL rfl rfl rfl rfl hlt ?_) | ((with_reducible refine gate (N := 23) rfl ?_); refine lK rfl rfl rfl hrW (by rfl) ?_) | ((with_reducible refine gate (N := 8) rfl ?_); (refine lI rfl hL rfl cy ?_; clear hL; intro g8 w8 hL))
      | (go_at_call 50; (with_reducible refine (HC1.out _ hL.below).mono ?_); rintro e w5 ⟨rfl, hb5⟩; have hL := hL.call hb5; clear hb5; clear HC1)
      | (go_at_call 50; (with_reducible refine (HC2.out _ hL.below).mono ?_); rintro e w5 ⟨rfl, hb5⟩; have hL := hL.call hb5; clear hb5; clear HC2)
      | ((with_reducible refine qB rfl rfl ?_); (first | (refine lA rfl hL rfl rfl vM (by rfl) ?_) | (refine lF rfl hL rfl rfl vM SegC.seg ?_))) | ((with_reducible refine qC rfl rfl ?_); (refine lH rfl hL rfl rfl rfl cy (by rfl) ?_); clear hL; intro wq hL) | ((with_reducible refine qA rfl rfl ?_ ?_); (exact wz rfl rfl rfl (by with_reducible rfl)); (first | (refine lB (wz rfl rfl rfl rfl) hL rfl rfl vM (by rfl) ?_) | (refine lE (wz rfl rfl rfl rfl) hL rfl rfl vM SegC.seg ?_))))
     go_roundw
     case rel => exact ⟨k + 1, s', by omega, by go_num, by rw [HF.out]; simp only [Bool.true_or, Bool.or_true, Bool.not_true, Bool.false_eq_true, if_false, List.append_nil]; exact hL.sub (by repeat (first | exact List.nil_sublist _ | apply List.Sublist.cons_cons | apply List.Sublist.cons))⟩
     case measure => simp [intOf]; omega
   ·go_wp2_with (first
     | ((with_reducible refine qF rfl rfl ?_); refine lL rfl rfl rfl rfl hlt ?_) | ((with_reducible refine gate (N := 23) rfl ?_); refine lK rfl rfl rfl hrW (by rfl) ?_) | ((with_reducible refine gate (N := 8) rfl ?_); (refine lI rfl hL rfl cy ?_; clear hL; intro g8 w8 hL))
     | (go_at_call 50; (with_reducible refine (HC1.out _ hL.below).mono ?_); rintro e w5 ⟨rfl, hb5⟩; have hL := hL.call hb5; clear hb5; clear HC1)
     | (go_at_call 50; (with_reducible refine (HC2.out _ hL.below).mono ?_); rintro e w5 ⟨rfl, hb5⟩; have hL := hL.call hb5; clear hb5; clear HC2)
     | ((with_reducible refine qB rfl rfl ?_); (first | (refine lA rfl hL rfl rfl vM (by rfl) ?_) | (refine lF rfl hL rfl rfl vM SegC.seg ?_))) | ((with_reducible refine qC rfl rfl ?_); (refine lH rfl hL rfl rfl rfl cy (by rfl) ?_); clear hL; intro wq hL))
    go_roundw
    case rel => exact ⟨k + 1, s', by omega, by go_num, by rw [HF.out]; simp only [Bool.true_or, Bool.or_true, Bool.not_true, Bool.false_eq_true, if_false, List.append_nil]; exact hL.sub (by repeat (first | exact List.nil_sublist _ | apply List.Sublist.cons_cons | apply List.Sublist.cons))⟩
    case measure => simp [intOf]; omega
  ·obtain rfl : k = L.length := by omega
   rw [List.take_length] at hL
   obtain ⟨sn, hsn⟩ : ∃ q, q = s' := ⟨_, rfl⟩
   subst hsn
   clear hlt hk
   go_wp2_with (first | ((with_reducible refine qB rfl rfl ?_); (refine lC rfl hL rfl rfl vM (by rfl) ?_)))
   go_loopw [46] (fun i wr => ∃ (k : Nat) (s' : Sl), k ≤ K.length ∧ i = .int .i64 k ∧ Loc w NoM wr [row encK w.heap.size 46 s'.val ((K.take k).filter qk), row encN w.heap.size 58 sn.val (L.filter qn), row encN w.heap.size 58 (.slice ra L.length rc) L, row encK w.heap.size 46 (.slice ka K.length kc) K, nest w F L, var g6 [.int .i64 rv.a0, .int .i64 rv.a1, .int .i64 rv.a2, .int .i64 rv.a3, .int .i64 rv.a4, .int .i64 rv.a5, .int .i64 rv.a6, .int .i64 rv.a7, .slice sn.a sn.n sn.c, .slice s'.a s'.n s'.c] 27, var g5 [.int .i64 rv.a0, .int .i64 rv.a1, .int .i64 rv.a2, .int .i64 rv.a3, .int .i64 rv.a4, .int .i64 rv.a5, .int .i64 rv.a6, .int .i64 rv.a7, .slice ra L.length rc, .slice ka K.length kc] 27, var g4 [.int .i64 0, .int .i64 0, .int .i64 0, .int .i64 0, .int .i64 0, .int .i64 0, .int .i64 0, .int .i64 0, .slice none 0 0, .slice none 0 0] 27, var g3 (Sta.cells t) 27, var g2 (Sta.cells s) 27]) (fun i _ => K.length - (intOf i).toNat)
   case atStart => exact ⟨0, ⟨none, 0, 0⟩, by omega, rfl, hL.rowOff encK w.heap.size 46⟩
   case round =>
    clear hL
    obtain ⟨k, s', hk, rfl, hL⟩ := hrel
    by_cases hlt : k < K.length
    ·obtain ⟨x, hx⟩ : ∃ x, K[k]? = some x := ⟨_, List.getElem?_eq_getElem hlt⟩
     have hxe : K[k] = x := by rw [List.getElem?_eq_getElem hlt] at hx; exact Option.some.inj hx
     have HF := kD (filter_snoc qk K k hlt)
     rw [hxe] at HF
     have hln := take_filter qk K k
     rcases own_casesM (E := encK) (xs := K) hL (.tail _ (.tail _ (.tail _ (.head _)))) with ⟨u1, u2⟩ | ⟨go, c3, u1, -, -, hgo⟩
     ·rw [u2] at hlt; exact absurd hlt (by simp)
     injection u1 with u1 u2 u3
     subst u1 u3
     clear u2 hgo hxe
     have hrW : wr.rangeAt go (0 + k * 25) [.int .i64 x.id.boot, .int .i64 x.id.n, .int .i64 x.node.boot, .int .i64 x.node.n, .int .i64 x.at_.boot, .int .i64 x.at_.n, .int .i64 x.parent.boot, .int .i64 x.parent.n, .string x.name, .int .i64 x.alive.a0, .int .i64 x.alive.a1, .int .i64 x.alive.a2, .int .i64 x.alive.a3, .int .i64 x.alive.a4, .int .i64 x.alive.a5, .int .i64 x.alive.a6, .int .i64 x.alive.a7, .int .i64 x.dead.a0, .int .i64 x.dead.a1, .int .i64 x.dead.a2, .int .i64 x.dead.a3, .int .i64 x.dead.a4, .int .i64 x.dead.a5, .int .i64 x.dead.a6, .int .i64 x.dead.a7] := by
      have := row_range (hL.own (E := encK) (xs := K) (.tail _ (.tail _ (.tail _ (.head _))))) (y := x) (i := k) hx
      rwa [show k * encK.sz = 0 + k * 25 from by show k * 25 = _; omega] at this
     clear hx
     obtain ⟨r1, hr1⟩ : ∃ r, ds.lostK x.id = r := ⟨_, rfl⟩
     obtain ⟨r2, hr2⟩ : ∃ r, dt.lostK x.id = r := ⟨_, rfl⟩
     have HC1 := kD (fun wx (h : Below w.heap.size w wx) => ref11_noK s ds x.id wx (HS.out.below h))
     have HC2 := kD (fun wx (h : Below w.heap.size w wx) => ref11_noK t dt x.id wx (HT.out.below h))
     have HQ : Hid (qk x = !(r1 || r2)) := kD (by rw [HQK.out, ← hr1, ← hr2])
     rw [hr1] at HC1
     rw [hr2] at HC2
     rw [HQ.out] at HF
     clear hr1 hr2
     generalize hLL : ((K.take k).filter qk) = LL at *
     clear hLL
     cases r1
     ·cases r2
      ·have HF2 : Hid ((K.take (k + 1)).filter qk = LL ++ [x]) := kD (by rw [HF.out]; rfl)
       go_wp2_with (first
        | ((with_reducible refine qF rfl rfl ?_); refine lL rfl rfl rfl rfl hlt ?_) | ((with_reducible refine gate (N := 49) rfl ?_); refine lK rfl rfl rfl hrW (by rfl) ?_) | ((with_reducible refine gate (N := 10) rfl ?_); (refine lI rfl hL rfl cy ?_; clear hL; intro g10 w10 hL))
        | (go_at_call 51; (with_reducible refine (HC1.out _ hL.below).mono ?_); rintro e w5 ⟨rfl, hb5⟩; have hL := hL.call hb5; clear hb5; clear HC1)
        | (go_at_call 51; (with_reducible refine (HC2.out _ hL.below).mono ?_); rintro e w5 ⟨rfl, hb5⟩; have hL := hL.call hb5; clear hb5; clear HC2)
        | ((with_reducible refine gate (N := 65) rfl ?_); refine lM (cs := [.int .i64 x.id.boot, .int .i64 x.id.n, .int .i64 x.node.boot, .int .i64 x.node.n, .int .i64 x.at_.boot, .int .i64 x.at_.n, .int .i64 x.parent.boot, .int .i64 x.parent.n, .string x.name, .int .i64 x.alive.a0, .int .i64 x.alive.a1, .int .i64 x.alive.a2, .int .i64 x.alive.a3, .int .i64 x.alive.a4, .int .i64 x.alive.a5, .int .i64 x.alive.a6, .int .i64 x.alive.a7, .int .i64 x.dead.a0, .int .i64 x.dead.a1, .int .i64 x.dead.a2, .int .i64 x.dead.a3, .int .i64 x.dead.a4, .int .i64 x.dead.a5, .int .i64 x.dead.a6, .int .i64 x.dead.a7]) rfl hL rfl rfl rfl (by kernel_rfl) ?_; clear hL; intro gq wq hL)
        | ((with_reducible refine gate (N := 66) rfl ?_); refine ev_app1L (E := encK) (xs := LL) x rfl hL rfl rfl rfl mx (fun _ => sx) rfl rfl rfl (by omega) hL.size ?_; clear hL; intro ao' c' wq hL)
        | ((with_reducible refine qB rfl rfl ?_); (first | (refine lC rfl hL rfl rfl vM (by rfl) ?_) | (refine lA rfl hL rfl rfl vM (by rfl) ?_) | (refine lF rfl hL rfl rfl vM SegC.seg ?_))) | ((with_reducible refine qC rfl rfl ?_); (refine lH rfl hL rfl rfl rfl cy (by rfl) ?_); clear hL; intro wq hL) | ((with_reducible refine qA rfl rfl ?_ ?_); (exact wz rfl rfl rfl (by with_reducible rfl)); (first | (refine lB (wz rfl rfl rfl rfl) hL rfl rfl vM (by rfl) ?_) | (refine lE (wz rfl rfl rfl rfl) hL rfl rfl vM SegC.seg ?_))))
       go_roundw
       case rel => exact ⟨k + 1, ⟨ao', _, c'⟩, by omega, by go_num, by rw [HF2.out]; exact hL.sub (by repeat (first | exact List.nil_sublist _ | apply List.Sublist.cons_cons | apply List.Sublist.cons))⟩
       case measure => simp [intOf]; omega
      ·go_wp2_with (first
        | ((with_reducible refine qF rfl rfl ?_); refine lL rfl rfl rfl rfl hlt ?_) | ((with_reducible refine gate (N := 49) rfl ?_); refine lK rfl rfl rfl hrW (by rfl) ?_) | ((with_reducible refine gate (N := 10) rfl ?_); (refine lI rfl hL rfl cy ?_; clear hL; intro g10 w10 hL))
        | (go_at_call 51; (with_reducible refine (HC1.out _ hL.below).mono ?_); rintro e w5 ⟨rfl, hb5⟩; have hL := hL.call hb5; clear hb5; clear HC1)
        | (go_at_call 51; (with_reducible refine (HC2.out _ hL.below).mono ?_); rintro e w5 ⟨rfl, hb5⟩; have hL := hL.call hb5; clear hb5; clear HC2)
        | ((with_reducible refine qB rfl rfl ?_); (first | (refine lA rfl hL rfl rfl vM (by rfl) ?_) | (refine lF rfl hL rfl rfl vM SegC.seg ?_))) | ((with_reducible refine qC rfl rfl ?_); (refine lH rfl hL rfl rfl rfl cy (by rfl) ?_); clear hL; intro wq hL) | ((with_reducible refine qA rfl rfl ?_ ?_); (exact wz rfl rfl rfl (by with_reducible rfl)); (first | (refine lB (wz rfl rfl rfl rfl) hL rfl rfl vM (by rfl) ?_) | (refine lE (wz rfl rfl rfl rfl) hL rfl rfl vM SegC.seg ?_))))
       go_roundw
       case rel => exact ⟨k + 1, s', by omega, by go_num, by rw [HF.out]; simp only [Bool.true_or, Bool.or_true, Bool.not_true, Bool.false_eq_true, if_false, List.append_nil]; exact hL.sub (by repeat (first | exact List.nil_sublist _ | apply List.Sublist.cons_cons | apply List.Sublist.cons))⟩
       case measure => simp [intOf]; omega
     ·go_wp2_with (first
       | ((with_reducible refine qF rfl rfl ?_); refine lL rfl rfl rfl rfl hlt ?_) | ((with_reducible refine gate (N := 49) rfl ?_); refine lK rfl rfl rfl hrW (by rfl) ?_) | ((with_reducible refine gate (N := 10) rfl ?_); (refine lI rfl hL rfl cy ?_; clear hL; intro g10 w10 hL))
       | (go_at_call 51; (with_reducible refine (HC1.out _ hL.below).mono ?_); rintro e w5 ⟨rfl, hb5⟩; have hL := hL.call hb5; clear hb5; clear HC1)
       | (go_at_call 51; (with_reducible refine (HC2.out _ hL.below).mono ?_); rintro e w5 ⟨rfl, hb5⟩; have hL := hL.call hb5; clear hb5; clear HC2)
       | ((with_reducible refine qB rfl rfl ?_); (first | (refine lA rfl hL rfl rfl vM (by rfl) ?_) | (refine lF rfl hL rfl rfl vM SegC.seg ?_))) | ((with_reducible refine qC rfl rfl ?_); (refine lH rfl hL rfl rfl rfl cy (by rfl) ?_); clear hL; intro wq hL))
      go_roundw
      case rel => exact ⟨k + 1, s', by omega, by go_num, by rw [HF.out]; simp only [Bool.true_or, Bool.or_true, Bool.not_true, Bool.false_eq_true, if_false, List.append_nil]; exact hL.sub (by repeat (first | exact List.nil_sublist _ | apply List.Sublist.cons_cons | apply List.Sublist.cons))⟩
      case measure => simp [intOf]; omega
    ·obtain rfl : k = K.length := by omega
     rw [List.take_length] at hL
     obtain ⟨sk, hsn⟩ : ∃ q, q = s' := ⟨_, rfl⟩
     subst hsn
     clear hlt hk
     go_wp2_with (first | ((with_reducible refine qB rfl rfl ?_); (refine lA rfl hL rfl rfl vM (by rfl) ?_)) | ((with_reducible refine qC rfl rfl ?_); (refine lH rfl hL rfl rfl rfl cy (by rfl) ?_); clear hL; intro wq hL))
     refine bodyPost_ret (res_cell rfl hL _ rfl vM (by rfl)) rfl ⟨⟨rv, sn, sk⟩, rfl, ⟨?_, ⟨L.filter qn, ?_, ?_, ?_⟩, ?_⟩, hL.below⟩
     ·rw [HSM.out]; exact HSE.out
     ·exact (hL.own (E := encN) (base := w.heap.size) (e := 58) (v := sn.val) (xs := L.filter qn) mx).read
     ·intro n hn
      exact hL.nested (w00 := w) (F := F) (L := L) (.refl _ _) mx n (List.mem_filter.1 hn).1
     ·rw [HNL.out, ← HLD.out, HQN.out]
      exact map_filter_d (fun id => ds.lostN id || dt.lostN id) HN.out
     ·rw [HKL.out]
      have h9 := (hL.own (E := encK) (base := w.heap.size) (e := 46) (v := sk.val) (xs := K.filter qk) (.head _)).read
      have e9 := HQK.out
      clear hL
      subst e9
      exact h9
end Go.Proofs.YtebpacmhdkgfeaaGreat

namespace Go.Proofs.YtebpacmhdkgfeaaGreat
open Go.RowKit
theorem clone_fit (s : Sta) (d : StaD) (w00 w : World) (hs : s.Ok w00 d) (hb : Below w00.heap.size w00 w) (f : d.Fit 120 40) :
  Calls Tryz.prog 9 #[.agg (Sta.cells s).toArray] w fun e w' => ∃ r : Sta, e = .returned (.agg (Sta.cells r).toArray) ∧ ∃ F, Loc w NoM w' [sta w00 F r d] :=
 facts_clone s d w00 w hs hb (fun n hn => ⟨Nat.le_trans (f.each n hn).1 (by decide), Nat.le_trans (f.each n hn).2 (by decide)⟩) (Nat.le_trans f.nodes (by decide)) (Nat.le_trans f.links (by decide))
end Go.Proofs.YtebpacmhdkgfeaaGreat

namespace Go.Proofs.YtebpacmhdkgfeaaGreat
open Go.RowKit
set_option maxHeartbeats 8000000
set_option maxRecDepth 100000
theorem merge_fit (s t : Sta) (ds dt : StaD) (w : World) (hs : s.Ok w ds) (ht : t.Ok w dt) (f1 : ds.Fit 120 40) (f2 : dt.Fit 120 40) :
  Calls Tryz.prog 13 #[.agg (Sta.cells s).toArray, .agg (Sta.cells t).toArray] w fun e w' => ∃ r : Sta, e = .returned (.agg (Sta.cells r).toArray) ∧ r.Ok w' (ds.merge dt) ∧ Below w.heap.size w w' := by
 have h1 := f1.nodes; have h2 := f2.nodes; have h3 := f1.links; have h4 := f2.links
 exact join_Merge s t ds dt w hs ht 120 (fun n hn => (List.mem_append.1 hn).elim (f1.each n) (f2.each n)) (by omega) (by omega) (by omega)
theorem doc_fit (s t : Sta) (ds dt : StaD) (w : World) (hs : s.Ok w ds) (ht : t.Ok w dt) (f1 : ds.Fit 120 40) (f2 : dt.Fit 120 40) (hz : ∀ n ∈ ds.nodes ++ dt.nodes, n.Z) (hzl : ∀ l ∈ ds.links ++ dt.links, l.Z) :
  Calls Tryz.prog 14 #[.agg (Sta.cells s).toArray, .agg (Sta.cells t).toArray] w fun e w' => ∃ r : Sta, e = .returned (.agg (Sta.cells r).toArray) ∧ r.Ok w' (ds.merge dt) ∧ Below w.heap.size w w' := by
 have h1 := f1.nodes; have h2 := f2.nodes; have h3 := f1.links; have h4 := f2.links
 exact ref11_merge s t ds dt w hs ht 120 (fun n hn => (List.mem_append.1 hn).elim (f1.each n) (f2.each n)) (by omega) (by omega) (by decide) (by omega) hz hzl
theorem law_JoinMerges (s : Sta) (da : StaD) (t : Sta) (db : StaD) (w : World) (hO0 : s.Ok w da) (hw0 : da.wf maxLen) (hO1 : t.Ok w db) (hw1 : db.wf maxLen) :
  Calls Tryz.prog 4 #[.agg (Sta.cells s).toArray, .agg (Sta.cells t).toArray] w fun e w' => e = .returned (.bool true) ∧ Below w.heap.size w w' := by
 have hL := Loc.nil w NoM
 have ZN : Hid (∀ n ∈ da.nodes ++ db.nodes, n.Z) := kD fun n hn => (List.mem_append.1 hn).elim (fun hn => InoD.Z_of_wf (hw0.nodes n hn) (Nat.le_refl _)) fun hn => InoD.Z_of_wf (hw1.nodes n hn) (Nat.le_refl _)
 have ZL : Hid (∀ l ∈ da.links ++ db.links, l.Z) := kD fun n hn => (List.mem_append.1 hn).elim (fun hn => (hw0.links n hn).name) fun hn => (hw1.links n hn).name
 clear hw0 hw1
 go_enter Tryz.func4, Tryz.ntmps4
 go_wp2_with (first
  | ((with_reducible refine gate (N := 2) rfl ?_); (refine lJ rfl hL rfl rfl cy ?_; clear hL; intro g2 w2 hL)) | ((with_reducible refine gate (N := 3) rfl ?_); (refine lJ rfl hL rfl rfl cy ?_; clear hL; intro g3 w3 hL))
  | ((with_reducible refine gate (N := 10) rfl ?_); refine lM (cs := Sta.cells s ++ Sta.cells t) rfl hL rfl rfl rfl (by kernel_rfl) ?_; clear hL; intro g10 wq hL)
  | (go_at_call 7; have hq := small11 (.slice (some ⟨g10, 0, none⟩) 2 2) [s, t] [da, db] _ (R_box (E := encSt) (t := 27) [s, t] (hL.box (g := g10) vM) (by simp [Enc.all, encSt]) (by simp)) rfl (two_ok (hO0.below hL.below) (hO1.below hL.below)); (with_reducible refine hq.mono ?_); rintro e w9 ⟨⟨b, rfl, hbs⟩, hb9⟩; clear hq; have hL := hL.call hb9; clear hb9; refine stop ?_)
  | ((with_reducible refine qB rfl rfl ?_); (refine lA rfl hL rfl rfl vM (by rfl) ?_)))
 unfold Stop
 cases b
 ·clear hbs
  go_wp2_with (first
   | (go_at_call 8; (with_reducible refine (awake11 _).mono ?_); rintro e w10 ⟨rfl, hb10⟩; have hL := hL.call hb10; clear hb10))
  go_ret
  exact ⟨rfl, hL.below⟩
 ·have hsm := hbs rfl
  have fa := (hsm da (.head _)).fit
  have fb := (hsm db (.tail _ (.head _))).fit
  clear hsm hbs
  have os := hO0.below hL.below
  have ot := hO1.below hL.below
  have hx2 := hL.box (g := g2) vM
  have hx3 := hL.box (g := g3) vM
  have hb0 := kD hL.below
  clear hL hO0 hO1
  have hL := Loc.nil w9 NoM
  go_upto_region 3 with fail
  refine region_held (fun wx => Box wx g2 (Sta.cells s).toArray 27 ∧ Box wx g3 (Sta.cells t).toArray 27) (by kernel_rfl) hL ?_
  clear hL
  intro w40 hL
  refine tK (i := 0) (y := y_loadAll (fun _ h => h.1) (by rfl) (by rfl) (by rfl) (by infer_instance) (by infer_instance) (by rfl)) (s := ⟨hx2.below hL.below, hx3.below hL.below⟩) (z := ?_)
  (try simp only [Act.put, zs, zt, zu])
  refine tK (i := 2) (y := y_loadAll (fun _ h => h.2) (by rfl) (by rfl) (by rfl) (by infer_instance) (by infer_instance) (by rfl)) (s := ⟨hx2.below hL.below, hx3.below hL.below⟩) (z := ?_)
  (try simp only [Act.put, zs, zt, zu])
  apply held4X (I := fun (p q : Nat) (x y : Sta) wx => ∃ F1 F2, Loc w9 NoM wx [var p [.int .i64 0, .int .i64 0, .int .i64 0, .int .i64 0, .int .i64 0, .int .i64 0, .int .i64 0, .int .i64 0, .slice none 0 0, .slice none 0 0] 27, var q [.int .i64 0, .int .i64 0, .int .i64 0, .int .i64 0, .int .i64 0, .int .i64 0, .int .i64 0, .int .i64 0, .slice none 0 0, .slice none 0 0] 27, sta w9 F1 x da, sta w9 F2 y db])
  case h =>
   intro hG
   apply heldThree (i := 1) (j := 4) (k := 5) (by kernel_rfl)
   case hi =>
    refine heldCall (i := 1) (Nth.get nx) (by rfl) (enter1 Tryz.func9 (by kernel_rfl) (by kernel_rfl) (by rfl) (by rfl)) (clone_fit s da w9 _ os hL.below fa) ?_
    rintro e wq ⟨x, rfl, F1, hL5⟩
    replace hL := hL.takeAll hL5
    simp only [List.cons_append, List.nil_append] at hL
    clear hL5
    refine ⟨_, rfl, ⟨hx2.below hL.below, hx3.below hL.below⟩, ?_⟩
    (try simp only [Act.put, zs, zt, zu])
    apply heldThree (i := 3) (j := 4) (k := 5) (by kernel_rfl)
    case hi =>
     refine heldCall (i := 3) (Nth.get nx) (by rfl) (enter1 Tryz.func9 (by kernel_rfl) (by kernel_rfl) (by rfl) (by rfl)) (clone_fit t db w9 _ ot hL.below fb) ?_
     rintro e wq ⟨y, rfl, F2, hL5⟩
     replace hL := hL.takeAll hL5
     simp only [List.cons_append, List.nil_append] at hL
     clear hL5
     refine ⟨_, rfl, ⟨hx2.below hL.below, hx3.below hL.below⟩, ?_⟩
     (try simp only [Act.put, zs, zt, zu])
     apply heldBoth (i := 4) (j := 5) (by kernel_rfl)
     case hi =>
      refine wpOp_alloc (i := 4) (t := 27) (cs := [.int .i64 0, .int .i64 0, .int .i64 0, .int .i64 0, .int .i64 0, .int .i64 0, .int .i64 0, .int .i64 0, .slice none 0 0, .slice none 0 0]) nx rfl hL rfl (cells_agg _ rfl) ?_
      intro p wq hL
      refine ⟨⟨hx2.below hL.below, hx3.below hL.below⟩, ?_⟩
      (try simp only [Act.put, zs, zt, zu])
      refine heldOne (i := 5) (by kernel_rfl) ?_
      refine wpOp_alloc (i := 5) (t := 27) (cs := [.int .i64 0, .int .i64 0, .int .i64 0, .int .i64 0, .int .i64 0, .int .i64 0, .int .i64 0, .int .i64 0, .slice none 0 0, .slice none 0 0]) nx rfl hL rfl (cells_agg _ rfl) ?_
      intro q wq hL
      refine ⟨⟨hx2.below hL.below, hx3.below hL.below⟩, ?_⟩
      (try simp only [Act.put, zs, zt, zu])
      exact hG p q x y _ ⟨F1, F2, hL.perm ((List.Perm.swap _ _ _).trans (((List.Perm.swap _ _ _).cons _).cons _))⟩
     case hj =>
      refine wpOp_alloc (i := 5) (t := 27) (cs := [.int .i64 0, .int .i64 0, .int .i64 0, .int .i64 0, .int .i64 0, .int .i64 0, .int .i64 0, .int .i64 0, .slice none 0 0, .slice none 0 0]) nx rfl hL rfl (cells_agg _ rfl) ?_
      intro q wq hL
      refine ⟨⟨hx2.below hL.below, hx3.below hL.below⟩, ?_⟩
      (try simp only [Act.put, zs, zt, zu])
      refine heldOne (i := 4) (by kernel_rfl) ?_
      refine wpOp_alloc (i := 4) (t := 27) (cs := [.int .i64 0, .int .i64 0, .int .i64 0, .int .i64 0, .int .i64 0, .int .i64 0, .int .i64 0, .int .i64 0, .slice none 0 0, .slice none 0 0]) nx rfl hL rfl (cells_agg _ rfl) ?_
      intro p wq hL
      refine ⟨⟨hx2.below hL.below, hx3.below hL.below⟩, ?_⟩
      (try simp only [Act.put, zs, zt, zu])
      exact hG p q x y _ ⟨F1, F2, hL.perm (((List.Perm.swap _ _ _).cons _).cons _)⟩
    case hj =>
     refine wpOp_alloc (i := 4) (t := 27) (cs := [.int .i64 0, .int .i64 0, .int .i64 0, .int .i64 0, .int .i64 0, .int .i64 0, .int .i64 0, .int .i64 0, .slice none 0 0, .slice none 0 0]) nx rfl hL rfl (cells_agg _ rfl) ?_
     intro p wq hL
     refine ⟨⟨hx2.below hL.below, hx3.below hL.below⟩, ?_⟩
     (try simp only [Act.put, zs, zt, zu])
     apply heldBoth (i := 3) (j := 5) (by kernel_rfl)
     case hi =>
      refine heldCall (i := 3) (Nth.get nx) (by rfl) (enter1 Tryz.func9 (by kernel_rfl) (by kernel_rfl) (by rfl) (by rfl)) (clone_fit t db w9 _ ot hL.below fb) ?_
      rintro e wq ⟨y, rfl, F2, hL5⟩
      replace hL := hL.takeAll hL5
      simp only [List.cons_append, List.nil_append] at hL
      clear hL5
      refine ⟨_, rfl, ⟨hx2.below hL.below, hx3.below hL.below⟩, ?_⟩
      (try simp only [Act.put, zs, zt, zu])
      refine heldOne (i := 5) (by kernel_rfl) ?_
      refine wpOp_alloc (i := 5) (t := 27) (cs := [.int .i64 0, .int .i64 0, .int .i64 0, .int .i64 0, .int .i64 0, .int .i64 0, .int .i64 0, .int .i64 0, .slice none 0 0, .slice none 0 0]) nx rfl hL rfl (cells_agg _ rfl) ?_
      intro q wq hL
      refine ⟨⟨hx2.below hL.below, hx3.below hL.below⟩, ?_⟩
      (try simp only [Act.put, zs, zt, zu])
      exact hG p q x y _ ⟨F1, F2, hL.perm ((((List.Perm.swap _ _ _).cons _).trans (((List.Perm.swap _ _ _).cons _).cons _)).trans (List.Perm.swap _ _ _))⟩
     case hj =>
      refine wpOp_alloc (i := 5) (t := 27) (cs := [.int .i64 0, .int .i64 0, .int .i64 0, .int .i64 0, .int .i64 0, .int .i64 0, .int .i64 0, .int .i64 0, .slice none 0 0, .slice none 0 0]) nx rfl hL rfl (cells_agg _ rfl) ?_
      intro q wq hL
      refine ⟨⟨hx2.below hL.below, hx3.below hL.below⟩, ?_⟩
      (try simp only [Act.put, zs, zt, zu])
      refine heldOne (i := 3) (by kernel_rfl) ?_
      refine heldCall (i := 3) (Nth.get nx) (by rfl) (enter1 Tryz.func9 (by kernel_rfl) (by kernel_rfl) (by rfl) (by rfl)) (clone_fit t db w9 _ ot hL.below fb) ?_
      rintro e wq ⟨y, rfl, F2, hL5⟩
      replace hL := hL.takeAll hL5
      simp only [List.cons_append, List.nil_append] at hL
      clear hL5
      refine ⟨_, rfl, ⟨hx2.below hL.below, hx3.below hL.below⟩, ?_⟩
      (try simp only [Act.put, zs, zt, zu])
      exact hG p q x y _ ⟨F1, F2, hL.perm ((((List.Perm.swap _ _ _).trans ((List.Perm.swap _ _ _).cons _)).trans (((List.Perm.swap _ _ _).cons _).cons _)).trans (List.Perm.swap _ _ _))⟩
    case hk =>
     refine wpOp_alloc (i := 5) (t := 27) (cs := [.int .i64 0, .int .i64 0, .int .i64 0, .int .i64 0, .int .i64 0, .int .i64 0, .int .i64 0, .int .i64 0, .slice none 0 0, .slice none 0 0]) nx rfl hL rfl (cells_agg _ rfl) ?_
     intro q wq hL
     refine ⟨⟨hx2.below hL.below, hx3.below hL.below⟩, ?_⟩
     (try simp only [Act.put, zs, zt, zu])
     apply heldBoth (i := 3) (j := 4) (by kernel_rfl)
     case hi =>
      refine heldCall (i := 3) (Nth.get nx) (by rfl) (enter1 Tryz.func9 (by kernel_rfl) (by kernel_rfl) (by rfl) (by rfl)) (clone_fit t db w9 _ ot hL.below fb) ?_
      rintro e wq ⟨y, rfl, F2, hL5⟩
      replace hL := hL.takeAll hL5
      simp only [List.cons_append, List.nil_append] at hL
      clear hL5
      refine ⟨_, rfl, ⟨hx2.below hL.below, hx3.below hL.below⟩, ?_⟩
      (try simp only [Act.put, zs, zt, zu])
      refine heldOne (i := 4) (by kernel_rfl) ?_
      refine wpOp_alloc (i := 4) (t := 27) (cs := [.int .i64 0, .int .i64 0, .int .i64 0, .int .i64 0, .int .i64 0, .int .i64 0, .int .i64 0, .int .i64 0, .slice none 0 0, .slice none 0 0]) nx rfl hL rfl (cells_agg _ rfl) ?_
      intro p wq hL
      refine ⟨⟨hx2.below hL.below, hx3.below hL.below⟩, ?_⟩
      (try simp only [Act.put, zs, zt, zu])
      exact hG p q x y _ ⟨F1, F2, hL.perm (((List.Perm.swap _ _ _).cons _).trans (((List.Perm.swap _ _ _).cons _).cons _))⟩
     case hj =>
      refine wpOp_alloc (i := 4) (t := 27) (cs := [.int .i64 0, .int .i64 0, .int .i64 0, .int .i64 0, .int .i64 0, .int .i64 0, .int .i64 0, .int .i64 0, .slice none 0 0, .slice none 0 0]) nx rfl hL rfl (cells_agg _ rfl) ?_
      intro p wq hL
      refine ⟨⟨hx2.below hL.below, hx3.below hL.below⟩, ?_⟩
      (try simp only [Act.put, zs, zt, zu])
      refine heldOne (i := 3) (by kernel_rfl) ?_
      refine heldCall (i := 3) (Nth.get nx) (by rfl) (enter1 Tryz.func9 (by kernel_rfl) (by kernel_rfl) (by rfl) (by rfl)) (clone_fit t db w9 _ ot hL.below fb) ?_
      rintro e wq ⟨y, rfl, F2, hL5⟩
      replace hL := hL.takeAll hL5
      simp only [List.cons_append, List.nil_append] at hL
      clear hL5
      refine ⟨_, rfl, ⟨hx2.below hL.below, hx3.below hL.below⟩, ?_⟩
      (try simp only [Act.put, zs, zt, zu])
      exact hG p q x y _ ⟨F1, F2, hL.perm (((List.Perm.swap _ _ _).trans ((List.Perm.swap _ _ _).cons _)).trans (((List.Perm.swap _ _ _).cons _).cons _))⟩
   case hj =>
    refine wpOp_alloc (i := 4) (t := 27) (cs := [.int .i64 0, .int .i64 0, .int .i64 0, .int .i64 0, .int .i64 0, .int .i64 0, .int .i64 0, .int .i64 0, .slice none 0 0, .slice none 0 0]) nx rfl hL rfl (cells_agg _ rfl) ?_
    intro p wq hL
    refine ⟨⟨hx2.below hL.below, hx3.below hL.below⟩, ?_⟩
    (try simp only [Act.put, zs, zt, zu])
    apply heldBoth (i := 1) (j := 5) (by kernel_rfl)
    case hi =>
     refine heldCall (i := 1) (Nth.get nx) (by rfl) (enter1 Tryz.func9 (by kernel_rfl) (by kernel_rfl) (by rfl) (by rfl)) (clone_fit s da w9 _ os hL.below fa) ?_
     rintro e wq ⟨x, rfl, F1, hL5⟩
     replace hL := hL.takeAll hL5
     simp only [List.cons_append, List.nil_append] at hL
     clear hL5
     refine ⟨_, rfl, ⟨hx2.below hL.below, hx3.below hL.below⟩, ?_⟩
     (try simp only [Act.put, zs, zt, zu])
     apply heldBoth (i := 3) (j := 5) (by kernel_rfl)
     case hi =>
      refine heldCall (i := 3) (Nth.get nx) (by rfl) (enter1 Tryz.func9 (by kernel_rfl) (by kernel_rfl) (by rfl) (by rfl)) (clone_fit t db w9 _ ot hL.below fb) ?_
      rintro e wq ⟨y, rfl, F2, hL5⟩
      replace hL := hL.takeAll hL5
      simp only [List.cons_append, List.nil_append] at hL
      clear hL5
      refine ⟨_, rfl, ⟨hx2.below hL.below, hx3.below hL.below⟩, ?_⟩
      (try simp only [Act.put, zs, zt, zu])
      refine heldOne (i := 5) (by kernel_rfl) ?_
      refine wpOp_alloc (i := 5) (t := 27) (cs := [.int .i64 0, .int .i64 0, .int .i64 0, .int .i64 0, .int .i64 0, .int .i64 0, .int .i64 0, .int .i64 0, .slice none 0 0, .slice none 0 0]) nx rfl hL rfl (cells_agg _ rfl) ?_
      intro q wq hL
      refine ⟨⟨hx2.below hL.below, hx3.below hL.below⟩, ?_⟩
      (try simp only [Act.put, zs, zt, zu])
      exact hG p q x y _ ⟨F1, F2, hL.perm (((((List.Perm.swap _ _ _).cons _).trans (((List.Perm.swap _ _ _).cons _).cons _)).trans ((List.Perm.swap _ _ _).cons _)).trans (List.Perm.swap _ _ _))⟩
     case hj =>
      refine wpOp_alloc (i := 5) (t := 27) (cs := [.int .i64 0, .int .i64 0, .int .i64 0, .int .i64 0, .int .i64 0, .int .i64 0, .int .i64 0, .int .i64 0, .slice none 0 0, .slice none 0 0]) nx rfl hL rfl (cells_agg _ rfl) ?_
      intro q wq hL
      refine ⟨⟨hx2.below hL.below, hx3.below hL.below⟩, ?_⟩
      (try simp only [Act.put, zs, zt, zu])
      refine heldOne (i := 3) (by kernel_rfl) ?_
      refine heldCall (i := 3) (Nth.get nx) (by rfl) (enter1 Tryz.func9 (by kernel_rfl) (by kernel_rfl) (by rfl) (by rfl)) (clone_fit t db w9 _ ot hL.below fb) ?_
      rintro e wq ⟨y, rfl, F2, hL5⟩
      replace hL := hL.takeAll hL5
      simp only [List.cons_append, List.nil_append] at hL
      clear hL5
      refine ⟨_, rfl, ⟨hx2.below hL.below, hx3.below hL.below⟩, ?_⟩
      (try simp only [Act.put, zs, zt, zu])
      exact hG p q x y _ ⟨F1, F2, hL.perm (((((List.Perm.swap _ _ _).trans ((List.Perm.swap _ _ _).cons _)).trans (((List.Perm.swap _ _ _).cons _).cons _)).trans ((List.Perm.swap _ _ _).cons _)).trans (List.Perm.swap _ _ _))⟩
    case hj =>
     refine wpOp_alloc (i := 5) (t := 27) (cs := [.int .i64 0, .int .i64 0, .int .i64 0, .int .i64 0, .int .i64 0, .int .i64 0, .int .i64 0, .int .i64 0, .slice none 0 0, .slice none 0 0]) nx rfl hL rfl (cells_agg _ rfl) ?_
     intro q wq hL
     refine ⟨⟨hx2.below hL.below, hx3.below hL.below⟩, ?_⟩
     (try simp only [Act.put, zs, zt, zu])
     refine heldOne (i := 1) (by kernel_rfl) ?_
     refine heldCall (i := 1) (Nth.get nx) (by rfl) (enter1 Tryz.func9 (by kernel_rfl) (by kernel_rfl) (by rfl) (by rfl)) (clone_fit s da w9 _ os hL.below fa) ?_
     rintro e wq ⟨x, rfl, F1, hL5⟩
     replace hL := hL.takeAll hL5
     simp only [List.cons_append, List.nil_append] at hL
     clear hL5
     refine ⟨_, rfl, ⟨hx2.below hL.below, hx3.below hL.below⟩, ?_⟩
     (try simp only [Act.put, zs, zt, zu])
     refine heldOne (i := 3) (by kernel_rfl) ?_
     refine heldCall (i := 3) (Nth.get nx) (by rfl) (enter1 Tryz.func9 (by kernel_rfl) (by kernel_rfl) (by rfl) (by rfl)) (clone_fit t db w9 _ ot hL.below fb) ?_
     rintro e wq ⟨y, rfl, F2, hL5⟩
     replace hL := hL.takeAll hL5
     simp only [List.cons_append, List.nil_append] at hL
     clear hL5
     refine ⟨_, rfl, ⟨hx2.below hL.below, hx3.below hL.below⟩, ?_⟩
     (try simp only [Act.put, zs, zt, zu])
     exact hG p q x y _ ⟨F1, F2, hL.perm ((((((List.Perm.swap _ _ _).trans ((List.Perm.swap _ _ _).cons _)).trans (((List.Perm.swap _ _ _).cons _).cons _)).trans (List.Perm.swap _ _ _)).trans ((List.Perm.swap _ _ _).cons _)).trans (List.Perm.swap _ _ _))⟩
   case hk =>
    refine wpOp_alloc (i := 5) (t := 27) (cs := [.int .i64 0, .int .i64 0, .int .i64 0, .int .i64 0, .int .i64 0, .int .i64 0, .int .i64 0, .int .i64 0, .slice none 0 0, .slice none 0 0]) nx rfl hL rfl (cells_agg _ rfl) ?_
    intro q wq hL
    refine ⟨⟨hx2.below hL.below, hx3.below hL.below⟩, ?_⟩
    (try simp only [Act.put, zs, zt, zu])
    apply heldBoth (i := 1) (j := 4) (by kernel_rfl)
    case hi =>
     refine heldCall (i := 1) (Nth.get nx) (by rfl) (enter1 Tryz.func9 (by kernel_rfl) (by kernel_rfl) (by rfl) (by rfl)) (clone_fit s da w9 _ os hL.below fa) ?_
     rintro e wq ⟨x, rfl, F1, hL5⟩
     replace hL := hL.takeAll hL5
     simp only [List.cons_append, List.nil_append] at hL
     clear hL5
     refine ⟨_, rfl, ⟨hx2.below hL.below, hx3.below hL.below⟩, ?_⟩
     (try simp only [Act.put, zs, zt, zu])
     apply heldBoth (i := 3) (j := 4) (by kernel_rfl)
     case hi =>
      refine heldCall (i := 3) (Nth.get nx) (by rfl) (enter1 Tryz.func9 (by kernel_rfl) (by kernel_rfl) (by rfl) (by rfl)) (clone_fit t db w9 _ ot hL.below fb) ?_
      rintro e wq ⟨y, rfl, F2, hL5⟩
      replace hL := hL.takeAll hL5
      simp only [List.cons_append, List.nil_append] at hL
      clear hL5
      refine ⟨_, rfl, ⟨hx2.below hL.below, hx3.below hL.below⟩, ?_⟩
      (try simp only [Act.put, zs, zt, zu])
      refine heldOne (i := 4) (by kernel_rfl) ?_
      refine wpOp_alloc (i := 4) (t := 27) (cs := [.int .i64 0, .int .i64 0, .int .i64 0, .int .i64 0, .int .i64 0, .int .i64 0, .int .i64 0, .int .i64 0, .slice none 0 0, .slice none 0 0]) nx rfl hL rfl (cells_agg _ rfl) ?_
      intro p wq hL
      refine ⟨⟨hx2.below hL.below, hx3.below hL.below⟩, ?_⟩
      (try simp only [Act.put, zs, zt, zu])
      exact hG p q x y _ ⟨F1, F2, hL.perm ((((List.Perm.swap _ _ _).cons _).trans (((List.Perm.swap _ _ _).cons _).cons _)).trans ((List.Perm.swap _ _ _).cons _))⟩
     case hj =>
      refine wpOp_alloc (i := 4) (t := 27) (cs := [.int .i64 0, .int .i64 0, .int .i64 0, .int .i64 0, .int .i64 0, .int .i64 0, .int .i64 0, .int .i64 0, .slice none 0 0, .slice none 0 0]) nx rfl hL rfl (cells_agg _ rfl) ?_
      intro p wq hL
      refine ⟨⟨hx2.below hL.below, hx3.below hL.below⟩, ?_⟩
      (try simp only [Act.put, zs, zt, zu])
      refine heldOne (i := 3) (by kernel_rfl) ?_
      refine heldCall (i := 3) (Nth.get nx) (by rfl) (enter1 Tryz.func9 (by kernel_rfl) (by kernel_rfl) (by rfl) (by rfl)) (clone_fit t db w9 _ ot hL.below fb) ?_
      rintro e wq ⟨y, rfl, F2, hL5⟩
      replace hL := hL.takeAll hL5
      simp only [List.cons_append, List.nil_append] at hL
      clear hL5
      refine ⟨_, rfl, ⟨hx2.below hL.below, hx3.below hL.below⟩, ?_⟩
      (try simp only [Act.put, zs, zt, zu])
      exact hG p q x y _ ⟨F1, F2, hL.perm ((((List.Perm.swap _ _ _).trans ((List.Perm.swap _ _ _).cons _)).trans (((List.Perm.swap _ _ _).cons _).cons _)).trans ((List.Perm.swap _ _ _).cons _))⟩
    case hj =>
     refine wpOp_alloc (i := 4) (t := 27) (cs := [.int .i64 0, .int .i64 0, .int .i64 0, .int .i64 0, .int .i64 0, .int .i64 0, .int .i64 0, .int .i64 0, .slice none 0 0, .slice none 0 0]) nx rfl hL rfl (cells_agg _ rfl) ?_
     intro p wq hL
     refine ⟨⟨hx2.below hL.below, hx3.below hL.below⟩, ?_⟩
     (try simp only [Act.put, zs, zt, zu])
     refine heldOne (i := 1) (by kernel_rfl) ?_
     refine heldCall (i := 1) (Nth.get nx) (by rfl) (enter1 Tryz.func9 (by kernel_rfl) (by kernel_rfl) (by rfl) (by rfl)) (clone_fit s da w9 _ os hL.below fa) ?_
     rintro e wq ⟨x, rfl, F1, hL5⟩
     replace hL := hL.takeAll hL5
     simp only [List.cons_append, List.nil_append] at hL
     clear hL5
     refine ⟨_, rfl, ⟨hx2.below hL.below, hx3.below hL.below⟩, ?_⟩
     (try simp only [Act.put, zs, zt, zu])
     refine heldOne (i := 3) (by kernel_rfl) ?_
     refine heldCall (i := 3) (Nth.get nx) (by rfl) (enter1 Tryz.func9 (by kernel_rfl) (by kernel_rfl) (by rfl) (by rfl)) (clone_fit t db w9 _ ot hL.below fb) ?_
     rintro e wq ⟨y, rfl, F2, hL5⟩
     replace hL := hL.takeAll hL5
     simp only [List.cons_append, List.nil_append] at hL
     clear hL5
     refine ⟨_, rfl, ⟨hx2.below hL.below, hx3.below hL.below⟩, ?_⟩
     (try simp only [Act.put, zs, zt, zu])
     exact hG p q x y _ ⟨F1, F2, hL.perm (((((List.Perm.swap _ _ _).trans ((List.Perm.swap _ _ _).cons _)).trans (((List.Perm.swap _ _ _).cons _).cons _)).trans (List.Perm.swap _ _ _)).trans ((List.Perm.swap _ _ _).cons _))⟩
  case g =>
   rintro g5 g6 x y w44 ⟨F1, F2, hL⟩
   (try simp only [Act.put, zs, zt, zu])
   refine heldStoreAll (i := 6) (g := g5) (vs := Sta.cells x) (cs := [.int .i64 0, .int .i64 0, .int .i64 0, .int .i64 0, .int .i64 0, .int .i64 0, .int .i64 0, .int .i64 0, .slice none 0 0, .slice none 0 0]) nx (by kernel_rfl) rfl hL rfl (by rfl) (by rfl) (cells_agg _ rfl) (by rfl) (by rfl) ?_
   clear hL; intro w45 hL
   refine ⟨⟨hx2.below hL.below, hx3.below hL.below⟩, ?_⟩
   (try simp only [Act.put, zs, zt, zu])
   refine heldStoreAll (i := 7) (g := g6) (vs := Sta.cells y) (cs := [.int .i64 0, .int .i64 0, .int .i64 0, .int .i64 0, .int .i64 0, .int .i64 0, .int .i64 0, .int .i64 0, .slice none 0 0, .slice none 0 0]) nx (by kernel_rfl) rfl hL rfl (by rfl) (by rfl) (cells_agg _ rfl) (by rfl) (by rfl) ?_
   clear hL; intro w46 hL
   refine ⟨⟨hx2.below hL.below, hx3.below hL.below⟩, ?_⟩
   (try simp only [Act.put, zs, zt, zu])
   refine wpAnyH_done (by kernel_rfl) ?_ _
   go_wp2_with (first
    | (go_at_call 13; have hq := merge_fit x y da db _ (hL.staOk (w00 := w9) (F := F1) (s := x) (d := da) (.refl _ _) mx) (hL.staOk (w00 := w9) (F := F2) (s := y) (d := db) (.refl _ _) mx) fa fb; (with_reducible refine hq.mono ?_); rintro e w11 ⟨r, rfl, orr, hb11⟩; clear hq; have hL := hL.call hb11; clear hb11; refine stop ?_)
    | ((with_reducible refine qB rfl rfl ?_); (refine lA rfl hL rfl rfl vM (by rfl) ?_)))
   unfold Stop
   have ox := hL.staOk (w00 := w9) (F := F1) (s := x) (d := da) (.refl _ _) mx
   have oy := hL.staOk (w00 := w9) (F := F2) (s := y) (d := db) (.refl _ _) mx
   replace os := os.below hL.below
   replace ot := ot.below hL.below
   replace hx2 := hx2.below hL.below
   replace hx3 := hx3.below hL.below
   have hx5 := hL.box (g := g5) vM
   have hx6 := hL.box (g := g6) vM
   have hb1 := kD (hb0.out.trans (hL.below.mono hb0.out.size))
   clear hL hb0
   have hL := Loc.nil w11 NoM
   go_wp2_with (first
    | ((with_reducible refine gate (N := 7) rfl ?_); (refine lI rfl hL rfl cy ?_; clear hL; intro g7 w7 hL))
    | ((with_reducible refine qC rfl rfl ?_); (refine lG rfl hL rfl rfl rfl cy (by rfl) (by rfl) ?_); clear hL; intro wq hL))
   refine region_held (fun wx => Box wx g2 (Sta.cells s).toArray 27 ∧ Box wx g3 (Sta.cells t).toArray 27 ∧ Box wx g5 (Sta.cells x).toArray 27 ∧ Box wx g6 (Sta.cells y).toArray 27 ∧ Box wx g7 (Sta.cells r).toArray 27) (by kernel_rfl) hL ?_
   clear hL
   intro w50 hL
   refine tK (i := 0) (y := y_loadAll (fun _ h => h.2.2.2.2) (by rfl) (by rfl) (by rfl) (by infer_instance) (by infer_instance) (by rfl)) (s := ⟨hx2.below hL.below, hx3.below hL.below, hx5.below hL.below, hx6.below hL.below, hL.box (g := g7) vM⟩) (z := ?_)
   (try simp only [Act.put, zs, zt, zu])
   refine tK (i := 1) (y := y_loadAll (fun _ h => h.1) (by rfl) (by rfl) (by rfl) (by infer_instance) (by infer_instance) (by rfl)) (s := ⟨hx2.below hL.below, hx3.below hL.below, hx5.below hL.below, hx6.below hL.below, hL.box (g := g7) vM⟩) (z := ?_)
   (try simp only [Act.put, zs, zt, zu])
   refine tK (i := 2) (y := y_loadAll (fun _ h => h.2.1) (by rfl) (by rfl) (by rfl) (by infer_instance) (by infer_instance) (by rfl)) (s := ⟨hx2.below hL.below, hx3.below hL.below, hx5.below hL.below, hx6.below hL.below, hL.box (g := g7) vM⟩) (z := ?_)
   (try simp only [Act.put, zs, zt, zu])
   refine heldOne (i := 3) (by kernel_rfl) ?_
   refine heldCall (i := 3) (Nth.get nx) (by rfl) (enter2 Tryz.func14 (by kernel_rfl) (by kernel_rfl) (by rfl) (by rfl) (by rfl)) (doc_fit s t da db _ (os.below hL.below) (ot.below hL.below) fa fb ZN.out ZL.out) ?_
   rintro e wq ⟨r2, rfl, or2, hbq⟩
   replace hL := hL.call hbq
   have or2 : r2.Ok wq (da.merge db) := or2
   have hroot := hL.below
   clear hbq
   refine ⟨_, rfl, ⟨hx2.below hL.below, hx3.below hL.below, hx5.below hL.below, hx6.below hL.below, hL.box (g := g7) vM⟩, ?_⟩
   (try simp only [Act.put, zs, zt, zu])
   refine heldOne (i := 4) (by kernel_rfl) ?_
   refine heldCall (i := 4) (Nth.get nx) (by rfl) (enter2 Tryz.func11 (by kernel_rfl) (by kernel_rfl) (by rfl) (by rfl) (by rfl)) (same_state r r2 (da.merge db) _ (orr.below hL.below) or2) ?_
   rintro e wq ⟨rfl, hbq⟩
   replace hL := hL.call hbq
   clear hbq or2 hroot
   refine ⟨_, rfl, ⟨hx2.below hL.below, hx3.below hL.below, hx5.below hL.below, hx6.below hL.below, hL.box (g := g7) vM⟩, ?_⟩
   (try simp only [Act.put, zs, zt, zu])
   refine tK (i := 5) (y := y_moveG (.bool true) (by rfl) rfl (by rfl)) (s := ⟨hx2.below hL.below, hx3.below hL.below, hx5.below hL.below, hx6.below hL.below, hL.box (g := g7) vM⟩) (z := ?_)
   (try simp only [Act.put, zs, zt, zu])
   refine tK (i := 6) (y := y_loadAll (fun _ h => h.2.2.1) (by rfl) (by rfl) (by rfl) (by infer_instance) (by infer_instance) (by rfl)) (s := ⟨hx2.below hL.below, hx3.below hL.below, hx5.below hL.below, hx6.below hL.below, hL.box (g := g7) vM⟩) (z := ?_)
   (try simp only [Act.put, zs, zt, zu])
   refine tK (i := 7) (y := y_loadAll (fun _ h => h.1) (by rfl) (by rfl) (by rfl) (by infer_instance) (by infer_instance) (by rfl)) (s := ⟨hx2.below hL.below, hx3.below hL.below, hx5.below hL.below, hx6.below hL.below, hL.box (g := g7) vM⟩) (z := ?_)
   (try simp only [Act.put, zs, zt, zu])
   refine heldOne (i := 8) (by kernel_rfl) ?_
   refine heldCall (i := 8) (Nth.get nx) (by rfl) (enter2 Tryz.func11 (by kernel_rfl) (by kernel_rfl) (by rfl) (by rfl) (by rfl)) (same_state x s da _ (ox.below hL.below) (os.below hL.below)) ?_
   rintro e wq ⟨rfl, hbq⟩
   replace hL := hL.call hbq
   clear hbq
   refine ⟨_, rfl, ⟨hx2.below hL.below, hx3.below hL.below, hx5.below hL.below, hx6.below hL.below, hL.box (g := g7) vM⟩, ?_⟩
   (try simp only [Act.put, zs, zt, zu])
   refine heldOne (i := 9) (by kernel_rfl) ?_
   refine wpOp_runW (v := .bool true) (Nth.get nx) (by rfl) (by rfl) ?_
   refine ⟨⟨hx2.below hL.below, hx3.below hL.below, hx5.below hL.below, hx6.below hL.below, hL.box (g := g7) vM⟩, ?_⟩
   (try simp only [Act.put, zs, zt, zu])
   refine tK (i := 10) (y := y_moveG (.bool true) (by rfl) rfl (by rfl)) (s := ⟨hx2.below hL.below, hx3.below hL.below, hx5.below hL.below, hx6.below hL.below, hL.box (g := g7) vM⟩) (z := ?_)
   (try simp only [Act.put, zs, zt, zu])
   refine tK (i := 11) (y := y_loadAll (fun _ h => h.2.2.2.1) (by rfl) (by rfl) (by rfl) (by infer_instance) (by infer_instance) (by rfl)) (s := ⟨hx2.below hL.below, hx3.below hL.below, hx5.below hL.below, hx6.below hL.below, hL.box (g := g7) vM⟩) (z := ?_)
   (try simp only [Act.put, zs, zt, zu])
   refine tK (i := 12) (y := y_loadAll (fun _ h => h.2.1) (by rfl) (by rfl) (by rfl) (by infer_instance) (by infer_instance) (by rfl)) (s := ⟨hx2.below hL.below, hx3.below hL.below, hx5.below hL.below, hx6.below hL.below, hL.box (g := g7) vM⟩) (z := ?_)
   (try simp only [Act.put, zs, zt, zu])
   refine heldOne (i := 13) (by kernel_rfl) ?_
   refine heldCall (i := 13) (Nth.get nx) (by rfl) (enter2 Tryz.func11 (by kernel_rfl) (by kernel_rfl) (by rfl) (by rfl) (by rfl)) (same_state y t db _ (oy.below hL.below) (ot.below hL.below)) ?_
   rintro e wq ⟨rfl, hbq⟩
   replace hL := hL.call hbq
   clear hbq
   refine ⟨_, rfl, ⟨hx2.below hL.below, hx3.below hL.below, hx5.below hL.below, hx6.below hL.below, hL.box (g := g7) vM⟩, ?_⟩
   (try simp only [Act.put, zs, zt, zu])
   refine heldOne (i := 14) (by kernel_rfl) ?_
   refine wpOp_runW (v := .bool true) (Nth.get nx) (by rfl) (by rfl) ?_
   refine ⟨⟨hx2.below hL.below, hx3.below hL.below, hx5.below hL.below, hx6.below hL.below, hL.box (g := g7) vM⟩, ?_⟩
   (try simp only [Act.put, zs, zt, zu])
   refine tK (i := 15) (y := y_moveG (.bool true) (by rfl) rfl (by rfl)) (s := ⟨hx2.below hL.below, hx3.below hL.below, hx5.below hL.below, hx6.below hL.below, hL.box (g := g7) vM⟩) (z := ?_)
   (try simp only [Act.put, zs, zt, zu])
   refine heldOne (i := 16) (by kernel_rfl) ?_
   refine heldCall (Nth.get nx) (by rfl) (enter0 Tryz.func8 (by kernel_rfl) (by kernel_rfl) rfl) (awake11 _) ?_
   rintro e wq ⟨rfl, hbq⟩
   replace hL := hL.call hbq
   clear hbq
   refine ⟨_, rfl, ⟨hx2.below hL.below, hx3.below hL.below, hx5.below hL.below, hx6.below hL.below, hL.box (g := g7) vM⟩, ?_⟩
   (try simp only [Act.put, zs, zt, zu])
   refine heldOne (i := 17) (by kernel_rfl) ?_
   refine wpOp_runW (v := .bool true) (Nth.get nx) (by rfl) (by rfl) ?_
   refine ⟨⟨hx2.below hL.below, hx3.below hL.below, hx5.below hL.below, hx6.below hL.below, hL.box (g := g7) vM⟩, ?_⟩
   (try simp only [Act.put, zs, zt, zu])
   refine heldOne (i := 18) (by kernel_rfl) ?_
   refine wpOp_runW (v := .bool true) (Nth.get nx) (by rfl) (by rfl) ?_
   refine ⟨⟨hx2.below hL.below, hx3.below hL.below, hx5.below hL.below, hx6.below hL.below, hL.box (g := g7) vM⟩, ?_⟩
   (try simp only [Act.put, zs, zt, zu])
   refine wpAnyH_done (by kernel_rfl) ?_ _
   go_wp2_with fail
   go_ret
   exact ⟨rfl, hb1.out.trans (hL.below.mono hb1.out.size)⟩
end Go.Proofs.YtebpacmhdkgfeaaGreat
