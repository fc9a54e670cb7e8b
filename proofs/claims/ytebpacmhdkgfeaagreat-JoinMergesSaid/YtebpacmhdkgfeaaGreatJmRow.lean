/- crannoglaw11.JoinMerges answers true for any two states as they may be given: two volumes as one, without what one of them has pruned, are what the document says, and copies stay what they were. No condition on the arguments. -/
import Derived.Test.YtebpacmhdkgfeaaGreatJm12
import Derived.Test.YtebpacmhdkgfeaaGreatRows
import Derived.WalkKit
import Derived.ProofKit
import Derived.OpenShut
import Derived.Carry
import Derived.SizedLaws
import Derived.Handed
import Derived.LaidMore
import Derived.Lay
import Derived.SevenTiedAt
import Derived.Stop.Joined
import Derived.ChangeMaps5
import Derived.Deep.DeepHandedRow
set_option linter.unusedSimpArgs false
set_option linter.unusedVariables false
namespace Go.Proofs.YtebpacmhdkgfeaaGreat.joinMerges
open Go.ChangeShapes Go.WideShapes Go.ChangeAt Go.RowKit Go.WideElems
set_option linter.unusedVariables false
theorem own : ownKnob Tryz.prog.godebug = none := by kernel_rfl
theorem laidOut : laidOutB Tryz.prog = true := by kernel_rfl
set_option maxHeartbeats 800000 in
set_option maxRecDepth 100000 in
theorem lifted (os : Os) (started : os.Started) (H : Type) (enc : TypeId × Value → H) :
  ReturnsInHanded {} Tryz.checked os 4 .any (Rows.joinMergesSpec.pre6 enc Tryz.prog Tryz.f4 Rows.joinMergesRow.domain false) (Rows.joinMergesSpec.post enc Tryz.prog Tryz.f4 false true false false) := by
 refine returnsInHanded_of_change_sized (C := Tryz.checked) own started (by kernel_rfl) Tryz.func4
  (ChangeSpec.witness6 (enc := enc) (C := Tryz.checked) false ⟨#[], #[.agg #[.int .i64 0, .int .i64 0, .int .i64 0, .int .i64 0, .int .i64 0, .int .i64 0, .int .i64 0, .int .i64 0, .slice none 0 0, .slice none 0 0], .agg #[.int .i64 0, .int .i64 0, .int .i64 0, .int .i64 0, .int .i64 0, .int .i64 0, .int .i64 0, .int .i64 0, .slice none 0 0, .slice none 0 0]], []⟩ 8 (by kernel_rfl) (by kernel_rfl) (by kernel_rfl) (by kernel_rfl)) ?_
 intro W base args ds gs before hval0 hW _ _ _
 have hval : ∀ (j : Nat) t v, Tryz.f4.params[j]? = some t → args[j]? = some v → Value.okWide Tryz.prog W .any base t v := hval0
 have hW' := hW
 obtain ⟨p, q, hA0, hV, rfl, _, _⟩ := hW
 have hA : DataW.TrodAll enc Tryz.prog W 0 (fun _ => true) true Tryz.f4.params.toList args.toList ds p := hA0
 rw [Tryz.params4] at hA hval
 obtain ⟨v0, vs0, d0, ds0, p0, q0, hargs, rfl, rfl, h0, r0⟩ := trodAll_cons hA
 obtain ⟨v1, vs1, d1, ds1, p1, q1, rfl, rfl, rfl, h1, r1⟩ := trodAll_cons r0
 obtain ⟨rfl, rfl, rfl⟩ := trodAll_nil r1
 obtain rfl : args = #[v0, v1] := by cases args; simp_all
 obtain ⟨rfl, rfl⟩ := trodVars_none hV
 have h0k := h0
 have hlt0 : ∀ x ∈ p0, x.block < W.heap.size := fun x hx => hW'.lt x (by simp [hx])
 have hK0 : True := trivial
 have h1k := h1
 have hlt1 : ∀ x ∈ p1, x.block < W.heap.size := fun x hx => hW'.lt x (by simp [hx])
 have hK1 : True := trivial
 obtain ⟨cs0, rfl, _⟩ := okWide_struct Tryz.underlying27 (hval 0 _ v0 rfl rfl)
 obtain ⟨fuel0, hf0⟩ := h0
 obtain ⟨m0, hm0, md0, hO0, hw0⟩ := open_s Keep.all hf0 hK0
 have he0 : Value.agg cs0 = .agg (Sta.cells m0).toArray := by rw [show Sta.cells m0 = cs0.toList from hm0.symm]
 obtain ⟨cs1, rfl, _⟩ := okWide_struct Tryz.underlying27 (hval 1 _ v1 rfl rfl)
 obtain ⟨fuel1, hf1⟩ := h1
 obtain ⟨m1, hm1, md1, hO1, hw1⟩ := open_s Keep.all hf1 hK1
 have he1 : Value.agg cs1 = .agg (Sta.cells m1).toArray := by rw [show Sta.cells m1 = cs1.toList from hm1.symm]
 clear hA0 hval0
 have hq := law_JoinMerges m0 md0 m1 md1 W hO0 hw0 hO1 hw1
 rw [← he0, ← he1] at hq
 refine hq.mono fun e W' ⟨he, hb⟩ => ?_
 subst he
 have hT := trodAll_mk2 (Below.trod laidOut (by kernel_rfl) (of_decide_eq_true (by kernel_rfl)) h0k hb hlt0) (Below.trod laidOut (by kernel_rfl) (of_decide_eq_true (by kernel_rfl)) h1k hb hlt1)
 try simp only [List.append_nil, List.nil_append] at hT
 try simp only [List.append_nil, List.nil_append] at hW'
 refine ⟨_, rfl, _, _, _, [], _, [], hW', ?_, hT, rfl, hb.frame _, fun h => by cases h⟩
 exact trodAll_mk1 (shut_bool Tryz.underlying4 _)
theorem proved : Rows.JoinMergesSaid :=
 OpenClaim.holds_of_wide 4 Tryz.f4 rfl rfl rfl rfl rfl rfl rfl ⟨rfl, rfl, rfl, rfl, rfl⟩ rfl rfl rfl rfl rfl (by kernel_rfl) Tryz.func4 (by kernel_rfl)
  (of_decide_eq_true (by kernel_rfl)) (by unfold Func.isWrapper; first | (rw [if_pos (by decide +kernel)]; kernel_rfl) | (rw [if_neg (by decide +kernel)]; exact ⟨rfl, rfl⟩))
  (fun os started H enc _ => lifted os started H enc)
#print axioms proved
end Go.Proofs.YtebpacmhdkgfeaaGreat.joinMerges
