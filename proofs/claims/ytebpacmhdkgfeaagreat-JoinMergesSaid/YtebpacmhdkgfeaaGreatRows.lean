/-
  No cell of these rows narrows 'for every input' (looked for: loops, veiled, ifaces, maps, wideKeys, modest, calm, conditions, laid).
  DERIVED. THE GIVEN ROWS OF THIS SEAT. 4 by the template 'for every input the law returns true; each argument reads behind the call as it read before'; 0 by the template 'total and deterministic' (their statements: YtebpacmhdkgfeaaGreatTotals.lean).
  GIVEN WITH THE SEED: the statements are not yours to turn. If you find one false, say at which input.
  Laid BY PROGRAM, IN A SANDBOX (cutbox-rows.mjs): the forced cells as the released guide's own fill.sh prints them over the translation 6664e6ded5964676… (all of the seat's roots in one cut). By AI agents, Wed Nov 11 2026. No macro, syntax, notation, axiom, sorry.
-/
import Derived.Test.YtebpacmhdkgfeaaGreatChecked
import GoSem.Claim
import GoSem.ClaimJoined
import GoSem.ClaimMapViews
import Derived.JoinedTies
import Derived.KernelRfl
namespace Go.Proofs.YtebpacmhdkgfeaaGreat
/- THE CELL 'sum', in the pinned program and in every row, IS THE sha256 OF THE DUMP (.gsa) THAT YtebpacmhdkgfeaaGreatProg.lean LOADS. Nothing in Lean hashes anything: it is a label: what it is worth is what the hold of that sum in a sandbox is worth. -/
noncomputable def Tryz.pinned : Pinned := { name := "ytebpacmhdkgfeaagreat", sum := "6664e6ded59646769af1c1e97c5f1a39a26c6916efd49d55d87e7583dfd607fb", checked := Tryz.checked }
namespace Rows
def none {H : Type} : Left H := { results := [], args := [] }

/-- 'crannoglaw11.JoinStates': WHATEVER THE INPUT: true; the input reads as it did. -/
def joinStatesSpec : ChangeSpec := { name := "joinStates", fn := fun _ => fun
  | [d1, d2] => { results := [.lit (.bool true)], args := [d1, d2] }
  | _ => none }
def joinStatesRow : OpenClaim := { program := "ytebpacmhdkgfeaagreat", sum := "6664e6ded59646769af1c1e97c5f1a39a26c6916efd49d55d87e7583dfd607fb", func := "crannog/crannoglaw11.JoinStates", spec := "joinStates", unfollowed := true, recurses := true, plainKeys := false, apart := false }
def JoinStatesSaid : Prop := joinStatesRow.holds Tryz.pinned (OpenSpec.ofChange joinStatesSpec)

/-- ITS FALSE NEIGHBOUR: 'it returns false'. Refute it at one input. -/
def joinStatesWrong : ChangeSpec := { name := "joinStates", fn := fun _ => fun
  | [d1, d2] => { results := [.lit (.bool false)], args := [d1, d2] }
  | _ => none }
def JoinStatesWrongFalsely : Prop := joinStatesRow.holds Tryz.pinned (OpenSpec.ofChange joinStatesWrong)

/-- 'crannoglaw11.JoinMerges': WHATEVER THE INPUT: true; the input reads as it did. -/
def joinMergesSpec : ChangeSpec := { name := "joinMerges", fn := fun _ => fun
  | [d1, d2] => { results := [.lit (.bool true)], args := [d1, d2] }
  | _ => none }
def joinMergesRow : OpenClaim := { program := "ytebpacmhdkgfeaagreat", sum := "6664e6ded59646769af1c1e97c5f1a39a26c6916efd49d55d87e7583dfd607fb", func := "crannog/crannoglaw11.JoinMerges", spec := "joinMerges", unfollowed := true, recurses := true, plainKeys := false, apart := false }
def JoinMergesSaid : Prop := joinMergesRow.holds Tryz.pinned (OpenSpec.ofChange joinMergesSpec)

/-- ITS FALSE NEIGHBOUR: 'it returns false'. Refute it at one input. -/
def joinMergesWrong : ChangeSpec := { name := "joinMerges", fn := fun _ => fun
  | [d1, d2] => { results := [.lit (.bool false)], args := [d1, d2] }
  | _ => none }
def JoinMergesWrongFalsely : Prop := joinMergesRow.holds Tryz.pinned (OpenSpec.ofChange joinMergesWrong)

/-- 'crannoglaw10.FactsStates': WHATEVER THE INPUT: true; the input reads as it did. -/
def factsStatesSpec : ChangeSpec := { name := "factsStates", fn := fun _ => fun
  | [d] => { results := [.lit (.bool true)], args := [d] }
  | _ => none }
def factsStatesRow : OpenClaim := { program := "ytebpacmhdkgfeaagreat", sum := "6664e6ded59646769af1c1e97c5f1a39a26c6916efd49d55d87e7583dfd607fb", func := "crannog/crannoglaw10.FactsStates", spec := "factsStates", inPlace := ["math.Float64bits", "math.Float64frombits", "internal/bytealg.IndexByteString", "internal/bytealg.IndexString"], unfollowed := true, recurses := true, named := ["internal/bytealg.MaxLen"], plainKeys := false, apart := false }
def FactsStatesSaid : Prop := factsStatesRow.holds Tryz.pinned (OpenSpec.ofChange factsStatesSpec)

/-- ITS FALSE NEIGHBOUR: 'it returns false'. Refute it at one input. -/
def factsStatesWrong : ChangeSpec := { name := "factsStates", fn := fun _ => fun
  | [d] => { results := [.lit (.bool false)], args := [d] }
  | _ => none }
def FactsStatesWrongFalsely : Prop := factsStatesRow.holds Tryz.pinned (OpenSpec.ofChange factsStatesWrong)

/-- 'crannoglaw11.JoinGone': WHATEVER THE INPUT: true; the input reads as it did. -/
def joinGoneSpec : ChangeSpec := { name := "joinGone", fn := fun _ => fun
  | [d1, d2] => { results := [.lit (.bool true)], args := [d1, d2] }
  | _ => none }
def joinGoneRow : OpenClaim := { program := "ytebpacmhdkgfeaagreat", sum := "6664e6ded59646769af1c1e97c5f1a39a26c6916efd49d55d87e7583dfd607fb", func := "crannog/crannoglaw11.JoinGone", spec := "joinGone", inPlace := ["math.Float64frombits", "math.Float64bits", "internal/bytealg.IndexByteString", "internal/bytealg.IndexString"], unfollowed := true, recurses := true, named := ["internal/bytealg.MaxLen"], plainKeys := false, apart := false }
def JoinGoneSaid : Prop := joinGoneRow.holds Tryz.pinned (OpenSpec.ofChange joinGoneSpec)

/-- ITS FALSE NEIGHBOUR: 'it returns false'. Refute it at one input. -/
def joinGoneWrong : ChangeSpec := { name := "joinGone", fn := fun _ => fun
  | [d1, d2] => { results := [.lit (.bool false)], args := [d1, d2] }
  | _ => none }
def JoinGoneWrongFalsely : Prop := joinGoneRow.holds Tryz.pinned (OpenSpec.ofChange joinGoneWrong)

/- THE SECOND FORM. 'bulk': how many values and letters a reading holds, each counted each time it is reached (what is shared counts as often as it is met; a slice's spare places count too). A statement '..UptoSaid' is the law's where the arguments, and the package variables that the reading takes, are together of bulk at most 1048576: NARROWER than '..Said'. Prove '..Said' where nothing that the law and all that it calls make is longer than what came in: it says more and counts as full. Else prove '..UptoSaid'. A law counts once. -/
mutual
def uptoBulk {H : Type} : DataW H → Nat
  | .lit (.string bytes) => bytes.length + 1
  | .lit _ => 1
  | .nil => 1
  | .ptr d => uptoBulk d + 1
  | .slice elems spare => uptoBulkAll elems + uptoBulkAll spare + 1
  | .agg parts => uptoBulkAll parts + 1
  | .iface _ d => uptoBulk d + 1
  | .map entries => uptoBulkEntries entries + 1
  | .held _ => 1
def uptoBulkAll {H : Type} : List (DataW H) → Nat
  | [] => 0
  | d :: r => uptoBulk d + uptoBulkAll r
def uptoBulkEntries {H : Type} : List (Lit × DataW H) → Nat
  | [] => 0
  | x :: r => uptoBulkEntry x + uptoBulkEntries r
def uptoBulkEntry {H : Type} : Lit × DataW H → Nat
  | (.string bytes, d) => bytes.length + uptoBulk d + 1
  | (_, d) => uptoBulk d + 1
 end
def uptoSmall : (H : Type) → List (DataW H) → Bool := fun _ ds => decide (uptoBulkAll ds ≤ 1048576)
def OpenSpec.upto (s : _root_.Go.ChangeSpec) : _root_.Go.OpenSpec := { _root_.Go.OpenSpec.ofChange s with cond := some uptoSmall }

/-- 'crannoglaw11.JoinStates', WHERE WHAT IT READS IS OF BULK AT MOST 1048576: true; the input reads as it did. -/
def joinStatesUptoRow : OpenClaim := { program := "ytebpacmhdkgfeaagreat", sum := "6664e6ded59646769af1c1e97c5f1a39a26c6916efd49d55d87e7583dfd607fb", func := "crannog/crannoglaw11.JoinStates", spec := "joinStates", unfollowed := true, recurses := true, plainKeys := false, apart := false, narrowed := true }
def JoinStatesUptoSaid : Prop := joinStatesUptoRow.holds Tryz.pinned (OpenSpec.upto joinStatesSpec)

/-- 'crannoglaw11.JoinMerges', WHERE WHAT IT READS IS OF BULK AT MOST 1048576: true; the input reads as it did. -/
def joinMergesUptoRow : OpenClaim := { program := "ytebpacmhdkgfeaagreat", sum := "6664e6ded59646769af1c1e97c5f1a39a26c6916efd49d55d87e7583dfd607fb", func := "crannog/crannoglaw11.JoinMerges", spec := "joinMerges", unfollowed := true, recurses := true, plainKeys := false, apart := false, narrowed := true }
def JoinMergesUptoSaid : Prop := joinMergesUptoRow.holds Tryz.pinned (OpenSpec.upto joinMergesSpec)

/-- 'crannoglaw10.FactsStates', WHERE WHAT IT READS IS OF BULK AT MOST 1048576: true; the input reads as it did. -/
def factsStatesUptoRow : OpenClaim := { program := "ytebpacmhdkgfeaagreat", sum := "6664e6ded59646769af1c1e97c5f1a39a26c6916efd49d55d87e7583dfd607fb", func := "crannog/crannoglaw10.FactsStates", spec := "factsStates", inPlace := ["math.Float64bits", "math.Float64frombits", "internal/bytealg.IndexByteString", "internal/bytealg.IndexString"], unfollowed := true, recurses := true, named := ["internal/bytealg.MaxLen"], plainKeys := false, apart := false, narrowed := true }
def FactsStatesUptoSaid : Prop := factsStatesUptoRow.holds Tryz.pinned (OpenSpec.upto factsStatesSpec)

/-- 'crannoglaw11.JoinGone', WHERE WHAT IT READS IS OF BULK AT MOST 1048576: true; the input reads as it did. -/
def joinGoneUptoRow : OpenClaim := { program := "ytebpacmhdkgfeaagreat", sum := "6664e6ded59646769af1c1e97c5f1a39a26c6916efd49d55d87e7583dfd607fb", func := "crannog/crannoglaw11.JoinGone", spec := "joinGone", inPlace := ["math.Float64frombits", "math.Float64bits", "internal/bytealg.IndexByteString", "internal/bytealg.IndexString"], unfollowed := true, recurses := true, named := ["internal/bytealg.MaxLen"], plainKeys := false, apart := false, narrowed := true }
def JoinGoneUptoSaid : Prop := joinGoneUptoRow.holds Tryz.pinned (OpenSpec.upto joinGoneSpec)

end Rows
end Go.Proofs.YtebpacmhdkgfeaaGreat
