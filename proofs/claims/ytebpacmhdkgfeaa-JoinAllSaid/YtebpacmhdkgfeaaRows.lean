/-
  No cell of these rows narrows 'for every input' (looked for: loops, veiled, ifaces, maps, wideKeys, modest, calm, conditions, laid).
  DERIVED. THE GIVEN ROWS OF THIS SEAT. 8 by the template 'for every input the law returns true; each argument reads behind the call as it read before'; 0 by the template 'total and deterministic' (their statements: YtebpacmhdkgfeaaTotals.lean).
  GIVEN WITH THE SEED: the statements are not yours to turn. If you find one false, say at which input.
  Laid BY PROGRAM, IN A SANDBOX (cutbox-rows.mjs): the forced cells as the released guide's own fill.sh prints them over the translation 3c4b12d5b9fe101d… (all of the seat's roots in one cut). By AI agents, Wed Nov 11 2026. No macro, syntax, notation, axiom, sorry.
-/
import Derived.Test.YtebpacmhdkgfeaaChecked
import GoSem.Claim
import GoSem.ClaimJoined
import GoSem.ClaimMapViews
import Derived.JoinedTies
import Derived.KernelRfl
namespace Go.Proofs.Ytebpacmhdkgfeaa
/- THE CELL 'sum', in the pinned program and in every row, IS THE sha256 OF THE DUMP (.gsa) THAT YtebpacmhdkgfeaaProg.lean LOADS. Nothing in Lean hashes anything: it is a label: what it is worth is what the hold of that sum in a sandbox is worth. -/
noncomputable def Try.pinned : Pinned := { name := "ytebpacmhdkgfeaa", sum := "3c4b12d5b9fe101dd34804cb1babb3ee0192134219c2d75b01819f351f56e83d", checked := Try.checked }
namespace Rows
def none {H : Type} : Left H := { results := [], args := [] }

/-- 'crannoglaw11.JoinAll': WHATEVER THE INPUT: true; the input reads as it did. -/
def joinAllSpec : ChangeSpec := { name := "joinAll", fn := fun _ => fun
  | [d1, d2] => { results := [.lit (.bool true)], args := [d1, d2] }
  | _ => none }
def joinAllRow : OpenClaim := { program := "ytebpacmhdkgfeaa", sum := "3c4b12d5b9fe101dd34804cb1babb3ee0192134219c2d75b01819f351f56e83d", func := "crannog/crannoglaw11.JoinAll", spec := "joinAll", unfollowed := true, recurses := true, plainKeys := false, apart := false }
def JoinAllSaid : Prop := joinAllRow.holds Try.pinned (OpenSpec.ofChange joinAllSpec)

/-- ITS FALSE NEIGHBOUR: 'it returns false'. Refute it at one input. -/
def joinAllWrong : ChangeSpec := { name := "joinAll", fn := fun _ => fun
  | [d1, d2] => { results := [.lit (.bool false)], args := [d1, d2] }
  | _ => none }
def JoinAllWrongFalsely : Prop := joinAllRow.holds Try.pinned (OpenSpec.ofChange joinAllWrong)

/-- 'crannoglaw11.JoinOne': WHATEVER THE INPUT: true; the input reads as it did. -/
def joinOneSpec : ChangeSpec := { name := "joinOne", fn := fun _ => fun
  | [d1, d2, d3] => { results := [.lit (.bool true)], args := [d1, d2, d3] }
  | _ => none }
def joinOneRow : OpenClaim := { program := "ytebpacmhdkgfeaa", sum := "3c4b12d5b9fe101dd34804cb1babb3ee0192134219c2d75b01819f351f56e83d", func := "crannog/crannoglaw11.JoinOne", spec := "joinOne", unfollowed := true, recurses := true, plainKeys := false, apart := false }
def JoinOneSaid : Prop := joinOneRow.holds Try.pinned (OpenSpec.ofChange joinOneSpec)

/-- ITS FALSE NEIGHBOUR: 'it returns false'. Refute it at one input. -/
def joinOneWrong : ChangeSpec := { name := "joinOne", fn := fun _ => fun
  | [d1, d2, d3] => { results := [.lit (.bool false)], args := [d1, d2, d3] }
  | _ => none }
def JoinOneWrongFalsely : Prop := joinOneRow.holds Try.pinned (OpenSpec.ofChange joinOneWrong)

/-- 'crannoglaw11.JoinKeeps': WHATEVER THE INPUT: true; the input reads as it did. -/
def joinKeepsSpec : ChangeSpec := { name := "joinKeeps", fn := fun _ => fun
  | [d1, d2] => { results := [.lit (.bool true)], args := [d1, d2] }
  | _ => none }
def joinKeepsRow : OpenClaim := { program := "ytebpacmhdkgfeaa", sum := "3c4b12d5b9fe101dd34804cb1babb3ee0192134219c2d75b01819f351f56e83d", func := "crannog/crannoglaw11.JoinKeeps", spec := "joinKeeps", unfollowed := true, recurses := true, plainKeys := false, apart := false }
def JoinKeepsSaid : Prop := joinKeepsRow.holds Try.pinned (OpenSpec.ofChange joinKeepsSpec)

/-- ITS FALSE NEIGHBOUR: 'it returns false'. Refute it at one input. -/
def joinKeepsWrong : ChangeSpec := { name := "joinKeeps", fn := fun _ => fun
  | [d1, d2] => { results := [.lit (.bool false)], args := [d1, d2] }
  | _ => none }
def JoinKeepsWrongFalsely : Prop := joinKeepsRow.holds Try.pinned (OpenSpec.ofChange joinKeepsWrong)

/-- 'crannoglaw10.FactsBack': WHATEVER THE INPUT: true; the input reads as it did. -/
def factsBackSpec : ChangeSpec := { name := "factsBack", fn := fun _ => fun
  | [d] => { results := [.lit (.bool true)], args := [d] }
  | _ => none }
def factsBackRow : OpenClaim := { program := "ytebpacmhdkgfeaa", sum := "3c4b12d5b9fe101dd34804cb1babb3ee0192134219c2d75b01819f351f56e83d", func := "crannog/crannoglaw10.FactsBack", spec := "factsBack", inPlace := ["math.Float64bits", "math.Float64frombits", "internal/bytealg.IndexByteString", "internal/bytealg.IndexString"], unfollowed := true, recurses := true, named := ["internal/bytealg.MaxLen"], plainKeys := false, apart := false }
def FactsBackSaid : Prop := factsBackRow.holds Try.pinned (OpenSpec.ofChange factsBackSpec)

/-- ITS FALSE NEIGHBOUR: 'it returns false'. Refute it at one input. -/
def factsBackWrong : ChangeSpec := { name := "factsBack", fn := fun _ => fun
  | [d] => { results := [.lit (.bool false)], args := [d] }
  | _ => none }
def FactsBackWrongFalsely : Prop := factsBackRow.holds Try.pinned (OpenSpec.ofChange factsBackWrong)

/-- 'crannoglaw10.FactsKeys': WHATEVER THE INPUT: true; the input reads as it did. -/
def factsKeysSpec : ChangeSpec := { name := "factsKeys", fn := fun _ => fun
  | [d] => { results := [.lit (.bool true)], args := [d] }
  | _ => none }
def factsKeysRow : OpenClaim := { program := "ytebpacmhdkgfeaa", sum := "3c4b12d5b9fe101dd34804cb1babb3ee0192134219c2d75b01819f351f56e83d", func := "crannog/crannoglaw10.FactsKeys", spec := "factsKeys", inPlace := ["math.Float64frombits", "math.Float64bits", "internal/bytealg.IndexByteString", "internal/bytealg.IndexString"], unfollowed := true, recurses := true, named := ["internal/bytealg.MaxLen"], plainKeys := false, apart := false }
def FactsKeysSaid : Prop := factsKeysRow.holds Try.pinned (OpenSpec.ofChange factsKeysSpec)

/-- ITS FALSE NEIGHBOUR: 'it returns false'. Refute it at one input. -/
def factsKeysWrong : ChangeSpec := { name := "factsKeys", fn := fun _ => fun
  | [d] => { results := [.lit (.bool false)], args := [d] }
  | _ => none }
def FactsKeysWrongFalsely : Prop := factsKeysRow.holds Try.pinned (OpenSpec.ofChange factsKeysWrong)

/-- 'crannoglaw10.FactsChecks': WHATEVER THE INPUT: true; the input reads as it did. -/
def factsChecksSpec : ChangeSpec := { name := "factsChecks", fn := fun _ => fun
  | [d1, d2] => { results := [.lit (.bool true)], args := [d1, d2] }
  | _ => none }
def factsChecksRow : OpenClaim := { program := "ytebpacmhdkgfeaa", sum := "3c4b12d5b9fe101dd34804cb1babb3ee0192134219c2d75b01819f351f56e83d", func := "crannog/crannoglaw10.FactsChecks", spec := "factsChecks", inPlace := ["math.Float64bits", "math.Float64frombits", "internal/bytealg.IndexByteString", "internal/bytealg.IndexString"], unfollowed := true, recurses := true, named := ["internal/bytealg.MaxLen"], plainKeys := false, apart := false }
def FactsChecksSaid : Prop := factsChecksRow.holds Try.pinned (OpenSpec.ofChange factsChecksSpec)

/-- ITS FALSE NEIGHBOUR: 'it returns false'. Refute it at one input. -/
def factsChecksWrong : ChangeSpec := { name := "factsChecks", fn := fun _ => fun
  | [d1, d2] => { results := [.lit (.bool false)], args := [d1, d2] }
  | _ => none }
def FactsChecksWrongFalsely : Prop := factsChecksRow.holds Try.pinned (OpenSpec.ofChange factsChecksWrong)

/-- 'crannoglaw10.FactsEntries': WHATEVER THE INPUT: true; the input reads as it did. -/
def factsEntriesSpec : ChangeSpec := { name := "factsEntries", fn := fun _ => fun
  | [d] => { results := [.lit (.bool true)], args := [d] }
  | _ => none }
def factsEntriesRow : OpenClaim := { program := "ytebpacmhdkgfeaa", sum := "3c4b12d5b9fe101dd34804cb1babb3ee0192134219c2d75b01819f351f56e83d", func := "crannog/crannoglaw10.FactsEntries", spec := "factsEntries", inPlace := ["math.Float64bits", "math.Float64frombits", "internal/bytealg.IndexByteString", "internal/bytealg.IndexString"], unfollowed := true, recurses := true, named := ["internal/bytealg.MaxLen"], plainKeys := false, apart := false }
def FactsEntriesSaid : Prop := factsEntriesRow.holds Try.pinned (OpenSpec.ofChange factsEntriesSpec)

/-- ITS FALSE NEIGHBOUR: 'it returns false'. Refute it at one input. -/
def factsEntriesWrong : ChangeSpec := { name := "factsEntries", fn := fun _ => fun
  | [d] => { results := [.lit (.bool false)], args := [d] }
  | _ => none }
def FactsEntriesWrongFalsely : Prop := factsEntriesRow.holds Try.pinned (OpenSpec.ofChange factsEntriesWrong)

/-- 'crannoglaw10.FactsSame': WHATEVER THE INPUT: true; the input reads as it did. -/
def factsSameSpec : ChangeSpec := { name := "factsSame", fn := fun _ => fun
  | [d1, d2] => { results := [.lit (.bool true)], args := [d1, d2] }
  | _ => none }
def factsSameRow : OpenClaim := { program := "ytebpacmhdkgfeaa", sum := "3c4b12d5b9fe101dd34804cb1babb3ee0192134219c2d75b01819f351f56e83d", func := "crannog/crannoglaw10.FactsSame", spec := "factsSame", inPlace := ["math.Float64bits", "math.Float64frombits", "internal/bytealg.IndexByteString", "internal/bytealg.IndexString"], unfollowed := true, recurses := true, named := ["internal/bytealg.MaxLen"], plainKeys := false, apart := false }
def FactsSameSaid : Prop := factsSameRow.holds Try.pinned (OpenSpec.ofChange factsSameSpec)

/-- ITS FALSE NEIGHBOUR: 'it returns false'. Refute it at one input. -/
def factsSameWrong : ChangeSpec := { name := "factsSame", fn := fun _ => fun
  | [d1, d2] => { results := [.lit (.bool false)], args := [d1, d2] }
  | _ => none }
def FactsSameWrongFalsely : Prop := factsSameRow.holds Try.pinned (OpenSpec.ofChange factsSameWrong)

/- THE SECOND FORM. 'bulk': how many values and letters a reading holds, each counted each time it is reached (what is shared counts as often as it is met; a slice's spare places count too). A statement '..UptoSaid' is the law's where the arguments, and the package variables that the reading takes, are together of bulk at most 1048576: NARROWER than '..Said'. Prove '..Said' where nothing that the law and all that it calls make is longer than what came in: it says more and counts as full. Else prove '..UptoSaid'. A law counts once. -/
mutual
def uptoBulk {H : Type} : DataW H → Nat
  | .lit (.string bytes) => bytes.length + 1
  | .lit _ => 1
  | .nil => 1
  | .ptr d => uptoBulk d + 1
  | .slice elems spare => uptoBulkAll elems + uptoBulkAll spare + 1
  | .agg parts => uptoBulkAll parts + 1
  | .iface _ d => uptoBulk d + 1
  | .map entries => uptoBulkEntries entries + 1
  | .held _ => 1
def uptoBulkAll {H : Type} : List (DataW H) → Nat
  | [] => 0
  | d :: r => uptoBulk d + uptoBulkAll r
def uptoBulkEntries {H : Type} : List (Lit × DataW H) → Nat
  | [] => 0
  | x :: r => uptoBulkEntry x + uptoBulkEntries r
def uptoBulkEntry {H : Type} : Lit × DataW H → Nat
  | (.string bytes, d) => bytes.length + uptoBulk d + 1
  | (_, d) => uptoBulk d + 1
 end
def uptoSmall : (H : Type) → List (DataW H) → Bool := fun _ ds => decide (uptoBulkAll ds ≤ 1048576)
def OpenSpec.upto (s : _root_.Go.ChangeSpec) : _root_.Go.OpenSpec := { _root_.Go.OpenSpec.ofChange s with cond := some uptoSmall }

/-- 'crannoglaw11.JoinAll', WHERE WHAT IT READS IS OF BULK AT MOST 1048576: true; the input reads as it did. -/
def joinAllUptoRow : OpenClaim := { program := "ytebpacmhdkgfeaa", sum := "3c4b12d5b9fe101dd34804cb1babb3ee0192134219c2d75b01819f351f56e83d", func := "crannog/crannoglaw11.JoinAll", spec := "joinAll", unfollowed := true, recurses := true, plainKeys := false, apart := false, narrowed := true }
def JoinAllUptoSaid : Prop := joinAllUptoRow.holds Try.pinned (OpenSpec.upto joinAllSpec)

/-- 'crannoglaw11.JoinOne', WHERE WHAT IT READS IS OF BULK AT MOST 1048576: true; the input reads as it did. -/
def joinOneUptoRow : OpenClaim := { program := "ytebpacmhdkgfeaa", sum := "3c4b12d5b9fe101dd34804cb1babb3ee0192134219c2d75b01819f351f56e83d", func := "crannog/crannoglaw11.JoinOne", spec := "joinOne", unfollowed := true, recurses := true, plainKeys := false, apart := false, narrowed := true }
def JoinOneUptoSaid : Prop := joinOneUptoRow.holds Try.pinned (OpenSpec.upto joinOneSpec)

/-- 'crannoglaw11.JoinKeeps', WHERE WHAT IT READS IS OF BULK AT MOST 1048576: true; the input reads as it did. -/
def joinKeepsUptoRow : OpenClaim := { program := "ytebpacmhdkgfeaa", sum := "3c4b12d5b9fe101dd34804cb1babb3ee0192134219c2d75b01819f351f56e83d", func := "crannog/crannoglaw11.JoinKeeps", spec := "joinKeeps", unfollowed := true, recurses := true, plainKeys := false, apart := false, narrowed := true }
def JoinKeepsUptoSaid : Prop := joinKeepsUptoRow.holds Try.pinned (OpenSpec.upto joinKeepsSpec)

/-- 'crannoglaw10.FactsBack', WHERE WHAT IT READS IS OF BULK AT MOST 1048576: true; the input reads as it did. -/
def factsBackUptoRow : OpenClaim := { program := "ytebpacmhdkgfeaa", sum := "3c4b12d5b9fe101dd34804cb1babb3ee0192134219c2d75b01819f351f56e83d", func := "crannog/crannoglaw10.FactsBack", spec := "factsBack", inPlace := ["math.Float64bits", "math.Float64frombits", "internal/bytealg.IndexByteString", "internal/bytealg.IndexString"], unfollowed := true, recurses := true, named := ["internal/bytealg.MaxLen"], plainKeys := false, apart := false, narrowed := true }
def FactsBackUptoSaid : Prop := factsBackUptoRow.holds Try.pinned (OpenSpec.upto factsBackSpec)

/-- 'crannoglaw10.FactsKeys', WHERE WHAT IT READS IS OF BULK AT MOST 1048576: true; the input reads as it did. -/
def factsKeysUptoRow : OpenClaim := { program := "ytebpacmhdkgfeaa", sum := "3c4b12d5b9fe101dd34804cb1babb3ee0192134219c2d75b01819f351f56e83d", func := "crannog/crannoglaw10.FactsKeys", spec := "factsKeys", inPlace := ["math.Float64frombits", "math.Float64bits", "internal/bytealg.IndexByteString", "internal/bytealg.IndexString"], unfollowed := true, recurses := true, named := ["internal/bytealg.MaxLen"], plainKeys := false, apart := false, narrowed := true }
def FactsKeysUptoSaid : Prop := factsKeysUptoRow.holds Try.pinned (OpenSpec.upto factsKeysSpec)

/-- 'crannoglaw10.FactsChecks', WHERE WHAT IT READS IS OF BULK AT MOST 1048576: true; the input reads as it did. -/
def factsChecksUptoRow : OpenClaim := { program := "ytebpacmhdkgfeaa", sum := "3c4b12d5b9fe101dd34804cb1babb3ee0192134219c2d75b01819f351f56e83d", func := "crannog/crannoglaw10.FactsChecks", spec := "factsChecks", inPlace := ["math.Float64bits", "math.Float64frombits", "internal/bytealg.IndexByteString", "internal/bytealg.IndexString"], unfollowed := true, recurses := true, named := ["internal/bytealg.MaxLen"], plainKeys := false, apart := false, narrowed := true }
def FactsChecksUptoSaid : Prop := factsChecksUptoRow.holds Try.pinned (OpenSpec.upto factsChecksSpec)

/-- 'crannoglaw10.FactsEntries', WHERE WHAT IT READS IS OF BULK AT MOST 1048576: true; the input reads as it did. -/
def factsEntriesUptoRow : OpenClaim := { program := "ytebpacmhdkgfeaa", sum := "3c4b12d5b9fe101dd34804cb1babb3ee0192134219c2d75b01819f351f56e83d", func := "crannog/crannoglaw10.FactsEntries", spec := "factsEntries", inPlace := ["math.Float64bits", "math.Float64frombits", "internal/bytealg.IndexByteString", "internal/bytealg.IndexString"], unfollowed := true, recurses := true, named := ["internal/bytealg.MaxLen"], plainKeys := false, apart := false, narrowed := true }
def FactsEntriesUptoSaid : Prop := factsEntriesUptoRow.holds Try.pinned (OpenSpec.upto factsEntriesSpec)

/-- 'crannoglaw10.FactsSame', WHERE WHAT IT READS IS OF BULK AT MOST 1048576: true; the input reads as it did. -/
def factsSameUptoRow : OpenClaim := { program := "ytebpacmhdkgfeaa", sum := "3c4b12d5b9fe101dd34804cb1babb3ee0192134219c2d75b01819f351f56e83d", func := "crannog/crannoglaw10.FactsSame", spec := "factsSame", inPlace := ["math.Float64bits", "math.Float64frombits", "internal/bytealg.IndexByteString", "internal/bytealg.IndexString"], unfollowed := true, recurses := true, named := ["internal/bytealg.MaxLen"], plainKeys := false, apart := false, narrowed := true }
def FactsSameUptoSaid : Prop := factsSameUptoRow.holds Try.pinned (OpenSpec.upto factsSameSpec)

end Rows
end Go.Proofs.Ytebpacmhdkgfeaa
