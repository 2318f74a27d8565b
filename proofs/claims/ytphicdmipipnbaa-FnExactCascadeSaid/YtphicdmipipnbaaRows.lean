/-
  No cell of these rows narrows 'for every input' (looked for: loops, veiled, ifaces, maps, wideKeys, modest, calm, conditions, laid).
  DERIVED. THE GIVEN ROWS OF THIS SEAT. 4 by the template 'for every input the law returns true; each argument reads behind the call as it read before'; 0 by the template 'total and deterministic' (their statements: YtphicdmipipnbaaTotals.lean).
  GIVEN WITH THE SEED: the statements are not yours to turn. If you find one false, say at which input.
  Laid BY PROGRAM, IN A SANDBOX (cutbox-rows.mjs): the forced cells as the released guide's own fill.sh prints them over the translation 5e51ece3efe92ff0… (all of the seat's roots in one cut). By AI agents, Wed Nov 11 2026. No macro, syntax, notation, axiom, sorry.
-/
import Derived.Test.YtphicdmipipnbaaChecked
import GoSem.Claim
import GoSem.ClaimJoined
import GoSem.ClaimMapViews
import Derived.JoinedTies
import Derived.KernelRfl
namespace Go.Proofs.Ytphicdmipipnbaa
/- THE CELL 'sum', in the pinned program and in every row, IS THE sha256 OF THE DUMP (.gsa) THAT YtphicdmipipnbaaProg.lean LOADS. Nothing in Lean hashes anything: it is a label: what it is worth is what the hold of that sum in a sandbox is worth. -/
noncomputable def Try.pinned : Pinned := { name := "ytphicdmipipnbaa", sum := "5e51ece3efe92ff04b00e0ca63e9575a3d63d18a7ef4bae04d097545fd6e962c", checked := Try.checked }
namespace Rows
def none {H : Type} : Left H := { results := [], args := [] }

/-- 'laws.FnExactMergeLoans': WHATEVER THE INPUT: true; the input reads as it did. -/
def fnExactMergeLoansSpec : ChangeSpec := { name := "fnExactMergeLoans", fn := fun _ => fun
  | [d1, d2] => { results := [.lit (.bool true)], args := [d1, d2] }
  | _ => none }
def fnExactMergeLoansRow : OpenClaim := { program := "ytphicdmipipnbaa", sum := "5e51ece3efe92ff04b00e0ca63e9575a3d63d18a7ef4bae04d097545fd6e962c", func := "loop.example/savingsclub/laws.FnExactMergeLoans", spec := "fnExactMergeLoans", unfollowed := true, recurses := true, apart := false }
def FnExactMergeLoansSaid : Prop := fnExactMergeLoansRow.holds Try.pinned (OpenSpec.ofChange fnExactMergeLoansSpec)

/-- ITS FALSE NEIGHBOUR: 'it returns false'. Refute it at one input. -/
def fnExactMergeLoansWrong : ChangeSpec := { name := "fnExactMergeLoans", fn := fun _ => fun
  | [d1, d2] => { results := [.lit (.bool false)], args := [d1, d2] }
  | _ => none }
def FnExactMergeLoansWrongFalsely : Prop := fnExactMergeLoansRow.holds Try.pinned (OpenSpec.ofChange fnExactMergeLoansWrong)

/-- 'laws.FnExactCascade': WHATEVER THE INPUT: true; the input reads as it did. -/
def fnExactCascadeSpec : ChangeSpec := { name := "fnExactCascade", fn := fun _ => fun
  | [d1, d2, d3] => { results := [.lit (.bool true)], args := [d1, d2, d3] }
  | _ => none }
def fnExactCascadeRow : OpenClaim := { program := "ytphicdmipipnbaa", sum := "5e51ece3efe92ff04b00e0ca63e9575a3d63d18a7ef4bae04d097545fd6e962c", func := "loop.example/savingsclub/laws.FnExactCascade", spec := "fnExactCascade", apart := false }
def FnExactCascadeSaid : Prop := fnExactCascadeRow.holds Try.pinned (OpenSpec.ofChange fnExactCascadeSpec)

/-- ITS FALSE NEIGHBOUR: 'it returns false'. Refute it at one input. -/
def fnExactCascadeWrong : ChangeSpec := { name := "fnExactCascade", fn := fun _ => fun
  | [d1, d2, d3] => { results := [.lit (.bool false)], args := [d1, d2, d3] }
  | _ => none }
def FnExactCascadeWrongFalsely : Prop := fnExactCascadeRow.holds Try.pinned (OpenSpec.ofChange fnExactCascadeWrong)

/-- 'laws.FnByRisk': WHATEVER THE INPUT: true; the input reads as it did. -/
def fnByRiskSpec : ChangeSpec := { name := "fnByRisk", fn := fun _ => fun
  | [d] => { results := [.lit (.bool true)], args := [d] }
  | _ => none }
def fnByRiskRow : OpenClaim := { program := "ytphicdmipipnbaa", sum := "5e51ece3efe92ff04b00e0ca63e9575a3d63d18a7ef4bae04d097545fd6e962c", func := "loop.example/savingsclub/laws.FnByRisk", spec := "fnByRisk", unfollowed := true, recurses := true, apart := false }
def FnByRiskSaid : Prop := fnByRiskRow.holds Try.pinned (OpenSpec.ofChange fnByRiskSpec)

/-- ITS FALSE NEIGHBOUR: 'it returns false'. Refute it at one input. -/
def fnByRiskWrong : ChangeSpec := { name := "fnByRisk", fn := fun _ => fun
  | [d] => { results := [.lit (.bool false)], args := [d] }
  | _ => none }
def FnByRiskWrongFalsely : Prop := fnByRiskRow.holds Try.pinned (OpenSpec.ofChange fnByRiskWrong)

/-- 'laws.FnExactByRisk': WHATEVER THE INPUT: true; the input reads as it did. -/
def fnExactByRiskSpec : ChangeSpec := { name := "fnExactByRisk", fn := fun _ => fun
  | [d1, d2] => { results := [.lit (.bool true)], args := [d1, d2] }
  | _ => none }
def fnExactByRiskRow : OpenClaim := { program := "ytphicdmipipnbaa", sum := "5e51ece3efe92ff04b00e0ca63e9575a3d63d18a7ef4bae04d097545fd6e962c", func := "loop.example/savingsclub/laws.FnExactByRisk", spec := "fnExactByRisk", unfollowed := true, recurses := true, apart := false }
def FnExactByRiskSaid : Prop := fnExactByRiskRow.holds Try.pinned (OpenSpec.ofChange fnExactByRiskSpec)

/-- ITS FALSE NEIGHBOUR: 'it returns false'. Refute it at one input. -/
def fnExactByRiskWrong : ChangeSpec := { name := "fnExactByRisk", fn := fun _ => fun
  | [d1, d2] => { results := [.lit (.bool false)], args := [d1, d2] }
  | _ => none }
def FnExactByRiskWrongFalsely : Prop := fnExactByRiskRow.holds Try.pinned (OpenSpec.ofChange fnExactByRiskWrong)

/- THE SECOND FORM. 'bulk': how many values and letters a reading holds, each counted each time it is reached (what is shared counts as often as it is met; a slice's spare places count too). A statement '..UptoSaid' is the law's where the arguments, and the package variables that the reading takes, are together of bulk at most 1048576: NARROWER than '..Said'. Prove '..Said' where nothing that the law and all that it calls make is longer than what came in: it says more and counts as full. Else prove '..UptoSaid'. A law counts once. -/
mutual
def uptoBulk {H : Type} : DataW H → Nat
  | .lit (.string bytes) => bytes.length + 1
  | .lit _ => 1
  | .nil => 1
  | .ptr d => uptoBulk d + 1
  | .slice elems spare => uptoBulkAll elems + uptoBulkAll spare + 1
  | .agg parts => uptoBulkAll parts + 1
  | .iface _ d => uptoBulk d + 1
  | .map entries => uptoBulkEntries entries + 1
  | .held _ => 1
def uptoBulkAll {H : Type} : List (DataW H) → Nat
  | [] => 0
  | d :: r => uptoBulk d + uptoBulkAll r
def uptoBulkEntries {H : Type} : List (Lit × DataW H) → Nat
  | [] => 0
  | x :: r => uptoBulkEntry x + uptoBulkEntries r
def uptoBulkEntry {H : Type} : Lit × DataW H → Nat
  | (.string bytes, d) => bytes.length + uptoBulk d + 1
  | (_, d) => uptoBulk d + 1
 end
def uptoSmall : (H : Type) → List (DataW H) → Bool := fun _ ds => decide (uptoBulkAll ds ≤ 1048576)
def OpenSpec.upto (s : _root_.Go.ChangeSpec) : _root_.Go.OpenSpec := { _root_.Go.OpenSpec.ofChange s with cond := some uptoSmall }

/-- 'laws.FnExactMergeLoans', WHERE WHAT IT READS IS OF BULK AT MOST 1048576: true; the input reads as it did. -/
def fnExactMergeLoansUptoRow : OpenClaim := { program := "ytphicdmipipnbaa", sum := "5e51ece3efe92ff04b00e0ca63e9575a3d63d18a7ef4bae04d097545fd6e962c", func := "loop.example/savingsclub/laws.FnExactMergeLoans", spec := "fnExactMergeLoans", unfollowed := true, recurses := true, apart := false, narrowed := true }
def FnExactMergeLoansUptoSaid : Prop := fnExactMergeLoansUptoRow.holds Try.pinned (OpenSpec.upto fnExactMergeLoansSpec)

/-- 'laws.FnExactCascade', WHERE WHAT IT READS IS OF BULK AT MOST 1048576: true; the input reads as it did. -/
def fnExactCascadeUptoRow : OpenClaim := { program := "ytphicdmipipnbaa", sum := "5e51ece3efe92ff04b00e0ca63e9575a3d63d18a7ef4bae04d097545fd6e962c", func := "loop.example/savingsclub/laws.FnExactCascade", spec := "fnExactCascade", apart := false, narrowed := true }
def FnExactCascadeUptoSaid : Prop := fnExactCascadeUptoRow.holds Try.pinned (OpenSpec.upto fnExactCascadeSpec)

/-- 'laws.FnByRisk', WHERE WHAT IT READS IS OF BULK AT MOST 1048576: true; the input reads as it did. -/
def fnByRiskUptoRow : OpenClaim := { program := "ytphicdmipipnbaa", sum := "5e51ece3efe92ff04b00e0ca63e9575a3d63d18a7ef4bae04d097545fd6e962c", func := "loop.example/savingsclub/laws.FnByRisk", spec := "fnByRisk", unfollowed := true, recurses := true, apart := false, narrowed := true }
def FnByRiskUptoSaid : Prop := fnByRiskUptoRow.holds Try.pinned (OpenSpec.upto fnByRiskSpec)

/-- 'laws.FnExactByRisk', WHERE WHAT IT READS IS OF BULK AT MOST 1048576: true; the input reads as it did. -/
def fnExactByRiskUptoRow : OpenClaim := { program := "ytphicdmipipnbaa", sum := "5e51ece3efe92ff04b00e0ca63e9575a3d63d18a7ef4bae04d097545fd6e962c", func := "loop.example/savingsclub/laws.FnExactByRisk", spec := "fnExactByRisk", unfollowed := true, recurses := true, apart := false, narrowed := true }
def FnExactByRiskUptoSaid : Prop := fnExactByRiskUptoRow.holds Try.pinned (OpenSpec.upto fnExactByRiskSpec)

end Rows
end Go.Proofs.Ytphicdmipipnbaa
