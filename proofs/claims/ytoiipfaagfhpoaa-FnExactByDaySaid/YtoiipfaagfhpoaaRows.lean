/-
  No cell of these rows narrows 'for every input' (looked for: loops, veiled, ifaces, maps, wideKeys, modest, calm, conditions, laid).
  DERIVED. THE GIVEN ROWS OF THIS SEAT. 4 by the template 'for every input the law returns true; each argument reads behind the call as it read before'; 0 by the template 'total and deterministic' (their statements: YtoiipfaagfhpoaaTotals.lean).
  GIVEN WITH THE SEED: the statements are not yours to turn. If you find one false, say at which input.
  Laid BY PROGRAM, IN A SANDBOX (cutbox-rows.mjs): the forced cells as the released guide's own fill.sh prints them over the translation e32a9875a9442a0f… (all of the seat's roots in one cut). By AI agents, Wed Nov 11 2026. No macro, syntax, notation, axiom, sorry.
-/
import Derived.Test.YtoiipfaagfhpoaaChecked
import GoSem.Claim
import GoSem.ClaimJoined
import GoSem.ClaimMapViews
import Derived.JoinedTies
import Derived.KernelRfl
namespace Go.Proofs.Ytoiipfaagfhpoaa
/- THE CELL 'sum', in the pinned program and in every row, IS THE sha256 OF THE DUMP (.gsa) THAT YtoiipfaagfhpoaaProg.lean LOADS. Nothing in Lean hashes anything: it is a label: what it is worth is what the hold of that sum in a sandbox is worth. -/
noncomputable def Try.pinned : Pinned := { name := "ytoiipfaagfhpoaa", sum := "e32a9875a9442a0f420150347f78392d35761c9539d811e6deb98647dd93ccb4", checked := Try.checked }
namespace Rows
def none {H : Type} : Left H := { results := [], args := [] }

/-- 'laws.FnExactByDay': WHATEVER THE INPUT: true; the input reads as it did. -/
def fnExactByDaySpec : ChangeSpec := { name := "fnExactByDay", fn := fun _ => fun
  | [d] => { results := [.lit (.bool true)], args := [d] }
  | _ => none }
def fnExactByDayRow : OpenClaim := { program := "ytoiipfaagfhpoaa", sum := "e32a9875a9442a0f420150347f78392d35761c9539d811e6deb98647dd93ccb4", func := "loop.example/savingsclub/laws.FnExactByDay", spec := "fnExactByDay", unfollowed := true, recurses := true, apart := false }
def FnExactByDaySaid : Prop := fnExactByDayRow.holds Try.pinned (OpenSpec.ofChange fnExactByDaySpec)

/-- ITS FALSE NEIGHBOUR: 'it returns false'. Refute it at one input. -/
def fnExactByDayWrong : ChangeSpec := { name := "fnExactByDay", fn := fun _ => fun
  | [d] => { results := [.lit (.bool false)], args := [d] }
  | _ => none }
def FnExactByDayWrongFalsely : Prop := fnExactByDayRow.holds Try.pinned (OpenSpec.ofChange fnExactByDayWrong)

/-- 'laws.FnSaldoAt': WHATEVER THE INPUT: true; the input reads as it did. -/
def fnSaldoAtSpec : ChangeSpec := { name := "fnSaldoAt", fn := fun _ => fun
  | [d] => { results := [.lit (.bool true)], args := [d] }
  | _ => none }
def fnSaldoAtRow : OpenClaim := { program := "ytoiipfaagfhpoaa", sum := "e32a9875a9442a0f420150347f78392d35761c9539d811e6deb98647dd93ccb4", func := "loop.example/savingsclub/laws.FnSaldoAt", spec := "fnSaldoAt", unfollowed := true, recurses := true, apart := false }
def FnSaldoAtSaid : Prop := fnSaldoAtRow.holds Try.pinned (OpenSpec.ofChange fnSaldoAtSpec)

/-- ITS FALSE NEIGHBOUR: 'it returns false'. Refute it at one input. -/
def fnSaldoAtWrong : ChangeSpec := { name := "fnSaldoAt", fn := fun _ => fun
  | [d] => { results := [.lit (.bool false)], args := [d] }
  | _ => none }
def FnSaldoAtWrongFalsely : Prop := fnSaldoAtRow.holds Try.pinned (OpenSpec.ofChange fnSaldoAtWrong)

/-- 'laws.FnByDay': WHATEVER THE INPUT: true; the input reads as it did. -/
def fnByDaySpec : ChangeSpec := { name := "fnByDay", fn := fun _ => fun
  | [d] => { results := [.lit (.bool true)], args := [d] }
  | _ => none }
def fnByDayRow : OpenClaim := { program := "ytoiipfaagfhpoaa", sum := "e32a9875a9442a0f420150347f78392d35761c9539d811e6deb98647dd93ccb4", func := "loop.example/savingsclub/laws.FnByDay", spec := "fnByDay", unfollowed := true, recurses := true, apart := false }
def FnByDaySaid : Prop := fnByDayRow.holds Try.pinned (OpenSpec.ofChange fnByDaySpec)

/-- ITS FALSE NEIGHBOUR: 'it returns false'. Refute it at one input. -/
def fnByDayWrong : ChangeSpec := { name := "fnByDay", fn := fun _ => fun
  | [d] => { results := [.lit (.bool false)], args := [d] }
  | _ => none }
def FnByDayWrongFalsely : Prop := fnByDayRow.holds Try.pinned (OpenSpec.ofChange fnByDayWrong)

/-- 'laws.FnExactExplainBooks': WHATEVER THE INPUT: true; the input reads as it did. -/
def fnExactExplainBooksSpec : ChangeSpec := { name := "fnExactExplainBooks", fn := fun _ => fun
  | [d1, d2] => { results := [.lit (.bool true)], args := [d1, d2] }
  | _ => none }
def fnExactExplainBooksRow : OpenClaim := { program := "ytoiipfaagfhpoaa", sum := "e32a9875a9442a0f420150347f78392d35761c9539d811e6deb98647dd93ccb4", func := "loop.example/savingsclub/laws.FnExactExplainBooks", spec := "fnExactExplainBooks", unfollowed := true, recurses := true, apart := false }
def FnExactExplainBooksSaid : Prop := fnExactExplainBooksRow.holds Try.pinned (OpenSpec.ofChange fnExactExplainBooksSpec)

/-- ITS FALSE NEIGHBOUR: 'it returns false'. Refute it at one input. -/
def fnExactExplainBooksWrong : ChangeSpec := { name := "fnExactExplainBooks", fn := fun _ => fun
  | [d1, d2] => { results := [.lit (.bool false)], args := [d1, d2] }
  | _ => none }
def FnExactExplainBooksWrongFalsely : Prop := fnExactExplainBooksRow.holds Try.pinned (OpenSpec.ofChange fnExactExplainBooksWrong)

/- THE SECOND FORM. 'bulk': how many values and letters a reading holds, each counted each time it is reached (what is shared counts as often as it is met; a slice's spare places count too). A statement '..UptoSaid' is the law's where the arguments, and the package variables that the reading takes, are together of bulk at most 1048576: NARROWER than '..Said'. Prove '..Said' where nothing that the law and all that it calls make is longer than what came in: it says more and counts as full. Else prove '..UptoSaid'. A law counts once. -/
mutual
def uptoBulk {H : Type} : DataW H → Nat
  | .lit (.string bytes) => bytes.length + 1
  | .lit _ => 1
  | .nil => 1
  | .ptr d => uptoBulk d + 1
  | .slice elems spare => uptoBulkAll elems + uptoBulkAll spare + 1
  | .agg parts => uptoBulkAll parts + 1
  | .iface _ d => uptoBulk d + 1
  | .map entries => uptoBulkEntries entries + 1
  | .held _ => 1
def uptoBulkAll {H : Type} : List (DataW H) → Nat
  | [] => 0
  | d :: r => uptoBulk d + uptoBulkAll r
def uptoBulkEntries {H : Type} : List (Lit × DataW H) → Nat
  | [] => 0
  | x :: r => uptoBulkEntry x + uptoBulkEntries r
def uptoBulkEntry {H : Type} : Lit × DataW H → Nat
  | (.string bytes, d) => bytes.length + uptoBulk d + 1
  | (_, d) => uptoBulk d + 1
 end
def uptoSmall : (H : Type) → List (DataW H) → Bool := fun _ ds => decide (uptoBulkAll ds ≤ 1048576)
def OpenSpec.upto (s : _root_.Go.ChangeSpec) : _root_.Go.OpenSpec := { _root_.Go.OpenSpec.ofChange s with cond := some uptoSmall }

/-- 'laws.FnExactByDay', WHERE WHAT IT READS IS OF BULK AT MOST 1048576: true; the input reads as it did. -/
def fnExactByDayUptoRow : OpenClaim := { program := "ytoiipfaagfhpoaa", sum := "e32a9875a9442a0f420150347f78392d35761c9539d811e6deb98647dd93ccb4", func := "loop.example/savingsclub/laws.FnExactByDay", spec := "fnExactByDay", unfollowed := true, recurses := true, apart := false, narrowed := true }
def FnExactByDayUptoSaid : Prop := fnExactByDayUptoRow.holds Try.pinned (OpenSpec.upto fnExactByDaySpec)

/-- 'laws.FnSaldoAt', WHERE WHAT IT READS IS OF BULK AT MOST 1048576: true; the input reads as it did. -/
def fnSaldoAtUptoRow : OpenClaim := { program := "ytoiipfaagfhpoaa", sum := "e32a9875a9442a0f420150347f78392d35761c9539d811e6deb98647dd93ccb4", func := "loop.example/savingsclub/laws.FnSaldoAt", spec := "fnSaldoAt", unfollowed := true, recurses := true, apart := false, narrowed := true }
def FnSaldoAtUptoSaid : Prop := fnSaldoAtUptoRow.holds Try.pinned (OpenSpec.upto fnSaldoAtSpec)

/-- 'laws.FnByDay', WHERE WHAT IT READS IS OF BULK AT MOST 1048576: true; the input reads as it did. -/
def fnByDayUptoRow : OpenClaim := { program := "ytoiipfaagfhpoaa", sum := "e32a9875a9442a0f420150347f78392d35761c9539d811e6deb98647dd93ccb4", func := "loop.example/savingsclub/laws.FnByDay", spec := "fnByDay", unfollowed := true, recurses := true, apart := false, narrowed := true }
def FnByDayUptoSaid : Prop := fnByDayUptoRow.holds Try.pinned (OpenSpec.upto fnByDaySpec)

/-- 'laws.FnExactExplainBooks', WHERE WHAT IT READS IS OF BULK AT MOST 1048576: true; the input reads as it did. -/
def fnExactExplainBooksUptoRow : OpenClaim := { program := "ytoiipfaagfhpoaa", sum := "e32a9875a9442a0f420150347f78392d35761c9539d811e6deb98647dd93ccb4", func := "loop.example/savingsclub/laws.FnExactExplainBooks", spec := "fnExactExplainBooks", unfollowed := true, recurses := true, apart := false, narrowed := true }
def FnExactExplainBooksUptoSaid : Prop := fnExactExplainBooksUptoRow.holds Try.pinned (OpenSpec.upto fnExactExplainBooksSpec)

end Rows
end Go.Proofs.Ytoiipfaagfhpoaa
