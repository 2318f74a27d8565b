/-
  NARROWER THAN 'FOR EVERY INPUT', by the rows' own cells (each row's printed sentence says how): FnExactLeastOpeners: loops · FnExactOpenLock: loops.
  DERIVED. THE GIVEN ROWS OF THIS SEAT. 5 by the template 'for every input the law returns true; each argument reads behind the call as it read before'; 0 by the template 'total and deterministic' (their statements: YtkommecfnfdapaaTotals.lean).
  GIVEN WITH THE SEED: the statements are not yours to turn. If you find one false, say at which input.
  Laid BY PROGRAM, IN A SANDBOX (cutbox-rows.mjs): the forced cells as the released guide's own fill.sh prints them over the translation 88b0defc868b0c01… (all of the seat's roots in one cut). By AI agents, Wed Nov 11 2026. No macro, syntax, notation, axiom, sorry.
-/
import Derived.Test.YtkommecfnfdapaaChecked
import GoSem.Claim
import GoSem.ClaimJoined
import GoSem.ClaimMapViews
import Derived.JoinedTies
import Derived.KernelRfl
namespace Go.Proofs.Ytkommecfnfdapaa
/- THE CELL 'sum', in the pinned program and in every row, IS THE sha256 OF THE DUMP (.gsa) THAT YtkommecfnfdapaaProg.lean LOADS. Nothing in Lean hashes anything: it is a label: what it is worth is what the hold of that sum in a sandbox is worth. -/
noncomputable def Try.pinned : Pinned := { name := "ytkommecfnfdapaa", sum := "88b0defc868b0c01dc524f0763dcd98fdd3157135213c690a0ffdd69b61c7d18", checked := Try.checked }
namespace Rows
def none {H : Type} : Left H := { results := [], args := [] }

/-- 'laws.FnExactLeastOpeners': WHATEVER THE INPUT: true; the input reads as it did. -/
def fnExactLeastOpenersSpec : ChangeSpec := { name := "fnExactLeastOpeners", fn := fun _ => fun
  | [d] => { results := [.lit (.bool true)], args := [d] }
  | _ => none }
def fnExactLeastOpenersRow : OpenClaim := { program := "ytkommecfnfdapaa", sum := "88b0defc868b0c01dc524f0763dcd98fdd3157135213c690a0ffdd69b61c7d18", func := "loop.example/savingsclub/laws.FnExactLeastOpeners", spec := "fnExactLeastOpeners", recurses := true, loops := true, apart := false }
def FnExactLeastOpenersSaid : Prop := fnExactLeastOpenersRow.holds Try.pinned (OpenSpec.ofChange fnExactLeastOpenersSpec)

/-- ITS FALSE NEIGHBOUR: 'it returns false'. Refute it at one input. -/
def fnExactLeastOpenersWrong : ChangeSpec := { name := "fnExactLeastOpeners", fn := fun _ => fun
  | [d] => { results := [.lit (.bool false)], args := [d] }
  | _ => none }
def FnExactLeastOpenersWrongFalsely : Prop := fnExactLeastOpenersRow.holds Try.pinned (OpenSpec.ofChange fnExactLeastOpenersWrong)

/-- 'laws.FnWrongShare': WHATEVER THE INPUT: true; the input reads as it did. -/
def fnWrongShareSpec : ChangeSpec := { name := "fnWrongShare", fn := fun _ => fun
  | [d] => { results := [.lit (.bool true)], args := [d] }
  | _ => none }
def fnWrongShareRow : OpenClaim := { program := "ytkommecfnfdapaa", sum := "88b0defc868b0c01dc524f0763dcd98fdd3157135213c690a0ffdd69b61c7d18", func := "loop.example/savingsclub/laws.FnWrongShare", spec := "fnWrongShare", unfollowed := true, recurses := true, apart := false }
def FnWrongShareSaid : Prop := fnWrongShareRow.holds Try.pinned (OpenSpec.ofChange fnWrongShareSpec)

/-- ITS FALSE NEIGHBOUR: 'it returns false'. Refute it at one input. -/
def fnWrongShareWrong : ChangeSpec := { name := "fnWrongShare", fn := fun _ => fun
  | [d] => { results := [.lit (.bool false)], args := [d] }
  | _ => none }
def FnWrongShareWrongFalsely : Prop := fnWrongShareRow.holds Try.pinned (OpenSpec.ofChange fnWrongShareWrong)

/-- 'laws.FnDealLock': WHATEVER THE INPUT: true; the input reads as it did. -/
def fnDealLockSpec : ChangeSpec := { name := "fnDealLock", fn := fun _ => fun
  | [d] => { results := [.lit (.bool true)], args := [d] }
  | _ => none }
def fnDealLockRow : OpenClaim := { program := "ytkommecfnfdapaa", sum := "88b0defc868b0c01dc524f0763dcd98fdd3157135213c690a0ffdd69b61c7d18", func := "loop.example/savingsclub/laws.FnDealLock", spec := "fnDealLock", unfollowed := true, recurses := true, apart := false }
def FnDealLockSaid : Prop := fnDealLockRow.holds Try.pinned (OpenSpec.ofChange fnDealLockSpec)

/-- ITS FALSE NEIGHBOUR: 'it returns false'. Refute it at one input. -/
def fnDealLockWrong : ChangeSpec := { name := "fnDealLock", fn := fun _ => fun
  | [d] => { results := [.lit (.bool false)], args := [d] }
  | _ => none }
def FnDealLockWrongFalsely : Prop := fnDealLockRow.holds Try.pinned (OpenSpec.ofChange fnDealLockWrong)

/-- 'laws.FnExactOpenLock': WHATEVER THE INPUT: true; the input reads as it did. -/
def fnExactOpenLockSpec : ChangeSpec := { name := "fnExactOpenLock", fn := fun _ => fun
  | [d1, d2, d3] => { results := [.lit (.bool true)], args := [d1, d2, d3] }
  | _ => none }
def fnExactOpenLockRow : OpenClaim := { program := "ytkommecfnfdapaa", sum := "88b0defc868b0c01dc524f0763dcd98fdd3157135213c690a0ffdd69b61c7d18", func := "loop.example/savingsclub/laws.FnExactOpenLock", spec := "fnExactOpenLock", unfollowed := true, recurses := true, loops := true, apart := false }
def FnExactOpenLockSaid : Prop := fnExactOpenLockRow.holds Try.pinned (OpenSpec.ofChange fnExactOpenLockSpec)

/-- ITS FALSE NEIGHBOUR: 'it returns false'. Refute it at one input. -/
def fnExactOpenLockWrong : ChangeSpec := { name := "fnExactOpenLock", fn := fun _ => fun
  | [d1, d2, d3] => { results := [.lit (.bool false)], args := [d1, d2, d3] }
  | _ => none }
def FnExactOpenLockWrongFalsely : Prop := fnExactOpenLockRow.holds Try.pinned (OpenSpec.ofChange fnExactOpenLockWrong)

/-- 'laws.FnOpenLock': WHATEVER THE INPUT: true; the input reads as it did. -/
def fnOpenLockSpec : ChangeSpec := { name := "fnOpenLock", fn := fun _ => fun
  | [d] => { results := [.lit (.bool true)], args := [d] }
  | _ => none }
def fnOpenLockRow : OpenClaim := { program := "ytkommecfnfdapaa", sum := "88b0defc868b0c01dc524f0763dcd98fdd3157135213c690a0ffdd69b61c7d18", func := "loop.example/savingsclub/laws.FnOpenLock", spec := "fnOpenLock", unfollowed := true, recurses := true, apart := false }
def FnOpenLockSaid : Prop := fnOpenLockRow.holds Try.pinned (OpenSpec.ofChange fnOpenLockSpec)

/-- ITS FALSE NEIGHBOUR: 'it returns false'. Refute it at one input. -/
def fnOpenLockWrong : ChangeSpec := { name := "fnOpenLock", fn := fun _ => fun
  | [d] => { results := [.lit (.bool false)], args := [d] }
  | _ => none }
def FnOpenLockWrongFalsely : Prop := fnOpenLockRow.holds Try.pinned (OpenSpec.ofChange fnOpenLockWrong)

/- THE SECOND FORM. 'bulk': how many values and letters a reading holds, each counted each time it is reached (what is shared counts as often as it is met; a slice's spare places count too). A statement '..UptoSaid' is the law's where the arguments, and the package variables that the reading takes, are together of bulk at most 1048576: NARROWER than '..Said'. Prove '..Said' where nothing that the law and all that it calls make is longer than what came in: it says more and counts as full. Else prove '..UptoSaid'. A law counts once. -/
mutual
def uptoBulk {H : Type} : DataW H → Nat
  | .lit (.string bytes) => bytes.length + 1
  | .lit _ => 1
  | .nil => 1
  | .ptr d => uptoBulk d + 1
  | .slice elems spare => uptoBulkAll elems + uptoBulkAll spare + 1
  | .agg parts => uptoBulkAll parts + 1
  | .iface _ d => uptoBulk d + 1
  | .map entries => uptoBulkEntries entries + 1
  | .held _ => 1
def uptoBulkAll {H : Type} : List (DataW H) → Nat
  | [] => 0
  | d :: r => uptoBulk d + uptoBulkAll r
def uptoBulkEntries {H : Type} : List (Lit × DataW H) → Nat
  | [] => 0
  | x :: r => uptoBulkEntry x + uptoBulkEntries r
def uptoBulkEntry {H : Type} : Lit × DataW H → Nat
  | (.string bytes, d) => bytes.length + uptoBulk d + 1
  | (_, d) => uptoBulk d + 1
 end
def uptoSmall : (H : Type) → List (DataW H) → Bool := fun _ ds => decide (uptoBulkAll ds ≤ 1048576)
def OpenSpec.upto (s : _root_.Go.ChangeSpec) : _root_.Go.OpenSpec := { _root_.Go.OpenSpec.ofChange s with cond := some uptoSmall }

/-- 'laws.FnExactLeastOpeners', WHERE WHAT IT READS IS OF BULK AT MOST 1048576: true; the input reads as it did. -/
def fnExactLeastOpenersUptoRow : OpenClaim := { program := "ytkommecfnfdapaa", sum := "88b0defc868b0c01dc524f0763dcd98fdd3157135213c690a0ffdd69b61c7d18", func := "loop.example/savingsclub/laws.FnExactLeastOpeners", spec := "fnExactLeastOpeners", recurses := true, loops := true, apart := false, narrowed := true }
def FnExactLeastOpenersUptoSaid : Prop := fnExactLeastOpenersUptoRow.holds Try.pinned (OpenSpec.upto fnExactLeastOpenersSpec)

/-- 'laws.FnWrongShare', WHERE WHAT IT READS IS OF BULK AT MOST 1048576: true; the input reads as it did. -/
def fnWrongShareUptoRow : OpenClaim := { program := "ytkommecfnfdapaa", sum := "88b0defc868b0c01dc524f0763dcd98fdd3157135213c690a0ffdd69b61c7d18", func := "loop.example/savingsclub/laws.FnWrongShare", spec := "fnWrongShare", unfollowed := true, recurses := true, apart := false, narrowed := true }
def FnWrongShareUptoSaid : Prop := fnWrongShareUptoRow.holds Try.pinned (OpenSpec.upto fnWrongShareSpec)

/-- 'laws.FnDealLock', WHERE WHAT IT READS IS OF BULK AT MOST 1048576: true; the input reads as it did. -/
def fnDealLockUptoRow : OpenClaim := { program := "ytkommecfnfdapaa", sum := "88b0defc868b0c01dc524f0763dcd98fdd3157135213c690a0ffdd69b61c7d18", func := "loop.example/savingsclub/laws.FnDealLock", spec := "fnDealLock", unfollowed := true, recurses := true, apart := false, narrowed := true }
def FnDealLockUptoSaid : Prop := fnDealLockUptoRow.holds Try.pinned (OpenSpec.upto fnDealLockSpec)

/-- 'laws.FnExactOpenLock', WHERE WHAT IT READS IS OF BULK AT MOST 1048576: true; the input reads as it did. -/
def fnExactOpenLockUptoRow : OpenClaim := { program := "ytkommecfnfdapaa", sum := "88b0defc868b0c01dc524f0763dcd98fdd3157135213c690a0ffdd69b61c7d18", func := "loop.example/savingsclub/laws.FnExactOpenLock", spec := "fnExactOpenLock", unfollowed := true, recurses := true, loops := true, apart := false, narrowed := true }
def FnExactOpenLockUptoSaid : Prop := fnExactOpenLockUptoRow.holds Try.pinned (OpenSpec.upto fnExactOpenLockSpec)

/-- 'laws.FnOpenLock', WHERE WHAT IT READS IS OF BULK AT MOST 1048576: true; the input reads as it did. -/
def fnOpenLockUptoRow : OpenClaim := { program := "ytkommecfnfdapaa", sum := "88b0defc868b0c01dc524f0763dcd98fdd3157135213c690a0ffdd69b61c7d18", func := "loop.example/savingsclub/laws.FnOpenLock", spec := "fnOpenLock", unfollowed := true, recurses := true, apart := false, narrowed := true }
def FnOpenLockUptoSaid : Prop := fnOpenLockUptoRow.holds Try.pinned (OpenSpec.upto fnOpenLockSpec)

end Rows
end Go.Proofs.Ytkommecfnfdapaa
