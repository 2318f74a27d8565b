-- By a program of this session (wip/tools/exrow.py): how the arguments of FnExactCascade come in, and the one pure statement. Not trusted: Lean checks it.
import Derived.Test.YtphicdmipipnbaaAEndsFnExactCascade
import Derived.Test.YtphicdmipipnbaaAOpens
import Derived.WalkKit
namespace Go.Proofs.Ytphicdmipipnbaa.P
open Go.RowKit Go.Proofs.YtphicdmipipnbaaW.PrintWords Go.Proofs.Ytphicdmipipnbaa.Opens
def ok48 (x : S48) : Prop := ((Lit.int .i64 x.f0).wf = true) ∧ (((Lit.int .i64 x.f1).wf = true) ∧ ((∀ y ∈ x.f2, (Lit.int .i64 y).wf = true) ∧ (x.f2).length ≤ maxLen))
theorem o48 : Opens Try.prog 48 k48 ok48 :=
  opens_struct (fun x : S48 => (x.f0, x.f1, x.f2)) (fun p => ⟨p.1, p.2.1, p.2.2⟩) (fun _ => rfl) Try.underlying48 (by kernel_rfl) (opensF_cons rfl (by kernel_rfl) (opens_int Try.underlying3) (opensF_cons rfl (by kernel_rfl) (opens_int Try.underlying3) (opensF_one rfl (by kernel_rfl) (opens_slice Try.underlying31 (opens_int Try.underlying3) (by kernel_rfl) 3))))
/-- THE ONE PURE STATEMENT of FnExactCascade. -/
def laws_FnExactCascade.Pure : Prop := ∀ (l0 : List Int) (l1 : List (S48)) (a2 : Int), ((∀ y ∈ l0, (Lit.int .i64 y).wf = true) ∧ (l0).length ≤ maxLen) → ((∀ y ∈ l1, ok48 y) ∧ (l1).length ≤ maxLen) → ((Lit.int .i64 a2).wf = true) → ∃ k, laws_FnExactCascade.f k l0 l1 a2 = some true
end Go.Proofs.Ytphicdmipipnbaa.P
