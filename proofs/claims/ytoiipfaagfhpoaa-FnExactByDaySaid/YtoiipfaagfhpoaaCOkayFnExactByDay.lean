-- By a program of this session (wip/tools/exrow.py): how the arguments of FnExactByDay come in, and the one pure statement. Not trusted: Lean checks it.
import Derived.Test.YtoiipfaagfhpoaaCPx15
import Derived.Test.YtoiipfaagfhpoaaCOpens
import Derived.WalkKit
namespace Go.Proofs.Ytoiipfaagfhpoaa.P
open Go.RowKit Go.Proofs.YtoiipfaagfhpoaaW.PrintWords Go.Proofs.Ytoiipfaagfhpoaa.Opens
def ok48 (x : S48) : Prop := ((Lit.int .i64 x.f0).wf = true) ∧ (((Lit.int .i64 x.f1).wf = true) ∧ (((Lit.int .i64 x.f2).wf = true) ∧ ((Lit.int .i64 x.f3).wf = true)))
theorem o48 : Opens Try.prog 48 k48 ok48 :=
  opens_struct (fun x : S48 => (x.f0, x.f1, x.f2, x.f3)) (fun p => ⟨p.1, p.2.1, p.2.2.1, p.2.2.2⟩) (fun _ => rfl) Try.underlying48 (by kernel_rfl) (opensF_cons rfl (by kernel_rfl) (opens_int Try.underlying3) (opensF_cons rfl (by kernel_rfl) (opens_int Try.underlying3) (opensF_cons rfl (by kernel_rfl) (opens_int Try.underlying3) (opensF_one rfl (by kernel_rfl) (opens_int Try.underlying3)))))
/-- THE ONE PURE STATEMENT of FnExactByDay. -/
def laws_FnExactByDay.Pure : Prop := ∀ (l0 : List (S48)), ((∀ y ∈ l0, ok48 y) ∧ (l0).length ≤ maxLen) → ∃ k, laws_FnExactByDay.f k l0 = some true
end Go.Proofs.Ytoiipfaagfhpoaa.P
