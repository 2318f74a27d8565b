/- What the walk of an Exact law needs: rows told by the interval of their blocks. -/
import Derived.Test.YtphicdmipipnbaaAV1
namespace Go.Proofs.Ytphicdmipipnbaa.LawTools
open Go.RowKit Go.Proofs.YtphicdmipipnbaaW.PrintWords
section
variable {α : Type} {d : Kd α} {e : Nat} {w w1 W W2 : World} {b n0 n : Nat} {ok S : Nat → Prop} {v : Value} {xs : List α}
theorem R_iv (h : Kd.R d e w1 b ok v xs) (h0 : n0 ≤ b) (hn : n ≤ b) : Kd.R d e w1 n0 (fun k => n ≤ k ∧ k < w1.heap.size) v xs :=
  Kd.R_lower (Kd.R_mono (Kd.R_bound h) (fun _ hk => ⟨Nat.le_trans hn hk.2.1, hk.2.2.1⟩)) h0
theorem R_ivo {B : Option Nat} (hE : d.E = []) (h : Kd.R d e w1 b ok v xs) (h0 : n0 ≤ b) (hn : n ≤ b) (hB : B = v.ownBlock) : Kd.R d e w1 n0 (fun k => (n ≤ k ∧ k < w1.heap.size) ∧ B = some k) v xs :=
  Kd.R_reok hE (R_iv h h0 hn) (fun k hk => ⟨(R_iv h h0 hn).1 k hk, hB.trans hk⟩)
theorem S_iv (h : Kd.S d e w1 b ok v xs) (h0 : n0 ≤ b) (hn : n ≤ b) : Kd.S d e w1 n0 (fun k => n ≤ k ∧ k < w1.heap.size) v xs :=
  Kd.S_lower (Kd.S_mono (Kd.S_bound h) (fun _ hk => ⟨Nat.le_trans hn hk.2.1, hk.2.2.1⟩)) h0
theorem V_iv (h : Kd.V d e w1 b ok v xs) (h0 : n0 ≤ b) (hn : ∀ k, ok k → n ≤ k) : Kd.V d e w1 n0 (fun k => n ≤ k ∧ k < w1.heap.size) v xs :=
  Kd.V_lower (Kd.V_mono (Kd.V_bound h) (fun _ hk => ⟨hn _ hk.1, hk.2⟩)) h0
theorem RV_iv (h : Kd.R d e w1 b ok v xs) (h0 : n0 ≤ b) (hn : n ≤ b) : Kd.V d e w1 n0 (fun k => n ≤ k ∧ k < w1.heap.size) v xs := Kd.R_V (R_iv h h0 hn)
theorem SV_iv (h : Kd.S d e w1 b ok v xs) (h0 : n0 ≤ b) (hn : n ≤ b) : Kd.V d e w1 n0 (fun k => n ≤ k ∧ k < w1.heap.size) v xs := Kd.S_V (S_iv h h0 hn)
end
end Go.Proofs.Ytphicdmipipnbaa.LawTools
