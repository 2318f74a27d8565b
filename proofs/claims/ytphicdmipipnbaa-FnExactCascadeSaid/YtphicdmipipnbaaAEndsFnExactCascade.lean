-- By a program of this session (wip/tools/lawwalk.py): the short ways of FnExactCascade, and its contract. Not trusted: Lean checks it.
import Derived.Test.YtphicdmipipnbaaAWalkFnExactCascade
import Derived.Test.YtphicdmipipnbaaAMarksA
import Derived.Test.YtphicdmipipnbaaAPx1
import Derived.Test.YtphicdmipipnbaaAPx2
import Derived.Test.YtphicdmipipnbaaAPx5
import Derived.Test.YtphicdmipipnbaaAPx8
import Derived.Test.YtphicdmipipnbaaALawTools
namespace Go.Proofs.Ytphicdmipipnbaa.P
open Go.RowKit Go.Proofs.YtphicdmipipnbaaW.PrintWords Go.Proofs.YtphicdmipipnbaaW.PrintLast Go.Proofs.YtphicdmipipnbaaW.PrintMore Go.Proofs.Ytphicdmipipnbaa.LawTools
set_option linter.unusedVariables false
set_option linter.unusedSimpArgs false
set_option maxHeartbeats 8000000 in
set_option maxRecDepth 100000 in
theorem laws_FnExactCascade.calls_early0 (k : Nat) (A0 : Option Addr) (c0 : Nat) (l0 : List Int) (A1 : Option Addr) (c1 : Nat) (l1 : List (S48)) (a2 : Int)  (w : World) (hr0 : Kd.C (Kd.int .i64) w A0 l0.length l0) (hc0 : l0.length ≤ c0) (hr1 : Kd.C k48 w A1 l1.length l1) (hc1 : l1.length ≤ c1)
    (ct0 : decide (((l0.length : Nat) : Int) > 1048576) = true) :
    Calls Try.prog 4 #[.slice A0 l0.length c0, .slice A1 l1.length c1, .int .i64 a2] w fun e w' => e = .returned (.bool true) ∧ Below w.heap.size w w' := by
  have ct0_ : decide (1048576 < ((l0.length : Nat) : Int)) = true := (by have z_ := of_decide_eq_true ct0; exact decide_eq_true z_)
  have HR0 := Aside0.mk hr0
  have HC0 := Aside0.mk hc0
  clear hr0 hc0
  have HR1 := Aside0.mk hr1
  have HC1 := Aside0.mk hc1
  clear hr1 hc1
  have HB := Aside0.mk (Below.refl w.heap.size w)
  have tk0 := Aside0.mk (rfl : 0 = 0)
  go_enter Try.func4, Try.ntmps4
  go_wp2
  go_ret
  exact ⟨by first | rfl | (simp; done) | (simp [*]; done), by repeat (first | (with_reducible first | exact HB.out | apply below_alloc | apply pw_below_drewN | apply below_drew1) | exact HB.out)⟩
set_option maxHeartbeats 8000000 in
set_option maxRecDepth 100000 in
theorem laws_FnExactCascade.calls_early1 (k : Nat) (A0 : Option Addr) (c0 : Nat) (l0 : List Int) (A1 : Option Addr) (c1 : Nat) (l1 : List (S48)) (a2 : Int) (L1 : Int) (w : World) (hr0 : Kd.C (Kd.int .i64) w A0 l0.length l0) (hc0 : l0.length ≤ c0) (hr1 : Kd.C k48 w A1 l1.length l1) (hc1 : l1.length ≤ c1)
    (ha0 : laws_szLoanS.f k l1 1048576 = some L1)
    (ct0 : decide (((l0.length : Nat) : Int) > 1048576) = false)
    (ct1 : decide (L1 < 0) = true) :
    Calls Try.prog 4 #[.slice A0 l0.length c0, .slice A1 l1.length c1, .int .i64 a2] w fun e w' => e = .returned (.bool true) ∧ Below w.heap.size w w' := by
  have ct1_ : decide (0 > L1) = true := (by have z_ := of_decide_eq_true ct1; exact decide_eq_true z_)
  have HR0 := Aside0.mk hr0
  have HC0 := Aside0.mk hc0
  clear hr0 hc0
  have HR1 := Aside0.mk hr1
  have HC1 := Aside0.mk hc1
  clear hr1 hc1
  have HA0 := Aside0.mk ha0
  clear ha0
  have HB := Aside0.mk (Below.refl w.heap.size w)
  have tk0 := Aside0.mk (rfl : 0 = 0)
  go_enter Try.func4, Try.ntmps4
  go_wp2_with (first | (have tk_ := tk0; clear tk_ tk0; (with_reducible refine gate_callee (f := 7) rfl ?_); refine goesL_ (some 27) rfl rfl Try.func7 (by kernel_rfl) rfl #[.slice A1 l1.length c1, .int .i64 1048576] rfl (by (try simp only [List.map_toArray, List.map_cons, List.map_nil]); first | done | rfl | (simp only [List.length_drop, List.length_take]; rfl)) ?_; (with_reducible refine (laws_szLoanS.calls k _ _ l1 1048576 L1 _ ?side1 ?side2 HA0.out).mono ?_); (case side1 => repeat (first | exact (Kd.C_below HR1.out HB.out) | (with_reducible refine Kd.C_alloc ?_ _) | (with_reducible refine Kd.C_drewN ?_ _) | (with_reducible refine Kd.C_drew ?_))); (case side2 => exact HC1.out); rintro e w1_ ⟨rfl, hb⟩; refine ⟨_, rfl, ?_⟩; have q0_ := Aside0.mk (show w.heap.size ≤ w1_.heap.size from Nat.le_trans (below_size (w := w) (by repeat (first | exact Below.refl _ _ | apply below_alloc | apply pw_below_drewN | apply below_drew1))) hb.size); have q1_ := Aside0.mk (below_step (by repeat (first | (with_reducible first | exact HB.out | apply below_alloc | apply pw_below_drewN | apply below_drew1) | exact HB.out)) hb); (try clear HB); have HN1 := q0_; have HB := q1_; clear q0_ q1_; (try clear hb); (try clear hkp); (try clear ho0); (try clear hB0_ hB1_); have tk1 := Aside0.mk (rfl : 0 = 0)) | (have tk_ := tk0; clear tk_ tk0; go_at_call 7; (with_reducible refine (laws_szLoanS.calls k _ _ l1 1048576 L1 _ ?side1 ?side2 HA0.out).mono ?_); (case side1 => repeat (first | exact (Kd.C_below HR1.out HB.out) | (with_reducible refine Kd.C_alloc ?_ _) | (with_reducible refine Kd.C_drewN ?_ _) | (with_reducible refine Kd.C_drew ?_))); (case side2 => exact HC1.out); rintro e w1_ ⟨rfl, hb⟩; have q0_ := Aside0.mk (show w.heap.size ≤ w1_.heap.size from Nat.le_trans (below_size (w := w) (by repeat (first | exact Below.refl _ _ | apply below_alloc | apply pw_below_drewN | apply below_drew1))) hb.size); have q1_ := Aside0.mk (below_step (by repeat (first | (with_reducible first | exact HB.out | apply below_alloc | apply pw_below_drewN | apply below_drew1) | exact HB.out)) hb); (try clear HB); have HN1 := q0_; have HB := q1_; clear q0_ q1_; (try clear hb); (try clear hkp); (try clear ho0); (try clear hB0_ hB1_); have tk1 := Aside0.mk (rfl : 0 = 0)))
  go_ret
  exact ⟨by first | rfl | (simp; done) | (simp [*]; done), by repeat (first | (with_reducible first | exact HB.out | apply below_alloc | apply pw_below_drewN | apply below_drew1) | exact HB.out)⟩
/-- What FnExactCascade comes to, where all is well: a size that does not fit, or all that is compared is as it should be. -/
def laws_FnExactCascade.Fine (k : Nat) (l0 : List Int) (l1 : List (S48)) (a2 : Int) : Prop :=
  ((decide (((l0.length : Nat) : Int) > 1048576) = true)) ∨ (∃ (L1 : Int), (laws_szLoanS.f k l1 1048576 = some L1) ∧ (decide (((l0.length : Nat) : Int) > 1048576) = false) ∧ (decide (L1 < 0) = true)) ∨ (∃ (L1 : Int) (T2 : List Int) (T3 : List (S50)) (W4 : List Int) (W5 : Int) (W6 : List Int) (T7 : List Int) (T8 : List (S50)) (T9 : List Int) (T10 : List (S50)) (m11 : Int) (M12 : List Int) (m13 : Int) (M14 : List (S50)) (m15 : Int) (M16 : List Int) (m17 : Int) (M18 : List Int) (T19 : List Int) (T20 : List (S50)), (laws_szLoanS.f k l1 1048576 = some L1) ∧ (laws_toIntS.f k l0 = some T2) ∧ (laws_toLoanS.f k l1 = some T3) ∧ (spec_Cascade.f k T2 T3 a2 = some (W4, W5, W6)) ∧ (laws_toIntS.f k l0 = some T7) ∧ (laws_toLoanS.f k l1 = some T8) ∧ (impl_Cascade.f k T7 T8 a2 = some (W4, W5, W6)) ∧ (laws_eqIntS.f k W4 W4 = some true) ∧ (laws_eqIntS.f k W6 W6 = some true) ∧ (laws_toIntS.f k l0 = some T9) ∧ (laws_eqIntS.f k T7 T9 = some true) ∧ (laws_toLoanS.f k l1 = some T10) ∧ (laws_eqLoanS.f k T8 T10 = some true) ∧ (laws_markIntS.f k T7 1 = some (m11, M12)) ∧ (laws_markLoanS.f k T8 m11 = some (m13, M14)) ∧ (laws_eqIntS.f k W4 W4 = some true) ∧ (laws_eqIntS.f k W6 W6 = some true) ∧ (laws_markIntS.f k W4 1 = some (m15, M16)) ∧ (laws_markIntS.f k W6 m15 = some (m17, M18)) ∧ (laws_heldIntS.f k M16 1 = some m15) ∧ (laws_heldIntS.f k M18 m15 = some m17) ∧ (laws_toIntS.f k l0 = some T19) ∧ (laws_toLoanS.f k l1 = some T20) ∧ (impl_Cascade.f k T19 T20 a2 = some (W4, W5, W6)) ∧ (laws_eqIntS.f k W4 W4 = some true) ∧ (laws_eqIntS.f k W6 W6 = some true) ∧ (laws_heldIntS.f k M16 1 = some m15) ∧ (laws_heldIntS.f k M18 m15 = some m17) ∧ (decide (((l0.length : Nat) : Int) > 1048576) = false) ∧ (decide (L1 < 0) = false) ∧ (decide (m13 < 0) = false) ∧ (decide (m15 < 0) = false) ∧ (decide (m17 < 0) = false))
open Classical in
noncomputable def laws_FnExactCascade.f (k : Nat) (l0 : List Int) (l1 : List (S48)) (a2 : Int) : Option Bool := if laws_FnExactCascade.Fine k l0 l1 a2 then some true else none
theorem laws_FnExactCascade.calls (k : Nat) (A0 : Option Addr) (c0 : Nat) (l0 : List Int) (A1 : Option Addr) (c1 : Nat) (l1 : List (S48)) (a2 : Int) (r : Bool) (w : World) (hr0 : Kd.C (Kd.int .i64) w A0 l0.length l0) (hc0 : l0.length ≤ c0) (hr1 : Kd.C k48 w A1 l1.length l1) (hc1 : l1.length ≤ c1) (h : laws_FnExactCascade.f k l0 l1 a2 = some r) :
    Calls Try.prog 4 #[.slice A0 l0.length c0, .slice A1 l1.length c1, .int .i64 a2] w fun e w' => e = .returned (.bool r) ∧ Below w.heap.size w w' := by
  unfold laws_FnExactCascade.f at h
  by_cases hf : laws_FnExactCascade.Fine k l0 l1 a2
  case neg => rw [if_neg hf] at h; cases h
  rw [if_pos hf] at h
  obtain rfl := Option.some.inj h
  rcases hf with ⟨ct0⟩ | ⟨L1, ha0, ct0, ct1⟩ | ⟨L1, T2, T3, W4, W5, W6, T7, T8, T9, T10, m11, M12, m13, M14, m15, M16, m17, M18, T19, T20, ha0, ha1, ha2, ha3, ha4, ha5, ha6, ha7, ha8, ha9, ha10, ha11, ha12, ha13, ha14, ha15, ha16, ha17, ha18, ha19, ha20, ha21, ha22, ha23, ha24, ha25, ha26, ha27, ct0, ct1, ct2, ct3, ct4⟩
  · exact laws_FnExactCascade.calls_early0 k A0 c0 l0 A1 c1 l1 a2  w hr0 hc0 hr1 hc1 ct0
  · exact laws_FnExactCascade.calls_early1 k A0 c0 l0 A1 c1 l1 a2 L1 w hr0 hc0 hr1 hc1 ha0 ct0 ct1
  · exact laws_FnExactCascade.calls_true k A0 c0 l0 A1 c1 l1 a2 L1 T2 T3 W4 W5 W6 T7 T8 T9 T10 m11 M12 m13 M14 m15 M16 m17 M18 T19 T20 w hr0 hc0 hr1 hc1 ha0 ha1 ha2 ha3 ha4 ha5 ha6 ha7 ha8 ha9 ha10 ha11 ha12 ha13 ha14 ha15 ha16 ha17 ha18 ha19 ha20 ha21 ha22 ha23 ha24 ha25 ha26 ha27 ct0 ct1 ct2 ct3 ct4
end Go.Proofs.Ytphicdmipipnbaa.P
