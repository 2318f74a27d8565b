-- By a program of this session (wip/tools/xprint.py), which uses the kit's print; not a text of print.sh. Not trusted: Lean checks it.
import Derived.Test.YtoiipfaagfhpoaaBPx0
import Derived.Test.YtoiipfaagfhpoaaBPx1
import Derived.Test.YtoiipfaagfhpoaaBPx4
namespace Go.Proofs.Ytoiipfaagfhpoaa.P
open Go.RowKit Go.Proofs.YtoiipfaagfhpoaaW.PrintWords Go.Proofs.YtoiipfaagfhpoaaW.PrintLast Go.Proofs.YtoiipfaagfhpoaaW.PrintMore
attribute [local go_sem] max2_int min2_int max_two min_two max_three min_three max_four min_four   -- for this text's walks alone
set_option linter.unusedVariables false
set_option linter.unusedSimpArgs false

attribute [local go_sem high] eqA40
/-! ### impl_MatchBooks: function 42 -/
mutual
def impl_MatchBooks.j0 : Nat → List (S40) → List (S40) → Bool → Option (List Int)
 | 0, _, _, _ => none
 | k + 1, x0, x1, x19 => if x19 = true then (some ([] : List Int)) else (if 0 ≤ (x1.length : Int) then (if ((x1.length : Int) : Int).toNat ≤ 281474976710656 then (impl_MatchBooks.l0 k x1 (List.replicate ((x1.length : Int) : Int).toNat false) ([] : List Int) x0 (x0.length : Int) 0) else (none)) else (none))
def impl_MatchBooks.l0 : Nat → List (S40) → List Bool → List Int → List (S40) → Int → Int → Option (List Int)
 | 0, _, _, _, _, _, _ => none
 | k + 1, x1, x5, x6, x23, x24, x25 => if x25 < x24 then (if 0 ≤ x25 then (if x25 < (x23.length : Int) then (impl_MatchBooks.l1 k x1 x5 x6 (-1) x23 x24 x25 x1 (x1.length : Int) 0 ((rd_T40 x23 x25).f0) ((rd_T40 x23 x25).f1) ((rd_T40 x23 x25).f2) ((rd_T40 x23 x25).f3)) else (none)) else (none)) else (some x6)
def impl_MatchBooks.l1 : Nat → List (S40) → List Bool → List Int → Int → List (S40) → Int → Int → List (S40) → Int → Int → Int → Int → Int → Int → Option (List Int)
 | 0, _, _, _, _, _, _, _, _, _, _, _, _, _, _ => none
 | k + 1, x1, x5, x6, x9, x23, x24, x25, x29, x30, x31, x305000, x305001, x305002, x305003 => if x31 < x30 then (if 0 ≤ x31 then (if x31 < (x29.length : Int) then (if x31 < (x5.length : Int) then (if rdOf false x5 x31 = true then (impl_MatchBooks.l1 k x1 x5 x6 x9 x23 x24 x25 x29 x30 (wrap64 (x31 + 1)) x305000 x305001 x305002 x305003) else (if (((rd_T40 x29 x31).f0) == x305000 && (((rd_T40 x29 x31).f1) == x305001 && (((rd_T40 x29 x31).f2) == x305002 && (((rd_T40 x29 x31).f3) == x305003)))) = true then (if x6.length < 17592186044416 then (impl_MatchBooks.l0 k x1 (x5.set (x31 : Int).toNat true) (x6 ++ [x31]) x23 x24 (wrap64 (x25 + 1))) else (none)) else (impl_MatchBooks.l1 k x1 x5 x6 x9 x23 x24 x25 x29 x30 (wrap64 (x31 + 1)) x305000 x305001 x305002 x305003))) else (none)) else (none)) else (none)) else (if x6.length < 17592186044416 then (impl_MatchBooks.l0 k x1 x5 (x6 ++ [x9]) x23 x24 (wrap64 (x25 + 1))) else (none))
end
def impl_MatchBooks.f (k : Nat) (l0 : List (S40)) (l1 : List (S40)) : Option (List Int) := (impl_ValidEntries.f k l0).bind fun t298 => (if t298 = true then ((impl_ValidEntries.f k l1).bind fun t299 => (impl_MatchBooks.j0 k l0 l1 (!t299))) else (impl_MatchBooks.j0 k l0 l1 true))
theorem impl_MatchBooks.mono_l : ∀ k, (∀ y0 y1 y2, LeO (impl_MatchBooks.j0 k y0 y1 y2) (impl_MatchBooks.j0 (k + 1) y0 y1 y2)) ∧ (∀ y0 y1 y2 y3 y4 y5, LeO (impl_MatchBooks.l0 k y0 y1 y2 y3 y4 y5) (impl_MatchBooks.l0 (k + 1) y0 y1 y2 y3 y4 y5)) ∧ (∀ y0 y1 y2 y3 y4 y5 y6 y7 y8 y9 y10 y11 y12 y13, LeO (impl_MatchBooks.l1 k y0 y1 y2 y3 y4 y5 y6 y7 y8 y9 y10 y11 y12 y13) (impl_MatchBooks.l1 (k + 1) y0 y1 y2 y3 y4 y5 y6 y7 y8 y9 y10 y11 y12 y13))
 | 0 => ⟨fun _ _ _ r h => by simp [impl_MatchBooks.j0] at h, fun _ _ _ _ _ _ r h => by simp [impl_MatchBooks.l0] at h, fun _ _ _ _ _ _ _ _ _ _ _ _ _ _ r h => by simp [impl_MatchBooks.l1] at h⟩
 | k + 1 => by
  obtain ⟨ih0, ih1, ih2⟩ := impl_MatchBooks.mono_l k
  refine ⟨?_, ?_, ?_⟩
  ·intro y0 y1 y2
   unfold impl_MatchBooks.j0
   repeat' first
   | (with_reducible exact ih0 _ _ _)
   | (with_reducible exact ih1 _ _ _ _ _ _)
   | (with_reducible exact ih2 _ _ _ _ _ _ _ _ _ _ _ _ _ _)
   | (with_reducible exact impl_ValidEntries.mono _ _)
   | (with_reducible exact LeO.refl _)
   | (with_reducible exact LeO.none _)
   | (with_reducible refine LeO.ite ?_ ?_)
   | (with_reducible refine LeO.bind ?_ (fun _ => ?_))
   | exact ih0 _ _ _
   | exact ih1 _ _ _ _ _ _
   | exact ih2 _ _ _ _ _ _ _ _ _ _ _ _ _ _
   | exact impl_ValidEntries.mono _ _
   | exact LeO.none _
   | refine LeO.ite ?_ ?_
   | refine LeO.bind ?_ (fun _ => ?_)
  ·intro y0 y1 y2 y3 y4 y5
   unfold impl_MatchBooks.l0
   repeat' first
   | (with_reducible exact ih0 _ _ _)
   | (with_reducible exact ih1 _ _ _ _ _ _)
   | (with_reducible exact ih2 _ _ _ _ _ _ _ _ _ _ _ _ _ _)
   | (with_reducible exact impl_ValidEntries.mono _ _)
   | (with_reducible exact LeO.refl _)
   | (with_reducible exact LeO.none _)
   | (with_reducible refine LeO.ite ?_ ?_)
   | (with_reducible refine LeO.bind ?_ (fun _ => ?_))
   | exact ih0 _ _ _
   | exact ih1 _ _ _ _ _ _
   | exact ih2 _ _ _ _ _ _ _ _ _ _ _ _ _ _
   | exact impl_ValidEntries.mono _ _
   | exact LeO.none _
   | refine LeO.ite ?_ ?_
   | refine LeO.bind ?_ (fun _ => ?_)
  ·intro y0 y1 y2 y3 y4 y5 y6 y7 y8 y9 y10 y11 y12 y13
   unfold impl_MatchBooks.l1
   repeat' first
   | (with_reducible exact ih0 _ _ _)
   | (with_reducible exact ih1 _ _ _ _ _ _)
   | (with_reducible exact ih2 _ _ _ _ _ _ _ _ _ _ _ _ _ _)
   | (with_reducible exact impl_ValidEntries.mono _ _)
   | (with_reducible exact LeO.refl _)
   | (with_reducible exact LeO.none _)
   | (with_reducible refine LeO.ite ?_ ?_)
   | (with_reducible refine LeO.bind ?_ (fun _ => ?_))
   | exact ih0 _ _ _
   | exact ih1 _ _ _ _ _ _
   | exact ih2 _ _ _ _ _ _ _ _ _ _ _ _ _ _
   | exact impl_ValidEntries.mono _ _
   | exact LeO.none _
   | refine LeO.ite ?_ ?_
   | refine LeO.bind ?_ (fun _ => ?_)
theorem impl_MatchBooks.mono : ∀ a0 a1 k, LeO (impl_MatchBooks.f k a0 a1) (impl_MatchBooks.f (k + 1) a0 a1) := by
 intro a0 a1 k
 obtain ⟨ih0, ih1, ih2⟩ := impl_MatchBooks.mono_l k
 unfold impl_MatchBooks.f
 repeat' first
   | (with_reducible exact ih0 _ _ _)
   | (with_reducible exact ih1 _ _ _ _ _ _)
   | (with_reducible exact ih2 _ _ _ _ _ _ _ _ _ _ _ _ _ _)
   | (with_reducible exact impl_ValidEntries.mono _ _)
   | (with_reducible exact LeO.refl _)
   | (with_reducible exact LeO.none _)
   | (with_reducible refine LeO.ite ?_ ?_)
   | (with_reducible refine LeO.bind ?_ (fun _ => ?_))
   | exact ih0 _ _ _
   | exact ih1 _ _ _ _ _ _
   | exact ih2 _ _ _ _ _ _ _ _ _ _ _ _ _ _
   | exact impl_ValidEntries.mono _ _
   | exact LeO.none _
   | refine LeO.ite ?_ ?_
   | refine LeO.bind ?_ (fun _ => ?_)
set_option maxHeartbeats 8000000 in
set_option maxRecDepth 100000 in
theorem impl_MatchBooks.calls (k : Nat) (A0 : Option Addr) (c0 : Nat) (l0 : List (S40)) (A1 : Option Addr) (c1 : Nat) (l1 : List (S40)) (r : List Int) (w : World) (hr0 : Kd.C k40 w A0 l0.length l0) (hc0 : l0.length ≤ c0) (hr1 : Kd.C k40 w A1 l1.length l1) (hc1 : l1.length ≤ c1) (h : impl_MatchBooks.f k l0 l1 = some r) :
  Calls Try.prog 42 #[.slice A0 l0.length c0, .slice A1 l1.length c1] w fun e w' => ∃ v0_ : Value, e = .returned (v0_) ∧ Kd.R (Kd.int .i64) 3 w' w.heap.size (fun _ => True) v0_ r ∧ Below w.heap.size w w' := by
 have hu40 := Try.underlying40
 have HR0 := Aside0.mk hr0
 have HC0 := Aside0.mk hc0
 clear hr0 hc0
 have HR1 := Aside0.mk hr1
 have HC1 := Aside0.mk hc1
 clear hr1 hc1
 have HB := Aside0.mk (Below.refl w.heap.size w)
 have H : ((impl_ValidEntries.f k l0).bind fun t298 => (if t298 = true then ((impl_ValidEntries.f k l1).bind fun t299 => (impl_MatchBooks.j0 k l0 l1 (!t299))) else (impl_MatchBooks.j0 k l0 l1 true))) = some r := h
 clear h
 have HC3 := Aside0.mk H
 clear H
 go_enter Try.func42, Try.ntmps42
 go_upto_region 1 with (fail)
 go_cut [19] (fun v19 wc => ∃ (kq : Nat) (x19_2 : Bool), v19 = .bool x19_2 ∧ Aside0 (impl_MatchBooks.j0 kq l0 l1 x19_2 = some r) ∧ Aside0 (kq ≤ k) ∧ Aside0 (Below w.heap.size w wc))
 case first =>
  have H := HC3.out
  clear HC3
  replace H := Option.bind_eq_some_iff.mp H
  obtain ⟨t298, A40, H⟩ := H
  replace H : (if t298 = true then ((impl_ValidEntries.f k l1).bind fun t299 => (impl_MatchBooks.j0 k l0 l1 (!t299))) else (impl_MatchBooks.j0 k l0 l1 true)) = some r := H
  have A4 := Aside0.mk A40
  clear A40
  by_cases c5 : t298 = true
  ·subst c5
   have H1 : ((impl_ValidEntries.f k l1).bind fun t299 => (impl_MatchBooks.j0 k l0 l1 (!t299))) = some r := by rw [if_pos rfl] at H; exact H
   clear H
   have H := H1
   clear H1
   replace H := Option.bind_eq_some_iff.mp H
   obtain ⟨t299, A60, H⟩ := H
   replace H : (impl_MatchBooks.j0 k l0 l1 (!t299)) = some r := H
   have A6 := Aside0.mk A60
   clear A60
   have H' := Aside0.mk H
   clear H
   go_wp2_with (first | ((with_reducible refine gate_callee (f := 17) rfl ?_); refine goesL_ (some 13) rfl rfl Try.func17 (by kernel_rfl) rfl #[.slice A0 l0.length c0] rfl (by (try simp only [List.map_toArray, List.map_cons, List.map_nil]); first | done | rfl | (simp only [List.length_drop, List.length_take]; rfl)) ?_; (with_reducible refine (impl_ValidEntries.calls k _ _ l0 true _ ?side1 ?side2 A4.out).mono ?_); (case side1 => repeat (first | exact (Kd.C_below HR0.out HB.out) | (with_reducible refine Kd.C_alloc ?_ _) | (with_reducible refine Kd.C_drewN ?_ _) | (with_reducible refine Kd.C_drew ?_))); (case side2 => exact HC0.out); rintro e w7 ⟨rfl, hb⟩; refine ⟨_, rfl, ?_⟩; have n0_ := Aside0.mk (below_step (by repeat (first | (with_reducible first | exact HB.out | apply below_alloc | apply pw_below_drewN | apply below_drew1) | exact HB.out)) hb); clear HB; have HB := n0_; clear n0_; (try clear hb); (try clear hb2); (try clear hk); (try clear hi)) | (go_at_call 17; (with_reducible refine (impl_ValidEntries.calls k _ _ l1 t299 _ ?side1 ?side2 A6.out).mono ?_); (case side1 => repeat (first | exact (Kd.C_below HR1.out HB.out) | (with_reducible refine Kd.C_alloc ?_ _) | (with_reducible refine Kd.C_drewN ?_ _) | (with_reducible refine Kd.C_drew ?_))); (case side2 => exact HC1.out); rintro e w8 ⟨rfl, hb⟩; have n0_ := Aside0.mk (below_step (by repeat (first | (with_reducible first | exact HB.out | apply below_alloc | apply pw_below_drewN | apply below_drew1) | exact HB.out)) hb); clear HB; have HB := n0_; clear n0_; (try clear hb); (try clear hb2); (try clear hk); (try clear hi)))
   go_meet
   case rel => exact ⟨_, (!t299), (by first | rfl | (simp; done) | (simp [*]; done)), H', ⟨by first | omega | exact Nat.le_refl _⟩, ⟨by repeat (first | (with_reducible first | exact HB.out | apply below_alloc | apply pw_below_drewN | apply below_drew1) | exact HB.out)⟩⟩
  ·replace c5 := Bool.eq_false_iff.mpr c5
   subst c5
   have H1 : (impl_MatchBooks.j0 k l0 l1 true) = some r := by rw [if_neg (show ¬ (false = true) by decide)] at H; exact H
   clear H
   have H := H1
   clear H1
   have H' := Aside0.mk H
   clear H
   go_wp2_with (first | ((with_reducible refine gate_callee (f := 17) rfl ?_); refine goesL_ (some 13) rfl rfl Try.func17 (by kernel_rfl) rfl #[.slice A0 l0.length c0] rfl (by (try simp only [List.map_toArray, List.map_cons, List.map_nil]); first | done | rfl | (simp only [List.length_drop, List.length_take]; rfl)) ?_; (with_reducible refine (impl_ValidEntries.calls k _ _ l0 false _ ?side1 ?side2 A4.out).mono ?_); (case side1 => repeat (first | exact (Kd.C_below HR0.out HB.out) | (with_reducible refine Kd.C_alloc ?_ _) | (with_reducible refine Kd.C_drewN ?_ _) | (with_reducible refine Kd.C_drew ?_))); (case side2 => exact HC0.out); rintro e w9 ⟨rfl, hb⟩; refine ⟨_, rfl, ?_⟩; have n0_ := Aside0.mk (below_step (by repeat (first | (with_reducible first | exact HB.out | apply below_alloc | apply pw_below_drewN | apply below_drew1) | exact HB.out)) hb); clear HB; have HB := n0_; clear n0_; (try clear hb); (try clear hb2); (try clear hk); (try clear hi)))
   go_meet
   case rel => exact ⟨_, (true), (by first | rfl | (simp; done) | (simp [*]; done)), H', ⟨by first | omega | exact Nat.le_refl _⟩, ⟨by repeat (first | (with_reducible first | exact HB.out | apply below_alloc | apply pw_below_drewN | apply below_drew1) | exact HB.out)⟩⟩
 case rest =>
  clear HC3
  try clear c1
  try clear p2
  try clear c4
  try clear c5
  obtain ⟨kq, x19_2, rfl, HA, HJ2, HB⟩ := hcut
  cases kq with
  | zero => exact absurd HA.out (by simp [impl_MatchBooks.j0])
  | succ kj2 =>
   have H := HA.out
   clear HA
   simp only [impl_MatchBooks.j0] at H
   by_cases c10 : x19_2 = true
   ·subst c10
    have H1 : (some ([] : List Int)) = some r := by rw [if_pos rfl] at H; exact H
    clear H
    have H := H1
    clear H1
    obtain rfl := Option.some.inj H
    go_wp2
    go_ret
    exact ⟨_, by first | rfl | (simp [errW_none, errW_some] <;> rfl) | (simp [*, errW_none, errW_some] <;> rfl), by first | exact Kd.R_nil _ _ _ _ _ | exact Kd.N_nil _ _ _ _ _ | exact Kd.V_nil _ _ _ _ _ | exact Kd.Q_nil _ _ _ _ _ | exact Kd.S_nil _ _ _ _ _, by repeat (first | (with_reducible first | exact HB.out | apply below_alloc | apply pw_below_drewN | apply below_drew1) | exact HB.out)⟩
   ·replace c10 := Bool.eq_false_iff.mpr c10
    subst c10
    have H1 : (if 0 ≤ (l1.length : Int) then (if ((l1.length : Int) : Int).toNat ≤ 281474976710656 then (impl_MatchBooks.l0 kj2 l1 (List.replicate ((l1.length : Int) : Int).toNat false) ([] : List Int) l0 (l0.length : Int) 0) else (none)) else (none)) = some r := by rw [if_neg (show ¬ (false = true) by decide)] at H; exact H
    clear H
    have H := H1
    clear H1
    by_cases c11 : 0 ≤ (l1.length : Int)
    ·rw [if_pos c11] at H
     have c11b0 := eq_true c11
     have c11b1 : decide (0 ≤ (l1.length : Int)) = true := decide_eq_true c11
     clear c11
     by_cases c12 : ((l1.length : Int) : Int).toNat ≤ 281474976710656
     ·rw [if_pos c12] at H
      have c12b0 := eq_true c12
      have c12b1 : decide (((l1.length : Int) : Int).toNat ≤ 281474976710656) = true := decide_eq_true c12
      clear c12
      obtain ⟨y300, hy300⟩ : ∃ y_ : List Bool, y_ = (List.replicate ((l1.length : Int) : Int).toNat false) := ⟨_, rfl⟩
      replace H : (impl_MatchBooks.l0 kj2 l1 y300 ([] : List Int) l0 (l0.length : Int) 0) = some r := by first | (rw [hy300]; with_reducible exact H) | (have H2_ := (Option.bind_some _ _).symm.trans H; rw [hy300]; with_reducible exact H2_) | (have H2_ := (Option.bind_some _ _).symm.trans H; with_reducible exact H2_) | with_reducible exact H | (rw [hy300]; exact H) | exact H
      have Ny300 := Aside0.mk hy300
      clear hy300
      have H' := Aside0.mk H
      clear H
      go_wp2_with (first | ((with_reducible refine gate_dst (N := 22) rfl ?_); refine Kd.R_make Kd.bool _ 4 rfl (N := 22) rfl 71 _ _ rfl (l1.length : Int) rfl rfl Try.underlying71 (.bool false) 1 info4 rfl (by decide) (by omega) false (ok := fun _ => True) (okp := fun _ => True) rfl (fun _ hk => hk) trivial (of_decide_eq_true (by first | (with_reducible assumption) | assumption)) (Nat.le_trans (Nat.mul_le_mul_right _ (of_decide_eq_true (by first | (with_reducible assumption) | assumption) : (l1.length : Int).toNat ≤ 281474976710656)) (by omega)) (Below.refl _ _) (Nat.le_refl _) ?_; intro v301 w13 ho14 hb hg_ hnew_; clear hg_ hnew_; (first | rw [← Ny300.out] at ho14 | (simp only [Int.reduceToNat] at ho14; rw [← Ny300.out] at ho14)); have n0_ := Aside0.mk (Kd.R_lower ho14 (below_size (by repeat (first | (with_reducible first | exact HB.out | apply below_alloc | apply pw_below_drewN | apply below_drew1) | exact HB.out)))); have n1_ := Aside0.mk (below_step (by repeat (first | (with_reducible first | exact HB.out | apply below_alloc | apply pw_below_drewN | apply below_drew1) | exact HB.out)) hb); clear HB; have HO302 := n0_; have HB := n1_; clear n0_ n1_; clear hb ho14))
      go_loopg [6, 25] kj2 (fun kq v6 v25 w' => ∃ (x5_2 : List Bool) (x6_2 : List Int) (x25_2 : Int), v25 = .int .i64 x25_2 ∧ Aside0 (impl_MatchBooks.l0 kq l1 x5_2 x6_2 l0 (l0.length : Int) x25_2 = some r) ∧ Aside0 (kq ≤ kj2) ∧ Aside0 (Kd.R Kd.bool 4 w' w.heap.size (fun _ => True) v301 x5_2) ∧ Aside0 (Kd.R (Kd.int .i64) 3 w' w.heap.size (fun _ => True) v6 x6_2) ∧ Aside0 (Below w.heap.size w w'))
      case atStart => exact ⟨(y300), (([] : List Int)), (0), (by first | rfl | (simp; done) | (simp [*]; done)), H', ⟨Nat.le_refl _⟩, ⟨by (with_reducible repeat (first | apply Kd.R_alloc | apply Kd.R_drewN | apply Kd.R_drew)); exact HO302.out⟩, ⟨by first | exact Kd.R_nil _ _ _ _ _ | exact Kd.N_nil _ _ _ _ _ | exact Kd.V_nil _ _ _ _ _ | exact Kd.Q_nil _ _ _ _ _ | exact Kd.S_nil _ _ _ _ _⟩, ⟨by repeat (first | (with_reducible first | exact HB.out | apply below_alloc | apply pw_below_drewN | apply below_drew1) | exact HB.out)⟩⟩
      case round =>
       clear H'
       try clear c1
       try clear p2
       try clear c4
       try clear c5
       try clear c10
       try clear c11
       try clear c11b0
       try clear c11b1
       try clear c12
       try clear c12b0
       try clear c12b1
       try clear p2
       obtain ⟨x5_2, x6_2, x25_2, rfl, HA, HK2, HO_5, HO_6, HB⟩ := hrel
       cases gk with
       | zero => exact absurd HA.out (by simp [impl_MatchBooks.l0])
       | succ k2 =>
        have H := HA.out
        clear HA
        simp only [impl_MatchBooks.l0] at H
        by_cases c15 : x25_2 < (l0.length : Int)
        ·rw [if_pos c15] at H
         have c15b0 : decide (x25_2 < (l0.length : Int)) = true := decide_eq_true c15
         clear c15
         by_cases c16 : 0 ≤ x25_2
         ·rw [if_pos c16] at H
          have c16b0 : decide (0 ≤ x25_2) = true := decide_eq_true c16
          clear c16
          by_cases c17 : x25_2 < (l0.length : Int)
          ·rw [if_pos c17] at H
           have c17b0 : decide (x25_2 < (l0.length : Int)) = true := decide_eq_true c17
           clear c17
           have H' := Aside0.mk H
           clear H
           have p303 : 0 ≤ (x25_2 : Int) := of_decide_eq_true (by first | (with_reducible assumption) | assumption)
           have q303 : x25_2 < (l0.length : Int) := of_decide_eq_true (by first | (with_reducible assumption) | assumption)
           obtain ⟨ad303, e303, hx303_0, hx303_1, hx303_2, hx303_3⟩ := at_T40 HR0.out x25_2 p303 q303
           cases e303
           replace hx303_0 := (HB.out.cell (World.block_lt_of_cell? w _ hx303_0)).trans hx303_0
           replace hx303_1 := (HB.out.cell (World.block_lt_of_cell? w _ hx303_1)).trans hx303_1
           replace hx303_2 := (HB.out.cell (World.block_lt_of_cell? w _ hx303_2)).trans hx303_2
           replace hx303_3 := (HB.out.cell (World.block_lt_of_cell? w _ hx303_3)).trans hx303_3
           replace p303 := eq_true p303
           replace q303 := eq_true q303
           go_wp2_with (first | ((with_reducible refine gate_dst (N := 8) rfl ?_); refine box_event ?hg (N := 8) ?hd (cs := #[.int .i64 0, .int .i64 0, .int .i64 0, .int .i64 0]) (t := 40) ?hr ?_; (case hd => rfl); (case hg => rfl); (case hr => first | (go_simp; done) | (go_simp; rfl)); intro gb304 hg w18 hbox hb; have n0_ := Aside0.mk (Kd.R_below (by (with_reducible repeat (first | apply Kd.R_alloc | apply Kd.R_drewN | apply Kd.R_drew)); exact HO_5.out) hb); have n1_ := Aside0.mk (Kd.R_below (by (with_reducible repeat (first | apply Kd.R_alloc | apply Kd.R_drewN | apply Kd.R_drew)); exact HO_6.out) hb); have n2_ := Aside0.mk (below_step (by repeat (first | (with_reducible first | exact HB.out | apply below_alloc | apply pw_below_drewN | apply below_drew1) | exact HB.out)) hb); have n3_ := Aside0.mk (hbox); have n4_ := Aside0.mk ((by rw [hg]; exact (below_size (by repeat (first | (with_reducible first | exact HB.out | apply below_alloc | apply pw_below_drewN | apply below_drew1) | exact HB.out))) : w.heap.size ≤ gb304)); have n5_ := Aside0.mk ((by rw [hg]; exact (below_size (by repeat (first | (with_reducible first | exact HB.out | apply below_alloc | apply pw_below_drewN | apply below_drew1) | exact HB.out))) : w.heap.size ≤ gb304)); clear HO_5; clear HO_6; clear HB; have HO_5 := n0_; have HO_6 := n1_; have HB := n2_; have BK304 := n3_; have GW304 := n4_; have GE304 := n5_; clear n0_ n1_ n2_ n3_ n4_ n5_; clear hb hbox hg; have hcz19_0 : w18.cell? ⟨gb304, 0, none⟩ = some (.int .i64 0) := (blk_cell BK304.out 0).trans rfl; have hcz19_1 : w18.cell? ⟨gb304, 1, none⟩ = some (.int .i64 0) := (blk_cell BK304.out 1).trans rfl; have hcz19_2 : w18.cell? ⟨gb304, 2, none⟩ = some (.int .i64 0) := (blk_cell BK304.out 2).trans rfl; have hcz19_3 : w18.cell? ⟨gb304, 3, none⟩ = some (.int .i64 0) := (blk_cell BK304.out 3).trans rfl; have hfz19_0 := blk_frozen BK304.out 0; have hfz19_1 := blk_frozen BK304.out 1; have hfz19_2 := blk_frozen BK304.out 2; have hfz19_3 := blk_frozen BK304.out 3))
           go_loopg [9, 31] k2 (fun kq v9 v31 w' => ∃ (x5_3 : List Bool) (x9_3 : Int) (x31_3 : Int), v9 = .int .i64 x9_3 ∧ v31 = .int .i64 x31_3 ∧ Aside0 (impl_MatchBooks.l1 kq l1 x5_3 x6_2 x9_3 l0 (l0.length : Int) x25_2 l1 (l1.length : Int) x31_3 ((rd_T40 l0 x25_2).f0) ((rd_T40 l0 x25_2).f1) ((rd_T40 l0 x25_2).f2) ((rd_T40 l0 x25_2).f3) = some r) ∧ Aside0 (kq ≤ k2) ∧ Aside0 (Kd.R Kd.bool 4 w' w.heap.size (fun _ => True) v301 x5_3) ∧ Aside0 (Kd.R (Kd.int .i64) 3 w' w.heap.size (fun _ => True) u6 x6_2) ∧ Aside0 (w'.heap[gb304]? = some (.cells #[.int .i64 ((rd_T40 l0 x25_2).f0), .int .i64 ((rd_T40 l0 x25_2).f1), .int .i64 ((rd_T40 l0 x25_2).f2), .int .i64 ((rd_T40 l0 x25_2).f3)] 40 (0, 0))) ∧ Aside0 (Below w.heap.size w w'))
           case atStart => exact ⟨(x5_2), ((-1)), (0), (by first | rfl | (simp; done) | (simp [*]; done)), (by first | rfl | (simp; done) | (simp [*]; done)), H', ⟨Nat.le_refl _⟩, ⟨by (with_reducible repeat (first | apply Kd.R_alloc | apply Kd.R_drewN | apply Kd.R_drew)); exact Kd.R_mono (Kd.R_far (p := ⟨gb304, 3, none⟩) (Kd.R_far (p := ⟨gb304, 2, none⟩) (Kd.R_far (p := ⟨gb304, 1, none⟩) (Kd.R_far (p := ⟨gb304, 0, none⟩) (Kd.R_types HO_5.out BK304.out (by decide)) (fun _ hk => hk.2) (.int .i64 ((rd_T40 l0 x25_2).f0))) (fun _ hk => hk.2) (.int .i64 ((rd_T40 l0 x25_2).f1))) (fun _ hk => hk.2) (.int .i64 ((rd_T40 l0 x25_2).f2))) (fun _ hk => hk.2) (.int .i64 ((rd_T40 l0 x25_2).f3))) (fun _ hk => trivial)⟩, ⟨by (with_reducible repeat (first | apply Kd.R_alloc | apply Kd.R_drewN | apply Kd.R_drew)); exact Kd.R_mono (Kd.R_far (p := ⟨gb304, 3, none⟩) (Kd.R_far (p := ⟨gb304, 2, none⟩) (Kd.R_far (p := ⟨gb304, 1, none⟩) (Kd.R_far (p := ⟨gb304, 0, none⟩) (Kd.R_types HO_6.out BK304.out (by decide)) (fun _ hk => hk.2) (.int .i64 ((rd_T40 l0 x25_2).f0))) (fun _ hk => hk.2) (.int .i64 ((rd_T40 l0 x25_2).f1))) (fun _ hk => hk.2) (.int .i64 ((rd_T40 l0 x25_2).f2))) (fun _ hk => hk.2) (.int .i64 ((rd_T40 l0 x25_2).f3))) (fun _ hk => trivial)⟩, ⟨by (with_reducible repeat (first | refine blk_drewN ?_ _ | refine blk_drew ?_ | refine blk_alloc ?_ _)); refine blk_put (cs := #[.int .i64 ((rd_T40 l0 x25_2).f0), .int .i64 ((rd_T40 l0 x25_2).f1), .int .i64 ((rd_T40 l0 x25_2).f2), .int .i64 0]) ?_ 3 _ rfl; (with_reducible repeat (first | refine blk_drewN ?_ _ | refine blk_drew ?_ | refine blk_alloc ?_ _)); refine blk_put (cs := #[.int .i64 ((rd_T40 l0 x25_2).f0), .int .i64 ((rd_T40 l0 x25_2).f1), .int .i64 0, .int .i64 0]) ?_ 2 _ rfl; (with_reducible repeat (first | refine blk_drewN ?_ _ | refine blk_drew ?_ | refine blk_alloc ?_ _)); refine blk_put (cs := #[.int .i64 ((rd_T40 l0 x25_2).f0), .int .i64 0, .int .i64 0, .int .i64 0]) ?_ 1 _ rfl; (with_reducible repeat (first | refine blk_drewN ?_ _ | refine blk_drew ?_ | refine blk_alloc ?_ _)); refine blk_put (cs := #[.int .i64 0, .int .i64 0, .int .i64 0, .int .i64 0]) ?_ 0 _ rfl; (with_reducible repeat (first | refine blk_drewN ?_ _ | refine blk_drew ?_ | refine blk_alloc ?_ _)); exact BK304.out⟩, ⟨by repeat (first | (with_reducible first | exact HB.out | apply below_alloc | apply pw_below_drewN | apply below_drew1 | refine below_set ?_ GE304.out) | exact HB.out)⟩⟩
           case round =>
            clear H'
            try clear c1
            try clear p2
            try clear p3
            try clear q3
            try clear hx3
            try clear c4
            try clear c5
            try clear c10
            try clear c11
            try clear c11b0
            try clear c11b1
            try clear c12
            try clear c12b0
            try clear c12b1
            try clear c15
            try clear c15b0
            try clear c16
            try clear c16b0
            try clear c17
            try clear c17b0
            try clear hcz19_0
            try clear hcz19_1
            try clear hcz19_2
            try clear hcz19_3
            try clear hfz19_0
            try clear hfz19_1
            try clear hfz19_2
            try clear hfz19_3
            try clear hx303_0
            try clear hx303_1
            try clear hx303_2
            try clear hx303_3
            try clear p2
            try clear p303
            try clear q303
            obtain ⟨x5_3, x9_3, x31_3, rfl, rfl, HA, HK3, HO_5, HO_6, BK304, HB⟩ := hrel
            cases gk with
            | zero => exact absurd HA.out (by simp [impl_MatchBooks.l1])
            | succ k3 =>
             have H := HA.out
             clear HA
             simp only [impl_MatchBooks.l1] at H
             by_cases c20 : x31_3 < (l1.length : Int)
             ·rw [if_pos c20] at H
              have c20b0 : decide (x31_3 < (l1.length : Int)) = true := decide_eq_true c20
              clear c20
              by_cases c21 : 0 ≤ x31_3
              ·rw [if_pos c21] at H
               have c21b0 : decide (0 ≤ x31_3) = true := decide_eq_true c21
               clear c21
               by_cases c22 : x31_3 < (l1.length : Int)
               ·rw [if_pos c22] at H
                have c22b0 : decide (x31_3 < (l1.length : Int)) = true := decide_eq_true c22
                clear c22
                by_cases c23 : x31_3 < (x5_3.length : Int)
                ·rw [if_pos c23] at H
                 have c23b0 : decide (x31_3 < (x5_3.length : Int)) = true := decide_eq_true c23
                 clear c23
                 obtain ⟨bq24, hbq24⟩ : ∃ b_ : Bool, b_ = (rdOf false x5_3 x31_3) := ⟨_, rfl⟩
                 replace H : (if bq24 = true then (impl_MatchBooks.l1 k3 l1 x5_3 x6_2 x9_3 l0 (l0.length : Int) x25_2 l1 (l1.length : Int) (wrap64 (x31_3 + 1)) ((rd_T40 l0 x25_2).f0) ((rd_T40 l0 x25_2).f1) ((rd_T40 l0 x25_2).f2) ((rd_T40 l0 x25_2).f3)) else (if (((rd_T40 l1 x31_3).f0) == ((rd_T40 l0 x25_2).f0) && (((rd_T40 l1 x31_3).f1) == ((rd_T40 l0 x25_2).f1) && (((rd_T40 l1 x31_3).f2) == ((rd_T40 l0 x25_2).f2) && (((rd_T40 l1 x31_3).f3) == ((rd_T40 l0 x25_2).f3))))) = true then (if x6_2.length < 17592186044416 then (impl_MatchBooks.l0 k3 l1 (x5_3.set (x31_3 : Int).toNat true) (x6_2 ++ [x31_3]) l0 (l0.length : Int) (wrap64 (x25_2 + 1))) else (none)) else (impl_MatchBooks.l1 k3 l1 x5_3 x6_2 x9_3 l0 (l0.length : Int) x25_2 l1 (l1.length : Int) (wrap64 (x31_3 + 1)) ((rd_T40 l0 x25_2).f0) ((rd_T40 l0 x25_2).f1) ((rd_T40 l0 x25_2).f2) ((rd_T40 l0 x25_2).f3)))) = some r := by rw [← hbq24] at H; exact H
                 have Nbq24 := Aside0.mk hbq24
                 clear hbq24
                 by_cases c25 : bq24 = true
                 ·subst c25
                  have H1 : (impl_MatchBooks.l1 k3 l1 x5_3 x6_2 x9_3 l0 (l0.length : Int) x25_2 l1 (l1.length : Int) (wrap64 (x31_3 + 1)) ((rd_T40 l0 x25_2).f0) ((rd_T40 l0 x25_2).f1) ((rd_T40 l0 x25_2).f2) ((rd_T40 l0 x25_2).f3)) = some r := by rw [if_pos rfl] at H; exact H
                  clear H
                  have H := H1
                  clear H1
                  have H' := Aside0.mk H
                  clear H
                  have p305 : 0 ≤ (x31_3 : Int) := of_decide_eq_true (by first | (with_reducible assumption) | assumption)
                  have q305 : x31_3 < (l1.length : Int) := of_decide_eq_true (by first | (with_reducible assumption) | assumption)
                  obtain ⟨ad305, e305, hx305_0, hx305_1, hx305_2, hx305_3⟩ := at_T40 HR1.out x31_3 p305 q305
                  cases e305
                  replace hx305_0 := (HB.out.cell (World.block_lt_of_cell? w _ hx305_0)).trans hx305_0
                  replace hx305_1 := (HB.out.cell (World.block_lt_of_cell? w _ hx305_1)).trans hx305_1
                  replace hx305_2 := (HB.out.cell (World.block_lt_of_cell? w _ hx305_2)).trans hx305_2
                  replace hx305_3 := (HB.out.cell (World.block_lt_of_cell? w _ hx305_3)).trans hx305_3
                  replace p305 := eq_true p305
                  replace q305 := eq_true q305
                  go_wp2_with (first | ((with_reducible refine gate_dst (N := 11) rfl ?_); refine box_event ?hg (N := 11) ?hd (cs := #[.int .i64 0, .int .i64 0, .int .i64 0, .int .i64 0]) (t := 40) ?hr ?_; (case hd => rfl); (case hg => rfl); (case hr => first | (go_simp; done) | (go_simp; rfl)); intro gb306 hg w26 hbox hb; have n0_ := Aside0.mk (Kd.R_below (by (with_reducible repeat (first | apply Kd.R_alloc | apply Kd.R_drewN | apply Kd.R_drew)); exact HO_5.out) hb); have n1_ := Aside0.mk (Kd.R_below (by (with_reducible repeat (first | apply Kd.R_alloc | apply Kd.R_drewN | apply Kd.R_drew)); exact HO_6.out) hb); have n2_ := Aside0.mk (blk_below (g := gb304) (o := .cells #[.int .i64 ((rd_T40 l0 x25_2).f0), .int .i64 ((rd_T40 l0 x25_2).f1), .int .i64 ((rd_T40 l0 x25_2).f2), .int .i64 ((rd_T40 l0 x25_2).f3)] 40 (0, 0)) (by (with_reducible repeat (first | refine blk_drewN ?_ _ | refine blk_drew ?_ | refine blk_alloc ?_ _)); exact BK304.out) hb); have n3_ := Aside0.mk (below_step (by repeat (first | (with_reducible first | exact HB.out | apply below_alloc | apply pw_below_drewN | apply below_drew1 | refine below_set ?_ GE304.out) | exact HB.out)) hb); have n4_ := Aside0.mk (hbox); have n5_ := Aside0.mk ((by rw [hg]; exact (below_size (by repeat (first | (with_reducible first | exact HB.out | apply below_alloc | apply pw_below_drewN | apply below_drew1 | refine below_set ?_ GE304.out) | exact HB.out))) : w.heap.size ≤ gb306)); have n6_ := Aside0.mk ((by rw [hg]; exact (below_size (by repeat (first | (with_reducible first | exact HB.out | apply below_alloc | apply pw_below_drewN | apply below_drew1 | refine below_set ?_ GE304.out) | exact HB.out))) : w.heap.size ≤ gb306)); have n7_ := Aside0.mk ((by rw [hg]; exact Nat.ne_of_lt (blk_lt (g := gb304) (o := .cells #[.int .i64 ((rd_T40 l0 x25_2).f0), .int .i64 ((rd_T40 l0 x25_2).f1), .int .i64 ((rd_T40 l0 x25_2).f2), .int .i64 ((rd_T40 l0 x25_2).f3)] 40 (0, 0)) (by (with_reducible repeat (first | refine blk_drewN ?_ _ | refine blk_drew ?_ | refine blk_alloc ?_ _)); exact BK304.out)) : gb304 ≠ gb306)); have n8_ := Aside0.mk ((by rw [hg]; exact Nat.ne_of_gt (blk_lt (g := gb304) (o := .cells #[.int .i64 ((rd_T40 l0 x25_2).f0), .int .i64 ((rd_T40 l0 x25_2).f1), .int .i64 ((rd_T40 l0 x25_2).f2), .int .i64 ((rd_T40 l0 x25_2).f3)] 40 (0, 0)) (by (with_reducible repeat (first | refine blk_drewN ?_ _ | refine blk_drew ?_ | refine blk_alloc ?_ _)); exact BK304.out)) : gb306 ≠ gb304)); clear HO_5; clear HO_6; clear BK304; clear HB; have HO_5 := n0_; have HO_6 := n1_; have BK304 := n2_; have HB := n3_; have BK306 := n4_; have GW306 := n5_; have GE306 := n6_; have NB304_306 := n7_; have NB306_304 := n8_; clear n0_ n1_ n2_ n3_ n4_ n5_ n6_ n7_ n8_; clear hb hbox hg; have hnb27 := NB306_304.out; have hnc27 := NB304_306.out; have hcz28_0 : w26.cell? ⟨gb306, 0, none⟩ = some (.int .i64 0) := (blk_cell BK306.out 0).trans rfl; have hcz28_1 : w26.cell? ⟨gb306, 1, none⟩ = some (.int .i64 0) := (blk_cell BK306.out 1).trans rfl; have hcz28_2 : w26.cell? ⟨gb306, 2, none⟩ = some (.int .i64 0) := (blk_cell BK306.out 2).trans rfl; have hcz28_3 : w26.cell? ⟨gb306, 3, none⟩ = some (.int .i64 0) := (blk_cell BK306.out 3).trans rfl; have hfz28_0 := blk_frozen BK306.out 0; have hfz28_1 := blk_frozen BK306.out 1; have hfz28_2 := blk_frozen BK306.out 2; have hfz28_3 := blk_frozen BK306.out 3; obtain ⟨Ao29, co29, eo29⟩ := Kd.R_slice HO_5.out; subst eo29; have p307 : 0 ≤ (x31_3 : Int) := of_decide_eq_true (by first | (with_reducible assumption) | assumption); have q307 : x31_3 < (x5_3.length : Int) := of_decide_eq_true (by first | (with_reducible assumption) | assumption); obtain ⟨ad307, e307, hx307_0⟩ := Kd.at_bool (Kd.R_reads' HO_5.out).2.2 x31_3 p307 q307; (try rw [← Nbq24.out] at hx307_0); cases e307; have hn307_0 : ad307.block ≠ gb306 := Kd.own_blk (Kd.R_ne HO_5.out BK306.out (by decide)); have hn307_1 : ad307.block ≠ gb306 := Kd.own_blk (Kd.R_ne HO_5.out BK306.out (by decide)); have hn307_2 : ad307.block ≠ gb306 := Kd.own_blk (Kd.R_ne HO_5.out BK306.out (by decide)); have hn307_3 : ad307.block ≠ gb306 := Kd.own_blk (Kd.R_ne HO_5.out BK306.out (by decide)); replace hx307_0 := (cell_far (p := ⟨gb306, 0, none⟩) (by first | (rw [add_block]; exact hn307_0) | (show (Addr.add _ _).block ≠ _; rw [add_block]; exact hn307_0) | exact hn307_0) (.int .i64 ((rd_T40 l1 x31_3).f0))).trans hx307_0; replace hx307_0 := (cell_far (p := ⟨gb306, 1, none⟩) (by first | (rw [add_block]; exact hn307_1) | (show (Addr.add _ _).block ≠ _; rw [add_block]; exact hn307_1) | exact hn307_1) (.int .i64 ((rd_T40 l1 x31_3).f1))).trans hx307_0; replace hx307_0 := (cell_far (p := ⟨gb306, 2, none⟩) (by first | (rw [add_block]; exact hn307_2) | (show (Addr.add _ _).block ≠ _; rw [add_block]; exact hn307_2) | exact hn307_2) (.int .i64 ((rd_T40 l1 x31_3).f2))).trans hx307_0; replace hx307_0 := (cell_far (p := ⟨gb306, 3, none⟩) (by first | (rw [add_block]; exact hn307_3) | (show (Addr.add _ _).block ≠ _; rw [add_block]; exact hn307_3) | exact hn307_3) (.int .i64 ((rd_T40 l1 x31_3).f3))).trans hx307_0; clear hn307_0; clear hn307_1; clear hn307_2; clear hn307_3; replace p307 := eq_true p307; replace q307 := eq_true q307))
                  go_roundg k3
                  case measure => have := HJ2.out; have := HK2.out; have := HK3.out; omega
                  case rel => exact ⟨(x5_3), (x9_3), (wrap64 (x31_3 + 1)), (by first | rfl | (simp; done) | (simp [*]; done)), (by first | rfl | (simp; done) | (simp [*]; done)), H', ⟨by have := HJ2.out; have := HK2.out; have := HK3.out; omega⟩, ⟨by (with_reducible repeat (first | apply Kd.R_alloc | apply Kd.R_drewN | apply Kd.R_drew)); exact Kd.R_mono (Kd.R_far (p := ⟨gb306, 3, none⟩) (Kd.R_far (p := ⟨gb306, 2, none⟩) (Kd.R_far (p := ⟨gb306, 1, none⟩) (Kd.R_far (p := ⟨gb306, 0, none⟩) (Kd.R_types HO_5.out BK306.out (by decide)) (fun _ hk => hk.2) (.int .i64 ((rd_T40 l1 x31_3).f0))) (fun _ hk => hk.2) (.int .i64 ((rd_T40 l1 x31_3).f1))) (fun _ hk => hk.2) (.int .i64 ((rd_T40 l1 x31_3).f2))) (fun _ hk => hk.2) (.int .i64 ((rd_T40 l1 x31_3).f3))) (fun _ hk => trivial)⟩, ⟨by (with_reducible repeat (first | apply Kd.R_alloc | apply Kd.R_drewN | apply Kd.R_drew)); exact Kd.R_mono (Kd.R_far (p := ⟨gb306, 3, none⟩) (Kd.R_far (p := ⟨gb306, 2, none⟩) (Kd.R_far (p := ⟨gb306, 1, none⟩) (Kd.R_far (p := ⟨gb306, 0, none⟩) (Kd.R_types HO_6.out BK306.out (by decide)) (fun _ hk => hk.2) (.int .i64 ((rd_T40 l1 x31_3).f0))) (fun _ hk => hk.2) (.int .i64 ((rd_T40 l1 x31_3).f1))) (fun _ hk => hk.2) (.int .i64 ((rd_T40 l1 x31_3).f2))) (fun _ hk => hk.2) (.int .i64 ((rd_T40 l1 x31_3).f3))) (fun _ hk => trivial)⟩, ⟨by (with_reducible repeat (first | refine blk_drewN ?_ _ | refine blk_drew ?_ | refine blk_alloc ?_ _)); refine blk_far ?_ NB304_306.out _; (with_reducible repeat (first | refine blk_drewN ?_ _ | refine blk_drew ?_ | refine blk_alloc ?_ _)); refine blk_far ?_ NB304_306.out _; (with_reducible repeat (first | refine blk_drewN ?_ _ | refine blk_drew ?_ | refine blk_alloc ?_ _)); refine blk_far ?_ NB304_306.out _; (with_reducible repeat (first | refine blk_drewN ?_ _ | refine blk_drew ?_ | refine blk_alloc ?_ _)); refine blk_far ?_ NB304_306.out _; (with_reducible repeat (first | refine blk_drewN ?_ _ | refine blk_drew ?_ | refine blk_alloc ?_ _)); exact BK304.out⟩, ⟨by repeat (first | (with_reducible first | exact HB.out | apply below_alloc | apply pw_below_drewN | apply below_drew1 | refine below_set ?_ GE304.out | refine below_set ?_ GE306.out) | exact HB.out)⟩⟩
                 ·replace c25 := Bool.eq_false_iff.mpr c25
                  subst c25
                  have H1 : (if (((rd_T40 l1 x31_3).f0) == ((rd_T40 l0 x25_2).f0) && (((rd_T40 l1 x31_3).f1) == ((rd_T40 l0 x25_2).f1) && (((rd_T40 l1 x31_3).f2) == ((rd_T40 l0 x25_2).f2) && (((rd_T40 l1 x31_3).f3) == ((rd_T40 l0 x25_2).f3))))) = true then (if x6_2.length < 17592186044416 then (impl_MatchBooks.l0 k3 l1 (x5_3.set (x31_3 : Int).toNat true) (x6_2 ++ [x31_3]) l0 (l0.length : Int) (wrap64 (x25_2 + 1))) else (none)) else (impl_MatchBooks.l1 k3 l1 x5_3 x6_2 x9_3 l0 (l0.length : Int) x25_2 l1 (l1.length : Int) (wrap64 (x31_3 + 1)) ((rd_T40 l0 x25_2).f0) ((rd_T40 l0 x25_2).f1) ((rd_T40 l0 x25_2).f2) ((rd_T40 l0 x25_2).f3))) = some r := by rw [if_neg (show ¬ (false = true) by decide)] at H; exact H
                  clear H
                  have H := H1
                  clear H1
                  by_cases c30 : (((rd_T40 l1 x31_3).f0) == ((rd_T40 l0 x25_2).f0) && (((rd_T40 l1 x31_3).f1) == ((rd_T40 l0 x25_2).f1) && (((rd_T40 l1 x31_3).f2) == ((rd_T40 l0 x25_2).f2) && (((rd_T40 l1 x31_3).f3) == ((rd_T40 l0 x25_2).f3))))) = true
                  ·rw [if_pos c30] at H
                   have c30b0 : (((rd_T40 l1 x31_3).f0) == ((rd_T40 l0 x25_2).f0) && (((rd_T40 l1 x31_3).f1) == ((rd_T40 l0 x25_2).f1) && (((rd_T40 l1 x31_3).f2) == ((rd_T40 l0 x25_2).f2) && (((rd_T40 l1 x31_3).f3) == ((rd_T40 l0 x25_2).f3))))) = true := c30
                   (try (have c30b1 : decide (((rd_T40 l1 x31_3).f0) = ((rd_T40 l0 x25_2).f0) && (((rd_T40 l1 x31_3).f1) == ((rd_T40 l0 x25_2).f1) && (((rd_T40 l1 x31_3).f2) == ((rd_T40 l0 x25_2).f2) && (((rd_T40 l1 x31_3).f3) == ((rd_T40 l0 x25_2).f3))))) = true := by simpa using c30))
                   (try (have c30b2 : (((rd_T40 l1 x31_3).f0) == ((rd_T40 l0 x25_2).f0) && (((rd_T40 l1 x31_3).f1) == ((rd_T40 l0 x25_2).f1) && (((rd_T40 l1 x31_3).f2) == ((rd_T40 l0 x25_2).f2) && (((rd_T40 l1 x31_3).f3) == ((rd_T40 l0 x25_2).f3))))) = true := by simpa using c30))
                   clear c30
                   obtain ⟨y308, hy308⟩ : ∃ y_ : List Bool, y_ = (x5_3.set (x31_3 : Int).toNat true) := ⟨_, rfl⟩
                   replace H : (if x6_2.length < 17592186044416 then (impl_MatchBooks.l0 k3 l1 y308 (x6_2 ++ [x31_3]) l0 (l0.length : Int) (wrap64 (x25_2 + 1))) else (none)) = some r := by first | (rw [hy308]; with_reducible exact H) | (have H2_ := (Option.bind_some _ _).symm.trans H; rw [hy308]; with_reducible exact H2_) | (have H2_ := (Option.bind_some _ _).symm.trans H; with_reducible exact H2_) | with_reducible exact H | (rw [hy308]; exact H) | exact H
                   have Ny308 := Aside0.mk hy308
                   clear hy308
                   by_cases c32 : x6_2.length < 17592186044416
                   ·rw [if_pos c32] at H
                    have LMc32 := Aside0.mk c32
                    clear c32
                    obtain ⟨y309, hy309⟩ : ∃ y_ : List Int, y_ = (x6_2 ++ [x31_3]) := ⟨_, rfl⟩
                    replace H : (impl_MatchBooks.l0 k3 l1 y308 y309 l0 (l0.length : Int) (wrap64 (x25_2 + 1))) = some r := by first | (rw [hy309]; with_reducible exact H) | (have H2_ := (Option.bind_some _ _).symm.trans H; rw [hy309]; with_reducible exact H2_) | (have H2_ := (Option.bind_some _ _).symm.trans H; with_reducible exact H2_) | with_reducible exact H | (rw [hy309]; exact H) | exact H
                    have Ny309 := Aside0.mk hy309
                    clear hy309
                    have H' := Aside0.mk H
                    clear H
                    have p305 : 0 ≤ (x31_3 : Int) := of_decide_eq_true (by first | (with_reducible assumption) | assumption)
                    have q305 : x31_3 < (l1.length : Int) := of_decide_eq_true (by first | (with_reducible assumption) | assumption)
                    obtain ⟨ad305, e305, hx305_0, hx305_1, hx305_2, hx305_3⟩ := at_T40 HR1.out x31_3 p305 q305
                    cases e305
                    replace hx305_0 := (HB.out.cell (World.block_lt_of_cell? w _ hx305_0)).trans hx305_0
                    replace hx305_1 := (HB.out.cell (World.block_lt_of_cell? w _ hx305_1)).trans hx305_1
                    replace hx305_2 := (HB.out.cell (World.block_lt_of_cell? w _ hx305_2)).trans hx305_2
                    replace hx305_3 := (HB.out.cell (World.block_lt_of_cell? w _ hx305_3)).trans hx305_3
                    replace p305 := eq_true p305
                    replace q305 := eq_true q305
                    go_wp2_with (first | ((with_reducible refine gate_dst (N := 11) rfl ?_); refine box_event ?hg (N := 11) ?hd (cs := #[.int .i64 0, .int .i64 0, .int .i64 0, .int .i64 0]) (t := 40) ?hr ?_; (case hd => rfl); (case hg => rfl); (case hr => first | (go_simp; done) | (go_simp; rfl)); intro gb306 hg w33 hbox hb; have n0_ := Aside0.mk (Kd.R_below (by (with_reducible repeat (first | apply Kd.R_alloc | apply Kd.R_drewN | apply Kd.R_drew)); exact HO_5.out) hb); have n1_ := Aside0.mk (Kd.R_below (by (with_reducible repeat (first | apply Kd.R_alloc | apply Kd.R_drewN | apply Kd.R_drew)); exact HO_6.out) hb); have n2_ := Aside0.mk (blk_below (g := gb304) (o := .cells #[.int .i64 ((rd_T40 l0 x25_2).f0), .int .i64 ((rd_T40 l0 x25_2).f1), .int .i64 ((rd_T40 l0 x25_2).f2), .int .i64 ((rd_T40 l0 x25_2).f3)] 40 (0, 0)) (by (with_reducible repeat (first | refine blk_drewN ?_ _ | refine blk_drew ?_ | refine blk_alloc ?_ _)); exact BK304.out) hb); have n3_ := Aside0.mk (below_step (by repeat (first | (with_reducible first | exact HB.out | apply below_alloc | apply pw_below_drewN | apply below_drew1 | refine below_set ?_ GE304.out) | exact HB.out)) hb); have n4_ := Aside0.mk (hbox); have n5_ := Aside0.mk ((by rw [hg]; exact (below_size (by repeat (first | (with_reducible first | exact HB.out | apply below_alloc | apply pw_below_drewN | apply below_drew1 | refine below_set ?_ GE304.out) | exact HB.out))) : w.heap.size ≤ gb306)); have n6_ := Aside0.mk ((by rw [hg]; exact (below_size (by repeat (first | (with_reducible first | exact HB.out | apply below_alloc | apply pw_below_drewN | apply below_drew1 | refine below_set ?_ GE304.out) | exact HB.out))) : w.heap.size ≤ gb306)); have n7_ := Aside0.mk ((by rw [hg]; exact Nat.ne_of_lt (blk_lt (g := gb304) (o := .cells #[.int .i64 ((rd_T40 l0 x25_2).f0), .int .i64 ((rd_T40 l0 x25_2).f1), .int .i64 ((rd_T40 l0 x25_2).f2), .int .i64 ((rd_T40 l0 x25_2).f3)] 40 (0, 0)) (by (with_reducible repeat (first | refine blk_drewN ?_ _ | refine blk_drew ?_ | refine blk_alloc ?_ _)); exact BK304.out)) : gb304 ≠ gb306)); have n8_ := Aside0.mk ((by rw [hg]; exact Nat.ne_of_gt (blk_lt (g := gb304) (o := .cells #[.int .i64 ((rd_T40 l0 x25_2).f0), .int .i64 ((rd_T40 l0 x25_2).f1), .int .i64 ((rd_T40 l0 x25_2).f2), .int .i64 ((rd_T40 l0 x25_2).f3)] 40 (0, 0)) (by (with_reducible repeat (first | refine blk_drewN ?_ _ | refine blk_drew ?_ | refine blk_alloc ?_ _)); exact BK304.out)) : gb306 ≠ gb304)); clear HO_5; clear HO_6; clear BK304; clear HB; have HO_5 := n0_; have HO_6 := n1_; have BK304 := n2_; have HB := n3_; have BK306 := n4_; have GW306 := n5_; have GE306 := n6_; have NB304_306 := n7_; have NB306_304 := n8_; clear n0_ n1_ n2_ n3_ n4_ n5_ n6_ n7_ n8_; clear hb hbox hg; have hnb34 := NB306_304.out; have hnc34 := NB304_306.out; have hcz35_0 : w33.cell? ⟨gb306, 0, none⟩ = some (.int .i64 0) := (blk_cell BK306.out 0).trans rfl; have hcz35_1 : w33.cell? ⟨gb306, 1, none⟩ = some (.int .i64 0) := (blk_cell BK306.out 1).trans rfl; have hcz35_2 : w33.cell? ⟨gb306, 2, none⟩ = some (.int .i64 0) := (blk_cell BK306.out 2).trans rfl; have hcz35_3 : w33.cell? ⟨gb306, 3, none⟩ = some (.int .i64 0) := (blk_cell BK306.out 3).trans rfl; have hfz35_0 := blk_frozen BK306.out 0; have hfz35_1 := blk_frozen BK306.out 1; have hfz35_2 := blk_frozen BK306.out 2; have hfz35_3 := blk_frozen BK306.out 3) | ((with_reducible refine gate_store (t := 40) (p := 11) rfl ?_); refine store_event (t := 40) (p := 11) (v := ?vo_w36) (w1 := ((((w33.setCell ⟨gb306, 0, none⟩ (.int .i64 ((rd_T40 l1 x31_3).f0))).setCell ⟨gb306, 1, none⟩ (.int .i64 ((rd_T40 l1 x31_3).f1))).setCell ⟨gb306, 2, none⟩ (.int .i64 ((rd_T40 l1 x31_3).f2))).setCell ⟨gb306, 3, none⟩ (.int .i64 ((rd_T40 l1 x31_3).f3)))) ?hg ?ho ?hn ?hr ?_; (case ho => rfl); (case hg => rfl); (case hn => rfl); (case hr => first | (go_simp; done) | (go_simp; rfl)); intro w36 hw; have n0_ : Aside0 (Kd.R Kd.bool 4 w36 w.heap.size (fun _ => True) v301 x5_3) := ⟨(by rw [hw]; exact (by (with_reducible repeat (first | apply Kd.R_alloc | apply Kd.R_drewN | apply Kd.R_drew)); exact Kd.R_mono (Kd.R_far (p := ⟨gb306, 3, none⟩) (Kd.R_far (p := ⟨gb306, 2, none⟩) (Kd.R_far (p := ⟨gb306, 1, none⟩) (Kd.R_far (p := ⟨gb306, 0, none⟩) (Kd.R_types HO_5.out BK306.out (by decide)) (fun _ hk => hk.2) (.int .i64 ((rd_T40 l1 x31_3).f0))) (fun _ hk => hk.2) (.int .i64 ((rd_T40 l1 x31_3).f1))) (fun _ hk => hk.2) (.int .i64 ((rd_T40 l1 x31_3).f2))) (fun _ hk => hk.2) (.int .i64 ((rd_T40 l1 x31_3).f3))) (fun _ hk => trivial)))⟩; have n1_ : Aside0 (Kd.R (Kd.int .i64) 3 w36 w.heap.size (fun _ => True) u6 x6_2) := ⟨(by rw [hw]; exact (by (with_reducible repeat (first | apply Kd.R_alloc | apply Kd.R_drewN | apply Kd.R_drew)); exact Kd.R_mono (Kd.R_far (p := ⟨gb306, 3, none⟩) (Kd.R_far (p := ⟨gb306, 2, none⟩) (Kd.R_far (p := ⟨gb306, 1, none⟩) (Kd.R_far (p := ⟨gb306, 0, none⟩) (Kd.R_types HO_6.out BK306.out (by decide)) (fun _ hk => hk.2) (.int .i64 ((rd_T40 l1 x31_3).f0))) (fun _ hk => hk.2) (.int .i64 ((rd_T40 l1 x31_3).f1))) (fun _ hk => hk.2) (.int .i64 ((rd_T40 l1 x31_3).f2))) (fun _ hk => hk.2) (.int .i64 ((rd_T40 l1 x31_3).f3))) (fun _ hk => trivial)))⟩; have n2_ : Aside0 (w36.heap[gb304]? = some (.cells #[.int .i64 ((rd_T40 l0 x25_2).f0), .int .i64 ((rd_T40 l0 x25_2).f1), .int .i64 ((rd_T40 l0 x25_2).f2), .int .i64 ((rd_T40 l0 x25_2).f3)] 40 (0, 0))) := ⟨(by rw [hw]; exact (by (with_reducible repeat (first | refine blk_drewN ?_ _ | refine blk_drew ?_ | refine blk_alloc ?_ _)); refine blk_far ?_ NB304_306.out _; (with_reducible repeat (first | refine blk_drewN ?_ _ | refine blk_drew ?_ | refine blk_alloc ?_ _)); refine blk_far ?_ NB304_306.out _; (with_reducible repeat (first | refine blk_drewN ?_ _ | refine blk_drew ?_ | refine blk_alloc ?_ _)); refine blk_far ?_ NB304_306.out _; (with_reducible repeat (first | refine blk_drewN ?_ _ | refine blk_drew ?_ | refine blk_alloc ?_ _)); refine blk_far ?_ NB304_306.out _; (with_reducible repeat (first | refine blk_drewN ?_ _ | refine blk_drew ?_ | refine blk_alloc ?_ _)); exact BK304.out))⟩; have n3_ : Aside0 (w36.heap[gb306]? = some (.cells #[.int .i64 ((rd_T40 l1 x31_3).f0), .int .i64 ((rd_T40 l1 x31_3).f1), .int .i64 ((rd_T40 l1 x31_3).f2), .int .i64 ((rd_T40 l1 x31_3).f3)] 40 (0, 0))) := ⟨(by rw [hw]; exact (by (with_reducible repeat (first | refine blk_drewN ?_ _ | refine blk_drew ?_ | refine blk_alloc ?_ _)); refine blk_put (cs := #[.int .i64 ((rd_T40 l1 x31_3).f0), .int .i64 ((rd_T40 l1 x31_3).f1), .int .i64 ((rd_T40 l1 x31_3).f2), .int .i64 0]) ?_ 3 _ rfl; (with_reducible repeat (first | refine blk_drewN ?_ _ | refine blk_drew ?_ | refine blk_alloc ?_ _)); refine blk_put (cs := #[.int .i64 ((rd_T40 l1 x31_3).f0), .int .i64 ((rd_T40 l1 x31_3).f1), .int .i64 0, .int .i64 0]) ?_ 2 _ rfl; (with_reducible repeat (first | refine blk_drewN ?_ _ | refine blk_drew ?_ | refine blk_alloc ?_ _)); refine blk_put (cs := #[.int .i64 ((rd_T40 l1 x31_3).f0), .int .i64 0, .int .i64 0, .int .i64 0]) ?_ 1 _ rfl; (with_reducible repeat (first | refine blk_drewN ?_ _ | refine blk_drew ?_ | refine blk_alloc ?_ _)); refine blk_put (cs := #[.int .i64 0, .int .i64 0, .int .i64 0, .int .i64 0]) ?_ 0 _ rfl; (with_reducible repeat (first | refine blk_drewN ?_ _ | refine blk_drew ?_ | refine blk_alloc ?_ _)); exact BK306.out))⟩; have n4_ : Aside0 (Below w.heap.size w w36) := ⟨(by rw [hw]; exact (by repeat (first | (with_reducible first | exact HB.out | apply below_alloc | apply pw_below_drewN | apply below_drew1 | refine below_set ?_ GE304.out | refine below_set ?_ GE306.out) | exact HB.out)))⟩; clear hw; clear HO_5; clear HO_6; clear BK304; clear BK306; clear HB; have HO_5 := n0_; have HO_6 := n1_; have BK304 := n2_; have BK306 := n3_; have HB := n4_; clear n0_ n1_ n2_ n3_ n4_; obtain ⟨Ao37, co37, eo37⟩ := Kd.R_slice HO_5.out; subst eo37; have p307 : 0 ≤ (x31_3 : Int) := of_decide_eq_true (by first | (with_reducible assumption) | assumption); have q307 : x31_3 < (x5_3.length : Int) := of_decide_eq_true (by first | (with_reducible assumption) | assumption); obtain ⟨ad307, e307, hx307_0⟩ := Kd.at_bool (Kd.R_reads' HO_5.out).2.2 x31_3 p307 q307; (try rw [← Nbq24.out] at hx307_0); cases e307; replace p307 := eq_true p307; replace q307 := eq_true q307; have hcz38_0 : w36.cell? ⟨gb306, 0, none⟩ = some (.int .i64 ((rd_T40 l1 x31_3).f0)) := (blk_cell BK306.out 0).trans rfl; have hcz38_1 : w36.cell? ⟨gb306, 1, none⟩ = some (.int .i64 ((rd_T40 l1 x31_3).f1)) := (blk_cell BK306.out 1).trans rfl; have hcz38_2 : w36.cell? ⟨gb306, 2, none⟩ = some (.int .i64 ((rd_T40 l1 x31_3).f2)) := (blk_cell BK306.out 2).trans rfl; have hcz38_3 : w36.cell? ⟨gb306, 3, none⟩ = some (.int .i64 ((rd_T40 l1 x31_3).f3)) := (blk_cell BK306.out 3).trans rfl; have hfz38_0 := blk_frozen BK306.out 0; have hfz38_1 := blk_frozen BK306.out 1; have hfz38_2 := blk_frozen BK306.out 2; have hfz38_3 := blk_frozen BK306.out 3; have hcz39_0 : w36.cell? ⟨gb304, 0, none⟩ = some (.int .i64 ((rd_T40 l0 x25_2).f0)) := (blk_cell BK304.out 0).trans rfl; have hcz39_1 : w36.cell? ⟨gb304, 1, none⟩ = some (.int .i64 ((rd_T40 l0 x25_2).f1)) := (blk_cell BK304.out 1).trans rfl; have hcz39_2 : w36.cell? ⟨gb304, 2, none⟩ = some (.int .i64 ((rd_T40 l0 x25_2).f2)) := (blk_cell BK304.out 2).trans rfl; have hcz39_3 : w36.cell? ⟨gb304, 3, none⟩ = some (.int .i64 ((rd_T40 l0 x25_2).f3)) := (blk_cell BK304.out 3).trans rfl; have hfz39_0 := blk_frozen BK304.out 0; have hfz39_1 := blk_frozen BK304.out 1; have hfz39_2 := blk_frozen BK304.out 2; have hfz39_3 := blk_frozen BK304.out 3; have p31 : 0 ≤ (x31_3 : Int) := of_decide_eq_true (by first | (with_reducible assumption) | assumption); have q31 : (x31_3 : Int) < ((x5_3.length : Int) : Int) := of_decide_eq_true (by first | (with_reducible assumption) | assumption); obtain ⟨go31, co31, eo31, gb31, gl31, cl31, HG31⟩ := Kd.R_form HO_5.out (by omega); (first | cases eo31 | (injection eo31 with ea_ en_ ec_; (first | subst ea_ | (injection ea_ with ea_; subst ea_)); subst ec_; clear en_)); have GB31 := Aside0.mk gb31; have GG31 := Aside0.mk HG31; clear gb31 gl31 HG31; (first | simp only [add_plain] at hx307_0 | skip); obtain ⟨hx31_0, hf31_0⟩ := Kd.R_celln false HO_5.out (x31_3 : Int) p31 q31; replace p31 := eq_true p31; replace q31 := eq_true q31; obtain ⟨hy40_, hz40_⟩ := Kd.R_celln false HO_5.out (x31_3 : Int) (of_decide_eq_true (by first | (with_reducible assumption) | assumption)) (of_decide_eq_true (by first | (with_reducible assumption) | assumption)); have HP40 := Kd.R_putg HO_5.out (x31_3 : Int) true) | ((with_reducible refine gate_store (t := 4) (p := 48) rfl ?_); refine store_event (t := 4) (p := 48) (v := ?vo_w41) (w1 := (w36.setCell ⟨go31, (x31_3 : Int).toNat, none⟩ (.bool true))) ?hg ?ho ?hn ?hr ?_; (case ho => rfl); (case hg => rfl); (case hn => rfl); (case hr => first | (go_simp; done) | (go_simp; rfl)); intro w41 hw; have hg : w36.grownBy w41 (some go31) := (by rw [hw]; exact HP40.2); have hp_ : Kd.R Kd.bool 4 w41 w.heap.size (fun _ => True) (.slice (some ⟨go31, 0, none⟩) x5_3.length co37) y308 := (by rw [hw, Ny308.out]; exact HP40.1); clear HP40; have n0_ := Aside0.mk (hp_); have n1_ := Aside0.mk (Kd.R_over' (v := (.slice (some ⟨go31, 0, none⟩) x5_3.length co37)) (by (with_reducible repeat (first | apply Kd.R_alloc | apply Kd.R_drewN | apply Kd.R_drew)); exact HO_6.out) (Kd.R_typed HO_5.out) (by decide) hg); have n2_ := Aside0.mk (blk_grown (g := gb304) (o := .cells #[.int .i64 ((rd_T40 l0 x25_2).f0), .int .i64 ((rd_T40 l0 x25_2).f1), .int .i64 ((rd_T40 l0 x25_2).f2), .int .i64 ((rd_T40 l0 x25_2).f3)] 40 (0, 0)) (by (with_reducible repeat (first | refine blk_drewN ?_ _ | refine blk_drew ?_ | refine blk_alloc ?_ _)); exact BK304.out) hg (Kd.R_ne HO_5.out BK304.out (by decide))); have n3_ := Aside0.mk (blk_grown (g := gb306) (o := .cells #[.int .i64 ((rd_T40 l1 x31_3).f0), .int .i64 ((rd_T40 l1 x31_3).f1), .int .i64 ((rd_T40 l1 x31_3).f2), .int .i64 ((rd_T40 l1 x31_3).f3)] 40 (0, 0)) (by (with_reducible repeat (first | refine blk_drewN ?_ _ | refine blk_drew ?_ | refine blk_alloc ?_ _)); exact BK306.out) hg (Kd.R_ne HO_5.out BK306.out (by decide))); have n4_ := Aside0.mk ((by rw [hw]; exact below_set (HB.out) GB31.out : Below w.heap.size w w41)); clear HO_5; clear HO_6; clear BK304; clear BK306; clear HB; have HO_5 := n0_; have HO_6 := n1_; have BK304 := n2_; have BK306 := n3_; have HB := n4_; clear n0_ n1_ n2_ n3_ n4_; clear hg hw hp_) | ((with_reducible refine gate_builtin (b := .append) (xs := #[.tmp 51, .tmp 53]) rfl ?_); at_builtin; refine Kd.R_append (Kd.int .i64) (w0 := w) w.heap.size rfl (.tmp 51) (.tmp 53) 35 3 (.int .i64 0) 8 rfl Try.underlying35 info3 rfl (by decide) (by omega) u6 x6_2 x31_3 [.int .i64 x31_3] (fun _ => True) (fun _ => False) rfl rfl ?aP (fun _ hk => hk.elim) ?aF ?aO ?aB ?aS ?aL ?_; (case aP => exact rfl); (case aB => exact (by repeat (first | (with_reducible first | exact HB.out | apply below_alloc | apply pw_below_drewN | apply below_drew1 | refine below_set ?_ GE304.out | refine below_set ?_ GE306.out) | exact HB.out))); (case aF => exact (fun _ _ => trivial)); (case aO => exact (by (with_reducible repeat (first | apply Kd.R_alloc | apply Kd.R_drewN | apply Kd.R_drew)); exact HO_6.out)); (case aS => exact (below_size (by repeat (first | (with_reducible first | exact HB.out | apply below_alloc | apply pw_below_drewN | apply below_drew1 | refine below_set ?_ GE304.out | refine below_set ?_ GE306.out) | exact HB.out)))); (case aL => have := LMc32.out; omega); intro v310 w42 ho hb hg hat; rw [← Ny309.out] at ho; have n0_ := Aside0.mk (Kd.R_over' (by (with_reducible repeat (first | apply Kd.R_alloc | apply Kd.R_drewN | apply Kd.R_drew)); exact HO_5.out) (Kd.R_typed (by (with_reducible repeat (first | apply Kd.R_alloc | apply Kd.R_drewN | apply Kd.R_drew)); exact HO_6.out)) (by decide) hg); have n1_ := Aside0.mk (blk_grown (g := gb304) (o := .cells #[.int .i64 ((rd_T40 l0 x25_2).f0), .int .i64 ((rd_T40 l0 x25_2).f1), .int .i64 ((rd_T40 l0 x25_2).f2), .int .i64 ((rd_T40 l0 x25_2).f3)] 40 (0, 0)) (by (with_reducible repeat (first | refine blk_drewN ?_ _ | refine blk_drew ?_ | refine blk_alloc ?_ _)); exact BK304.out) hg (Kd.R_ne HO_6.out BK304.out (by decide))); have n2_ := Aside0.mk (blk_grown (g := gb306) (o := .cells #[.int .i64 ((rd_T40 l1 x31_3).f0), .int .i64 ((rd_T40 l1 x31_3).f1), .int .i64 ((rd_T40 l1 x31_3).f2), .int .i64 ((rd_T40 l1 x31_3).f3)] 40 (0, 0)) (by (with_reducible repeat (first | refine blk_drewN ?_ _ | refine blk_drew ?_ | refine blk_alloc ?_ _)); exact BK306.out) hg (Kd.R_ne HO_6.out BK306.out (by decide))); have n3_ := Aside0.mk (hb); have n4_ := Aside0.mk (ho); clear HO_5; clear BK304; clear BK306; clear HB; clear HO_6; have HO_5 := n0_; have BK304 := n1_; have BK306 := n2_; have HB := n3_; have HO311 := n4_; clear n0_ n1_ n2_ n3_ n4_; clear ho hb hg hat))
                    go_roundg k3
                    case measure => have := HJ2.out; have := HK2.out; have := HK3.out; omega
                    case rel => exact ⟨(y308), (y309), (wrap64 (x25_2 + 1)), (by first | rfl | (simp; done) | (simp [*]; done)), H', ⟨by have := HJ2.out; have := HK2.out; have := HK3.out; omega⟩, ⟨by (with_reducible repeat (first | apply Kd.R_alloc | apply Kd.R_drewN | apply Kd.R_drew)); exact HO_5.out⟩, ⟨by (with_reducible repeat (first | apply Kd.R_alloc | apply Kd.R_drewN | apply Kd.R_drew)); exact HO311.out⟩, ⟨by repeat (first | (with_reducible first | exact HB.out | apply below_alloc | apply pw_below_drewN | apply below_drew1 | refine below_set ?_ GE304.out | refine below_set ?_ GE306.out) | exact HB.out)⟩⟩
                   ·rw [if_neg c32] at H
                    exact absurd H (by simp)
                  ·rw [if_neg c30] at H
                   have c30b0 : (((rd_T40 l1 x31_3).f0) == ((rd_T40 l0 x25_2).f0) && (((rd_T40 l1 x31_3).f1) == ((rd_T40 l0 x25_2).f1) && (((rd_T40 l1 x31_3).f2) == ((rd_T40 l0 x25_2).f2) && (((rd_T40 l1 x31_3).f3) == ((rd_T40 l0 x25_2).f3))))) = false := by simpa using c30
                   (try (have c30b1 : decide (((rd_T40 l1 x31_3).f0) = ((rd_T40 l0 x25_2).f0) && (((rd_T40 l1 x31_3).f1) == ((rd_T40 l0 x25_2).f1) && (((rd_T40 l1 x31_3).f2) == ((rd_T40 l0 x25_2).f2) && (((rd_T40 l1 x31_3).f3) == ((rd_T40 l0 x25_2).f3))))) = false := by simpa using c30))
                   (try (have c30b2 : (((rd_T40 l1 x31_3).f0) == ((rd_T40 l0 x25_2).f0) && (((rd_T40 l1 x31_3).f1) == ((rd_T40 l0 x25_2).f1) && (((rd_T40 l1 x31_3).f2) == ((rd_T40 l0 x25_2).f2) && (((rd_T40 l1 x31_3).f3) == ((rd_T40 l0 x25_2).f3))))) = false := by simpa using c30))
                   (try (have c30b3 : ¬ (((rd_T40 l1 x31_3).f0) = ((rd_T40 l0 x25_2).f0) && (((rd_T40 l1 x31_3).f1) == ((rd_T40 l0 x25_2).f1) && (((rd_T40 l1 x31_3).f2) == ((rd_T40 l0 x25_2).f2) && (((rd_T40 l1 x31_3).f3) == ((rd_T40 l0 x25_2).f3))))) := by simpa using c30))
                   clear c30
                   have H' := Aside0.mk H
                   clear H
                   have p305 : 0 ≤ (x31_3 : Int) := of_decide_eq_true (by first | (with_reducible assumption) | assumption)
                   have q305 : x31_3 < (l1.length : Int) := of_decide_eq_true (by first | (with_reducible assumption) | assumption)
                   obtain ⟨ad305, e305, hx305_0, hx305_1, hx305_2, hx305_3⟩ := at_T40 HR1.out x31_3 p305 q305
                   cases e305
                   replace hx305_0 := (HB.out.cell (World.block_lt_of_cell? w _ hx305_0)).trans hx305_0
                   replace hx305_1 := (HB.out.cell (World.block_lt_of_cell? w _ hx305_1)).trans hx305_1
                   replace hx305_2 := (HB.out.cell (World.block_lt_of_cell? w _ hx305_2)).trans hx305_2
                   replace hx305_3 := (HB.out.cell (World.block_lt_of_cell? w _ hx305_3)).trans hx305_3
                   replace p305 := eq_true p305
                   replace q305 := eq_true q305
                   go_wp2_with (first | ((with_reducible refine gate_dst (N := 11) rfl ?_); refine box_event ?hg (N := 11) ?hd (cs := #[.int .i64 0, .int .i64 0, .int .i64 0, .int .i64 0]) (t := 40) ?hr ?_; (case hd => rfl); (case hg => rfl); (case hr => first | (go_simp; done) | (go_simp; rfl)); intro gb306 hg w43 hbox hb; have n0_ := Aside0.mk (Kd.R_below (by (with_reducible repeat (first | apply Kd.R_alloc | apply Kd.R_drewN | apply Kd.R_drew)); exact HO_5.out) hb); have n1_ := Aside0.mk (Kd.R_below (by (with_reducible repeat (first | apply Kd.R_alloc | apply Kd.R_drewN | apply Kd.R_drew)); exact HO_6.out) hb); have n2_ := Aside0.mk (blk_below (g := gb304) (o := .cells #[.int .i64 ((rd_T40 l0 x25_2).f0), .int .i64 ((rd_T40 l0 x25_2).f1), .int .i64 ((rd_T40 l0 x25_2).f2), .int .i64 ((rd_T40 l0 x25_2).f3)] 40 (0, 0)) (by (with_reducible repeat (first | refine blk_drewN ?_ _ | refine blk_drew ?_ | refine blk_alloc ?_ _)); exact BK304.out) hb); have n3_ := Aside0.mk (below_step (by repeat (first | (with_reducible first | exact HB.out | apply below_alloc | apply pw_below_drewN | apply below_drew1 | refine below_set ?_ GE304.out) | exact HB.out)) hb); have n4_ := Aside0.mk (hbox); have n5_ := Aside0.mk ((by rw [hg]; exact (below_size (by repeat (first | (with_reducible first | exact HB.out | apply below_alloc | apply pw_below_drewN | apply below_drew1 | refine below_set ?_ GE304.out) | exact HB.out))) : w.heap.size ≤ gb306)); have n6_ := Aside0.mk ((by rw [hg]; exact (below_size (by repeat (first | (with_reducible first | exact HB.out | apply below_alloc | apply pw_below_drewN | apply below_drew1 | refine below_set ?_ GE304.out) | exact HB.out))) : w.heap.size ≤ gb306)); have n7_ := Aside0.mk ((by rw [hg]; exact Nat.ne_of_lt (blk_lt (g := gb304) (o := .cells #[.int .i64 ((rd_T40 l0 x25_2).f0), .int .i64 ((rd_T40 l0 x25_2).f1), .int .i64 ((rd_T40 l0 x25_2).f2), .int .i64 ((rd_T40 l0 x25_2).f3)] 40 (0, 0)) (by (with_reducible repeat (first | refine blk_drewN ?_ _ | refine blk_drew ?_ | refine blk_alloc ?_ _)); exact BK304.out)) : gb304 ≠ gb306)); have n8_ := Aside0.mk ((by rw [hg]; exact Nat.ne_of_gt (blk_lt (g := gb304) (o := .cells #[.int .i64 ((rd_T40 l0 x25_2).f0), .int .i64 ((rd_T40 l0 x25_2).f1), .int .i64 ((rd_T40 l0 x25_2).f2), .int .i64 ((rd_T40 l0 x25_2).f3)] 40 (0, 0)) (by (with_reducible repeat (first | refine blk_drewN ?_ _ | refine blk_drew ?_ | refine blk_alloc ?_ _)); exact BK304.out)) : gb306 ≠ gb304)); clear HO_5; clear HO_6; clear BK304; clear HB; have HO_5 := n0_; have HO_6 := n1_; have BK304 := n2_; have HB := n3_; have BK306 := n4_; have GW306 := n5_; have GE306 := n6_; have NB304_306 := n7_; have NB306_304 := n8_; clear n0_ n1_ n2_ n3_ n4_ n5_ n6_ n7_ n8_; clear hb hbox hg; have hnb44 := NB306_304.out; have hnc44 := NB304_306.out; have hcz45_0 : w43.cell? ⟨gb306, 0, none⟩ = some (.int .i64 0) := (blk_cell BK306.out 0).trans rfl; have hcz45_1 : w43.cell? ⟨gb306, 1, none⟩ = some (.int .i64 0) := (blk_cell BK306.out 1).trans rfl; have hcz45_2 : w43.cell? ⟨gb306, 2, none⟩ = some (.int .i64 0) := (blk_cell BK306.out 2).trans rfl; have hcz45_3 : w43.cell? ⟨gb306, 3, none⟩ = some (.int .i64 0) := (blk_cell BK306.out 3).trans rfl; have hfz45_0 := blk_frozen BK306.out 0; have hfz45_1 := blk_frozen BK306.out 1; have hfz45_2 := blk_frozen BK306.out 2; have hfz45_3 := blk_frozen BK306.out 3; obtain ⟨Ao46, co46, eo46⟩ := Kd.R_slice HO_5.out; subst eo46; have p307 : 0 ≤ (x31_3 : Int) := of_decide_eq_true (by first | (with_reducible assumption) | assumption); have q307 : x31_3 < (x5_3.length : Int) := of_decide_eq_true (by first | (with_reducible assumption) | assumption); obtain ⟨ad307, e307, hx307_0⟩ := Kd.at_bool (Kd.R_reads' HO_5.out).2.2 x31_3 p307 q307; (try rw [← Nbq24.out] at hx307_0); cases e307; have hn307_0 : ad307.block ≠ gb306 := Kd.own_blk (Kd.R_ne HO_5.out BK306.out (by decide)); have hn307_1 : ad307.block ≠ gb306 := Kd.own_blk (Kd.R_ne HO_5.out BK306.out (by decide)); have hn307_2 : ad307.block ≠ gb306 := Kd.own_blk (Kd.R_ne HO_5.out BK306.out (by decide)); have hn307_3 : ad307.block ≠ gb306 := Kd.own_blk (Kd.R_ne HO_5.out BK306.out (by decide)); replace hx307_0 := (cell_far (p := ⟨gb306, 0, none⟩) (by first | (rw [add_block]; exact hn307_0) | (show (Addr.add _ _).block ≠ _; rw [add_block]; exact hn307_0) | exact hn307_0) (.int .i64 ((rd_T40 l1 x31_3).f0))).trans hx307_0; replace hx307_0 := (cell_far (p := ⟨gb306, 1, none⟩) (by first | (rw [add_block]; exact hn307_1) | (show (Addr.add _ _).block ≠ _; rw [add_block]; exact hn307_1) | exact hn307_1) (.int .i64 ((rd_T40 l1 x31_3).f1))).trans hx307_0; replace hx307_0 := (cell_far (p := ⟨gb306, 2, none⟩) (by first | (rw [add_block]; exact hn307_2) | (show (Addr.add _ _).block ≠ _; rw [add_block]; exact hn307_2) | exact hn307_2) (.int .i64 ((rd_T40 l1 x31_3).f2))).trans hx307_0; replace hx307_0 := (cell_far (p := ⟨gb306, 3, none⟩) (by first | (rw [add_block]; exact hn307_3) | (show (Addr.add _ _).block ≠ _; rw [add_block]; exact hn307_3) | exact hn307_3) (.int .i64 ((rd_T40 l1 x31_3).f3))).trans hx307_0; clear hn307_0; clear hn307_1; clear hn307_2; clear hn307_3; replace p307 := eq_true p307; replace q307 := eq_true q307; have hcz47_0 : w43.cell? ⟨gb304, 0, none⟩ = some (.int .i64 ((rd_T40 l0 x25_2).f0)) := (blk_cell BK304.out 0).trans rfl; have hcz47_1 : w43.cell? ⟨gb304, 1, none⟩ = some (.int .i64 ((rd_T40 l0 x25_2).f1)) := (blk_cell BK304.out 1).trans rfl; have hcz47_2 : w43.cell? ⟨gb304, 2, none⟩ = some (.int .i64 ((rd_T40 l0 x25_2).f2)) := (blk_cell BK304.out 2).trans rfl; have hcz47_3 : w43.cell? ⟨gb304, 3, none⟩ = some (.int .i64 ((rd_T40 l0 x25_2).f3)) := (blk_cell BK304.out 3).trans rfl; have hfz47_0 := blk_frozen BK304.out 0; have hfz47_1 := blk_frozen BK304.out 1; have hfz47_2 := blk_frozen BK304.out 2; have hfz47_3 := blk_frozen BK304.out 3))
                   go_roundg k3
                   case measure => have := HJ2.out; have := HK2.out; have := HK3.out; omega
                   case rel => exact ⟨(x5_3), (x9_3), (wrap64 (x31_3 + 1)), (by first | rfl | (simp; done) | (simp [*]; done)), (by first | rfl | (simp; done) | (simp [*]; done)), H', ⟨by have := HJ2.out; have := HK2.out; have := HK3.out; omega⟩, ⟨by (with_reducible repeat (first | apply Kd.R_alloc | apply Kd.R_drewN | apply Kd.R_drew)); exact Kd.R_mono (Kd.R_far (p := ⟨gb306, 3, none⟩) (Kd.R_far (p := ⟨gb306, 2, none⟩) (Kd.R_far (p := ⟨gb306, 1, none⟩) (Kd.R_far (p := ⟨gb306, 0, none⟩) (Kd.R_types HO_5.out BK306.out (by decide)) (fun _ hk => hk.2) (.int .i64 ((rd_T40 l1 x31_3).f0))) (fun _ hk => hk.2) (.int .i64 ((rd_T40 l1 x31_3).f1))) (fun _ hk => hk.2) (.int .i64 ((rd_T40 l1 x31_3).f2))) (fun _ hk => hk.2) (.int .i64 ((rd_T40 l1 x31_3).f3))) (fun _ hk => trivial)⟩, ⟨by (with_reducible repeat (first | apply Kd.R_alloc | apply Kd.R_drewN | apply Kd.R_drew)); exact Kd.R_mono (Kd.R_far (p := ⟨gb306, 3, none⟩) (Kd.R_far (p := ⟨gb306, 2, none⟩) (Kd.R_far (p := ⟨gb306, 1, none⟩) (Kd.R_far (p := ⟨gb306, 0, none⟩) (Kd.R_types HO_6.out BK306.out (by decide)) (fun _ hk => hk.2) (.int .i64 ((rd_T40 l1 x31_3).f0))) (fun _ hk => hk.2) (.int .i64 ((rd_T40 l1 x31_3).f1))) (fun _ hk => hk.2) (.int .i64 ((rd_T40 l1 x31_3).f2))) (fun _ hk => hk.2) (.int .i64 ((rd_T40 l1 x31_3).f3))) (fun _ hk => trivial)⟩, ⟨by (with_reducible repeat (first | refine blk_drewN ?_ _ | refine blk_drew ?_ | refine blk_alloc ?_ _)); refine blk_far ?_ NB304_306.out _; (with_reducible repeat (first | refine blk_drewN ?_ _ | refine blk_drew ?_ | refine blk_alloc ?_ _)); refine blk_far ?_ NB304_306.out _; (with_reducible repeat (first | refine blk_drewN ?_ _ | refine blk_drew ?_ | refine blk_alloc ?_ _)); refine blk_far ?_ NB304_306.out _; (with_reducible repeat (first | refine blk_drewN ?_ _ | refine blk_drew ?_ | refine blk_alloc ?_ _)); refine blk_far ?_ NB304_306.out _; (with_reducible repeat (first | refine blk_drewN ?_ _ | refine blk_drew ?_ | refine blk_alloc ?_ _)); exact BK304.out⟩, ⟨by repeat (first | (with_reducible first | exact HB.out | apply below_alloc | apply pw_below_drewN | apply below_drew1 | refine below_set ?_ GE304.out | refine below_set ?_ GE306.out) | exact HB.out)⟩⟩
                ·rw [if_neg c23] at H
                 exact absurd H (by simp)
               ·rw [if_neg c22] at H
                exact absurd H (by simp)
              ·rw [if_neg c21] at H
               exact absurd H (by simp)
             ·rw [if_neg c20] at H
              have c20b0 : decide (x31_3 < (l1.length : Int)) = false := decide_eq_false c20
              clear c20
              by_cases c48 : x6_2.length < 17592186044416
              ·rw [if_pos c48] at H
               have LMc48 := Aside0.mk c48
               clear c48
               obtain ⟨y312, hy312⟩ : ∃ y_ : List Int, y_ = (x6_2 ++ [x9_3]) := ⟨_, rfl⟩
               replace H : (impl_MatchBooks.l0 k3 l1 x5_3 y312 l0 (l0.length : Int) (wrap64 (x25_2 + 1))) = some r := by first | (rw [hy312]; with_reducible exact H) | (have H2_ := (Option.bind_some _ _).symm.trans H; rw [hy312]; with_reducible exact H2_) | (have H2_ := (Option.bind_some _ _).symm.trans H; with_reducible exact H2_) | with_reducible exact H | (rw [hy312]; exact H) | exact H
               have Ny312 := Aside0.mk hy312
               clear hy312
               have H' := Aside0.mk H
               clear H
               go_wp2_with (first | ((with_reducible refine gate_builtin (b := .append) (xs := #[.tmp 51, .tmp 53]) rfl ?_); at_builtin; refine Kd.R_append (Kd.int .i64) (w0 := w) w.heap.size rfl (.tmp 51) (.tmp 53) 35 3 (.int .i64 0) 8 rfl Try.underlying35 info3 rfl (by decide) (by omega) u6 x6_2 x9_3 [.int .i64 x9_3] (fun _ => True) (fun _ => False) rfl rfl ?aP (fun _ hk => hk.elim) ?aF ?aO ?aB ?aS ?aL ?_; (case aP => exact rfl); (case aB => exact (by repeat (first | (with_reducible first | exact HB.out | apply below_alloc | apply pw_below_drewN | apply below_drew1 | refine below_set ?_ GE304.out) | exact HB.out))); (case aF => exact (fun _ _ => trivial)); (case aO => exact (by (with_reducible repeat (first | apply Kd.R_alloc | apply Kd.R_drewN | apply Kd.R_drew)); exact HO_6.out)); (case aS => exact (below_size (by repeat (first | (with_reducible first | exact HB.out | apply below_alloc | apply pw_below_drewN | apply below_drew1 | refine below_set ?_ GE304.out) | exact HB.out)))); (case aL => have := LMc48.out; omega); intro v313 w49 ho hb hg hat; rw [← Ny312.out] at ho; have n0_ := Aside0.mk (Kd.R_over' (by (with_reducible repeat (first | apply Kd.R_alloc | apply Kd.R_drewN | apply Kd.R_drew)); exact HO_5.out) (Kd.R_typed (by (with_reducible repeat (first | apply Kd.R_alloc | apply Kd.R_drewN | apply Kd.R_drew)); exact HO_6.out)) (by decide) hg); have n1_ := Aside0.mk (blk_grown (g := gb304) (o := .cells #[.int .i64 ((rd_T40 l0 x25_2).f0), .int .i64 ((rd_T40 l0 x25_2).f1), .int .i64 ((rd_T40 l0 x25_2).f2), .int .i64 ((rd_T40 l0 x25_2).f3)] 40 (0, 0)) (by (with_reducible repeat (first | refine blk_drewN ?_ _ | refine blk_drew ?_ | refine blk_alloc ?_ _)); exact BK304.out) hg (Kd.R_ne HO_6.out BK304.out (by decide))); have n2_ := Aside0.mk (hb); have n3_ := Aside0.mk (ho); clear HO_5; clear BK304; clear HB; clear HO_6; have HO_5 := n0_; have BK304 := n1_; have HB := n2_; have HO314 := n3_; clear n0_ n1_ n2_ n3_; clear ho hb hg hat))
               go_roundg k3
               case measure => have := HJ2.out; have := HK2.out; have := HK3.out; omega
               case rel => exact ⟨(x5_3), (y312), (wrap64 (x25_2 + 1)), (by first | rfl | (simp; done) | (simp [*]; done)), H', ⟨by have := HJ2.out; have := HK2.out; have := HK3.out; omega⟩, ⟨by (with_reducible repeat (first | apply Kd.R_alloc | apply Kd.R_drewN | apply Kd.R_drew)); exact HO_5.out⟩, ⟨by (with_reducible repeat (first | apply Kd.R_alloc | apply Kd.R_drewN | apply Kd.R_drew)); exact HO314.out⟩, ⟨by repeat (first | (with_reducible first | exact HB.out | apply below_alloc | apply pw_below_drewN | apply below_drew1 | refine below_set ?_ GE304.out) | exact HB.out)⟩⟩
              ·rw [if_neg c48] at H
               exact absurd H (by simp)
          ·rw [if_neg c17] at H
           exact absurd H (by simp)
         ·rw [if_neg c16] at H
          exact absurd H (by simp)
        ·rw [if_neg c15] at H
         have c15b0 : decide (x25_2 < (l0.length : Int)) = false := decide_eq_false c15
         clear c15
         obtain rfl := Option.some.inj H
         go_wp2
         go_ret
         exact ⟨_, by first | rfl | (simp [errW_none, errW_some] <;> rfl) | (simp [*, errW_none, errW_some] <;> rfl), by (with_reducible repeat (first | apply Kd.R_alloc | apply Kd.R_drewN | apply Kd.R_drew)); exact HO_6.out, by repeat (first | (with_reducible first | exact HB.out | apply below_alloc | apply pw_below_drewN | apply below_drew1) | exact HB.out)⟩
     ·rw [if_neg c12] at H
      exact absurd H (by simp)
    ·rw [if_neg c11] at H
     exact absurd H (by simp)

/-! ### impl_OnlyIn: function 21 -/
def impl_OnlyIn.l0 : Nat → List (S40) → List (S40) → List Int → Int → Int → Option ((List (S40)))
 | 0, _, _, _, _, _ => none
 | k + 1, x0, x5, x10, x11, x12 => if x12 < x11 then (if 0 ≤ x12 then (if x12 < (x10.length : Int) then (if (rd x10 x12) < 0 then (if x12 < (x0.length : Int) then (if x5.length < 4398046511104 then (impl_OnlyIn.l0 k x0 (x5 ++ [(⟨(rd_T40 x0 x12).f0, (rd_T40 x0 x12).f1, (rd_T40 x0 x12).f2, (rd_T40 x0 x12).f3⟩ : S40)]) x10 x11 (wrap64 (x12 + 1))) else (none)) else (none)) else (impl_OnlyIn.l0 k x0 x5 x10 x11 (wrap64 (x12 + 1)))) else (none)) else (none)) else (some x5)
def impl_OnlyIn.f (k : Nat) (l0 : List (S40)) (l1 : List (S40)) : Option ((List (S40))) := (impl_MatchBooks.f k l0 l1).bind fun t315 => (impl_OnlyIn.l0 k l0 ([] : List (S40)) t315 (t315.length : Int) 0)
theorem impl_OnlyIn.mono_l : ∀ k, (∀ y0 y1 y2 y3 y4, LeO (impl_OnlyIn.l0 k y0 y1 y2 y3 y4) (impl_OnlyIn.l0 (k + 1) y0 y1 y2 y3 y4))
 | 0 => fun _ _ _ _ _ r h => by simp [impl_OnlyIn.l0] at h
 | k + 1 => by
  have ih0 := impl_OnlyIn.mono_l k
  ·intro y0 y1 y2 y3 y4
   unfold impl_OnlyIn.l0
   repeat' first
   | (with_reducible exact ih0 _ _ _ _ _)
   | (with_reducible exact impl_MatchBooks.mono _ _ _)
   | (with_reducible exact LeO.refl _)
   | (with_reducible exact LeO.none _)
   | (with_reducible refine LeO.ite ?_ ?_)
   | (with_reducible refine LeO.bind ?_ (fun _ => ?_))
   | exact ih0 _ _ _ _ _
   | exact impl_MatchBooks.mono _ _ _
   | exact LeO.none _
   | refine LeO.ite ?_ ?_
   | refine LeO.bind ?_ (fun _ => ?_)
theorem impl_OnlyIn.mono : ∀ a0 a1 k, LeO (impl_OnlyIn.f k a0 a1) (impl_OnlyIn.f (k + 1) a0 a1) := by
 intro a0 a1 k
 have ih0 := impl_OnlyIn.mono_l k
 unfold impl_OnlyIn.f
 repeat' first
   | (with_reducible exact ih0 _ _ _ _ _)
   | (with_reducible exact impl_MatchBooks.mono _ _ _)
   | (with_reducible exact LeO.refl _)
   | (with_reducible exact LeO.none _)
   | (with_reducible refine LeO.ite ?_ ?_)
   | (with_reducible refine LeO.bind ?_ (fun _ => ?_))
   | exact ih0 _ _ _ _ _
   | exact impl_MatchBooks.mono _ _ _
   | exact LeO.none _
   | refine LeO.ite ?_ ?_
   | refine LeO.bind ?_ (fun _ => ?_)
set_option maxHeartbeats 8000000 in
set_option maxRecDepth 100000 in
theorem impl_OnlyIn.calls (k : Nat) (A0 : Option Addr) (c0 : Nat) (l0 : List (S40)) (A1 : Option Addr) (c1 : Nat) (l1 : List (S40)) (r : List (S40)) (w : World) (hr0 : Kd.C k40 w A0 l0.length l0) (hc0 : l0.length ≤ c0) (hr1 : Kd.C k40 w A1 l1.length l1) (hc1 : l1.length ≤ c1) (h : impl_OnlyIn.f k l0 l1 = some r) :
  Calls Try.prog 21 #[.slice A0 l0.length c0, .slice A1 l1.length c1] w fun e w' => ∃ v0_ : Value, e = .returned (v0_) ∧ Kd.R k40 40 w' w.heap.size (fun _ => True) v0_ r ∧ Below w.heap.size w w' := by
 have hu40 := Try.underlying40
 have HR0 := Aside0.mk hr0
 have HC0 := Aside0.mk hc0
 clear hr0 hc0
 have HR1 := Aside0.mk hr1
 have HC1 := Aside0.mk hc1
 clear hr1 hc1
 have HB := Aside0.mk (Below.refl w.heap.size w)
 have H : ((impl_MatchBooks.f k l0 l1).bind fun t315 => (impl_OnlyIn.l0 k l0 ([] : List (S40)) t315 (t315.length : Int) 0)) = some r := h
 clear h
 replace H := Option.bind_eq_some_iff.mp H
 obtain ⟨t315, A30, H⟩ := H
 replace H : (impl_OnlyIn.l0 k l0 ([] : List (S40)) t315 (t315.length : Int) 0) = some r := H
 have A3 := Aside0.mk A30
 clear A30
 have H' := Aside0.mk H
 clear H
 go_enter Try.func21, Try.ntmps21
 go_wp2_with (first | ((with_reducible refine gate_callee (f := 42) rfl ?_); refine goesL_ (some 10) rfl rfl Try.func42 (by kernel_rfl) rfl #[.slice A0 l0.length c0, .slice A1 l1.length c1] rfl (by (try simp only [List.map_toArray, List.map_cons, List.map_nil]); first | done | rfl | (simp only [List.length_drop, List.length_take]; rfl)) ?_; (with_reducible refine (impl_MatchBooks.calls k _ _ l0 _ _ l1 t315 _ ?side1 ?side2 ?side3 ?side4 A3.out).mono ?_); (case side1 => repeat (first | exact HR0.out | (with_reducible refine Kd.C_alloc ?_ _) | (with_reducible refine Kd.C_drewN ?_ _) | (with_reducible refine Kd.C_drew ?_))); (case side2 => exact HC0.out); (case side3 => repeat (first | exact HR1.out | (with_reducible refine Kd.C_alloc ?_ _) | (with_reducible refine Kd.C_drewN ?_ _) | (with_reducible refine Kd.C_drew ?_))); (case side4 => exact HC1.out); rintro e w4 ⟨v316, rfl, ho0, hb⟩; refine ⟨_, rfl, ?_⟩; have n0_ := Aside0.mk (Kd.R_lower ho0 (below_size (by repeat (first | (with_reducible first | exact HB.out | apply below_alloc | apply pw_below_drewN | apply below_drew1) | exact HB.out)))); have n1_ := Aside0.mk (below_step (by repeat (first | (with_reducible first | exact HB.out | apply below_alloc | apply pw_below_drewN | apply below_drew1) | exact HB.out)) hb); clear HB; have HO317 := n0_; have HB := n1_; clear n0_ n1_; (try clear hb); (try clear hb2); (try clear hk); (try clear hi); (try clear ho0); obtain ⟨Ao5, co5, eo5⟩ := Kd.R_slice HO317.out; subst eo5))
 go_loopg [5, 12] k (fun kq v5 v12 w' => ∃ (x5_1 : List (S40)) (x12_1 : Int), v12 = .int .i64 x12_1 ∧ Aside0 (impl_OnlyIn.l0 kq l0 x5_1 t315 (t315.length : Int) x12_1 = some r) ∧ Aside0 (kq ≤ k) ∧ Aside0 (Kd.R k40 40 w' w.heap.size (fun _ => True) v5 x5_1) ∧ Aside0 (Kd.R (Kd.int .i64) 3 w' w.heap.size (fun _ => True) (.slice Ao5 t315.length co5) t315) ∧ Aside0 (Below w.heap.size w w'))
 case atStart => exact ⟨(([] : List (S40))), (0), (by first | rfl | (simp; done) | (simp [*]; done)), H', ⟨Nat.le_refl _⟩, ⟨by first | exact Kd.R_nil _ _ _ _ _ | exact Kd.N_nil _ _ _ _ _ | exact Kd.V_nil _ _ _ _ _ | exact Kd.Q_nil _ _ _ _ _ | exact Kd.S_nil _ _ _ _ _⟩, ⟨by (with_reducible repeat (first | apply Kd.R_alloc | apply Kd.R_drewN | apply Kd.R_drew)); exact HO317.out⟩, ⟨by repeat (first | (with_reducible first | exact HB.out | apply below_alloc | apply pw_below_drewN | apply below_drew1) | exact HB.out)⟩⟩
 case round =>
  clear H'
  try clear c1
  try clear c2
  try clear p2
  try clear c4
  obtain ⟨x5_1, x12_1, rfl, HA, HK1, HO_5, HO_10, HB⟩ := hrel
  cases gk with
  | zero => exact absurd HA.out (by simp [impl_OnlyIn.l0])
  | succ k1 =>
   have H := HA.out
   clear HA
   simp only [impl_OnlyIn.l0] at H
   by_cases c6 : x12_1 < (t315.length : Int)
   ·rw [if_pos c6] at H
    have c6b0 : decide (x12_1 < (t315.length : Int)) = true := decide_eq_true c6
    clear c6
    by_cases c7 : 0 ≤ x12_1
    ·rw [if_pos c7] at H
     have c7b0 : decide (0 ≤ x12_1) = true := decide_eq_true c7
     clear c7
     by_cases c8 : x12_1 < (t315.length : Int)
     ·rw [if_pos c8] at H
      have c8b0 : decide (x12_1 < (t315.length : Int)) = true := decide_eq_true c8
      clear c8
      by_cases c9 : (rd t315 x12_1) < 0
      ·rw [if_pos c9] at H
       have c9b0 : decide ((rd t315 x12_1) < 0) = true := decide_eq_true c9
       clear c9
       by_cases c10 : x12_1 < (l0.length : Int)
       ·rw [if_pos c10] at H
        have c10b0 : decide (x12_1 < (l0.length : Int)) = true := decide_eq_true c10
        clear c10
        by_cases c11 : x5_1.length < 4398046511104
        ·rw [if_pos c11] at H
         have LMc11 := Aside0.mk c11
         clear c11
         obtain ⟨y320, hy320⟩ : ∃ y_ : List (S40), y_ = (x5_1 ++ [(⟨(rd_T40 l0 x12_1).f0, (rd_T40 l0 x12_1).f1, (rd_T40 l0 x12_1).f2, (rd_T40 l0 x12_1).f3⟩ : S40)]) := ⟨_, rfl⟩
         replace H : (impl_OnlyIn.l0 k1 l0 y320 t315 (t315.length : Int) (wrap64 (x12_1 + 1))) = some r := by first | (rw [hy320]; with_reducible exact H) | (have H2_ := (Option.bind_some _ _).symm.trans H; rw [hy320]; with_reducible exact H2_) | (have H2_ := (Option.bind_some _ _).symm.trans H; with_reducible exact H2_) | with_reducible exact H | (rw [hy320]; exact H) | exact H
         have Ny320 := Aside0.mk hy320
         clear hy320
         have H' := Aside0.mk H
         clear H
         have p318 : 0 ≤ (x12_1 : Int) := of_decide_eq_true (by first | (with_reducible assumption) | assumption)
         have q318 : x12_1 < (t315.length : Int) := of_decide_eq_true (by first | (with_reducible assumption) | assumption)
         obtain ⟨ad318, e318, hx318_0⟩ := Kd.at_int (Kd.R_reads' HO_10.out).2.2 x12_1 p318 q318
         cases e318
         replace p318 := eq_true p318
         replace q318 := eq_true q318
         have p319 : 0 ≤ (x12_1 : Int) := of_decide_eq_true (by first | (with_reducible assumption) | assumption)
         have q319 : x12_1 < (l0.length : Int) := of_decide_eq_true (by first | (with_reducible assumption) | assumption)
         obtain ⟨ad319, e319, hx319_0, hx319_1, hx319_2, hx319_3⟩ := at_T40 HR0.out x12_1 p319 q319
         cases e319
         replace hx319_0 := (HB.out.cell (World.block_lt_of_cell? w _ hx319_0)).trans hx319_0
         replace hx319_1 := (HB.out.cell (World.block_lt_of_cell? w _ hx319_1)).trans hx319_1
         replace hx319_2 := (HB.out.cell (World.block_lt_of_cell? w _ hx319_2)).trans hx319_2
         replace hx319_3 := (HB.out.cell (World.block_lt_of_cell? w _ hx319_3)).trans hx319_3
         replace p319 := eq_true p319
         replace q319 := eq_true q319
         go_wp2_with (first | ((with_reducible refine gate_builtin (b := .append) (xs := #[.tmp 19, .tmp 24]) rfl ?_); at_builtin; refine Kd.R_append k40 (w0 := w) w.heap.size rfl (.tmp 19) (.tmp 24) 24 40 (.agg #[(.int .i64 0), (.int .i64 0), (.int .i64 0), (.int .i64 0)]) 32 rfl Try.underlying24 info40 rfl (by decide) (by omega) u5 x5_1 (⟨(rd_T40 l0 x12_1).f0, (rd_T40 l0 x12_1).f1, (rd_T40 l0 x12_1).f2, (rd_T40 l0 x12_1).f3⟩ : S40) [.int .i64 ((rd_T40 l0 x12_1).f0), .int .i64 ((rd_T40 l0 x12_1).f1), .int .i64 ((rd_T40 l0 x12_1).f2), .int .i64 ((rd_T40 l0 x12_1).f3)] (fun _ => True) (fun _ => False) rfl rfl ?aP (fun _ hk => hk.elim) ?aF ?aO ?aB ?aS ?aL ?_; (case aP => exact k40_mkM _ _ _ (⟨(rd_T40 l0 x12_1).f0, (rd_T40 l0 x12_1).f1, (rd_T40 l0 x12_1).f2, (rd_T40 l0 x12_1).f3⟩ : S40)); (case aB => exact (by repeat (first | (with_reducible first | exact HB.out | apply below_alloc | apply pw_below_drewN | apply below_drew1) | exact HB.out))); (case aF => exact (fun _ _ => trivial)); (case aO => exact (by (with_reducible repeat (first | apply Kd.R_alloc | apply Kd.R_drewN | apply Kd.R_drew)); exact HO_5.out)); (case aS => exact (below_size (by repeat (first | (with_reducible first | exact HB.out | apply below_alloc | apply pw_below_drewN | apply below_drew1) | exact HB.out)))); (case aL => have := LMc11.out; omega); intro v321 w12 ho hb hg hat; rw [← Ny320.out] at ho; have n0_ := Aside0.mk (Kd.R_over' (by (with_reducible repeat (first | apply Kd.R_alloc | apply Kd.R_drewN | apply Kd.R_drew)); exact HO_10.out) (Kd.R_typed (by (with_reducible repeat (first | apply Kd.R_alloc | apply Kd.R_drewN | apply Kd.R_drew)); exact HO_5.out)) (by decide) hg); have n1_ := Aside0.mk (hb); have n2_ := Aside0.mk (ho); clear HO_10; clear HB; clear HO_5; have HO_10 := n0_; have HB := n1_; have HO322 := n2_; clear n0_ n1_ n2_; clear ho hb hg hat))
         go_roundg k1
         case measure => have := HK1.out; omega
         case rel => exact ⟨(y320), (wrap64 (x12_1 + 1)), (by first | rfl | (simp; done) | (simp [*]; done)), H', ⟨by have := HK1.out; omega⟩, ⟨by (with_reducible repeat (first | apply Kd.R_alloc | apply Kd.R_drewN | apply Kd.R_drew)); exact HO322.out⟩, ⟨by (with_reducible repeat (first | apply Kd.R_alloc | apply Kd.R_drewN | apply Kd.R_drew)); exact HO_10.out⟩, ⟨by repeat (first | (with_reducible first | exact HB.out | apply below_alloc | apply pw_below_drewN | apply below_drew1) | exact HB.out)⟩⟩
        ·rw [if_neg c11] at H
         exact absurd H (by simp)
       ·rw [if_neg c10] at H
        exact absurd H (by simp)
      ·rw [if_neg c9] at H
       have c9b0 : decide ((rd t315 x12_1) < 0) = false := decide_eq_false c9
       clear c9
       have H' := Aside0.mk H
       clear H
       have p318 : 0 ≤ (x12_1 : Int) := of_decide_eq_true (by first | (with_reducible assumption) | assumption)
       have q318 : x12_1 < (t315.length : Int) := of_decide_eq_true (by first | (with_reducible assumption) | assumption)
       obtain ⟨ad318, e318, hx318_0⟩ := Kd.at_int (Kd.R_reads' HO_10.out).2.2 x12_1 p318 q318
       cases e318
       replace p318 := eq_true p318
       replace q318 := eq_true q318
       go_wp2
       go_roundg k1
       case measure => have := HK1.out; omega
       case rel => exact ⟨(x5_1), (wrap64 (x12_1 + 1)), (by first | rfl | (simp; done) | (simp [*]; done)), H', ⟨by have := HK1.out; omega⟩, ⟨by (with_reducible repeat (first | apply Kd.R_alloc | apply Kd.R_drewN | apply Kd.R_drew)); exact HO_5.out⟩, ⟨by (with_reducible repeat (first | apply Kd.R_alloc | apply Kd.R_drewN | apply Kd.R_drew)); exact HO_10.out⟩, ⟨by repeat (first | (with_reducible first | exact HB.out | apply below_alloc | apply pw_below_drewN | apply below_drew1) | exact HB.out)⟩⟩
     ·rw [if_neg c8] at H
      exact absurd H (by simp)
    ·rw [if_neg c7] at H
     exact absurd H (by simp)
   ·rw [if_neg c6] at H
    have c6b0 : decide (x12_1 < (t315.length : Int)) = false := decide_eq_false c6
    clear c6
    obtain rfl := Option.some.inj H
    go_wp2
    go_ret
    exact ⟨_, by first | rfl | (simp [errW_none, errW_some] <;> rfl) | (simp [*, errW_none, errW_some] <;> rfl), by (with_reducible repeat (first | apply Kd.R_alloc | apply Kd.R_drewN | apply Kd.R_drew)); exact HO_5.out, by repeat (first | (with_reducible first | exact HB.out | apply below_alloc | apply pw_below_drewN | apply below_drew1) | exact HB.out)⟩

end Go.Proofs.Ytoiipfaagfhpoaa.P
