-- By a program of this session (wip/tools/xprint.py), which uses the kit's print; not a text of print.sh. Not trusted: Lean checks it.
import Derived.Test.YtkommecfnfdapaaAPx0
import Derived.Test.YtkommecfnfdapaaAPx9
import Derived.Test.YtkommecfnfdapaaAPx11
namespace Go.Proofs.Ytkommecfnfdapaa.P
open Go.RowKit Go.Proofs.YtkommecfnfdapaaW.PrintWords Go.Proofs.YtkommecfnfdapaaW.PrintLast Go.Proofs.YtkommecfnfdapaaW.PrintMore
attribute [local go_sem] max2_int min2_int max_two min_two max_three min_three max_four min_four   -- for this text's walks alone
set_option linter.unusedVariables false
set_option linter.unusedSimpArgs false

/-! ### impl_PolyAt: function 57 -/
def impl_PolyAt.f (k : Nat) (l0 : List Int) (a1 : Int) : Option Int := (impl_validCoefs.f k l0).bind fun t => if t = true then (if a1 < 0 then some (-1) else (if a1 > 250 then some (-1) else some (hornerB l0 a1))) else some (-1)
theorem impl_PolyAt.mono : ∀ a0 a1 k, LeO (impl_PolyAt.f k a0 a1) (impl_PolyAt.f (k + 1) a0 a1) := by
 intro a0 a1 k
 unfold impl_PolyAt.f
 exact LeO.bind (impl_validCoefs.mono _ _) (fun _ => LeO.refl _)
section
attribute [local go_sem] Oper.semAt_some
open Go.Shelf
set_option maxRecDepth 100000 in
set_option maxHeartbeats 8000000 in
theorem impl_PolyAt.calls (k : Nat) (A0 : Option Addr) (c0 : Nat) (l0 : List Int) (a1 : Int) (r : Int) (w : World) (hr0 : (Kd.int .i64).C w A0 l0.length l0) (hc0 : l0.length ≤ c0) (h : impl_PolyAt.f k l0 a1 = some r) :
  Calls Try.prog 57 #[.slice A0 l0.length c0, .int .i64 a1] w fun e w' => e = .returned (.int .i64 r) ∧ Below w.heap.size w w' := by
 unfold impl_PolyAt.f at h
 obtain ⟨t, hvc, h⟩ := Option.bind_eq_some_iff.mp h
 have HVC := Aside0.mk hvc
 have HR := Aside0.mk hr0
 have HC := Aside0.mk hc0
 clear hvc hr0 hc0
 refine (callsIn_wide (n := 5)).1 (callsIn_of_wp_marks Try.func57 rfl trivial ((wpIn_wide (n := 5)).2 ?_))
 simp only [Try.ntmps57, List.size_toArray, List.length_cons, List.length_nil, Nat.reduceAdd, Nat.reduceSub, Array.replicate_succ, Array.replicate_zero, List.push_toArray, List.append_toArray, List.nil_append, List.cons_append]
 by_cases ht : t = true
 ·subst ht
  rw [if_pos rfl] at h
  by_cases h0 : a1 < 0
  ·rw [if_pos h0] at h
   obtain rfl := Option.some.inj h
   have g0 : decide (a1 < 0) = true := decide_eq_true h0
   go_wp2_with (go_at_call 86; (with_reducible refine (impl_validCoefs.calls k A0 c0 l0 true _ ?side1 HC.out HVC.out).mono ?_); (case side1 => exact Kd.C_below HR.out (by repeat (first | exact Below.refl _ _ | apply below_alloc))); rintro e w' ⟨rfl, ⟨m1, rfl⟩⟩)
   refine leaves_dead (n := w.heap.size) (fun _ => True) (fun _ _ _ => trivial) (by simp) trivial trivial (fun W' hb _ => ?_)
   exact ⟨_, results_tmp rfl _ _ _, rfl, Below.trans (by repeat (first | exact Below.refl _ _ | apply pw_below_drewN | apply below_alloc)) hb⟩
  ·rw [if_neg h0] at h
   have g0 : decide (a1 < 0) = false := decide_eq_false h0
   by_cases h1 : a1 > 250
   ·rw [if_pos h1] at h
    obtain rfl := Option.some.inj h
    have g1 : decide (250 < a1) = true := decide_eq_true h1
    go_wp2_with (go_at_call 86; (with_reducible refine (impl_validCoefs.calls k A0 c0 l0 true _ ?side1 HC.out HVC.out).mono ?_); (case side1 => exact Kd.C_below HR.out (by repeat (first | exact Below.refl _ _ | apply below_alloc))); rintro e w' ⟨rfl, ⟨m1, rfl⟩⟩)
    refine leaves_dead (n := w.heap.size) (fun _ => True) (fun _ _ _ => trivial) (by simp) trivial trivial (fun W' hb _ => ?_)
    exact ⟨_, results_tmp rfl _ _ _, rfl, Below.trans (by repeat (first | exact Below.refl _ _ | apply pw_below_drewN | apply below_alloc)) hb⟩
   ·rw [if_neg h1] at h
    obtain rfl := Option.some.inj h
    have g1 : decide (250 < a1) = false := decide_eq_false h1
    go_wp2_with (first | (go_at_call 86; (with_reducible refine (impl_validCoefs.calls k A0 c0 l0 true _ ?side1 HC.out HVC.out).mono ?_); (case side1 => exact Kd.C_below HR.out (by repeat (first | exact Below.refl _ _ | apply below_alloc))); rintro e w' ⟨rfl, ⟨m1, rfl⟩⟩) | (go_at_call 84; refine (back_calls _ _ _ _).mono ?_; rintro e w' ⟨rfl, rfl⟩))
    refine back_fold (w.heap.size + 1 + 1) (w.heap.size + 1) A0 c0 l0 0 (fun v c => Int.tmod (wrap64 (wrap64 (v * a1) + c)) 251) rfl rfl (by go_simp) (Kd.C_below HR.out (by repeat (first | exact Below.refl _ _ | apply pw_below_drewN | apply below_alloc))) HR.out.2.1 (by go_simp) (by go_simp)
     ?ne (fun x => { tmps := #[Value.slice A0 l0.length c0, Value.int IntKind.i64 a1, undef, Value.pointer (some { block := w.heap.size, off := 0 }), Value.int IntKind.i64 0, Value.pointer (some { block := w.heap.size + 1, off := 0 }), undef, .int .i64 x.2, Value.slice A0 l0.length c0, Value.bool true, Value.bool false, Value.bool false, Value.int IntKind.i64 a1, Value.bool false, Value.bool false, Value.bool false, Value.int IntKind.i64 a1, Value.bool false, Value.bool false, Value.slice A0 l0.length c0, Value.func (Fn.func 92) #[] #[Value.pointer (some { block := w.heap.size + 1 + 1, off := 0 })], .int .i64 x.1, .int .i64 x.2, undef, undef, undef, undef, undef, undef, undef], defers := [] }) ?assign ?body ?done
    case ne =>
     rintro (e | ⟨hp, ad, rfl, e⟩)
     ·omega
     ·obtain ⟨ad', e', hc⟩ := Kd.at_int HR.out 0 (by omega) (by omega)
      cases e'
      have := World.block_lt_of_cell? w _ hc
      have e2 : (ad.add (0 : Int).toNat).block = ad.block := rfl
      omega
    case assign =>
     intro l x W K hK
     gi_wp2
     exact hK
    case body =>
     intro l x v W R hb hv hf hR
     have hx : W.cell? ⟨w.heap.size, 0, none⟩ = some (.int .i64 a1) := (hb.cell (p := ⟨w.heap.size, 0, none⟩) (by simp; omega)).trans (by go_simp)
     gi_wp2
     exact hR _
    case done =>
     intro D W hD hb hK
     have hc1 : W.cell? ⟨w.heap.size + 1, 0, none⟩ = some (.int .i64 (hornerB l0 a1)) := (hb.cell (p := ⟨w.heap.size + 1, 0, none⟩) (by simp)).trans (by go_simp; rfl)
     go_wp2
     refine leaves_dead (n := w.heap.size) (fun _ => True) (fun _ _ _ => trivial) (by have := hb.size; simp [World.setCell] at this ⊢; omega) ⟨⟨D, rfl, by simp at hD; omega, hK, by simp⟩, trivial⟩ trivial (fun W' hb' _ => ?_)
     refine ⟨_, results_tmp rfl _ _ _, rfl, Below.trans ?_ hb'⟩
     refine Below.trans ?_ (hb.mono (by simp; omega))
     exact Below.setCell (by repeat (first | exact Below.refl _ _ | apply pw_below_drewN | apply below_alloc)) (by simp) _
 ·have ht : t = false := by simpa using ht
  subst ht
  rw [if_neg (by simp)] at h
  obtain rfl := Option.some.inj h
  go_wp2_with (go_at_call 86; (with_reducible refine (impl_validCoefs.calls k A0 c0 l0 false _ ?side1 HC.out HVC.out).mono ?_); (case side1 => exact Kd.C_below HR.out (by repeat (first | exact Below.refl _ _ | apply below_alloc))); rintro e w' ⟨rfl, ⟨m1, rfl⟩⟩)
  refine leaves_dead (n := w.heap.size) (fun _ => True) (fun _ _ _ => trivial) (by simp) trivial trivial (fun W' hb _ => ?_)
  exact ⟨_, results_tmp rfl _ _ _, rfl, Below.trans (by repeat (first | exact Below.refl _ _ | apply pw_below_drewN | apply below_alloc)) hb⟩
end

/-! ### impl_FitTogether: function 20 -/
mutual
def impl_FitTogether.j0 : Nat → List (S72) → Int → Bool → Option (Bool)
 | 0, _, _, _ => none
 | k + 1, x0, x1, x18 => if x18 = true then (some false) else (if (x0.length : Int) ≤ x1 then (some true) else (if 0 ≤ x1 then (if x1 ≤ (x0.length : Int) then ((impl_polyOf.f k (x0.take (x1 : Int).toNat)).bind fun t354 => ((some (x0.drop (x1 : Int).toNat : List (S72))).bind fun y357 => (impl_FitTogether.l0 k t354 y357 (y357.length : Int) 0))) else (none)) else (none)))
def impl_FitTogether.l0 : Nat → List Int → List (S72) → Int → Int → Option (Bool)
 | 0, _, _, _, _ => none
 | k + 1, x5, x29, x30, x31 => if x31 < x30 then (if 0 ≤ x31 then (if x31 < (x29.length : Int) then ((impl_PolyAt.f k x5 ((rd_T72 x29 x31).f0)).bind fun t363 => (if t363 = ((rd_T72 x29 x31).f1) then (impl_FitTogether.l0 k x5 x29 x30 (wrap64 (x31 + 1))) else (some false))) else (none)) else (none)) else (some true)
end
def impl_FitTogether.f (k : Nat) (l0 : List (S72)) (a1 : Int) : Option (Bool) := (impl_ValidShares.f k l0).bind fun t349 => (if t349 = true then (if a1 < 1 then (impl_FitTogether.j0 k l0 a1 true) else (impl_FitTogether.j0 k l0 a1 (decide (a1 > 8)))) else (impl_FitTogether.j0 k l0 a1 true))
theorem impl_FitTogether.mono_l : ∀ k, (∀ y0 y1 y2, LeO (impl_FitTogether.j0 k y0 y1 y2) (impl_FitTogether.j0 (k + 1) y0 y1 y2)) ∧ (∀ y0 y1 y2 y3, LeO (impl_FitTogether.l0 k y0 y1 y2 y3) (impl_FitTogether.l0 (k + 1) y0 y1 y2 y3))
 | 0 => ⟨fun _ _ _ r h => by simp [impl_FitTogether.j0] at h, fun _ _ _ _ r h => by simp [impl_FitTogether.l0] at h⟩
 | k + 1 => by
  obtain ⟨ih0, ih1⟩ := impl_FitTogether.mono_l k
  refine ⟨?_, ?_⟩
  ·intro y0 y1 y2
   unfold impl_FitTogether.j0
   repeat' first
   | (with_reducible exact ih0 _ _ _)
   | (with_reducible exact ih1 _ _ _ _)
   | (with_reducible exact impl_PolyAt.mono _ _ _)
   | (with_reducible exact impl_ValidShares.mono _ _)
   | (with_reducible exact impl_polyOf.mono _ _)
   | (with_reducible exact LeO.refl _)
   | (with_reducible exact LeO.none _)
   | (with_reducible refine LeO.ite ?_ ?_)
   | (with_reducible refine LeO.bind ?_ (fun _ => ?_))
   | exact ih0 _ _ _
   | exact ih1 _ _ _ _
   | exact impl_PolyAt.mono _ _ _
   | exact impl_ValidShares.mono _ _
   | exact impl_polyOf.mono _ _
   | exact LeO.none _
   | refine LeO.ite ?_ ?_
   | refine LeO.bind ?_ (fun _ => ?_)
  ·intro y0 y1 y2 y3
   unfold impl_FitTogether.l0
   repeat' first
   | (with_reducible exact ih0 _ _ _)
   | (with_reducible exact ih1 _ _ _ _)
   | (with_reducible exact impl_PolyAt.mono _ _ _)
   | (with_reducible exact impl_ValidShares.mono _ _)
   | (with_reducible exact impl_polyOf.mono _ _)
   | (with_reducible exact LeO.refl _)
   | (with_reducible exact LeO.none _)
   | (with_reducible refine LeO.ite ?_ ?_)
   | (with_reducible refine LeO.bind ?_ (fun _ => ?_))
   | exact ih0 _ _ _
   | exact ih1 _ _ _ _
   | exact impl_PolyAt.mono _ _ _
   | exact impl_ValidShares.mono _ _
   | exact impl_polyOf.mono _ _
   | exact LeO.none _
   | refine LeO.ite ?_ ?_
   | refine LeO.bind ?_ (fun _ => ?_)
theorem impl_FitTogether.mono : ∀ a0 a1 k, LeO (impl_FitTogether.f k a0 a1) (impl_FitTogether.f (k + 1) a0 a1) := by
 intro a0 a1 k
 obtain ⟨ih0, ih1⟩ := impl_FitTogether.mono_l k
 unfold impl_FitTogether.f
 repeat' first
   | (with_reducible exact ih0 _ _ _)
   | (with_reducible exact ih1 _ _ _ _)
   | (with_reducible exact impl_PolyAt.mono _ _ _)
   | (with_reducible exact impl_ValidShares.mono _ _)
   | (with_reducible exact impl_polyOf.mono _ _)
   | (with_reducible exact LeO.refl _)
   | (with_reducible exact LeO.none _)
   | (with_reducible refine LeO.ite ?_ ?_)
   | (with_reducible refine LeO.bind ?_ (fun _ => ?_))
   | exact ih0 _ _ _
   | exact ih1 _ _ _ _
   | exact impl_PolyAt.mono _ _ _
   | exact impl_ValidShares.mono _ _
   | exact impl_polyOf.mono _ _
   | exact LeO.none _
   | refine LeO.ite ?_ ?_
   | refine LeO.bind ?_ (fun _ => ?_)
set_option maxHeartbeats 8000000 in
set_option maxRecDepth 100000 in
theorem impl_FitTogether.calls (k : Nat) (A0 : Option Addr) (c0 : Nat) (l0 : List (S72)) (a1 : Int) (r : Bool) (w : World) (hr0 : Kd.C k72 w A0 l0.length l0) (hc0 : l0.length ≤ c0) (h : impl_FitTogether.f k l0 a1 = some r) :
  Calls Try.prog 20 #[.slice A0 l0.length c0, .int .i64 a1] w fun e w' => e = .returned (.bool r) ∧ Below w.heap.size w w' := by
 have hu72 := Try.underlying72
 have HR0 := Aside0.mk hr0
 have HC0 := Aside0.mk hc0
 clear hr0 hc0
 have HB := Aside0.mk (Below.refl w.heap.size w)
 have H : ((impl_ValidShares.f k l0).bind fun t349 => (if t349 = true then (if a1 < 1 then (impl_FitTogether.j0 k l0 a1 true) else (impl_FitTogether.j0 k l0 a1 (decide (a1 > 8)))) else (impl_FitTogether.j0 k l0 a1 true))) = some r := h
 clear h
 have HC3 := Aside0.mk H
 clear H
 go_enter Try.func20, Try.ntmps20
 go_upto_region 1 with (fail)
 go_cut [18] (fun v18 wc => ∃ (kq : Nat) (x18_2 : Bool), v18 = .bool x18_2 ∧ Aside0 (impl_FitTogether.j0 kq l0 a1 x18_2 = some r) ∧ Aside0 (kq ≤ k) ∧ Aside0 (Below w.heap.size w wc))
 case first =>
  have H := HC3.out
  clear HC3
  replace H := Option.bind_eq_some_iff.mp H
  obtain ⟨t349, A40, H⟩ := H
  replace H : (if t349 = true then (if a1 < 1 then (impl_FitTogether.j0 k l0 a1 true) else (impl_FitTogether.j0 k l0 a1 (decide (a1 > 8)))) else (impl_FitTogether.j0 k l0 a1 true)) = some r := H
  have A4 := Aside0.mk A40
  clear A40
  by_cases c5 : t349 = true
  ·subst c5
   have H1 : (if a1 < 1 then (impl_FitTogether.j0 k l0 a1 true) else (impl_FitTogether.j0 k l0 a1 (decide (a1 > 8)))) = some r := by rw [if_pos rfl] at H; exact H
   clear H
   have H := H1
   clear H1
   by_cases c6 : a1 < 1
   ·rw [if_pos c6] at H
    have c6b0 : decide (a1 < 1) = true := decide_eq_true c6
    clear c6
    (first | rw [c6b0] | (simp only [i64_w, i32_w]; rw [c6b0]) | skip)
    have H' := Aside0.mk H
    clear H
    go_wp2_with (first | ((with_reducible refine gate_callee (f := 49) rfl ?_); refine goesL_ (some 9) rfl rfl Try.func49 (by kernel_rfl) rfl #[.slice A0 l0.length c0] rfl (by (try simp only [List.map_toArray, List.map_cons, List.map_nil]); first | done | rfl | (simp only [List.length_drop, List.length_take]; rfl)) ?_; (with_reducible refine (impl_ValidShares.calls k _ _ l0 true _ ?side1 ?side2 A4.out).mono ?_); (case side1 => repeat (first | exact (Kd.C_below HR0.out HB.out) | (with_reducible refine Kd.C_alloc ?_ _) | (with_reducible refine Kd.C_drewN ?_ _) | (with_reducible refine Kd.C_drew ?_))); (case side2 => exact HC0.out); rintro e w7 ⟨rfl, hb⟩; refine ⟨_, rfl, ?_⟩; have n0_ := Aside0.mk (below_step (by repeat (first | (with_reducible first | exact HB.out | apply below_alloc | apply pw_below_drewN | apply below_drew1) | exact HB.out)) hb); clear HB; have HB := n0_; clear n0_; (try clear hb); (try clear hb2); (try clear hk); (try clear hi)))
    go_meet
    case rel => exact ⟨_, (true), (by first | rfl | (simp; done) | (simp [*]; done)), H', ⟨by first | omega | exact Nat.le_refl _⟩, ⟨by repeat (first | (with_reducible first | exact HB.out | apply below_alloc | apply pw_below_drewN | apply below_drew1) | exact HB.out)⟩⟩
   ·rw [if_neg c6] at H
    have c6b0 : decide (a1 < 1) = false := decide_eq_false c6
    clear c6
    (first | rw [c6b0] | (simp only [i64_w, i32_w]; rw [c6b0]) | skip)
    have H' := Aside0.mk H
    clear H
    go_wp2_with (first | ((with_reducible refine gate_callee (f := 49) rfl ?_); refine goesL_ (some 9) rfl rfl Try.func49 (by kernel_rfl) rfl #[.slice A0 l0.length c0] rfl (by (try simp only [List.map_toArray, List.map_cons, List.map_nil]); first | done | rfl | (simp only [List.length_drop, List.length_take]; rfl)) ?_; (with_reducible refine (impl_ValidShares.calls k _ _ l0 true _ ?side1 ?side2 A4.out).mono ?_); (case side1 => repeat (first | exact (Kd.C_below HR0.out HB.out) | (with_reducible refine Kd.C_alloc ?_ _) | (with_reducible refine Kd.C_drewN ?_ _) | (with_reducible refine Kd.C_drew ?_))); (case side2 => exact HC0.out); rintro e w8 ⟨rfl, hb⟩; refine ⟨_, rfl, ?_⟩; have n0_ := Aside0.mk (below_step (by repeat (first | (with_reducible first | exact HB.out | apply below_alloc | apply pw_below_drewN | apply below_drew1) | exact HB.out)) hb); clear HB; have HB := n0_; clear n0_; (try clear hb); (try clear hb2); (try clear hk); (try clear hi)))
    go_meet
    case rel => exact ⟨_, (decide (a1 > 8)), (by first | rfl | (simp; done) | (simp [*]; done)), H', ⟨by first | omega | exact Nat.le_refl _⟩, ⟨by repeat (first | (with_reducible first | exact HB.out | apply below_alloc | apply pw_below_drewN | apply below_drew1) | exact HB.out)⟩⟩
  ·replace c5 := Bool.eq_false_iff.mpr c5
   subst c5
   have H1 : (impl_FitTogether.j0 k l0 a1 true) = some r := by rw [if_neg (show ¬ (false = true) by decide)] at H; exact H
   clear H
   have H := H1
   clear H1
   have H' := Aside0.mk H
   clear H
   go_wp2_with (first | ((with_reducible refine gate_callee (f := 49) rfl ?_); refine goesL_ (some 9) rfl rfl Try.func49 (by kernel_rfl) rfl #[.slice A0 l0.length c0] rfl (by (try simp only [List.map_toArray, List.map_cons, List.map_nil]); first | done | rfl | (simp only [List.length_drop, List.length_take]; rfl)) ?_; (with_reducible refine (impl_ValidShares.calls k _ _ l0 false _ ?side1 ?side2 A4.out).mono ?_); (case side1 => repeat (first | exact (Kd.C_below HR0.out HB.out) | (with_reducible refine Kd.C_alloc ?_ _) | (with_reducible refine Kd.C_drewN ?_ _) | (with_reducible refine Kd.C_drew ?_))); (case side2 => exact HC0.out); rintro e w9 ⟨rfl, hb⟩; refine ⟨_, rfl, ?_⟩; have n0_ := Aside0.mk (below_step (by repeat (first | (with_reducible first | exact HB.out | apply below_alloc | apply pw_below_drewN | apply below_drew1) | exact HB.out)) hb); clear HB; have HB := n0_; clear n0_; (try clear hb); (try clear hb2); (try clear hk); (try clear hi)))
   go_meet
   case rel => exact ⟨_, (true), (by first | rfl | (simp; done) | (simp [*]; done)), H', ⟨by first | omega | exact Nat.le_refl _⟩, ⟨by repeat (first | (with_reducible first | exact HB.out | apply below_alloc | apply pw_below_drewN | apply below_drew1) | exact HB.out)⟩⟩
 case rest =>
  clear HC3
  try clear c2
  try clear p2
  try clear c4
  try clear c5
  try clear c6
  try clear c6b0
  obtain ⟨kq, x18_2, rfl, HA, HJ2, HB⟩ := hcut
  cases kq with
  | zero => exact absurd HA.out (by simp [impl_FitTogether.j0])
  | succ kj2 =>
   have H := HA.out
   clear HA
   simp only [impl_FitTogether.j0] at H
   by_cases c10 : x18_2 = true
   ·subst c10
    have H1 : (some false) = some r := by rw [if_pos rfl] at H; exact H
    clear H
    have H := H1
    clear H1
    obtain rfl := Option.some.inj H
    go_wp2
    go_ret
    exact ⟨by first | rfl | (simp [errW_none, errW_some] <;> rfl) | (simp [*, errW_none, errW_some] <;> rfl), by repeat (first | (with_reducible first | exact HB.out | apply below_alloc | apply pw_below_drewN | apply below_drew1) | exact HB.out)⟩
   ·replace c10 := Bool.eq_false_iff.mpr c10
    subst c10
    have H1 : (if (l0.length : Int) ≤ a1 then (some true) else (if 0 ≤ a1 then (if a1 ≤ (l0.length : Int) then ((impl_polyOf.f kj2 (l0.take (a1 : Int).toNat)).bind fun t354 => ((some (l0.drop (a1 : Int).toNat : List (S72))).bind fun y357 => (impl_FitTogether.l0 kj2 t354 y357 (y357.length : Int) 0))) else (none)) else (none))) = some r := by rw [if_neg (show ¬ (false = true) by decide)] at H; exact H
    clear H
    have H := H1
    clear H1
    by_cases c11 : (l0.length : Int) ≤ a1
    ·rw [if_pos c11] at H
     have c11b0 : decide ((l0.length : Int) ≤ a1) = true := decide_eq_true c11
     clear c11
     obtain rfl := Option.some.inj H
     go_wp2
     go_ret
     exact ⟨by first | rfl | (simp [errW_none, errW_some] <;> rfl) | (simp [*, errW_none, errW_some] <;> rfl), by repeat (first | (with_reducible first | exact HB.out | apply below_alloc | apply pw_below_drewN | apply below_drew1) | exact HB.out)⟩
    ·rw [if_neg c11] at H
     have c11b0 : decide ((l0.length : Int) ≤ a1) = false := decide_eq_false c11
     clear c11
     by_cases c12 : 0 ≤ a1
     ·rw [if_pos c12] at H
      have c12b0 := eq_true c12
      have c12b1 : decide (0 ≤ a1) = true := decide_eq_true c12
      clear c12
      by_cases c13 : a1 ≤ (l0.length : Int)
      ·rw [if_pos c13] at H
       have c13b0 := eq_true c13
       have c13b1 : decide (a1 ≤ (l0.length : Int)) = true := decide_eq_true c13
       clear c13
       obtain ⟨y350, hy350⟩ : ∃ y_ : List (S72), y_ = (l0.take (a1 : Int).toNat) := ⟨_, rfl⟩
       replace H : ((impl_polyOf.f kj2 y350).bind fun t354 => ((some (l0.drop (a1 : Int).toNat : List (S72))).bind fun y357 => (impl_FitTogether.l0 kj2 t354 y357 (y357.length : Int) 0))) = some r := by first | (rw [hy350]; with_reducible exact H) | (have H2_ := (Option.bind_some _ _).symm.trans H; rw [hy350]; with_reducible exact H2_) | (have H2_ := (Option.bind_some _ _).symm.trans H; with_reducible exact H2_) | with_reducible exact H | (rw [hy350]; exact H) | exact H
       have Ny350 := Aside0.mk hy350
       clear hy350
       replace H := Option.bind_eq_some_iff.mp H
       obtain ⟨t354, A140, H⟩ := H
       replace H : ((some (l0.drop (a1 : Int).toNat : List (S72))).bind fun y357 => (impl_FitTogether.l0 kj2 t354 y357 (y357.length : Int) 0)) = some r := H
       have A14 := Aside0.mk A140
       clear A140
       have c15b0 := eq_true (of_decide_eq_true (by first | (with_reducible assumption) | assumption) : 0 ≤ a1)
       have c16b0 := eq_true (of_decide_eq_true (by first | (with_reducible assumption) | assumption) : a1 ≤ (l0.length : Int))
       obtain ⟨y357, hy357⟩ : ∃ y_ : List (S72), y_ = (l0.drop (a1 : Int).toNat) := ⟨_, rfl⟩
       replace H : (impl_FitTogether.l0 kj2 t354 y357 (y357.length : Int) 0) = some r := by first | (rw [hy357]; with_reducible exact H) | (have H2_ := (Option.bind_some _ _).symm.trans H; rw [hy357]; with_reducible exact H2_) | (have H2_ := (Option.bind_some _ _).symm.trans H; with_reducible exact H2_) | with_reducible exact H | (rw [hy357]; exact H) | exact H
       have Ny357 := Aside0.mk hy357
       clear hy357
       have H' := Aside0.mk H
       clear H
       have q17 : (a1 : Int) ≤ ((l0.length : Int) : Int) := of_decide_eq_true (by first | (with_reducible assumption) | assumption)
       obtain ⟨i017, hi017, _, hsz17, _⟩ := info_parts info72
       have hroom17 : l0.length ≤ c0 := HC0.out
       have hC17 : Kd.C k72 _ A0 l0.length l0 := HR0.out
       have hcut17 := cut_to (P := Try.prog) 39 72 .i64 Try.underlying39 hi017 A0 l0.length c0 a1 (of_decide_eq_true (by first | (with_reducible assumption) | assumption)) q17 hroom17
       have hr17 := Kd.C_take (m := (a1 : Int).toNat) hC17 (by omega)
       have hy17 : y350.length = (a1 : Int).toNat := (by rw [Ny350.out, List.length_take]; omega)
       rw [← Ny350.out] at hr17
       rw [← hy17] at hcut17
       have HR353 := Aside0.mk hr17
       have HC353 := Aside0.mk (show y350.length ≤ c0 from by omega)
       clear hr17 hC17 hroom17 hi017 hsz17
       have KY17 := Aside0.mk hy17
       clear hy17
       replace q17 := eq_true q17
       go_wp2_with (first | ((with_reducible refine gate_callee (f := 56) rfl ?_); refine goesL_ (some 26) rfl rfl Try.func56 (by kernel_rfl) rfl #[.slice A0 y350.length c0] rfl (by (try simp only [List.map_toArray, List.map_cons, List.map_nil]); first | done | rfl | (simp only [List.length_drop, List.length_take]; rfl)) ?_; (with_reducible refine (impl_polyOf.calls kj2 _ _ y350 t354 _ ?side1 ?side2 A14.out).mono ?_); (case side1 => repeat (first | exact (Kd.C_below HR353.out HB.out) | (with_reducible refine Kd.C_alloc ?_ _) | (with_reducible refine Kd.C_drewN ?_ _) | (with_reducible refine Kd.C_drew ?_))); (case side2 => exact HC353.out); rintro e w18 ⟨v355, rfl, ho0, hb⟩; refine ⟨_, rfl, ?_⟩; have n0_ := Aside0.mk (Kd.R_lower ho0 (below_size (by repeat (first | (with_reducible first | exact HB.out | apply below_alloc | apply pw_below_drewN | apply below_drew1) | exact HB.out)))); have n1_ := Aside0.mk (below_step (by repeat (first | (with_reducible first | exact HB.out | apply below_alloc | apply pw_below_drewN | apply below_drew1) | exact HB.out)) hb); clear HB; have HO356 := n0_; have HB := n1_; clear n0_ n1_; (try clear hb); (try clear hb2); (try clear hk); (try clear hi); (try clear ho0); have q19 : (a1 : Int) ≤ ((l0.length : Int) : Int) := of_decide_eq_true (by first | (with_reducible assumption) | assumption); obtain ⟨i019, hi019, _, hsz19, _⟩ := info_parts info72; have hroom19 : l0.length ≤ c0 := HC0.out; have hC19 : Kd.C k72 _ A0 l0.length l0 := HR0.out; have q019 : (0 : Int) ≤ (a1 : Int) := of_decide_eq_true (by first | (with_reducible assumption) | assumption); have hcut19 := cut_from (P := Try.prog) 39 72 .i64 Try.underlying39 hi019 2 hsz19 A0 l0.length c0 a1 q019 q19; have hr19 := Kd.C_drop (m := (a1 : Int).toNat) (c := c0) hC19 (by omega) hroom19; obtain ⟨A19, hA19⟩ : ∃ A1, A1 = (if c0 = (a1 : Int).toNat then A0 else (A0 : Option Addr).map (·.add ((a1 : Int).toNat * 2))) := ⟨_, rfl⟩; obtain ⟨c19, hc19⟩ : ∃ c1, c1 = c0 - (a1 : Int).toNat := ⟨_, rfl⟩; have hy19 : y357.length = l0.length - (a1 : Int).toNat := (by rw [Ny357.out, List.length_drop] <;> omega); rw [show (l0).drop (a1 : Int).toNat = y357 from Ny357.out.symm] at hr19; replace hr19 : Kd.C k72 _ A19 y357.length y357 := (by rw [hA19]; exact hr19); rw [← hy19, ← hA19, ← hc19] at hcut19; have HR360 := Aside0.mk hr19; have HC360 := Aside0.mk (show y357.length ≤ c19 from by rw [hy19, hc19]; exact Nat.sub_le_sub_right hroom19 _); clear hr19 hC19 hroom19 hi019 hsz19 hc19; have KY19 := Aside0.mk hy19; have KA19 := Aside0.mk hA19; clear hy19 hA19; replace q19 := eq_true q19))
       go_loopg [31] kj2 (fun kq v31 w' => ∃ (x31_2 : Int), v31 = .int .i64 x31_2 ∧ Aside0 (impl_FitTogether.l0 kq t354 y357 (y357.length : Int) x31_2 = some r) ∧ Aside0 (kq ≤ kj2) ∧ Aside0 (Kd.R (Kd.int .i64) 3 w' w.heap.size (fun _ => True) v355 t354) ∧ Aside0 (Below w.heap.size w w'))
       case atStart => exact ⟨(0), (by first | rfl | (simp; done) | (simp [*]; done)), H', ⟨Nat.le_refl _⟩, ⟨by (with_reducible repeat (first | apply Kd.R_alloc | apply Kd.R_drewN | apply Kd.R_drew)); exact HO356.out⟩, ⟨by repeat (first | (with_reducible first | exact HB.out | apply below_alloc | apply pw_below_drewN | apply below_drew1) | exact HB.out)⟩⟩
       case round =>
        clear H'
        try clear c1
        try clear q1
        try clear c2
        try clear p2
        try clear c4
        try clear c5
        try clear c6
        try clear c6b0
        try clear c10
        try clear c11
        try clear c11b0
        try clear c12
        try clear c12b0
        try clear c12b1
        try clear c13
        try clear c13b0
        try clear c13b1
        try clear c15
        try clear c15b0
        try clear c16
        try clear c16b0
        try clear q17
        try clear c19
        try clear q19
        try clear p2
        try clear q019
        try clear q17
        try clear q19
        obtain ⟨x31_2, rfl, HA, HK2, HO_5, HB⟩ := hrel
        cases gk with
        | zero => exact absurd HA.out (by simp [impl_FitTogether.l0])
        | succ k2 =>
         have H := HA.out
         clear HA
         simp only [impl_FitTogether.l0] at H
         by_cases c20 : x31_2 < (y357.length : Int)
         ·rw [if_pos c20] at H
          have c20b0 : decide (x31_2 < (y357.length : Int)) = true := decide_eq_true c20
          clear c20
          by_cases c21 : 0 ≤ x31_2
          ·rw [if_pos c21] at H
           have c21b0 : decide (0 ≤ x31_2) = true := decide_eq_true c21
           clear c21
           by_cases c22 : x31_2 < (y357.length : Int)
           ·rw [if_pos c22] at H
            have c22b0 : decide (x31_2 < (y357.length : Int)) = true := decide_eq_true c22
            clear c22
            replace H := Option.bind_eq_some_iff.mp H
            obtain ⟨t363, A230, H⟩ := H
            replace H : (if t363 = ((rd_T72 y357 x31_2).f1) then (impl_FitTogether.l0 k2 t354 y357 (y357.length : Int) (wrap64 (x31_2 + 1))) else (some false)) = some r := H
            have A23 := Aside0.mk A230
            clear A230
            by_cases c24 : t363 = ((rd_T72 y357 x31_2).f1)
            ·rw [if_pos c24] at H
             have c24b0 : (t363 == ((rd_T72 y357 x31_2).f1)) = true := beq_iff_eq.mpr c24
             have c24b1 : (t363 != ((rd_T72 y357 x31_2).f1)) = false := bne_eq_false_iff_eq.mpr c24
             clear c24
             have H' := Aside0.mk H
             clear H
             have p361 : 0 ≤ (x31_2 : Int) := of_decide_eq_true (by first | (with_reducible assumption) | assumption)
             have q361 : x31_2 < (y357.length : Int) := of_decide_eq_true (by first | (with_reducible assumption) | assumption)
             obtain ⟨ad361, e361, hx361_0, hx361_1⟩ := at_T72 HR360.out x31_2 p361 q361
             cases e361
             replace hx361_0 := (HB.out.cell (World.block_lt_of_cell? w _ hx361_0)).trans hx361_0
             replace hx361_1 := (HB.out.cell (World.block_lt_of_cell? w _ hx361_1)).trans hx361_1
             replace p361 := eq_true p361
             replace q361 := eq_true q361
             try go_wp2_with (first | ((with_reducible refine gate_dst (N := 7) rfl ?_); refine box_event ?hg (N := 7) ?hd (cs := #[.int .i64 0, .int .i64 0]) (t := 72) ?hr ?_; (case hd => rfl); (case hg => rfl); (case hr => first | (go_simp; done) | (go_simp; rfl)); intro gb362 hg w25 hbox hb; have n0_ := Aside0.mk (Kd.R_below (by (with_reducible repeat (first | apply Kd.R_alloc | apply Kd.R_drewN | apply Kd.R_drew)); exact HO_5.out) hb); have n1_ := Aside0.mk (below_step (by repeat (first | (with_reducible first | exact HB.out | apply below_alloc | apply pw_below_drewN | apply below_drew1) | exact HB.out)) hb); have n2_ := Aside0.mk (hbox); have n3_ := Aside0.mk ((by rw [hg]; exact (below_size (by repeat (first | (with_reducible first | exact HB.out | apply below_alloc | apply pw_below_drewN | apply below_drew1) | exact HB.out))) : w.heap.size ≤ gb362)); have n4_ := Aside0.mk ((by rw [hg]; exact (below_size (by repeat (first | (with_reducible first | exact HB.out | apply below_alloc | apply pw_below_drewN | apply below_drew1) | exact HB.out))) : w.heap.size ≤ gb362)); clear HO_5; clear HB; have HO_5 := n0_; have HB := n1_; have BK362 := n2_; have GW362 := n3_; have GE362 := n4_; clear n0_ n1_ n2_ n3_ n4_; clear hb hbox hg; have hcz26_0 : w25.cell? ⟨gb362, 0, none⟩ = some (.int .i64 0) := (blk_cell BK362.out 0).trans rfl; have hcz26_1 : w25.cell? ⟨gb362, 1, none⟩ = some (.int .i64 0) := (blk_cell BK362.out 1).trans rfl; have hfz26_0 := blk_frozen BK362.out 0; have hfz26_1 := blk_frozen BK362.out 1))
             have n0_ : Aside0 (Kd.R (Kd.int .i64) 3 ((w25.setCell ⟨gb362, 0, none⟩ (.int .i64 ((rd_T72 y357 x31_2).f0))).setCell ⟨gb362, 1, none⟩ (.int .i64 ((rd_T72 y357 x31_2).f1))) w.heap.size (fun _ => True) v355 t354) := ⟨by (with_reducible repeat (first | apply Kd.R_alloc | apply Kd.R_drewN | apply Kd.R_drew)); exact Kd.R_mono (Kd.R_far (p := ⟨gb362, 1, none⟩) (Kd.R_far (p := ⟨gb362, 0, none⟩) (Kd.R_types HO_5.out BK362.out (by decide)) (fun _ hk => hk.2) (.int .i64 ((rd_T72 y357 x31_2).f0))) (fun _ hk => hk.2) (.int .i64 ((rd_T72 y357 x31_2).f1))) (fun _ hk => trivial)⟩
             have n1_ : Aside0 (((w25.setCell ⟨gb362, 0, none⟩ (.int .i64 ((rd_T72 y357 x31_2).f0))).setCell ⟨gb362, 1, none⟩ (.int .i64 ((rd_T72 y357 x31_2).f1))).heap[gb362]? = some (.cells #[.int .i64 ((rd_T72 y357 x31_2).f0), .int .i64 ((rd_T72 y357 x31_2).f1)] 72 (0, 0))) := ⟨by (with_reducible repeat (first | refine blk_drewN ?_ _ | refine blk_drew ?_ | refine blk_alloc ?_ _)); refine blk_put (cs := #[.int .i64 ((rd_T72 y357 x31_2).f0), .int .i64 0]) ?_ 1 _ rfl; (with_reducible repeat (first | refine blk_drewN ?_ _ | refine blk_drew ?_ | refine blk_alloc ?_ _)); refine blk_put (cs := #[.int .i64 0, .int .i64 0]) ?_ 0 _ rfl; (with_reducible repeat (first | refine blk_drewN ?_ _ | refine blk_drew ?_ | refine blk_alloc ?_ _)); exact BK362.out⟩
             have n2_ : Aside0 (Below w.heap.size w ((w25.setCell ⟨gb362, 0, none⟩ (.int .i64 ((rd_T72 y357 x31_2).f0))).setCell ⟨gb362, 1, none⟩ (.int .i64 ((rd_T72 y357 x31_2).f1)))) := ⟨by repeat (first | (with_reducible first | exact HB.out | apply below_alloc | apply pw_below_drewN | apply below_drew1 | refine below_set ?_ GE362.out) | exact HB.out)⟩
             (try clear HO_5)
             (try clear BK362)
             (try clear HB)
             generalize ((w25.setCell ⟨gb362, 0, none⟩ (.int .i64 ((rd_T72 y357 x31_2).f0))).setCell ⟨gb362, 1, none⟩ (.int .i64 ((rd_T72 y357 x31_2).f1))) = w27 at n0_ n1_ n2_ ⊢
             have HO_5 := n0_
             have BK362 := n1_
             have HB := n2_
             clear n0_ n1_ n2_
             have n0_ := Aside0.mk (Kd.R_drew HO_5.out)
             have n1_ := Aside0.mk (blk_drew BK362.out)
             have n2_ := Aside0.mk (below_drew1 HB.out)
             clear HO_5
             clear BK362
             clear HB
             have HO_5 := n0_
             have BK362 := n1_
             have HB := n2_
             clear n0_ n1_ n2_
             obtain ⟨Ao29, co29, eo29⟩ := Kd.R_slice HO_5.out
             (first | subst eo29 | (injection eo29 with f1_ f2_ f3_; have f4_ := f1_.symm; have f5_ := f3_.symm; clear f1_ f2_ f3_; subst f4_; subst f5_))
             refine start_ (n := 7) (S := fun w' => w'.cell? ⟨gb362, 0, none⟩ = some (.int .i64 ((rd_T72 y357 x31_2).f0)) ∧ w'.cell? ⟨gb362, 1, none⟩ = some (.int .i64 ((rd_T72 y357 x31_2).f1))) (ds := []) #[false, false, false, false, false, false, false] (by kernel_rfl) rfl rfl ⟨(blk_cell BK362.out 0).trans rfl, (blk_cell BK362.out 1).trans rfl⟩ (fun hHeld => ?_)
             generalize w27.drew = w28 at HO_5 BK362 HB hHeld ⊢
             refine pure_ (i := 0) (N := some 35) (v := ?_) (a' := ?_) #[true, false, false, false, false, false, false] rfl rfl (by kernel_rfl) (fun _ _ _ h => h) (Or.inl ⟨by rfl, ?_⟩) ?_ ?_
             rotate_left
             ·intro w'
              go_simp
              with_reducible rfl
             rotate_left
             ·simp only [Act.put, List.setIfInBounds_toArray, List.set_cons_zero, List.set_cons_succ, i64_w, i32_w]
              rfl
             refine pure_ (i := 1) (N := some 36) (v := ?_) (a' := ?_) #[true, true, false, false, false, false, false] rfl rfl (by kernel_rfl) (fun _ _ _ h => h) (Or.inl ⟨by rfl, ?_⟩) ?_ ?_
             rotate_left
             ·intro w'
              go_simp
              with_reducible rfl
             rotate_left
             ·simp only [Act.put, List.setIfInBounds_toArray, List.set_cons_zero, List.set_cons_succ, i64_w, i32_w]
              rfl
             refine pure_ (i := 4) (N := some 39) (v := ?_) (a' := ?_) #[true, true, false, false, true, false, false] rfl rfl (by kernel_rfl) (fun _ _ _ h => h) (Or.inl ⟨by rfl, ?_⟩) ?_ ?_
             rotate_left
             ·intro w'
              go_simp
              with_reducible rfl
             rotate_left
             ·simp only [Act.put, List.setIfInBounds_toArray, List.set_cons_zero, List.set_cons_succ, i64_w, i32_w]
              rfl
             refine take_ (i := 2) (N := some 37) (v := ?_) (a' := ?_) #[true, true, true, false, true, false, false] rfl rfl (by kernel_rfl) (fun _ _ _ h => h) (Or.inl ⟨by rfl, ?_⟩) hHeld ?_ ?_
             rotate_left
             ·rintro w' ⟨s0, s1⟩
              go_simp
              with_reducible rfl
             rotate_left
             ·simp only [Act.put, List.setIfInBounds_toArray, List.set_cons_zero, List.set_cons_succ, i64_w, i32_w]
              rfl
             refine take_ (i := 5) (N := some 40) (v := ?_) (a' := ?_) #[true, true, true, false, true, true, false] rfl rfl (by kernel_rfl) (fun _ _ _ h => h) (Or.inl ⟨by rfl, ?_⟩) hHeld ?_ ?_
             rotate_left
             ·rintro w' ⟨s0, s1⟩
              go_simp
              with_reducible rfl
             rotate_left
             ·simp only [Act.put, List.setIfInBounds_toArray, List.set_cons_zero, List.set_cons_succ, i64_w, i32_w]
              rfl
             refine one_ (i := 3) (N := some 38) #[true, true, true, true, true, true, false] rfl rfl (by kernel_rfl) (by decide) (fun K hK => ?_)
             refine goes_ Try.func57 (by kernel_rfl) rfl #[.slice Ao29 t354.length co29, .int .i64 ((rd_T72 y357 x31_2).f0)] (by rfl) rfl rfl (by (try simp only [List.map_toArray, List.map_cons, List.map_nil]); first | done | rfl | (simp only [List.length_drop, List.length_take]; rfl)) ?_
             with_reducible refine (impl_PolyAt.calls k2 _ _ t354 ((rd_T72 y357 x31_2).f0) t363 _ ?side1 ?side2 A23.out).mono ?_
             (case side1 => repeat (first | exact (Kd.R_reads' HO_5.out).2.2 | (with_reducible refine Kd.C_alloc ?_ _) | (with_reducible refine Kd.C_drewN ?_ _) | (with_reducible refine Kd.C_drew ?_)))
             (case side2 => exact (Kd.R_reads' HO_5.out).2.1)
             rintro e w30 ⟨rfl, hb⟩
             refine ⟨_, rfl, ?_⟩
             have n0_ := Aside0.mk (Kd.R_below (by (with_reducible repeat (first | apply Kd.R_alloc | apply Kd.R_drewN | apply Kd.R_drew)); exact HO_5.out) hb)
             have n1_ := Aside0.mk (blk_below (g := gb362) (o := .cells #[.int .i64 ((rd_T72 y357 x31_2).f0), .int .i64 ((rd_T72 y357 x31_2).f1)] 72 (0, 0)) (by (with_reducible repeat (first | refine blk_drewN ?_ _ | refine blk_drew ?_ | refine blk_alloc ?_ _)); exact BK362.out) hb)
             have n2_ := Aside0.mk (below_step (by repeat (first | (with_reducible first | exact HB.out | apply below_alloc | apply pw_below_drewN | apply below_drew1 | refine below_set ?_ GE362.out) | exact HB.out)) hb)
             clear HO_5
             clear BK362
             clear HB
             have HO_5 := n0_
             have BK362 := n1_
             have HB := n2_
             clear n0_ n1_ n2_
             (try clear hb)
             (try clear hb2)
             (try clear hk)
             (try clear hi)
             refine hK.out _ _ ⟨(blk_cell BK362.out 0).trans rfl, (blk_cell BK362.out 1).trans rfl⟩ (fun hHeld => ?_)
             clear hK K
             refine norm_ (a' := ?_) ?_ ?_
             rotate_left
             ·show Act.put _ (some 38) _ = _
              simp only [Act.put, List.setIfInBounds_toArray, List.set_cons_zero, List.set_cons_succ, i64_w, i32_w]
              rfl
             refine pure_ (i := 6) (N := some 41) (v := ?_) (a' := ?_) #[true, true, true, true, true, true, true] rfl rfl (by kernel_rfl) (fun _ _ _ h => h) (Or.inl ⟨by rfl, ?_⟩) ?_ ?_
             rotate_left
             ·intro w'
              go_simp
              with_reducible rfl
             rotate_left
             ·simp only [Act.put, List.setIfInBounds_toArray, List.set_cons_zero, List.set_cons_succ, i64_w, i32_w]
              rfl
             refine done_ (by kernel_rfl) ?_
             try go_wp2
             go_roundg k2
             case measure => have := HJ2.out; have := HK2.out; omega
             case rel => exact ⟨(wrap64 (x31_2 + 1)), (by first | rfl | (simp; done) | (simp [*]; done)), H', ⟨by have := HJ2.out; have := HK2.out; omega⟩, ⟨by (with_reducible repeat (first | apply Kd.R_alloc | apply Kd.R_drewN | apply Kd.R_drew)); exact HO_5.out⟩, ⟨by repeat (first | (with_reducible first | exact HB.out | apply below_alloc | apply pw_below_drewN | apply below_drew1 | refine below_set ?_ GE362.out) | exact HB.out)⟩⟩
            ·rw [if_neg c24] at H
             have c24b0 : (t363 == ((rd_T72 y357 x31_2).f1)) = false := beq_eq_false_iff_ne.mpr c24
             have c24b1 : (t363 != ((rd_T72 y357 x31_2).f1)) = true := bne_iff_ne.mpr c24
             obtain rfl := Option.some.inj H
             have p361 : 0 ≤ (x31_2 : Int) := of_decide_eq_true (by first | (with_reducible assumption) | assumption)
             have q361 : x31_2 < (y357.length : Int) := of_decide_eq_true (by first | (with_reducible assumption) | assumption)
             obtain ⟨ad361, e361, hx361_0, hx361_1⟩ := at_T72 HR360.out x31_2 p361 q361
             cases e361
             replace hx361_0 := (HB.out.cell (World.block_lt_of_cell? w _ hx361_0)).trans hx361_0
             replace hx361_1 := (HB.out.cell (World.block_lt_of_cell? w _ hx361_1)).trans hx361_1
             replace p361 := eq_true p361
             replace q361 := eq_true q361
             try go_wp2_with (first | ((with_reducible refine gate_dst (N := 7) rfl ?_); refine box_event ?hg (N := 7) ?hd (cs := #[.int .i64 0, .int .i64 0]) (t := 72) ?hr ?_; (case hd => rfl); (case hg => rfl); (case hr => first | (go_simp; done) | (go_simp; rfl)); intro gb362 hg w31 hbox hb; have n0_ := Aside0.mk (Kd.R_below (by (with_reducible repeat (first | apply Kd.R_alloc | apply Kd.R_drewN | apply Kd.R_drew)); exact HO_5.out) hb); have n1_ := Aside0.mk (below_step (by repeat (first | (with_reducible first | exact HB.out | apply below_alloc | apply pw_below_drewN | apply below_drew1) | exact HB.out)) hb); have n2_ := Aside0.mk (hbox); have n3_ := Aside0.mk ((by rw [hg]; exact (below_size (by repeat (first | (with_reducible first | exact HB.out | apply below_alloc | apply pw_below_drewN | apply below_drew1) | exact HB.out))) : w.heap.size ≤ gb362)); have n4_ := Aside0.mk ((by rw [hg]; exact (below_size (by repeat (first | (with_reducible first | exact HB.out | apply below_alloc | apply pw_below_drewN | apply below_drew1) | exact HB.out))) : w.heap.size ≤ gb362)); clear HO_5; clear HB; have HO_5 := n0_; have HB := n1_; have BK362 := n2_; have GW362 := n3_; have GE362 := n4_; clear n0_ n1_ n2_ n3_ n4_; clear hb hbox hg; have hcz32_0 : w31.cell? ⟨gb362, 0, none⟩ = some (.int .i64 0) := (blk_cell BK362.out 0).trans rfl; have hcz32_1 : w31.cell? ⟨gb362, 1, none⟩ = some (.int .i64 0) := (blk_cell BK362.out 1).trans rfl; have hfz32_0 := blk_frozen BK362.out 0; have hfz32_1 := blk_frozen BK362.out 1))
             have n0_ : Aside0 (Kd.R (Kd.int .i64) 3 ((w31.setCell ⟨gb362, 0, none⟩ (.int .i64 ((rd_T72 y357 x31_2).f0))).setCell ⟨gb362, 1, none⟩ (.int .i64 ((rd_T72 y357 x31_2).f1))) w.heap.size (fun _ => True) v355 t354) := ⟨by (with_reducible repeat (first | apply Kd.R_alloc | apply Kd.R_drewN | apply Kd.R_drew)); exact Kd.R_mono (Kd.R_far (p := ⟨gb362, 1, none⟩) (Kd.R_far (p := ⟨gb362, 0, none⟩) (Kd.R_types HO_5.out BK362.out (by decide)) (fun _ hk => hk.2) (.int .i64 ((rd_T72 y357 x31_2).f0))) (fun _ hk => hk.2) (.int .i64 ((rd_T72 y357 x31_2).f1))) (fun _ hk => trivial)⟩
             have n1_ : Aside0 (((w31.setCell ⟨gb362, 0, none⟩ (.int .i64 ((rd_T72 y357 x31_2).f0))).setCell ⟨gb362, 1, none⟩ (.int .i64 ((rd_T72 y357 x31_2).f1))).heap[gb362]? = some (.cells #[.int .i64 ((rd_T72 y357 x31_2).f0), .int .i64 ((rd_T72 y357 x31_2).f1)] 72 (0, 0))) := ⟨by (with_reducible repeat (first | refine blk_drewN ?_ _ | refine blk_drew ?_ | refine blk_alloc ?_ _)); refine blk_put (cs := #[.int .i64 ((rd_T72 y357 x31_2).f0), .int .i64 0]) ?_ 1 _ rfl; (with_reducible repeat (first | refine blk_drewN ?_ _ | refine blk_drew ?_ | refine blk_alloc ?_ _)); refine blk_put (cs := #[.int .i64 0, .int .i64 0]) ?_ 0 _ rfl; (with_reducible repeat (first | refine blk_drewN ?_ _ | refine blk_drew ?_ | refine blk_alloc ?_ _)); exact BK362.out⟩
             have n2_ : Aside0 (Below w.heap.size w ((w31.setCell ⟨gb362, 0, none⟩ (.int .i64 ((rd_T72 y357 x31_2).f0))).setCell ⟨gb362, 1, none⟩ (.int .i64 ((rd_T72 y357 x31_2).f1)))) := ⟨by repeat (first | (with_reducible first | exact HB.out | apply below_alloc | apply pw_below_drewN | apply below_drew1 | refine below_set ?_ GE362.out) | exact HB.out)⟩
             (try clear HO_5)
             (try clear BK362)
             (try clear HB)
             generalize ((w31.setCell ⟨gb362, 0, none⟩ (.int .i64 ((rd_T72 y357 x31_2).f0))).setCell ⟨gb362, 1, none⟩ (.int .i64 ((rd_T72 y357 x31_2).f1))) = w33 at n0_ n1_ n2_ ⊢
             have HO_5 := n0_
             have BK362 := n1_
             have HB := n2_
             clear n0_ n1_ n2_
             have n0_ := Aside0.mk (Kd.R_drew HO_5.out)
             have n1_ := Aside0.mk (blk_drew BK362.out)
             have n2_ := Aside0.mk (below_drew1 HB.out)
             clear HO_5
             clear BK362
             clear HB
             have HO_5 := n0_
             have BK362 := n1_
             have HB := n2_
             clear n0_ n1_ n2_
             obtain ⟨Ao35, co35, eo35⟩ := Kd.R_slice HO_5.out
             (first | subst eo35 | (injection eo35 with f1_ f2_ f3_; have f4_ := f1_.symm; have f5_ := f3_.symm; clear f1_ f2_ f3_; subst f4_; subst f5_))
             refine start_ (n := 7) (S := fun w' => w'.cell? ⟨gb362, 0, none⟩ = some (.int .i64 ((rd_T72 y357 x31_2).f0)) ∧ w'.cell? ⟨gb362, 1, none⟩ = some (.int .i64 ((rd_T72 y357 x31_2).f1))) (ds := []) #[false, false, false, false, false, false, false] (by kernel_rfl) rfl rfl ⟨(blk_cell BK362.out 0).trans rfl, (blk_cell BK362.out 1).trans rfl⟩ (fun hHeld => ?_)
             generalize w33.drew = w34 at HO_5 BK362 HB hHeld ⊢
             refine pure_ (i := 0) (N := some 35) (v := ?_) (a' := ?_) #[true, false, false, false, false, false, false] rfl rfl (by kernel_rfl) (fun _ _ _ h => h) (Or.inl ⟨by rfl, ?_⟩) ?_ ?_
             rotate_left
             ·intro w'
              go_simp
              with_reducible rfl
             rotate_left
             ·simp only [Act.put, List.setIfInBounds_toArray, List.set_cons_zero, List.set_cons_succ, i64_w, i32_w]
              rfl
             refine pure_ (i := 1) (N := some 36) (v := ?_) (a' := ?_) #[true, true, false, false, false, false, false] rfl rfl (by kernel_rfl) (fun _ _ _ h => h) (Or.inl ⟨by rfl, ?_⟩) ?_ ?_
             rotate_left
             ·intro w'
              go_simp
              with_reducible rfl
             rotate_left
             ·simp only [Act.put, List.setIfInBounds_toArray, List.set_cons_zero, List.set_cons_succ, i64_w, i32_w]
              rfl
             refine pure_ (i := 4) (N := some 39) (v := ?_) (a' := ?_) #[true, true, false, false, true, false, false] rfl rfl (by kernel_rfl) (fun _ _ _ h => h) (Or.inl ⟨by rfl, ?_⟩) ?_ ?_
             rotate_left
             ·intro w'
              go_simp
              with_reducible rfl
             rotate_left
             ·simp only [Act.put, List.setIfInBounds_toArray, List.set_cons_zero, List.set_cons_succ, i64_w, i32_w]
              rfl
             refine take_ (i := 2) (N := some 37) (v := ?_) (a' := ?_) #[true, true, true, false, true, false, false] rfl rfl (by kernel_rfl) (fun _ _ _ h => h) (Or.inl ⟨by rfl, ?_⟩) hHeld ?_ ?_
             rotate_left
             ·rintro w' ⟨s0, s1⟩
              go_simp
              with_reducible rfl
             rotate_left
             ·simp only [Act.put, List.setIfInBounds_toArray, List.set_cons_zero, List.set_cons_succ, i64_w, i32_w]
              rfl
             refine take_ (i := 5) (N := some 40) (v := ?_) (a' := ?_) #[true, true, true, false, true, true, false] rfl rfl (by kernel_rfl) (fun _ _ _ h => h) (Or.inl ⟨by rfl, ?_⟩) hHeld ?_ ?_
             rotate_left
             ·rintro w' ⟨s0, s1⟩
              go_simp
              with_reducible rfl
             rotate_left
             ·simp only [Act.put, List.setIfInBounds_toArray, List.set_cons_zero, List.set_cons_succ, i64_w, i32_w]
              rfl
             refine one_ (i := 3) (N := some 38) #[true, true, true, true, true, true, false] rfl rfl (by kernel_rfl) (by decide) (fun K hK => ?_)
             refine goes_ Try.func57 (by kernel_rfl) rfl #[.slice Ao35 t354.length co35, .int .i64 ((rd_T72 y357 x31_2).f0)] (by rfl) rfl rfl (by (try simp only [List.map_toArray, List.map_cons, List.map_nil]); first | done | rfl | (simp only [List.length_drop, List.length_take]; rfl)) ?_
             with_reducible refine (impl_PolyAt.calls k2 _ _ t354 ((rd_T72 y357 x31_2).f0) t363 _ ?side1 ?side2 A23.out).mono ?_
             (case side1 => repeat (first | exact (Kd.R_reads' HO_5.out).2.2 | (with_reducible refine Kd.C_alloc ?_ _) | (with_reducible refine Kd.C_drewN ?_ _) | (with_reducible refine Kd.C_drew ?_)))
             (case side2 => exact (Kd.R_reads' HO_5.out).2.1)
             rintro e w36 ⟨rfl, hb⟩
             refine ⟨_, rfl, ?_⟩
             have n0_ := Aside0.mk (Kd.R_below (by (with_reducible repeat (first | apply Kd.R_alloc | apply Kd.R_drewN | apply Kd.R_drew)); exact HO_5.out) hb)
             have n1_ := Aside0.mk (blk_below (g := gb362) (o := .cells #[.int .i64 ((rd_T72 y357 x31_2).f0), .int .i64 ((rd_T72 y357 x31_2).f1)] 72 (0, 0)) (by (with_reducible repeat (first | refine blk_drewN ?_ _ | refine blk_drew ?_ | refine blk_alloc ?_ _)); exact BK362.out) hb)
             have n2_ := Aside0.mk (below_step (by repeat (first | (with_reducible first | exact HB.out | apply below_alloc | apply pw_below_drewN | apply below_drew1 | refine below_set ?_ GE362.out) | exact HB.out)) hb)
             clear HO_5
             clear BK362
             clear HB
             have HO_5 := n0_
             have BK362 := n1_
             have HB := n2_
             clear n0_ n1_ n2_
             (try clear hb)
             (try clear hb2)
             (try clear hk)
             (try clear hi)
             refine hK.out _ _ ⟨(blk_cell BK362.out 0).trans rfl, (blk_cell BK362.out 1).trans rfl⟩ (fun hHeld => ?_)
             clear hK K
             refine norm_ (a' := ?_) ?_ ?_
             rotate_left
             ·show Act.put _ (some 38) _ = _
              simp only [Act.put, List.setIfInBounds_toArray, List.set_cons_zero, List.set_cons_succ, i64_w, i32_w]
              rfl
             refine pure_ (i := 6) (N := some 41) (v := ?_) (a' := ?_) #[true, true, true, true, true, true, true] rfl rfl (by kernel_rfl) (fun _ _ _ h => h) (Or.inl ⟨by rfl, ?_⟩) ?_ ?_
             rotate_left
             ·intro w'
              go_simp
              with_reducible rfl
             rotate_left
             ·simp only [Act.put, List.setIfInBounds_toArray, List.set_cons_zero, List.set_cons_succ, i64_w, i32_w]
              rfl
             refine done_ (by kernel_rfl) ?_
             try go_wp2
             go_ret
             exact ⟨by first | rfl | (simp [errW_none, errW_some] <;> rfl) | (simp [*, errW_none, errW_some] <;> rfl), by repeat (first | (with_reducible first | exact HB.out | apply below_alloc | apply pw_below_drewN | apply below_drew1 | refine below_set ?_ GE362.out) | exact HB.out)⟩
           ·rw [if_neg c22] at H
            exact absurd H (by simp)
          ·rw [if_neg c21] at H
           exact absurd H (by simp)
         ·rw [if_neg c20] at H
          have c20b0 : decide (x31_2 < (y357.length : Int)) = false := decide_eq_false c20
          clear c20
          obtain rfl := Option.some.inj H
          go_wp2
          go_ret
          exact ⟨by first | rfl | (simp [errW_none, errW_some] <;> rfl) | (simp [*, errW_none, errW_some] <;> rfl), by repeat (first | (with_reducible first | exact HB.out | apply below_alloc | apply pw_below_drewN | apply below_drew1) | exact HB.out)⟩
      ·rw [if_neg c13] at H
       exact absurd H (by simp)
     ·rw [if_neg c12] at H
      exact absurd H (by simp)

/-! ### impl_Share_50: function 50 -/
/-- clear of one struct's cells behind a row of the call's own. -/
theorem clear_share {W : World} {base g n c : Nat} {ok : Nat → Prop} {xs : List S72} (ty : TypeId) (HO : Kd.R k72 72 W base ok (.slice (some ⟨g, 0, none⟩) n c) xs) (hc : n < c) :
  ∃ W1, (Builtin.clear_ #[39] ty #[.slice (some ⟨g, n * 2, none⟩) 1 (c - n)]).run Try.prog W = .ok (.tuple #[]) W1 ∧ Kd.R k72 72 W1 base ok (.slice (some ⟨g, 0, none⟩) n c) xs ∧ W.grownBy W1 (some g) := by
 obtain ⟨hn, hnc, _⟩ := Kd.R_reads' HO
 obtain ⟨hok, inner, hown, hr⟩ := HO
 have hsz : k72.sz = 2 := rfl
 rcases hown.2 with ⟨hv, _⟩ | ⟨g', cap', cur, hv, hb, hh, h1, hcm, hcs, htake⟩
 ·cases hv
 injection hv with ha _ hc'
 injection ha with ha
 injection ha with hg
 subst hg; subst hc'
 rw [hsz] at hcs htake
 have hst := run_storeCells_cells (P := Try.prog) g (n * 2) [.int .i64 0, .int .i64 0] 0 W (by intro j hj; rw [cell_of_row W g _ cur 72 (0, 0) hh]; simp at hj ⊢; omega) (by intro j _; exact blk_frozen hh _) (by intro v hv'; simp at hv'; subst hv'; rfl)
 simp only [Nat.add_zero] at hst
 have hfit : n * 2 + ([.int .i64 0, .int .i64 0] : List Value).length ≤ cur.size := by simp; omega
 obtain ⟨cur', h3, h4, h5⟩ := setCells_row [.int .i64 0, .int .i64 0] (n * 2) W cur hh hfit
 obtain ⟨s1, s2, s3, s4⟩ := setCells_same g [.int .i64 0, .int .i64 0] (n * 2) W
 have hfar : ∀ k', k' ≠ g → (W.setCells g (n * 2) [.int .i64 0, .int .i64 0]).heap[k']? = W.heap[k']? := fun k' hk' => setCells_far _ _ k' hk'
 have hgo : some g = (Value.slice (some ⟨g, 0, none⟩) n c).ownBlock := by simp [Value.ownBlock]
 refine ⟨W.setCells g (n * 2) [.int .i64 0, .int .i64 0], ?_, ⟨hok, inner, ⟨hown.1, .inr ⟨g, c, cur', by rw [hn], hb, h3, h1, hcm, by rw [h4, hcs, hsz], ?_⟩⟩, ?_⟩, ⟨s1, s2, s3, by rw [s4]; exact Nat.le_refl _, fun k' _ hk' => hfar k' (fun he => hk' (by rw [he]))⟩⟩
 ·simp [Builtin.clear_, run_underlying Try.underlying39, Try.zeroValue72, Builtin.zeroCells]
  show (((storeCells ⟨g, n * 2, none⟩ [.int .i64 0, .int .i64 0]).run Try.prog W).andThen _) = _
  rw [hst]
  rfl
 ·rw [hsz, ← htake, h5, ← hn]
  rw [List.append_assoc, List.take_append_of_le_length (by simp; omega), List.take_take, Nat.min_self]
 ·exact hr.imp_ (fun p q hp => k72.M_move (fun k' hk' => hfar k' (fun he => hk'.2 (by rw [← hgo, he]))) hp)
set_option maxHeartbeats 8000000 in
set_option maxRecDepth 100000 in
theorem del_share (k m c g : Nat) (base : Nat) (ok : Nat → Prop) (xs : List S72) (w0 w : World) (HB : Below base w0 w) (hbase : base ≤ w.heap.size) (HO : Kd.R k72 72 w base ok (.slice (some ⟨g, 0, none⟩) (m + 1) c) xs) (hk : k < m + 1) (hn : m + 1 ≤ 4611686018427387904) (hc : m + 1 ≤ c) (hc2 : c ≤ 9223372036854775807) :
  Calls Try.prog 50 #[.slice (some ⟨g, 0, none⟩) (m + 1) c, .int .i64 (k : Int), .int .i64 ((k : Int) + 1)] w fun e w' => e = .returned (.slice (some ⟨g, 0, none⟩) m c) ∧ Kd.R k72 72 w' base ok (.slice (some ⟨g, 0, none⟩) m c) (xs.eraseIdx k) ∧ Below base w0 w' ∧ w.grownBy w' (some g) := by
 have HO' := Aside0.mk HO
 clear HO
 have HB' := Aside0.mk HB
 clear HB
 have hkc : k ≤ c := by omega
 have hk1 : k + 1 ≤ m + 1 := by omega
 have hk2 : k + 1 ≤ c := by omega
 have hAq := Aside0.mk (show (if c = k + 1 then some ⟨g, 0, none⟩ else some ⟨g, (k + 1) * 2, none⟩ : Option Addr) = if c = k + 1 then some ⟨g, 0, none⟩ else (some (⟨g, 0, none⟩ : Addr)).map (·.add ((k + 1) * k72.sz)) from by
  have : k72.sz = 2 := rfl
  rw [this]
  simp [Addr.add])
 have hmq := Aside0.mk (show m - k = m + 1 - (k + 1) from by omega)
 have hk5 : k ≤ m := by omega
 have hk3 : (0 : Int) ≤ (k : Int) + 1 := by omega
 have hk4 : (k : Int) + 1 ≤ ((m + 1 : Nat) : Int) := by omega
 go_enter Try.func50, Try.ntmps50
 go_wp2
 go_region_law (refine Kd.R_delete_step k72 (w0 := w0) base rfl (.tmp 22) (.tmp 25) 39 72 rfl Try.underlying39 (by kernel_rfl) (g := g) (n := m + 1) (c := c) (k := k) (by first | rfl | simp [Act.eval, Act.put]) (by first | rfl | simp [Act.eval, Act.put]) hAq.out hmq.out (Kd.R_drew HO'.out) hk (below_drew1 HB'.out) hbase ?_; intro w1 ho hb hg)
 have hox : Kd.R k72 72 w1 base ok (.slice (some ⟨g, 0, none⟩) m c) (xs.eraseIdx k) := ho
 obtain ⟨w2, hrun, ho2, hg2⟩ := clear_share 0 hox (by omega)
 have G1 := Aside0.mk hg
 have O2 := Aside0.mk ho2
 have G2 := Aside0.mk hg2
 have B1 := Aside0.mk hb
 clear hg ho2 hg2 hb ho hox
 have e1 : m < c := by omega
 have e2 : ¬ c = m := by omega
 have e3 : m ≤ c := by omega
 have hbg : base ≤ g := Kd.R_base O2.out g rfl
 go_wp2
 all_goals
  go_ret
  exact ⟨by first | rfl | (simp; done), (by first | exact O2.out | (have e_ : c = k + 1 := (by assumption); have o_ := O2.out; subst e_; exact o_)), B1.out.grown G2.out (Nat.le_trans hbase (by have := G1.out.size; exact this)) (fun k e => by cases e; exact hbg), ⟨G2.out.os.trans G1.out.os, G2.out.tape.trans G1.out.tape, G2.out.output.trans G1.out.output, Nat.le_trans G1.out.size G2.out.size, fun j hj hne => (G2.out.block j (Nat.lt_of_lt_of_le hj G1.out.size) hne).trans (G1.out.block j hj hne)⟩⟩
def impl_Share_50.f (l0 : List S72) (a1 a2 : Int) : Option (List S72) := if 0 ≤ a1 then (if a1 < (l0.length : Int) then (if l0.length ≤ 4611686018427387904 then (if a2 = wrap64 (a1 + 1) then some (l0.eraseIdx a1.toNat) else none) else none) else none) else none
theorem impl_Share_50.calls (P0_ : Nat → Prop) (u9000_ : Value) (l0 : List S72) (a1 a2 : Int) (r : List S72) (w0 w : World) (hB : Below w0.heap.size w0 w) (ho0 : Kd.R k72 72 w w0.heap.size P0_ u9000_ l0) (h : impl_Share_50.f l0 a1 a2 = some r) :
  Calls Try.prog 50 #[u9000_, .int .i64 a1, .int .i64 a2] w fun e w' => ∃ v0_ : Value, e = .returned (v0_) ∧ Kd.R k72 72 w' w0.heap.size (fun k_ => (P0_ k_ ∨ w.heap.size ≤ k_)) v0_ r ∧ Below w0.heap.size w0 w' ∧ Kept w w' (fun k_ => P0_ k_) := by
 unfold impl_Share_50.f at h
 by_cases h0 : 0 ≤ a1
 case neg => rw [if_neg h0] at h; cases h
 rw [if_pos h0] at h
 by_cases h1 : a1 < (l0.length : Int)
 case neg => rw [if_neg h1] at h; cases h
 rw [if_pos h1] at h
 by_cases h2 : l0.length ≤ 4611686018427387904
 case neg => rw [if_neg h2] at h; cases h
 rw [if_pos h2] at h
 by_cases h3 : a2 = wrap64 (a1 + 1)
 case neg => rw [if_neg h3] at h; cases h
 rw [if_pos h3] at h
 obtain rfl := Option.some.inj h
 obtain ⟨k, rfl⟩ := Int.eq_ofNat_of_zero_le h0
 obtain rfl : a2 = (k : Int) + 1 := by rw [h3]; unfold wrap64; omega
 obtain ⟨g, c, rfl, hg, hl, cells, HG⟩ := Kd.R_form ho0 (by omega)
 have hcap : c ≤ 9223372036854775807 := by
  obtain ⟨_, inner, hown, _⟩ := ho0
  rcases hown.2 with ⟨hv, _⟩ | ⟨_, _, _, hv, _, _, _, hcm, _⟩
  ·cases hv
  ·cases hv
   exact hcm
 obtain ⟨m, hm⟩ : ∃ m, l0.length = m + 1 := ⟨l0.length - 1, by omega⟩
 rw [hm] at ho0 ⊢
 have hnc := (Kd.R_reads' ho0).2.1
 refine (del_share k m c g w0.heap.size P0_ l0 w0 w hB hB.size ho0 (by omega) (by omega) hnc hcap).mono ?_
 rintro e w' ⟨rfl, hR, hb, hgr⟩
 refine ⟨_, rfl, Kd.R_mono hR (fun k_ hk_ => .inl hk_), hb, ?_⟩
 exact Kept.of_grown hgr (Kept.refl w _) (fun k_ e_ => .inl (by cases e_; exact (ho0.1 g rfl)))

/-! ### impl_Share_51: function 51 -/
def impl_Share_51.f (l0 : List (S72)) : Option ((List (S72))) := (some (([] : List (S72)) : List (S72))).bind fun y364 => (if y364.length + l0.length < 8796093022208 then (some (y364 ++ l0)) else (none))
set_option maxHeartbeats 8000000 in
set_option maxRecDepth 100000 in
theorem impl_Share_51.calls_some (A0 : Option Addr) (c0 : Nat) (l0 : List (S72)) (r : List (S72)) (w : World) (hr0 : Kd.C k72 w A0 l0.length l0) (hc0 : l0.length ≤ c0) (hA_ : Aside0 (A0.isNone = false)) (h : impl_Share_51.f l0 = some r) :
  Calls Try.prog 51 #[.slice A0 l0.length c0] w fun e w' => ∃ v0_ : Value, e = .returned (v0_) ∧ Kd.R k72 72 w' w.heap.size (fun _ => True) v0_ r ∧ Below w.heap.size w w' := by
 have HR0 := Aside0.mk hr0
 have HC0 := Aside0.mk hc0
 clear hr0 hc0
 have HB := Aside0.mk (Below.refl w.heap.size w)
 have H : ((some (([] : List (S72)) : List (S72))).bind fun y364 => (if y364.length + l0.length < 8796093022208 then (some (y364 ++ l0)) else (none))) = some r := h
 clear h
 obtain ⟨y364, hy364⟩ : ∃ y_ : List (S72), y_ = (([] : List (S72))) := ⟨_, rfl⟩
 replace H : (if y364.length + l0.length < 8796093022208 then (some (y364 ++ l0)) else (none)) = some r := by first | (rw [hy364]; with_reducible exact H) | (have H2_ := (Option.bind_some _ _).symm.trans H; rw [hy364]; with_reducible exact H2_) | (have H2_ := (Option.bind_some _ _).symm.trans H; with_reducible exact H2_) | with_reducible exact H | (rw [hy364]; exact H) | exact H
 have Ny364 := Aside0.mk hy364
 clear hy364
 by_cases c2 : y364.length + l0.length < 8796093022208
 ·rw [if_pos c2] at H
  have LMc2 := Aside0.mk c2
  clear c2
  obtain ⟨y367, hy367⟩ : ∃ y_ : List (S72), y_ = (y364 ++ l0) := ⟨_, rfl⟩
  replace H : (some y367) = some r := by first | (rw [hy367]; with_reducible exact H) | (have H2_ := (Option.bind_some _ _).symm.trans H; rw [hy367]; with_reducible exact H2_) | (have H2_ := (Option.bind_some _ _).symm.trans H; with_reducible exact H2_) | with_reducible exact H | (rw [hy367]; exact H) | exact H
  have Ny367 := Aside0.mk hy367
  clear hy367
  obtain rfl := Option.some.inj H
  have hnil_ : ∀ w_ : World, (binOp .eql 39 (.slice A0 l0.length c0) (.slice none 0 0)).run Try.prog w_ = .ok (.bool false) w_ := fun w_ => by rw [run_eql_slice_nil_ w_ 39 72 A0 l0.length c0 Try.underlying39, hA_.out]
  go_enter Try.func51, Try.ntmps51
  go_wp2_with (first | ((with_reducible refine gate_dst (N := 5) rfl ?_); refine Kd.R_lit k72 _ 72 ?hg (N := 5) ?hd (xs := ([] : List (S72))) (inner := []) (ok := fun _ => True) (okp := fun _ => True) ?hr ?hp (fun _ hk => hk) trivial (Below.refl _ _) (Nat.le_refl _) (by simp) ?_; (case hd => rfl); (case hg => rfl); (case hr => first | (go_simp; done) | (go_simp; rfl)); (case hp => exact (Reps.none _ _)); intro v365 w3 ho4 hb hg_ hnew_; clear hg_ hnew_; (first | rw [← Ny364.out] at ho4 | (simp only [Int.reduceToNat] at ho4; rw [← Ny364.out] at ho4)); have n0_ := Aside0.mk (Kd.R_lower ho4 (below_size (by repeat (first | (with_reducible first | exact HB.out | apply below_alloc | apply pw_below_drewN | apply below_drew1) | exact HB.out)))); have n1_ := Aside0.mk (below_step (by repeat (first | (with_reducible first | exact HB.out | apply below_alloc | apply pw_below_drewN | apply below_drew1) | exact HB.out)) hb); clear HB; have HO366 := n0_; have HB := n1_; clear n0_ n1_; clear hb ho4) | ((with_reducible refine gate_builtin (b := .append) (xs := #[.tmp 5, .tmp 6]) rfl ?_); at_builtin; refine Kd.R_append_rows k72 (w0 := w) w.heap.size rfl (.tmp 5) (.tmp 6) 39 72 (.agg #[(.int .i64 0), (.int .i64 0)]) 16 rfl Try.underlying39 info72 rfl (by decide) (by omega) v365 y364 l0 _ _ _ (fun _ => True) (fun _ => False) rfl rfl ?aO ?aR (fun _ _ h => h) (fun _ h => h.elim) ?aF ?aB ?aS ?aL ?_; (case aR => repeat (first | exact (Kd.C_below HR0.out HB.out) | (with_reducible refine Kd.C_alloc ?_ _) | (with_reducible refine Kd.C_drewN ?_ _) | (with_reducible refine Kd.C_drew ?_))); (case aB => exact (by repeat (first | (with_reducible first | exact HB.out | apply below_alloc | apply pw_below_drewN | apply below_drew1) | exact HB.out))); (case aF => exact (fun _ _ => trivial)); (case aO => exact (by (with_reducible repeat (first | apply Kd.R_alloc | apply Kd.R_drewN | apply Kd.R_drew)); exact HO366.out)); (case aS => exact (below_size (by repeat (first | (with_reducible first | exact HB.out | apply below_alloc | apply pw_below_drewN | apply below_drew1) | exact HB.out)))); (case aL => have := LMc2.out; omega); intro v368 w5 ho hb hg hat; rw [← Ny367.out] at ho; have n0_ := Aside0.mk (hb); have n1_ := Aside0.mk (ho); clear HB; clear HO366; have HB := n0_; have HO369 := n1_; clear n0_ n1_; clear ho hb hg hat))
  go_ret
  exact ⟨_, by first | rfl | (simp [errW_none, errW_some] <;> rfl) | (simp [*, errW_none, errW_some] <;> rfl), by (with_reducible repeat (first | apply Kd.R_alloc | apply Kd.R_drewN | apply Kd.R_drew)); exact HO369.out, by repeat (first | (with_reducible first | exact HB.out | apply below_alloc | apply pw_below_drewN | apply below_drew1) | exact HB.out)⟩
 ·rw [if_neg c2] at H
  exact absurd H (by simp)
theorem impl_Share_51.calls_none (c0 : Nat) (w : World) : Calls Try.prog 51 #[.slice none 0 c0] w fun e w' => ∃ v0_ : Value, e = .returned (v0_) ∧ Kd.R k72 72 w' w.heap.size (fun _ => True) v0_ ([] : List (S72)) ∧ Below w.heap.size w w' := by
 have hnil_ : ∀ w_ : World, (binOp .eql 39 (.slice none 0 c0) (.slice none 0 0)).run Try.prog w_ = .ok (.bool true) w_ := fun w_ => run_eql_slice_nil_ w_ 39 72 none 0 c0 Try.underlying39
 go_enter Try.func51, Try.ntmps51
 go_wp2
 go_ret
 exact ⟨_, rfl, Kd.R_nil _ _ _ _ _, Below.refl _ _⟩
theorem impl_Share_51.calls (A0 : Option Addr) (c0 : Nat) (l0 : List (S72)) (r : List (S72)) (w : World) (hr0 : Kd.C k72 w A0 l0.length l0) (hc0 : l0.length ≤ c0) (h : impl_Share_51.f l0 = some r) :
  Calls Try.prog 51 #[.slice A0 l0.length c0] w fun e w' => ∃ v0_ : Value, e = .returned (v0_) ∧ Kd.R k72 72 w' w.heap.size (fun _ => True) v0_ r ∧ Below w.heap.size w w' := by
 cases A0 with
 | none =>
  have hl_ : l0 = [] := by
   rcases Nat.eq_zero_or_pos l0.length with h0 | h0
   ·exact List.eq_nil_of_length_eq_zero h0
   ·obtain ⟨_, h1, _⟩ := hr0.2.2 h0
    cases h1
  subst hl_
  have hr_ : r = [] := by
   simp only [impl_Share_51.f, Option.bind_some, List.append_nil] at h
   split at h
   ·exact (Option.some.inj h).symm
   ·cases h
  subst hr_
  exact impl_Share_51.calls_none c0 w
 | some a_ => exact impl_Share_51.calls_some (some a_) c0 l0 r w hr0 hc0 ⟨rfl⟩ h

end Go.Proofs.Ytkommecfnfdapaa.P
