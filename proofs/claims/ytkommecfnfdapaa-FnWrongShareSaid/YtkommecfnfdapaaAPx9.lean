-- By a program of this session (wip/tools/xprint.py), which uses the kit's print; not a text of print.sh. Not trusted: Lean checks it.
import Derived.Test.YtkommecfnfdapaaAPx0
import Derived.Test.YtkommecfnfdapaaAPx4
import Derived.Test.YtkommecfnfdapaaAPx8
namespace Go.Proofs.Ytkommecfnfdapaa.P
open Go.RowKit Go.Proofs.YtkommecfnfdapaaW.PrintWords Go.Proofs.YtkommecfnfdapaaW.PrintLast Go.Proofs.YtkommecfnfdapaaW.PrintMore
attribute [local go_sem] max2_int min2_int max_two min_two max_three min_three max_four min_four   -- for this text's walks alone
set_option linter.unusedVariables false
set_option linter.unusedSimpArgs false

/-! ### impl_ValidShares: function 49 -/
def impl_ValidShares.l0 : Nat → List Int → List Int → List (S72) → Int → Int → Option (Bool)
 | 0, _, _, _, _, _ => none
 | k + 1, x3, x4, x10, x11, x12 => if x12 < x11 then (if 0 ≤ x12 then (if x12 < (x10.length : Int) then ((some (([(rd_T72 x10 x12).f0] : List Int) : List Int)).bind fun y333 => (if x3.length + y333.length < 17592186044416 then ((some (([(rd_T72 x10 x12).f1] : List Int) : List Int)).bind fun y339 => (if x4.length + y339.length < 17592186044416 then (impl_ValidShares.l0 k (x3 ++ y333) (x4 ++ y339) x10 x11 (wrap64 (x12 + 1))) else (none))) else (none))) else (none)) else (none)) else ((impl_allWithin.f k x3 1 250).bind fun t345 => (if t345 = true then ((impl_differentBelow.f k x3 251).bind fun t346 => (if t346 = true then ((impl_allWithin.f k x4 0 250).bind fun t347 => (some t347)) else (some false))) else (some false)))
def impl_ValidShares.f (k : Nat) (l0 : List (S72)) : Option (Bool) := if (l0.length : Int) > 12 then (some false) else (impl_ValidShares.l0 k ([] : List Int) ([] : List Int) l0 (l0.length : Int) 0)
theorem impl_ValidShares.mono_l : ∀ k, (∀ y0 y1 y2 y3 y4, LeO (impl_ValidShares.l0 k y0 y1 y2 y3 y4) (impl_ValidShares.l0 (k + 1) y0 y1 y2 y3 y4))
 | 0 => fun _ _ _ _ _ r h => by simp [impl_ValidShares.l0] at h
 | k + 1 => by
  have ih0 := impl_ValidShares.mono_l k
  ·intro y0 y1 y2 y3 y4
   unfold impl_ValidShares.l0
   repeat' first
   | (with_reducible exact ih0 _ _ _ _ _)
   | (with_reducible exact impl_allWithin.mono _ _ _ _)
   | (with_reducible exact impl_differentBelow.mono _ _ _)
   | (with_reducible exact LeO.refl _)
   | (with_reducible exact LeO.none _)
   | (with_reducible refine LeO.ite ?_ ?_)
   | (with_reducible refine LeO.bind ?_ (fun _ => ?_))
   | exact ih0 _ _ _ _ _
   | exact impl_allWithin.mono _ _ _ _
   | exact impl_differentBelow.mono _ _ _
   | exact LeO.none _
   | refine LeO.ite ?_ ?_
   | refine LeO.bind ?_ (fun _ => ?_)
theorem impl_ValidShares.mono : ∀ a0 k, LeO (impl_ValidShares.f k a0) (impl_ValidShares.f (k + 1) a0) := by
 intro a0 k
 have ih0 := impl_ValidShares.mono_l k
 unfold impl_ValidShares.f
 repeat' first
   | (with_reducible exact ih0 _ _ _ _ _)
   | (with_reducible exact impl_allWithin.mono _ _ _ _)
   | (with_reducible exact impl_differentBelow.mono _ _ _)
   | (with_reducible exact LeO.refl _)
   | (with_reducible exact LeO.none _)
   | (with_reducible refine LeO.ite ?_ ?_)
   | (with_reducible refine LeO.bind ?_ (fun _ => ?_))
   | exact ih0 _ _ _ _ _
   | exact impl_allWithin.mono _ _ _ _
   | exact impl_differentBelow.mono _ _ _
   | exact LeO.none _
   | refine LeO.ite ?_ ?_
   | refine LeO.bind ?_ (fun _ => ?_)
def impl_ValidShares.T7 : Bool × List (List Nat × List Nat) := (true, [([], []), ([], []), ([1], [1]), ([2], [2]), ([0, 3], [0, 3]), ([], []), ([], []), ([6], [6]), ([7], [7]), ([5, 8, 4], [5, 8]), ([4, 9, 0, 1, 2, 3, 4], [0, 4]), ([9, 10, 0, 1, 2, 3, 4, 5, 6, 7, 8, 9, 10], [5, 9])])
def impl_ValidShares.B7 : List Nat := [0, 0, 2, 6, 15, 0, 0, 64, 192, 511, 1023, 2047]
theorem impl_ValidShares.tab7 : rtab .any (opsOf Try.f49 7) = impl_ValidShares.T7 := by kernel_rfl
theorem impl_ValidShares.bits7 : waitsOk impl_ValidShares.T7.2 impl_ValidShares.B7 = true := by kernel_rfl
set_option maxHeartbeats 8000000 in
set_option maxRecDepth 100000 in
theorem impl_ValidShares.calls (k : Nat) (A0 : Option Addr) (c0 : Nat) (l0 : List (S72)) (r : Bool) (w : World) (hr0 : Kd.C k72 w A0 l0.length l0) (hc0 : l0.length ≤ c0) (h : impl_ValidShares.f k l0 = some r) :
  Calls Try.prog 49 #[.slice A0 l0.length c0] w fun e w' => e = .returned (.bool r) ∧ Below w.heap.size w w' := by
 have hu72 := Try.underlying72
 have HR0 := Aside0.mk hr0
 have HC0 := Aside0.mk hc0
 clear hr0 hc0
 have HB := Aside0.mk (Below.refl w.heap.size w)
 have H : (if (l0.length : Int) > 12 then (some false) else (impl_ValidShares.l0 k ([] : List Int) ([] : List Int) l0 (l0.length : Int) 0)) = some r := h
 clear h
 by_cases c2 : (l0.length : Int) > 12
 ·rw [if_pos c2] at H
  have c2b0 : decide (12 < (l0.length : Int)) = true := decide_eq_true c2
  have c2b1 : decide (12 < l0.length) = true := decide_eq_true (by omega)
  clear c2
  obtain rfl := Option.some.inj H
  go_enter Try.func49, Try.ntmps49
  go_wp2
  go_ret
  exact ⟨by first | rfl | (simp [errW_none, errW_some] <;> rfl) | (simp [*, errW_none, errW_some] <;> rfl), by repeat (first | (with_reducible first | exact HB.out | apply below_alloc | apply pw_below_drewN | apply below_drew1) | exact HB.out)⟩
 ·rw [if_neg c2] at H
  have c2b0 : decide (12 < (l0.length : Int)) = false := decide_eq_false c2
  have c2b1 : decide (12 < l0.length) = false := decide_eq_false (by omega)
  clear c2
  have H' := Aside0.mk H
  clear H
  go_enter Try.func49, Try.ntmps49
  go_wp2
  go_loopg [3, 4, 12] k (fun kq v3 v4 v12 w' => ∃ (x3_1 : List Int) (x4_1 : List Int) (x12_1 : Int), v12 = .int .i64 x12_1 ∧ Aside0 (impl_ValidShares.l0 kq x3_1 x4_1 l0 (l0.length : Int) x12_1 = some r) ∧ Aside0 (kq ≤ k) ∧ Aside0 (Kd.R (Kd.int .i64) 3 w' w.heap.size (fun k_ => some k_ ≠ (v4 : Value).ownBlock) v3 x3_1) ∧ Aside0 (Kd.R (Kd.int .i64) 3 w' w.heap.size (fun k_ => some k_ ≠ (v3 : Value).ownBlock) v4 x4_1) ∧ Aside0 (Below w.heap.size w w'))
  case atStart => exact ⟨(([] : List Int)), (([] : List Int)), (0), (by first | rfl | (simp; done) | (simp [*]; done)), H', ⟨Nat.le_refl _⟩, ⟨by first | exact Kd.R_nil _ _ _ _ _ | exact Kd.N_nil _ _ _ _ _ | exact Kd.V_nil _ _ _ _ _ | exact Kd.Q_nil _ _ _ _ _ | exact Kd.S_nil _ _ _ _ _⟩, ⟨by first | exact Kd.R_nil _ _ _ _ _ | exact Kd.N_nil _ _ _ _ _ | exact Kd.V_nil _ _ _ _ _ | exact Kd.Q_nil _ _ _ _ _ | exact Kd.S_nil _ _ _ _ _⟩, ⟨by repeat (first | (with_reducible first | exact HB.out | apply below_alloc | apply pw_below_drewN | apply below_drew1) | exact HB.out)⟩⟩
  case round =>
   clear H'
   try clear c2
   try clear c2b0
   try clear c2b1
   try clear p2
   obtain ⟨x3_1, x4_1, x12_1, rfl, HA, HK1, HO_3, HO_4, HB⟩ := hrel
   cases gk with
   | zero => exact absurd HA.out (by simp [impl_ValidShares.l0])
   | succ k1 =>
    have H := HA.out
    clear HA
    simp only [impl_ValidShares.l0] at H
    by_cases c3 : x12_1 < (l0.length : Int)
    ·rw [if_pos c3] at H
     have c3b0 : decide (x12_1 < (l0.length : Int)) = true := decide_eq_true c3
     clear c3
     by_cases c4 : 0 ≤ x12_1
     ·rw [if_pos c4] at H
      have c4b0 : decide (0 ≤ x12_1) = true := decide_eq_true c4
      clear c4
      by_cases c5 : x12_1 < (l0.length : Int)
      ·rw [if_pos c5] at H
       have c5b0 : decide (x12_1 < (l0.length : Int)) = true := decide_eq_true c5
       clear c5
       obtain ⟨y333, hy333⟩ : ∃ y_ : List Int, y_ = (([(rd_T72 l0 x12_1).f0] : List Int)) := ⟨_, rfl⟩
       replace H : (if x3_1.length + y333.length < 17592186044416 then ((some (([(rd_T72 l0 x12_1).f1] : List Int) : List Int)).bind fun y339 => (if x4_1.length + y339.length < 17592186044416 then (impl_ValidShares.l0 k1 (x3_1 ++ y333) (x4_1 ++ y339) l0 (l0.length : Int) (wrap64 (x12_1 + 1))) else (none))) else (none)) = some r := by first | (rw [hy333]; with_reducible exact H) | (have H2_ := (Option.bind_some _ _).symm.trans H; rw [hy333]; with_reducible exact H2_) | (have H2_ := (Option.bind_some _ _).symm.trans H; with_reducible exact H2_) | with_reducible exact H | (rw [hy333]; exact H) | exact H
       have Ny333 := Aside0.mk hy333
       clear hy333
       by_cases c6 : x3_1.length + y333.length < 17592186044416
       ·rw [if_pos c6] at H
        have LMc6 := Aside0.mk c6
        clear c6
        obtain ⟨y336, hy336⟩ : ∃ y_ : List Int, y_ = (x3_1 ++ y333) := ⟨_, rfl⟩
        replace H : ((some (([(rd_T72 l0 x12_1).f1] : List Int) : List Int)).bind fun y339 => (if x4_1.length + y339.length < 17592186044416 then (impl_ValidShares.l0 k1 y336 (x4_1 ++ y339) l0 (l0.length : Int) (wrap64 (x12_1 + 1))) else (none))) = some r := by first | (rw [hy336]; with_reducible exact H) | (have H2_ := (Option.bind_some _ _).symm.trans H; rw [hy336]; with_reducible exact H2_) | (have H2_ := (Option.bind_some _ _).symm.trans H; with_reducible exact H2_) | with_reducible exact H | (rw [hy336]; exact H) | exact H
        have Ny336 := Aside0.mk hy336
        clear hy336
        obtain ⟨y339, hy339⟩ : ∃ y_ : List Int, y_ = (([(rd_T72 l0 x12_1).f1] : List Int)) := ⟨_, rfl⟩
        replace H : (if x4_1.length + y339.length < 17592186044416 then (impl_ValidShares.l0 k1 y336 (x4_1 ++ y339) l0 (l0.length : Int) (wrap64 (x12_1 + 1))) else (none)) = some r := by first | (rw [hy339]; with_reducible exact H) | (have H2_ := (Option.bind_some _ _).symm.trans H; rw [hy339]; with_reducible exact H2_) | (have H2_ := (Option.bind_some _ _).symm.trans H; with_reducible exact H2_) | with_reducible exact H | (rw [hy339]; exact H) | exact H
        have Ny339 := Aside0.mk hy339
        clear hy339
        by_cases c7 : x4_1.length + y339.length < 17592186044416
        ·rw [if_pos c7] at H
         have LMc7 := Aside0.mk c7
         clear c7
         obtain ⟨y342, hy342⟩ : ∃ y_ : List Int, y_ = (x4_1 ++ y339) := ⟨_, rfl⟩
         replace H : (impl_ValidShares.l0 k1 y336 y342 l0 (l0.length : Int) (wrap64 (x12_1 + 1))) = some r := by first | (rw [hy342]; with_reducible exact H) | (have H2_ := (Option.bind_some _ _).symm.trans H; rw [hy342]; with_reducible exact H2_) | (have H2_ := (Option.bind_some _ _).symm.trans H; with_reducible exact H2_) | with_reducible exact H | (rw [hy342]; exact H) | exact H
         have Ny342 := Aside0.mk hy342
         clear hy342
         have H' := Aside0.mk H
         clear H
         have p331 : 0 ≤ (x12_1 : Int) := of_decide_eq_true (by first | (with_reducible assumption) | assumption)
         have q331 : x12_1 < (l0.length : Int) := of_decide_eq_true (by first | (with_reducible assumption) | assumption)
         obtain ⟨ad331, e331, hx331_0, hx331_1⟩ := at_T72 HR0.out x12_1 p331 q331
         cases e331
         replace hx331_0 := (HB.out.cell (World.block_lt_of_cell? w _ hx331_0)).trans hx331_0
         replace hx331_1 := (HB.out.cell (World.block_lt_of_cell? w _ hx331_1)).trans hx331_1
         replace p331 := eq_true p331
         replace q331 := eq_true q331
         try go_wp2_with (first | ((with_reducible refine gate_dst (N := 6) rfl ?_); refine box_event ?hg (N := 6) ?hd (cs := #[.int .i64 0, .int .i64 0]) (t := 72) ?hr ?_; (case hd => rfl); (case hg => rfl); (case hr => first | (go_simp; done) | (go_simp; rfl)); intro gb332 hg w8 hbox hb; have n0_ := Aside0.mk (Kd.R_below (by (with_reducible repeat (first | apply Kd.R_alloc | apply Kd.R_drewN | apply Kd.R_drew)); exact HO_3.out) hb); have n1_ := Aside0.mk (Kd.R_below (by (with_reducible repeat (first | apply Kd.R_alloc | apply Kd.R_drewN | apply Kd.R_drew)); exact HO_4.out) hb); have n2_ := Aside0.mk (below_step (by repeat (first | (with_reducible first | exact HB.out | apply below_alloc | apply pw_below_drewN | apply below_drew1) | exact HB.out)) hb); have n3_ := Aside0.mk (hbox); have n4_ := Aside0.mk ((by rw [hg]; exact (below_size (by repeat (first | (with_reducible first | exact HB.out | apply below_alloc | apply pw_below_drewN | apply below_drew1) | exact HB.out))) : w.heap.size ≤ gb332)); have n5_ := Aside0.mk ((by rw [hg]; exact (below_size (by repeat (first | (with_reducible first | exact HB.out | apply below_alloc | apply pw_below_drewN | apply below_drew1) | exact HB.out))) : w.heap.size ≤ gb332)); clear HO_3; clear HO_4; clear HB; have HO_3 := n0_; have HO_4 := n1_; have HB := n2_; have BK332 := n3_; have GW332 := n4_; have GE332 := n5_; clear n0_ n1_ n2_ n3_ n4_ n5_; clear hb hbox hg; have hcz9_0 : w8.cell? ⟨gb332, 0, none⟩ = some (.int .i64 0) := (blk_cell BK332.out 0).trans rfl; have hcz9_1 : w8.cell? ⟨gb332, 1, none⟩ = some (.int .i64 0) := (blk_cell BK332.out 1).trans rfl; have hfz9_0 := blk_frozen BK332.out 0; have hfz9_1 := blk_frozen BK332.out 1; obtain ⟨Ao10, co10, eo10⟩ := Kd.R_slice HO_3.out; subst eo10; obtain ⟨Ao11, co11, eo11⟩ := Kd.R_slice HO_4.out; subst eo11))
         have n0_ : Aside0 (Kd.R (Kd.int .i64) 3 ((w8.setCell ⟨gb332, 0, none⟩ (.int .i64 ((rd_T72 l0 x12_1).f0))).setCell ⟨gb332, 1, none⟩ (.int .i64 ((rd_T72 l0 x12_1).f1))) w.heap.size (fun k_ => some k_ ≠ (.slice Ao11 x4_1.length co11 : Value).ownBlock) (.slice Ao10 x3_1.length co10) x3_1) := ⟨by (with_reducible repeat (first | apply Kd.R_alloc | apply Kd.R_drewN | apply Kd.R_drew)); exact Kd.R_mono (Kd.R_far (p := ⟨gb332, 1, none⟩) (Kd.R_far (p := ⟨gb332, 0, none⟩) (Kd.R_types HO_3.out BK332.out (by decide)) (fun _ hk => hk.2) (.int .i64 ((rd_T72 l0 x12_1).f0))) (fun _ hk => hk.2) (.int .i64 ((rd_T72 l0 x12_1).f1))) (fun _ hk => hk.1)⟩
         have n1_ : Aside0 (Kd.R (Kd.int .i64) 3 ((w8.setCell ⟨gb332, 0, none⟩ (.int .i64 ((rd_T72 l0 x12_1).f0))).setCell ⟨gb332, 1, none⟩ (.int .i64 ((rd_T72 l0 x12_1).f1))) w.heap.size (fun k_ => some k_ ≠ (.slice Ao10 x3_1.length co10 : Value).ownBlock) (.slice Ao11 x4_1.length co11) x4_1) := ⟨by (with_reducible repeat (first | apply Kd.R_alloc | apply Kd.R_drewN | apply Kd.R_drew)); exact Kd.R_mono (Kd.R_far (p := ⟨gb332, 1, none⟩) (Kd.R_far (p := ⟨gb332, 0, none⟩) (Kd.R_types HO_4.out BK332.out (by decide)) (fun _ hk => hk.2) (.int .i64 ((rd_T72 l0 x12_1).f0))) (fun _ hk => hk.2) (.int .i64 ((rd_T72 l0 x12_1).f1))) (fun _ hk => hk.1)⟩
         have n2_ : Aside0 (((w8.setCell ⟨gb332, 0, none⟩ (.int .i64 ((rd_T72 l0 x12_1).f0))).setCell ⟨gb332, 1, none⟩ (.int .i64 ((rd_T72 l0 x12_1).f1))).heap[gb332]? = some (.cells #[.int .i64 ((rd_T72 l0 x12_1).f0), .int .i64 ((rd_T72 l0 x12_1).f1)] 72 (0, 0))) := ⟨by (with_reducible repeat (first | refine blk_drewN ?_ _ | refine blk_drew ?_ | refine blk_alloc ?_ _)); refine blk_put (cs := #[.int .i64 ((rd_T72 l0 x12_1).f0), .int .i64 0]) ?_ 1 _ rfl; (with_reducible repeat (first | refine blk_drewN ?_ _ | refine blk_drew ?_ | refine blk_alloc ?_ _)); refine blk_put (cs := #[.int .i64 0, .int .i64 0]) ?_ 0 _ rfl; (with_reducible repeat (first | refine blk_drewN ?_ _ | refine blk_drew ?_ | refine blk_alloc ?_ _)); exact BK332.out⟩
         have n3_ : Aside0 (Below w.heap.size w ((w8.setCell ⟨gb332, 0, none⟩ (.int .i64 ((rd_T72 l0 x12_1).f0))).setCell ⟨gb332, 1, none⟩ (.int .i64 ((rd_T72 l0 x12_1).f1)))) := ⟨by repeat (first | (with_reducible first | exact HB.out | apply below_alloc | apply pw_below_drewN | apply below_drew1 | refine below_set ?_ GE332.out) | exact HB.out)⟩
         (try clear HO_3)
         (try clear HO_4)
         (try clear BK332)
         (try clear HB)
         generalize ((w8.setCell ⟨gb332, 0, none⟩ (.int .i64 ((rd_T72 l0 x12_1).f0))).setCell ⟨gb332, 1, none⟩ (.int .i64 ((rd_T72 l0 x12_1).f1))) = w12 at n0_ n1_ n2_ n3_ ⊢
         have HO_3 := n0_
         have HO_4 := n1_
         have BK332 := n2_
         have HB := n3_
         clear n0_ n1_ n2_ n3_
         have n0_ := Aside0.mk (Kd.R_drew HO_3.out)
         have n1_ := Aside0.mk (Kd.R_drew HO_4.out)
         have n2_ := Aside0.mk (blk_drew BK332.out)
         have n3_ := Aside0.mk (below_drew1 HB.out)
         clear HO_3
         clear HO_4
         clear BK332
         clear HB
         have HO_3 := n0_
         have HO_4 := n1_
         have BK332 := n2_
         have HB := n3_
         clear n0_ n1_ n2_ n3_
         refine start_ (n := 12) (S := fun w' => w'.cell? ⟨gb332, 0, none⟩ = some (.int .i64 ((rd_T72 l0 x12_1).f0)) ∧ w'.cell? ⟨gb332, 1, none⟩ = some (.int .i64 ((rd_T72 l0 x12_1).f1))) (ds := []) #[false, false, false, false, false, false, false, false, false, false, false, false] (by kernel_rfl) rfl rfl ⟨(blk_cell BK332.out 0).trans rfl, (blk_cell BK332.out 1).trans rfl⟩ (fun hHeld => ?_); refine with_tabW impl_ValidShares.tab7 impl_ValidShares.bits7 (fun HT_ HW_ => ?_)
         generalize w12.drew = w13 at HO_3 HO_4 BK332 HB hHeld ⊢
         refine pure_ (i := 0) (N := some 16) (v := ?_) (a' := ?_) #[true, false, false, false, false, false, false, false, false, false, false, false] rfl rfl (any_of HT_.out (by kernel_rfl)) (fun _ _ _ h => h) (Or.inl ⟨by rfl, ?_⟩) ?_ ?_
         rotate_left
         ·intro w'
          go_simp
          with_reducible rfl
         rotate_left
         ·simp only [Act.put, List.setIfInBounds_toArray, List.set_cons_zero, List.set_cons_succ, i64_w, i32_w]
          rfl
         refine pure_ (i := 1) (N := some 17) (v := ?_) (a' := ?_) #[true, true, false, false, false, false, false, false, false, false, false, false] rfl rfl (any_of HT_.out (by kernel_rfl)) (fun _ _ _ h => h) (Or.inl ⟨by rfl, ?_⟩) ?_ ?_
         rotate_left
         ·intro w'
          go_simp
          with_reducible rfl
         rotate_left
         ·simp only [Act.put, List.setIfInBounds_toArray, List.set_cons_zero, List.set_cons_succ, i64_w, i32_w]
          rfl
         refine pure_ (i := 5) (N := some 21) (v := ?_) (a' := ?_) #[true, true, false, false, false, true, false, false, false, false, false, false] rfl rfl (any_of HT_.out (by kernel_rfl)) (fun _ _ _ h => h) (Or.inl ⟨by rfl, ?_⟩) ?_ ?_
         rotate_left
         ·intro w'
          go_simp
          with_reducible rfl
         rotate_left
         ·simp only [Act.put, List.setIfInBounds_toArray, List.set_cons_zero, List.set_cons_succ, i64_w, i32_w]
          rfl
         refine pure_ (i := 6) (N := some 22) (v := ?_) (a' := ?_) #[true, true, false, false, false, true, true, false, false, false, false, false] rfl rfl (any_of HT_.out (by kernel_rfl)) (fun _ _ _ h => h) (Or.inl ⟨by rfl, ?_⟩) ?_ ?_
         rotate_left
         ·intro w'
          go_simp
          with_reducible rfl
         rotate_left
         ·simp only [Act.put, List.setIfInBounds_toArray, List.set_cons_zero, List.set_cons_succ, i64_w, i32_w]
          rfl
         refine take_ (i := 2) (N := some 18) (v := ?_) (a' := ?_) #[true, true, true, false, false, true, true, false, false, false, false, false] rfl rfl (take_ofW HT_.out HW_.out (by kernel_rfl)) (fun _ _ _ h => h) (Or.inl ⟨by rfl, ?_⟩) hHeld ?_ ?_
         rotate_left
         ·rintro w' ⟨s0, s1⟩
          go_simp
          with_reducible rfl
         rotate_left
         ·simp only [Act.put, List.setIfInBounds_toArray, List.set_cons_zero, List.set_cons_succ, i64_w, i32_w]
          rfl
         refine take_ (i := 7) (N := some 23) (v := ?_) (a' := ?_) #[true, true, true, false, false, true, true, true, false, false, false, false] rfl rfl (take_ofW HT_.out HW_.out (by kernel_rfl)) (fun _ _ _ h => h) (Or.inl ⟨by rfl, ?_⟩) hHeld ?_ ?_
         rotate_left
         ·rintro w' ⟨s0, s1⟩
          go_simp
          with_reducible rfl
         rotate_left
         ·simp only [Act.put, List.setIfInBounds_toArray, List.set_cons_zero, List.set_cons_succ, i64_w, i32_w]
          rfl
         refine join_ (σ := Value × Value × Value) 3 #[true, true, true, true, true, true, true, true, true, false, false, false] (fun s_ => [(19, s_.1), (20, s_.2.1), (24, s_.2.2)]) (fun s_ w' => (w'.cell? ⟨gb332, 0, none⟩ = some (.int .i64 ((rd_T72 l0 x12_1).f0)) ∧ w'.cell? ⟨gb332, 1, none⟩ = some (.int .i64 ((rd_T72 l0 x12_1).f1))) ∧ (Kd.R (Kd.int .i64) 3 w' w.heap.size (fun k_ => some k_ ≠ (s_.2.1 : Value).ownBlock ∧ some k_ ≠ (s_.2.2 : Value).ownBlock ∧ some k_ ≠ (.slice Ao11 x4_1.length co11 : Value).ownBlock) s_.1 y333) ∧ (Kd.R (Kd.int .i64) 3 w' w.heap.size (fun k_ => some k_ ≠ (s_.1 : Value).ownBlock ∧ some k_ ≠ (s_.2.2 : Value).ownBlock ∧ some k_ ≠ (.slice Ao11 x4_1.length co11 : Value).ownBlock) s_.2.1 y336) ∧ (Kd.R (Kd.int .i64) 3 w' w.heap.size (fun k_ => some k_ ≠ (s_.1 : Value).ownBlock ∧ some k_ ≠ (s_.2.1 : Value).ownBlock ∧ some k_ ≠ (.slice Ao11 x4_1.length co11 : Value).ownBlock) s_.2.2 y339) ∧ (Kd.R (Kd.int .i64) 3 w' w.heap.size (fun k_ => some k_ ≠ (s_.1 : Value).ownBlock ∧ some k_ ≠ (s_.2.1 : Value).ownBlock ∧ some k_ ≠ (s_.2.2 : Value).ownBlock) (.slice Ao11 x4_1.length co11) x4_1) ∧ (w'.heap[gb332]? = some (.cells #[.int .i64 ((rd_T72 l0 x12_1).f0), .int .i64 ((rd_T72 l0 x12_1).f1)] 72 (0, 0))) ∧ (Below w.heap.size w w')) ?_ ?_
         rotate_left
         ·intro hCont
          refine two_ (i := 3) (j := 8) (Ni := some 19) (Nj := some 24) #[true, true, true, true, false, true, true, true, false, false, false, false] #[true, true, true, false, false, true, true, true, true, false, false, false] rfl rfl rfl rfl (two_of HT_.out (by kernel_rfl)) (by decide) (by decide) (fun K hK => ?_) (fun K hK => ?_)
          ·skip
           refine Kd.R_lit_step (Kd.int .i64) _ 3 ?hg (N := 19) ?hd (xs := ([(rd_T72 l0 x12_1).f0] : List Int)) (inner := [.int .i64 ((rd_T72 l0 x12_1).f0)]) (ok := fun _ => True) (okp := fun _ => True) ?hr ?hp (fun _ hk => hk) trivial (Below.refl _ _) (Nat.le_refl _) (by simp) ?_; (case hd => rfl); (case hg => rfl); (case hr => first | (go_simp; done) | (go_simp; rfl)); (case hp => exact (Reps.one (show Kd.M (Kd.int .i64) _ _ _ ((rd_T72 l0 x12_1).f0) [.int .i64 ((rd_T72 l0 x12_1).f0)] from rfl) (Reps.none _ _)))
           intro v334 w14 ho15 hb hg_ hnew_
           clear hg_ hnew_
           (first | rw [← Ny333.out] at ho15 | (simp only [Int.reduceToNat] at ho15; rw [← Ny333.out] at ho15))
           have n0_ := Aside0.mk (Kd.R_elder' (by (with_reducible repeat (first | apply Kd.R_alloc | apply Kd.R_drewN | apply Kd.R_drew)); exact HO_3.out) (Kd.R_base ho15) hb)
           have n1_ := Aside0.mk (Kd.R_elder' (by (with_reducible repeat (first | apply Kd.R_alloc | apply Kd.R_drewN | apply Kd.R_drew)); exact HO_4.out) (Kd.R_base ho15) hb)
           have n2_ := Aside0.mk (Kd.R_lower (Kd.R_new' (Kd.R_new' ho15 (Kd.R_lt (by (with_reducible repeat (first | apply Kd.R_alloc | apply Kd.R_drewN | apply Kd.R_drew)); exact HO_3.out))) (Kd.R_lt (by (with_reducible repeat (first | apply Kd.R_alloc | apply Kd.R_drewN | apply Kd.R_drew)); exact HO_4.out))) (below_size (by repeat (first | (with_reducible first | exact HB.out | apply below_alloc | apply pw_below_drewN | apply below_drew1 | refine below_set ?_ GE332.out) | exact HB.out))))
           have n3_ := Aside0.mk (blk_below (g := gb332) (o := .cells #[.int .i64 ((rd_T72 l0 x12_1).f0), .int .i64 ((rd_T72 l0 x12_1).f1)] 72 (0, 0)) (by (with_reducible repeat (first | refine blk_drewN ?_ _ | refine blk_drew ?_ | refine blk_alloc ?_ _)); exact BK332.out) hb)
           have n4_ := Aside0.mk (below_step (by repeat (first | (with_reducible first | exact HB.out | apply below_alloc | apply pw_below_drewN | apply below_drew1 | refine below_set ?_ GE332.out) | exact HB.out)) hb)
           clear HO_3
           clear HO_4
           clear BK332
           clear HB
           have HO_3 := n0_
           have HO_4 := n1_
           have HO335 := n2_
           have BK332 := n3_
           have HB := n4_
           clear n0_ n1_ n2_ n3_ n4_
           clear hb ho15
           obtain ⟨Ao17, co17, eo17⟩ := Kd.R_slice HO335.out
           (first | subst eo17 | (injection eo17 with f1_ f2_ f3_; have f4_ := f1_.symm; have f5_ := f3_.symm; clear f1_ f2_ f3_; subst f4_; subst f5_))
           refine hK.out _ _ ⟨(blk_cell BK332.out 0).trans rfl, (blk_cell BK332.out 1).trans rfl⟩ (fun hHeld => ?_)
           clear hK K
           refine norm_ (a' := ?_) ?_ ?_
           rotate_left
           ·show Act.put _ (some 19) _ = _
            simp only [Act.put, List.setIfInBounds_toArray, List.set_cons_zero, List.set_cons_succ, i64_w, i32_w]
            rfl
           refine two_ (i := 4) (j := 8) (Ni := some 20) (Nj := some 24) #[true, true, true, true, true, true, true, true, false, false, false, false] #[true, true, true, true, false, true, true, true, true, false, false, false] rfl rfl rfl rfl (two_of HT_.out (by kernel_rfl)) (by decide) (by decide) (fun K hK => ?_) (fun K hK => ?_)
           ·skip
            refine Kd.R_append_rows_step (Kd.int .i64) (w0 := w) w.heap.size (by rfl) (.tmp 16) (.tmp 19) 22 3 (.int .i64 0) 8 rfl Try.underlying22 info3 rfl (by decide) (by omega) (.slice Ao10 x3_1.length co10) x3_1 y333 _ _ _ (fun k_ => some k_ ≠ (.slice Ao11 x4_1.length co11 : Value).ownBlock ∧ some k_ ≠ (.slice Ao17 y333.length co17 : Value).ownBlock) (fun _ => False) rfl rfl ?aO ?aR (fun _ _ h => h) (fun _ h => h.elim) ?aF ?aB ?aS ?aL ?_
            (case aR => repeat (first | exact (Kd.R_reads' HO335.out).2.2 | (with_reducible refine Kd.C_alloc ?_ _) | (with_reducible refine Kd.C_drewN ?_ _) | (with_reducible refine Kd.C_drew ?_)))
            (case aB => exact (by repeat (first | (with_reducible first | exact HB.out | apply below_alloc | apply pw_below_drewN | apply below_drew1 | refine below_set ?_ GE332.out) | exact HB.out)))
            (case aF => exact (fun k_ hk => ⟨Kd.fresh' (Kd.R_lt (by (with_reducible repeat (first | apply Kd.R_alloc | apply Kd.R_drewN | apply Kd.R_drew)); exact HO_4.out)) k_ hk, Kd.fresh' (Kd.R_lt (by (with_reducible repeat (first | apply Kd.R_alloc | apply Kd.R_drewN | apply Kd.R_drew)); exact HO335.out)) k_ hk⟩))
            (case aO => exact (by (with_reducible repeat (first | apply Kd.R_alloc | apply Kd.R_drewN | apply Kd.R_drew)); exact HO_3.out))
            (case aS => exact (below_size (by repeat (first | (with_reducible first | exact HB.out | apply below_alloc | apply pw_below_drewN | apply below_drew1 | refine below_set ?_ GE332.out) | exact HB.out))))
            (case aL => have := LMc6.out; omega)
            intro v337 w16 ho hb hg hat
            rw [← Ny336.out] at ho
            have n0_ := Aside0.mk (Kd.R_after (ok := (fun k_ => some k_ ≠ (.slice Ao17 y333.length co17 : Value).ownBlock)) (by (with_reducible repeat (first | apply Kd.R_alloc | apply Kd.R_drewN | apply Kd.R_drew)); exact Kd.R_mono HO_4.out (fun _ hk => ⟨hk.2, hk.1⟩)) hg hat)
            have n1_ := Aside0.mk (blk_grown (g := gb332) (o := .cells #[.int .i64 ((rd_T72 l0 x12_1).f0), .int .i64 ((rd_T72 l0 x12_1).f1)] 72 (0, 0)) (by (with_reducible repeat (first | refine blk_drewN ?_ _ | refine blk_drew ?_ | refine blk_alloc ?_ _)); exact BK332.out) hg (Kd.R_ne HO_3.out BK332.out (by decide)))
            have n2_ := Aside0.mk (Kd.R_after (ok := (fun k_ => some k_ ≠ (.slice Ao11 x4_1.length co11 : Value).ownBlock)) (by (with_reducible repeat (first | apply Kd.R_alloc | apply Kd.R_drewN | apply Kd.R_drew)); exact Kd.R_mono HO335.out (fun _ hk => ⟨hk.2, hk.1.2⟩)) hg hat)
            have n3_ := Aside0.mk (hb)
            have n4_ := Aside0.mk (ho)
            clear HO_4
            clear BK332
            clear HO335
            clear HB
            clear HO_3
            have HO_4 := n0_
            have BK332 := n1_
            have HO335 := n2_
            have HB := n3_
            have HO338 := n4_
            clear n0_ n1_ n2_ n3_ n4_
            clear ho hb hg hat
            refine hK.out _ _ ⟨(blk_cell BK332.out 0).trans rfl, (blk_cell BK332.out 1).trans rfl⟩ (fun hHeld => ?_)
            clear hK K
            refine norm_ (a' := ?_) ?_ ?_
            rotate_left
            ·show Act.put _ (some 20) _ = _
             simp only [Act.put, List.setIfInBounds_toArray, List.set_cons_zero, List.set_cons_succ, i64_w, i32_w]
             rfl
            refine one_ (i := 8) (N := some 24) #[true, true, true, true, true, true, true, true, true, false, false, false] rfl rfl (one_of HT_.out (by kernel_rfl)) (by decide) (fun K hK => ?_)
            refine Kd.R_lit_step (Kd.int .i64) _ 3 ?hg (N := 24) ?hd (xs := ([(rd_T72 l0 x12_1).f1] : List Int)) (inner := [.int .i64 ((rd_T72 l0 x12_1).f1)]) (ok := fun _ => True) (okp := fun _ => True) ?hr ?hp (fun _ hk => hk) trivial (Below.refl _ _) (Nat.le_refl _) (by simp) ?_; (case hd => rfl); (case hg => rfl); (case hr => first | (go_simp; done) | (go_simp; rfl)); (case hp => exact (Reps.one (show Kd.M (Kd.int .i64) _ _ _ ((rd_T72 l0 x12_1).f1) [.int .i64 ((rd_T72 l0 x12_1).f1)] from rfl) (Reps.none _ _)))
            intro v340 w18 ho19 hb hg_ hnew_
            clear hg_ hnew_
            (first | rw [← Ny339.out] at ho19 | (simp only [Int.reduceToNat] at ho19; rw [← Ny339.out] at ho19))
            have n0_ := Aside0.mk (Kd.R_elder' (by (with_reducible repeat (first | apply Kd.R_alloc | apply Kd.R_drewN | apply Kd.R_drew)); exact HO_4.out) (Kd.R_base ho19) hb)
            have n1_ := Aside0.mk (Kd.R_elder' (by (with_reducible repeat (first | apply Kd.R_alloc | apply Kd.R_drewN | apply Kd.R_drew)); exact HO335.out) (Kd.R_base ho19) hb)
            have n2_ := Aside0.mk (Kd.R_elder' (by (with_reducible repeat (first | apply Kd.R_alloc | apply Kd.R_drewN | apply Kd.R_drew)); exact HO338.out) (Kd.R_base ho19) hb)
            have n3_ := Aside0.mk (Kd.R_lower (Kd.R_new' (Kd.R_new' (Kd.R_new' ho19 (Kd.R_lt (by (with_reducible repeat (first | apply Kd.R_alloc | apply Kd.R_drewN | apply Kd.R_drew)); exact HO_4.out))) (Kd.R_lt (by (with_reducible repeat (first | apply Kd.R_alloc | apply Kd.R_drewN | apply Kd.R_drew)); exact HO335.out))) (Kd.R_lt (by (with_reducible repeat (first | apply Kd.R_alloc | apply Kd.R_drewN | apply Kd.R_drew)); exact HO338.out))) (below_size (by repeat (first | (with_reducible first | exact HB.out | apply below_alloc | apply pw_below_drewN | apply below_drew1 | refine below_set ?_ GE332.out) | exact HB.out))))
            have n4_ := Aside0.mk (blk_below (g := gb332) (o := .cells #[.int .i64 ((rd_T72 l0 x12_1).f0), .int .i64 ((rd_T72 l0 x12_1).f1)] 72 (0, 0)) (by (with_reducible repeat (first | refine blk_drewN ?_ _ | refine blk_drew ?_ | refine blk_alloc ?_ _)); exact BK332.out) hb)
            have n5_ := Aside0.mk (below_step (by repeat (first | (with_reducible first | exact HB.out | apply below_alloc | apply pw_below_drewN | apply below_drew1 | refine below_set ?_ GE332.out) | exact HB.out)) hb)
            clear HO_4
            clear HO335
            clear HO338
            clear BK332
            clear HB
            have HO_4 := n0_
            have HO335 := n1_
            have HO338 := n2_
            have HO341 := n3_
            have BK332 := n4_
            have HB := n5_
            clear n0_ n1_ n2_ n3_ n4_ n5_
            clear hb ho19
            refine hK.out _ _ ⟨(blk_cell BK332.out 0).trans rfl, (blk_cell BK332.out 1).trans rfl⟩ (fun hHeld => ?_)
            clear hK K
            refine norm_ (a' := ?_) ?_ ?_
            rotate_left
            ·show Act.put _ (some 24) _ = _
             simp only [Act.put, List.setIfInBounds_toArray, List.set_cons_zero, List.set_cons_succ, i64_w, i32_w]
             rfl
            exact norm_ (by simp only [putAll, Act.put, List.setIfInBounds_toArray, List.set_cons_zero, List.set_cons_succ]) (hCont (.slice Ao17 y333.length co17, v337, v340) _ ⟨hHeld, (by (with_reducible repeat (first | apply Kd.R_alloc | apply Kd.R_drewN | apply Kd.R_drew)); exact Kd.R_mono HO335.out (fun _ hk => ⟨hk.1.2, ⟨hk.2, hk.1.1⟩⟩)), (by (with_reducible repeat (first | apply Kd.R_alloc | apply Kd.R_drewN | apply Kd.R_drew)); exact Kd.R_mono HO338.out (fun _ hk => ⟨hk.1.2, ⟨hk.2, hk.1.1⟩⟩)), (by (with_reducible repeat (first | apply Kd.R_alloc | apply Kd.R_drewN | apply Kd.R_drew)); exact Kd.R_mono HO341.out (fun _ hk => ⟨hk.1.2, ⟨hk.2, hk.1.1.2⟩⟩)), (by (with_reducible repeat (first | apply Kd.R_alloc | apply Kd.R_drewN | apply Kd.R_drew)); exact Kd.R_mono HO_4.out (fun _ hk => ⟨hk.1.1, ⟨hk.1.2, hk.2⟩⟩)), (by (with_reducible repeat (first | refine blk_drewN ?_ _ | refine blk_drew ?_ | refine blk_alloc ?_ _)); exact BK332.out), (by repeat (first | (with_reducible first | exact HB.out | apply below_alloc | apply pw_below_drewN | apply below_drew1 | refine below_set ?_ GE332.out) | exact HB.out))⟩)
           ·skip
            refine Kd.R_lit_step (Kd.int .i64) _ 3 ?hg (N := 24) ?hd (xs := ([(rd_T72 l0 x12_1).f1] : List Int)) (inner := [.int .i64 ((rd_T72 l0 x12_1).f1)]) (ok := fun _ => True) (okp := fun _ => True) ?hr ?hp (fun _ hk => hk) trivial (Below.refl _ _) (Nat.le_refl _) (by simp) ?_; (case hd => rfl); (case hg => rfl); (case hr => first | (go_simp; done) | (go_simp; rfl)); (case hp => exact (Reps.one (show Kd.M (Kd.int .i64) _ _ _ ((rd_T72 l0 x12_1).f1) [.int .i64 ((rd_T72 l0 x12_1).f1)] from rfl) (Reps.none _ _)))
            intro v340 w16 ho17 hb hg_ hnew_
            clear hg_ hnew_
            (first | rw [← Ny339.out] at ho17 | (simp only [Int.reduceToNat] at ho17; rw [← Ny339.out] at ho17))
            have n0_ := Aside0.mk (Kd.R_elder' (by (with_reducible repeat (first | apply Kd.R_alloc | apply Kd.R_drewN | apply Kd.R_drew)); exact HO_3.out) (Kd.R_base ho17) hb)
            have n1_ := Aside0.mk (Kd.R_elder' (by (with_reducible repeat (first | apply Kd.R_alloc | apply Kd.R_drewN | apply Kd.R_drew)); exact HO_4.out) (Kd.R_base ho17) hb)
            have n2_ := Aside0.mk (Kd.R_elder' (by (with_reducible repeat (first | apply Kd.R_alloc | apply Kd.R_drewN | apply Kd.R_drew)); exact HO335.out) (Kd.R_base ho17) hb)
            have n3_ := Aside0.mk (Kd.R_lower (Kd.R_new' (Kd.R_new' (Kd.R_new' ho17 (Kd.R_lt (by (with_reducible repeat (first | apply Kd.R_alloc | apply Kd.R_drewN | apply Kd.R_drew)); exact HO_3.out))) (Kd.R_lt (by (with_reducible repeat (first | apply Kd.R_alloc | apply Kd.R_drewN | apply Kd.R_drew)); exact HO_4.out))) (Kd.R_lt (by (with_reducible repeat (first | apply Kd.R_alloc | apply Kd.R_drewN | apply Kd.R_drew)); exact HO335.out))) (below_size (by repeat (first | (with_reducible first | exact HB.out | apply below_alloc | apply pw_below_drewN | apply below_drew1 | refine below_set ?_ GE332.out) | exact HB.out))))
            have n4_ := Aside0.mk (blk_below (g := gb332) (o := .cells #[.int .i64 ((rd_T72 l0 x12_1).f0), .int .i64 ((rd_T72 l0 x12_1).f1)] 72 (0, 0)) (by (with_reducible repeat (first | refine blk_drewN ?_ _ | refine blk_drew ?_ | refine blk_alloc ?_ _)); exact BK332.out) hb)
            have n5_ := Aside0.mk (below_step (by repeat (first | (with_reducible first | exact HB.out | apply below_alloc | apply pw_below_drewN | apply below_drew1 | refine below_set ?_ GE332.out) | exact HB.out)) hb)
            clear HO_3
            clear HO_4
            clear HO335
            clear BK332
            clear HB
            have HO_3 := n0_
            have HO_4 := n1_
            have HO335 := n2_
            have HO341 := n3_
            have BK332 := n4_
            have HB := n5_
            clear n0_ n1_ n2_ n3_ n4_ n5_
            clear hb ho17
            obtain ⟨Ao19, co19, eo19⟩ := Kd.R_slice HO335.out
            (first | subst eo19 | (injection eo19 with f1_ f2_ f3_; have f4_ := f1_.symm; have f5_ := f3_.symm; clear f1_ f2_ f3_; subst f4_; subst f5_))
            refine hK.out _ _ ⟨(blk_cell BK332.out 0).trans rfl, (blk_cell BK332.out 1).trans rfl⟩ (fun hHeld => ?_)
            clear hK K
            refine norm_ (a' := ?_) ?_ ?_
            rotate_left
            ·show Act.put _ (some 24) _ = _
             simp only [Act.put, List.setIfInBounds_toArray, List.set_cons_zero, List.set_cons_succ, i64_w, i32_w]
             rfl
            refine one_ (i := 4) (N := some 20) #[true, true, true, true, true, true, true, true, true, false, false, false] rfl rfl (one_of HT_.out (by kernel_rfl)) (by decide) (fun K hK => ?_)
            refine Kd.R_append_rows_step (Kd.int .i64) (w0 := w) w.heap.size (by rfl) (.tmp 16) (.tmp 19) 22 3 (.int .i64 0) 8 rfl Try.underlying22 info3 rfl (by decide) (by omega) (.slice Ao10 x3_1.length co10) x3_1 y333 _ _ _ (fun k_ => some k_ ≠ (.slice Ao11 x4_1.length co11 : Value).ownBlock ∧ some k_ ≠ (.slice Ao19 y333.length co19 : Value).ownBlock ∧ some k_ ≠ (v340 : Value).ownBlock) (fun _ => False) rfl rfl ?aO ?aR (fun _ _ h => h) (fun _ h => h.elim) ?aF ?aB ?aS ?aL ?_
            (case aR => repeat (first | exact (Kd.R_reads' HO335.out).2.2 | (with_reducible refine Kd.C_alloc ?_ _) | (with_reducible refine Kd.C_drewN ?_ _) | (with_reducible refine Kd.C_drew ?_)))
            (case aB => exact (by repeat (first | (with_reducible first | exact HB.out | apply below_alloc | apply pw_below_drewN | apply below_drew1 | refine below_set ?_ GE332.out) | exact HB.out)))
            (case aF => exact (fun k_ hk => ⟨Kd.fresh' (Kd.R_lt (by (with_reducible repeat (first | apply Kd.R_alloc | apply Kd.R_drewN | apply Kd.R_drew)); exact HO_4.out)) k_ hk, Kd.fresh' (Kd.R_lt (by (with_reducible repeat (first | apply Kd.R_alloc | apply Kd.R_drewN | apply Kd.R_drew)); exact HO335.out)) k_ hk, Kd.fresh' (Kd.R_lt (by (with_reducible repeat (first | apply Kd.R_alloc | apply Kd.R_drewN | apply Kd.R_drew)); exact HO341.out)) k_ hk⟩))
            (case aO => exact (by (with_reducible repeat (first | apply Kd.R_alloc | apply Kd.R_drewN | apply Kd.R_drew)); exact Kd.R_mono HO_3.out (fun _ hk => ⟨hk.1.1, ⟨hk.1.2, hk.2⟩⟩)))
            (case aS => exact (below_size (by repeat (first | (with_reducible first | exact HB.out | apply below_alloc | apply pw_below_drewN | apply below_drew1 | refine below_set ?_ GE332.out) | exact HB.out))))
            (case aL => have := LMc6.out; omega)
            intro v337 w18 ho hb hg hat
            rw [← Ny336.out] at ho
            have n0_ := Aside0.mk (Kd.R_after (ok := (fun k_ => some k_ ≠ (.slice Ao19 y333.length co19 : Value).ownBlock ∧ some k_ ≠ (v340 : Value).ownBlock)) (by (with_reducible repeat (first | apply Kd.R_alloc | apply Kd.R_drewN | apply Kd.R_drew)); exact Kd.R_mono HO_4.out (fun _ hk => ⟨⟨hk.1.2, hk.2⟩, hk.1.1⟩)) hg hat)
            have n1_ := Aside0.mk (blk_grown (g := gb332) (o := .cells #[.int .i64 ((rd_T72 l0 x12_1).f0), .int .i64 ((rd_T72 l0 x12_1).f1)] 72 (0, 0)) (by (with_reducible repeat (first | refine blk_drewN ?_ _ | refine blk_drew ?_ | refine blk_alloc ?_ _)); exact BK332.out) hg (Kd.R_ne HO_3.out BK332.out (by decide)))
            have n2_ := Aside0.mk (Kd.R_after (ok := (fun k_ => some k_ ≠ (.slice Ao11 x4_1.length co11 : Value).ownBlock ∧ some k_ ≠ (v340 : Value).ownBlock)) (by (with_reducible repeat (first | apply Kd.R_alloc | apply Kd.R_drewN | apply Kd.R_drew)); exact Kd.R_mono HO335.out (fun _ hk => ⟨⟨hk.1.2, hk.2⟩, hk.1.1.2⟩)) hg hat)
            have n3_ := Aside0.mk (Kd.R_after (ok := (fun k_ => some k_ ≠ (.slice Ao11 x4_1.length co11 : Value).ownBlock ∧ some k_ ≠ (.slice Ao19 y333.length co19 : Value).ownBlock)) (by (with_reducible repeat (first | apply Kd.R_alloc | apply Kd.R_drewN | apply Kd.R_drew)); exact Kd.R_mono HO341.out (fun _ hk => ⟨⟨hk.1.2, hk.2⟩, hk.1.1.2⟩)) hg hat)
            have n4_ := Aside0.mk (hb)
            have n5_ := Aside0.mk (ho)
            clear HO_4
            clear BK332
            clear HO335
            clear HO341
            clear HB
            clear HO_3
            have HO_4 := n0_
            have BK332 := n1_
            have HO335 := n2_
            have HO341 := n3_
            have HB := n4_
            have HO338 := n5_
            clear n0_ n1_ n2_ n3_ n4_ n5_
            clear ho hb hg hat
            refine hK.out _ _ ⟨(blk_cell BK332.out 0).trans rfl, (blk_cell BK332.out 1).trans rfl⟩ (fun hHeld => ?_)
            clear hK K
            refine norm_ (a' := ?_) ?_ ?_
            rotate_left
            ·show Act.put _ (some 20) _ = _
             simp only [Act.put, List.setIfInBounds_toArray, List.set_cons_zero, List.set_cons_succ, i64_w, i32_w]
             rfl
            exact norm_ (by simp only [putAll, Act.put, List.setIfInBounds_toArray, List.set_cons_zero, List.set_cons_succ]) (hCont (.slice Ao19 y333.length co19, v337, v340) _ ⟨hHeld, (by (with_reducible repeat (first | apply Kd.R_alloc | apply Kd.R_drewN | apply Kd.R_drew)); exact Kd.R_mono HO335.out (fun _ hk => ⟨hk.2, ⟨hk.1.2, hk.1.1⟩⟩)), (by (with_reducible repeat (first | apply Kd.R_alloc | apply Kd.R_drewN | apply Kd.R_drew)); exact Kd.R_mono HO338.out (fun _ hk => ⟨hk.2.1, ⟨hk.2.2, hk.1⟩⟩)), (by (with_reducible repeat (first | apply Kd.R_alloc | apply Kd.R_drewN | apply Kd.R_drew)); exact Kd.R_mono HO341.out (fun _ hk => ⟨hk.1.2, ⟨hk.2, hk.1.1⟩⟩)), (by (with_reducible repeat (first | apply Kd.R_alloc | apply Kd.R_drewN | apply Kd.R_drew)); exact Kd.R_mono HO_4.out (fun _ hk => ⟨hk.1.1, ⟨hk.2, hk.1.2⟩⟩)), (by (with_reducible repeat (first | refine blk_drewN ?_ _ | refine blk_drew ?_ | refine blk_alloc ?_ _)); exact BK332.out), (by repeat (first | (with_reducible first | exact HB.out | apply below_alloc | apply pw_below_drewN | apply below_drew1 | refine below_set ?_ GE332.out) | exact HB.out))⟩)
          ·skip
           refine Kd.R_lit_step (Kd.int .i64) _ 3 ?hg (N := 24) ?hd (xs := ([(rd_T72 l0 x12_1).f1] : List Int)) (inner := [.int .i64 ((rd_T72 l0 x12_1).f1)]) (ok := fun _ => True) (okp := fun _ => True) ?hr ?hp (fun _ hk => hk) trivial (Below.refl _ _) (Nat.le_refl _) (by simp) ?_; (case hd => rfl); (case hg => rfl); (case hr => first | (go_simp; done) | (go_simp; rfl)); (case hp => exact (Reps.one (show Kd.M (Kd.int .i64) _ _ _ ((rd_T72 l0 x12_1).f1) [.int .i64 ((rd_T72 l0 x12_1).f1)] from rfl) (Reps.none _ _)))
           intro v340 w14 ho15 hb hg_ hnew_
           clear hg_ hnew_
           (first | rw [← Ny339.out] at ho15 | (simp only [Int.reduceToNat] at ho15; rw [← Ny339.out] at ho15))
           have n0_ := Aside0.mk (Kd.R_elder' (by (with_reducible repeat (first | apply Kd.R_alloc | apply Kd.R_drewN | apply Kd.R_drew)); exact HO_3.out) (Kd.R_base ho15) hb)
           have n1_ := Aside0.mk (Kd.R_elder' (by (with_reducible repeat (first | apply Kd.R_alloc | apply Kd.R_drewN | apply Kd.R_drew)); exact HO_4.out) (Kd.R_base ho15) hb)
           have n2_ := Aside0.mk (Kd.R_lower (Kd.R_new' (Kd.R_new' ho15 (Kd.R_lt (by (with_reducible repeat (first | apply Kd.R_alloc | apply Kd.R_drewN | apply Kd.R_drew)); exact HO_3.out))) (Kd.R_lt (by (with_reducible repeat (first | apply Kd.R_alloc | apply Kd.R_drewN | apply Kd.R_drew)); exact HO_4.out))) (below_size (by repeat (first | (with_reducible first | exact HB.out | apply below_alloc | apply pw_below_drewN | apply below_drew1 | refine below_set ?_ GE332.out) | exact HB.out))))
           have n3_ := Aside0.mk (blk_below (g := gb332) (o := .cells #[.int .i64 ((rd_T72 l0 x12_1).f0), .int .i64 ((rd_T72 l0 x12_1).f1)] 72 (0, 0)) (by (with_reducible repeat (first | refine blk_drewN ?_ _ | refine blk_drew ?_ | refine blk_alloc ?_ _)); exact BK332.out) hb)
           have n4_ := Aside0.mk (below_step (by repeat (first | (with_reducible first | exact HB.out | apply below_alloc | apply pw_below_drewN | apply below_drew1 | refine below_set ?_ GE332.out) | exact HB.out)) hb)
           clear HO_3
           clear HO_4
           clear BK332
           clear HB
           have HO_3 := n0_
           have HO_4 := n1_
           have HO341 := n2_
           have BK332 := n3_
           have HB := n4_
           clear n0_ n1_ n2_ n3_ n4_
           clear hb ho15
           refine hK.out _ _ ⟨(blk_cell BK332.out 0).trans rfl, (blk_cell BK332.out 1).trans rfl⟩ (fun hHeld => ?_)
           clear hK K
           refine norm_ (a' := ?_) ?_ ?_
           rotate_left
           ·show Act.put _ (some 24) _ = _
            simp only [Act.put, List.setIfInBounds_toArray, List.set_cons_zero, List.set_cons_succ, i64_w, i32_w]
            rfl
           refine one_ (i := 3) (N := some 19) #[true, true, true, true, false, true, true, true, true, false, false, false] rfl rfl (one_of HT_.out (by kernel_rfl)) (by decide) (fun K hK => ?_)
           refine Kd.R_lit_step (Kd.int .i64) _ 3 ?hg (N := 19) ?hd (xs := ([(rd_T72 l0 x12_1).f0] : List Int)) (inner := [.int .i64 ((rd_T72 l0 x12_1).f0)]) (ok := fun _ => True) (okp := fun _ => True) ?hr ?hp (fun _ hk => hk) trivial (Below.refl _ _) (Nat.le_refl _) (by simp) ?_; (case hd => rfl); (case hg => rfl); (case hr => first | (go_simp; done) | (go_simp; rfl)); (case hp => exact (Reps.one (show Kd.M (Kd.int .i64) _ _ _ ((rd_T72 l0 x12_1).f0) [.int .i64 ((rd_T72 l0 x12_1).f0)] from rfl) (Reps.none _ _)))
           intro v334 w16 ho17 hb hg_ hnew_
           clear hg_ hnew_
           (first | rw [← Ny333.out] at ho17 | (simp only [Int.reduceToNat] at ho17; rw [← Ny333.out] at ho17))
           have n0_ := Aside0.mk (Kd.R_elder' (by (with_reducible repeat (first | apply Kd.R_alloc | apply Kd.R_drewN | apply Kd.R_drew)); exact HO_3.out) (Kd.R_base ho17) hb)
           have n1_ := Aside0.mk (Kd.R_elder' (by (with_reducible repeat (first | apply Kd.R_alloc | apply Kd.R_drewN | apply Kd.R_drew)); exact HO_4.out) (Kd.R_base ho17) hb)
           have n2_ := Aside0.mk (Kd.R_elder' (by (with_reducible repeat (first | apply Kd.R_alloc | apply Kd.R_drewN | apply Kd.R_drew)); exact HO341.out) (Kd.R_base ho17) hb)
           have n3_ := Aside0.mk (Kd.R_lower (Kd.R_new' (Kd.R_new' (Kd.R_new' ho17 (Kd.R_lt (by (with_reducible repeat (first | apply Kd.R_alloc | apply Kd.R_drewN | apply Kd.R_drew)); exact HO_3.out))) (Kd.R_lt (by (with_reducible repeat (first | apply Kd.R_alloc | apply Kd.R_drewN | apply Kd.R_drew)); exact HO_4.out))) (Kd.R_lt (by (with_reducible repeat (first | apply Kd.R_alloc | apply Kd.R_drewN | apply Kd.R_drew)); exact HO341.out))) (below_size (by repeat (first | (with_reducible first | exact HB.out | apply below_alloc | apply pw_below_drewN | apply below_drew1 | refine below_set ?_ GE332.out) | exact HB.out))))
           have n4_ := Aside0.mk (blk_below (g := gb332) (o := .cells #[.int .i64 ((rd_T72 l0 x12_1).f0), .int .i64 ((rd_T72 l0 x12_1).f1)] 72 (0, 0)) (by (with_reducible repeat (first | refine blk_drewN ?_ _ | refine blk_drew ?_ | refine blk_alloc ?_ _)); exact BK332.out) hb)
           have n5_ := Aside0.mk (below_step (by repeat (first | (with_reducible first | exact HB.out | apply below_alloc | apply pw_below_drewN | apply below_drew1 | refine below_set ?_ GE332.out) | exact HB.out)) hb)
           clear HO_3
           clear HO_4
           clear HO341
           clear BK332
           clear HB
           have HO_3 := n0_
           have HO_4 := n1_
           have HO341 := n2_
           have HO335 := n3_
           have BK332 := n4_
           have HB := n5_
           clear n0_ n1_ n2_ n3_ n4_ n5_
           clear hb ho17
           obtain ⟨Ao19, co19, eo19⟩ := Kd.R_slice HO335.out
           (first | subst eo19 | (injection eo19 with f1_ f2_ f3_; have f4_ := f1_.symm; have f5_ := f3_.symm; clear f1_ f2_ f3_; subst f4_; subst f5_))
           refine hK.out _ _ ⟨(blk_cell BK332.out 0).trans rfl, (blk_cell BK332.out 1).trans rfl⟩ (fun hHeld => ?_)
           clear hK K
           refine norm_ (a' := ?_) ?_ ?_
           rotate_left
           ·show Act.put _ (some 19) _ = _
            simp only [Act.put, List.setIfInBounds_toArray, List.set_cons_zero, List.set_cons_succ, i64_w, i32_w]
            rfl
           refine one_ (i := 4) (N := some 20) #[true, true, true, true, true, true, true, true, true, false, false, false] rfl rfl (one_of HT_.out (by kernel_rfl)) (by decide) (fun K hK => ?_)
           refine Kd.R_append_rows_step (Kd.int .i64) (w0 := w) w.heap.size (by rfl) (.tmp 16) (.tmp 19) 22 3 (.int .i64 0) 8 rfl Try.underlying22 info3 rfl (by decide) (by omega) (.slice Ao10 x3_1.length co10) x3_1 y333 _ _ _ (fun k_ => some k_ ≠ (.slice Ao11 x4_1.length co11 : Value).ownBlock ∧ some k_ ≠ (v340 : Value).ownBlock ∧ some k_ ≠ (.slice Ao19 y333.length co19 : Value).ownBlock) (fun _ => False) rfl rfl ?aO ?aR (fun _ _ h => h) (fun _ h => h.elim) ?aF ?aB ?aS ?aL ?_
           (case aR => repeat (first | exact (Kd.R_reads' HO335.out).2.2 | (with_reducible refine Kd.C_alloc ?_ _) | (with_reducible refine Kd.C_drewN ?_ _) | (with_reducible refine Kd.C_drew ?_)))
           (case aB => exact (by repeat (first | (with_reducible first | exact HB.out | apply below_alloc | apply pw_below_drewN | apply below_drew1 | refine below_set ?_ GE332.out) | exact HB.out)))
           (case aF => exact (fun k_ hk => ⟨Kd.fresh' (Kd.R_lt (by (with_reducible repeat (first | apply Kd.R_alloc | apply Kd.R_drewN | apply Kd.R_drew)); exact HO_4.out)) k_ hk, Kd.fresh' (Kd.R_lt (by (with_reducible repeat (first | apply Kd.R_alloc | apply Kd.R_drewN | apply Kd.R_drew)); exact HO341.out)) k_ hk, Kd.fresh' (Kd.R_lt (by (with_reducible repeat (first | apply Kd.R_alloc | apply Kd.R_drewN | apply Kd.R_drew)); exact HO335.out)) k_ hk⟩))
           (case aO => exact (by (with_reducible repeat (first | apply Kd.R_alloc | apply Kd.R_drewN | apply Kd.R_drew)); exact Kd.R_mono HO_3.out (fun _ hk => ⟨hk.1.1, ⟨hk.1.2, hk.2⟩⟩)))
           (case aS => exact (below_size (by repeat (first | (with_reducible first | exact HB.out | apply below_alloc | apply pw_below_drewN | apply below_drew1 | refine below_set ?_ GE332.out) | exact HB.out))))
           (case aL => have := LMc6.out; omega)
           intro v337 w18 ho hb hg hat
           rw [← Ny336.out] at ho
           have n0_ := Aside0.mk (Kd.R_after (ok := (fun k_ => some k_ ≠ (v340 : Value).ownBlock ∧ some k_ ≠ (.slice Ao19 y333.length co19 : Value).ownBlock)) (by (with_reducible repeat (first | apply Kd.R_alloc | apply Kd.R_drewN | apply Kd.R_drew)); exact Kd.R_mono HO_4.out (fun _ hk => ⟨⟨hk.1.2, hk.2⟩, hk.1.1⟩)) hg hat)
           have n1_ := Aside0.mk (blk_grown (g := gb332) (o := .cells #[.int .i64 ((rd_T72 l0 x12_1).f0), .int .i64 ((rd_T72 l0 x12_1).f1)] 72 (0, 0)) (by (with_reducible repeat (first | refine blk_drewN ?_ _ | refine blk_drew ?_ | refine blk_alloc ?_ _)); exact BK332.out) hg (Kd.R_ne HO_3.out BK332.out (by decide)))
           have n2_ := Aside0.mk (Kd.R_after (ok := (fun k_ => some k_ ≠ (.slice Ao11 x4_1.length co11 : Value).ownBlock ∧ some k_ ≠ (.slice Ao19 y333.length co19 : Value).ownBlock)) (by (with_reducible repeat (first | apply Kd.R_alloc | apply Kd.R_drewN | apply Kd.R_drew)); exact Kd.R_mono HO341.out (fun _ hk => ⟨⟨hk.1.2, hk.2⟩, hk.1.1.2⟩)) hg hat)
           have n3_ := Aside0.mk (Kd.R_after (ok := (fun k_ => some k_ ≠ (.slice Ao11 x4_1.length co11 : Value).ownBlock ∧ some k_ ≠ (v340 : Value).ownBlock)) (by (with_reducible repeat (first | apply Kd.R_alloc | apply Kd.R_drewN | apply Kd.R_drew)); exact Kd.R_mono HO335.out (fun _ hk => ⟨⟨hk.1.2, hk.2⟩, hk.1.1.2⟩)) hg hat)
           have n4_ := Aside0.mk (hb)
           have n5_ := Aside0.mk (ho)
           clear HO_4
           clear BK332
           clear HO341
           clear HO335
           clear HB
           clear HO_3
           have HO_4 := n0_
           have BK332 := n1_
           have HO341 := n2_
           have HO335 := n3_
           have HB := n4_
           have HO338 := n5_
           clear n0_ n1_ n2_ n3_ n4_ n5_
           clear ho hb hg hat
           refine hK.out _ _ ⟨(blk_cell BK332.out 0).trans rfl, (blk_cell BK332.out 1).trans rfl⟩ (fun hHeld => ?_)
           clear hK K
           refine norm_ (a' := ?_) ?_ ?_
           rotate_left
           ·show Act.put _ (some 20) _ = _
            simp only [Act.put, List.setIfInBounds_toArray, List.set_cons_zero, List.set_cons_succ, i64_w, i32_w]
            rfl
           exact norm_ (by simp only [putAll, Act.put, List.setIfInBounds_toArray, List.set_cons_zero, List.set_cons_succ]) (hCont (.slice Ao19 y333.length co19, v337, v340) _ ⟨hHeld, (by (with_reducible repeat (first | apply Kd.R_alloc | apply Kd.R_drewN | apply Kd.R_drew)); exact Kd.R_mono HO335.out (fun _ hk => ⟨hk.2, ⟨hk.1.2, hk.1.1⟩⟩)), (by (with_reducible repeat (first | apply Kd.R_alloc | apply Kd.R_drewN | apply Kd.R_drew)); exact Kd.R_mono HO338.out (fun _ hk => ⟨hk.2.2, ⟨hk.2.1, hk.1⟩⟩)), (by (with_reducible repeat (first | apply Kd.R_alloc | apply Kd.R_drewN | apply Kd.R_drew)); exact Kd.R_mono HO341.out (fun _ hk => ⟨hk.1.2, ⟨hk.2, hk.1.1⟩⟩)), (by (with_reducible repeat (first | apply Kd.R_alloc | apply Kd.R_drewN | apply Kd.R_drew)); exact Kd.R_mono HO_4.out (fun _ hk => ⟨hk.1.2, ⟨hk.2, hk.1.1⟩⟩)), (by (with_reducible repeat (first | refine blk_drewN ?_ _ | refine blk_drew ?_ | refine blk_alloc ?_ _)); exact BK332.out), (by repeat (first | (with_reducible first | exact HB.out | apply below_alloc | apply pw_below_drewN | apply below_drew1 | refine below_set ?_ GE332.out) | exact HB.out))⟩)
         rintro ⟨v334, v337, v340⟩ w20 ⟨hS_, h0_, h1_, h2_, h3_, h4_, h5_⟩
         have n0_ : Aside0 (Kd.R (Kd.int .i64) 3 w20 w.heap.size (fun k_ => some k_ ≠ (v337 : Value).ownBlock ∧ some k_ ≠ (v340 : Value).ownBlock ∧ some k_ ≠ (.slice Ao11 x4_1.length co11 : Value).ownBlock) v334 y333) := ⟨h0_⟩
         have n1_ : Aside0 (Kd.R (Kd.int .i64) 3 w20 w.heap.size (fun k_ => some k_ ≠ (v334 : Value).ownBlock ∧ some k_ ≠ (v340 : Value).ownBlock ∧ some k_ ≠ (.slice Ao11 x4_1.length co11 : Value).ownBlock) v337 y336) := ⟨h1_⟩
         have n2_ : Aside0 (Kd.R (Kd.int .i64) 3 w20 w.heap.size (fun k_ => some k_ ≠ (v334 : Value).ownBlock ∧ some k_ ≠ (v337 : Value).ownBlock ∧ some k_ ≠ (.slice Ao11 x4_1.length co11 : Value).ownBlock) v340 y339) := ⟨h2_⟩
         have n3_ : Aside0 (Kd.R (Kd.int .i64) 3 w20 w.heap.size (fun k_ => some k_ ≠ (v334 : Value).ownBlock ∧ some k_ ≠ (v337 : Value).ownBlock ∧ some k_ ≠ (v340 : Value).ownBlock) (.slice Ao11 x4_1.length co11) x4_1) := ⟨h3_⟩
         have n4_ : Aside0 (w20.heap[gb332]? = some (.cells #[.int .i64 ((rd_T72 l0 x12_1).f0), .int .i64 ((rd_T72 l0 x12_1).f1)] 72 (0, 0))) := ⟨h4_⟩
         have n5_ : Aside0 (Below w.heap.size w w20) := ⟨h5_⟩
         clear HO_3
         clear HO_4
         clear BK332
         clear HB
         clear h0_ h1_ h2_ h3_ h4_ h5_
         have HO335 := n0_
         have HO338 := n1_
         have HO341 := n2_
         have HO_4 := n3_
         have BK332 := n4_
         have HB := n5_
         clear n0_ n1_ n2_ n3_ n4_ n5_
         have hHeld : w20.cell? ⟨gb332, 0, none⟩ = some (.int .i64 ((rd_T72 l0 x12_1).f0)) ∧ w20.cell? ⟨gb332, 1, none⟩ = some (.int .i64 ((rd_T72 l0 x12_1).f1)) := hS_
         obtain ⟨Ao22, co22, eo22⟩ := Kd.R_slice HO341.out
         (first | subst eo22 | (injection eo22 with f1_ f2_ f3_; have f4_ := f1_.symm; have f5_ := f3_.symm; clear f1_ f2_ f3_; subst f4_; subst f5_))
         refine norm_ (a' := ?_) ?_ ?_
         rotate_left
         ·simp only [putAll, Act.put, List.setIfInBounds_toArray, List.set_cons_zero, List.set_cons_succ]
          rfl
         refine one_ (i := 9) (N := some 25) #[true, true, true, true, true, true, true, true, true, true, false, false] rfl rfl (one_of HT_.out (by kernel_rfl)) (by decide) (fun K hK => ?_)
         refine Kd.R_append_rows_step (Kd.int .i64) (w0 := w) w.heap.size (by rfl) (.tmp 21) (.tmp 24) 22 3 (.int .i64 0) 8 rfl Try.underlying22 info3 rfl (by decide) (by omega) (.slice Ao11 x4_1.length co11) x4_1 y339 _ _ _ (fun k_ => some k_ ≠ (v334 : Value).ownBlock ∧ some k_ ≠ (v337 : Value).ownBlock ∧ some k_ ≠ (.slice Ao22 y339.length co22 : Value).ownBlock) (fun _ => False) rfl rfl ?aO ?aR (fun _ _ h => h) (fun _ h => h.elim) ?aF ?aB ?aS ?aL ?_
         (case aR => repeat (first | exact (Kd.R_reads' HO341.out).2.2 | (with_reducible refine Kd.C_alloc ?_ _) | (with_reducible refine Kd.C_drewN ?_ _) | (with_reducible refine Kd.C_drew ?_)))
         (case aB => exact (by repeat (first | (with_reducible first | exact HB.out | apply below_alloc | apply pw_below_drewN | apply below_drew1 | refine below_set ?_ GE332.out) | exact HB.out)))
         (case aF => exact (fun k_ hk => ⟨Kd.fresh' (Kd.R_lt (by (with_reducible repeat (first | apply Kd.R_alloc | apply Kd.R_drewN | apply Kd.R_drew)); exact HO335.out)) k_ hk, Kd.fresh' (Kd.R_lt (by (with_reducible repeat (first | apply Kd.R_alloc | apply Kd.R_drewN | apply Kd.R_drew)); exact HO338.out)) k_ hk, Kd.fresh' (Kd.R_lt (by (with_reducible repeat (first | apply Kd.R_alloc | apply Kd.R_drewN | apply Kd.R_drew)); exact HO341.out)) k_ hk⟩))
         (case aO => exact (by (with_reducible repeat (first | apply Kd.R_alloc | apply Kd.R_drewN | apply Kd.R_drew)); exact HO_4.out))
         (case aS => exact (below_size (by repeat (first | (with_reducible first | exact HB.out | apply below_alloc | apply pw_below_drewN | apply below_drew1 | refine below_set ?_ GE332.out) | exact HB.out))))
         (case aL => have := LMc7.out; omega)
         intro v343 w21 ho hb hg hat
         rw [← Ny342.out] at ho
         have n0_ := Aside0.mk (blk_grown (g := gb332) (o := .cells #[.int .i64 ((rd_T72 l0 x12_1).f0), .int .i64 ((rd_T72 l0 x12_1).f1)] 72 (0, 0)) (by (with_reducible repeat (first | refine blk_drewN ?_ _ | refine blk_drew ?_ | refine blk_alloc ?_ _)); exact BK332.out) hg (Kd.R_ne HO_4.out BK332.out (by decide)))
         have n1_ := Aside0.mk (Kd.R_after (ok := (fun k_ => some k_ ≠ (v337 : Value).ownBlock ∧ some k_ ≠ (.slice Ao22 y339.length co22 : Value).ownBlock)) (by (with_reducible repeat (first | apply Kd.R_alloc | apply Kd.R_drewN | apply Kd.R_drew)); exact Kd.R_mono HO335.out (fun _ hk => ⟨⟨hk.1, hk.2.1⟩, hk.2.2⟩)) hg hat)
         have n2_ := Aside0.mk (Kd.R_after (ok := (fun k_ => some k_ ≠ (v334 : Value).ownBlock ∧ some k_ ≠ (.slice Ao22 y339.length co22 : Value).ownBlock)) (by (with_reducible repeat (first | apply Kd.R_alloc | apply Kd.R_drewN | apply Kd.R_drew)); exact Kd.R_mono HO338.out (fun _ hk => ⟨⟨hk.1, hk.2.1⟩, hk.2.2⟩)) hg hat)
         have n3_ := Aside0.mk (Kd.R_after (ok := (fun k_ => some k_ ≠ (v334 : Value).ownBlock ∧ some k_ ≠ (v337 : Value).ownBlock)) (by (with_reducible repeat (first | apply Kd.R_alloc | apply Kd.R_drewN | apply Kd.R_drew)); exact Kd.R_mono HO341.out (fun _ hk => ⟨⟨hk.1, hk.2.1⟩, hk.2.2⟩)) hg hat)
         have n4_ := Aside0.mk (hb)
         have n5_ := Aside0.mk (ho)
         clear BK332
         clear HO335
         clear HO338
         clear HO341
         clear HB
         clear HO_4
         have BK332 := n0_
         have HO335 := n1_
         have HO338 := n2_
         have HO341 := n3_
         have HB := n4_
         have HO344 := n5_
         clear n0_ n1_ n2_ n3_ n4_ n5_
         clear ho hb hg hat
         refine hK.out _ _ ⟨(blk_cell BK332.out 0).trans rfl, (blk_cell BK332.out 1).trans rfl⟩ (fun hHeld => ?_)
         clear hK K
         refine norm_ (a' := ?_) ?_ ?_
         rotate_left
         ·show Act.put _ (some 25) _ = _
          simp only [Act.put, List.setIfInBounds_toArray, List.set_cons_zero, List.set_cons_succ, i64_w, i32_w]
          rfl
         refine pure_ (i := 10) (N := some 3) (v := ?_) (a' := ?_) #[true, true, true, true, true, true, true, true, true, true, true, false] rfl rfl (any_of HT_.out (by kernel_rfl)) (fun _ _ _ h => h) (Or.inl ⟨by rfl, ?_⟩) ?_ ?_
         rotate_left
         ·intro w'
          go_simp
          with_reducible rfl
         rotate_left
         ·simp only [Act.put, List.setIfInBounds_toArray, List.set_cons_zero, List.set_cons_succ, i64_w, i32_w]
          rfl
         refine pure_ (i := 11) (N := some 4) (v := ?_) (a' := ?_) #[true, true, true, true, true, true, true, true, true, true, true, true] rfl rfl (any_of HT_.out (by kernel_rfl)) (fun _ _ _ h => h) (Or.inl ⟨by rfl, ?_⟩) ?_ ?_
         rotate_left
         ·intro w'
          go_simp
          with_reducible rfl
         rotate_left
         ·simp only [Act.put, List.setIfInBounds_toArray, List.set_cons_zero, List.set_cons_succ, i64_w, i32_w]
          rfl
         refine done_ (done_of HT_.out (by kernel_rfl)) ?_
         try go_wp2
         go_roundg k1
         case measure => have := HK1.out; omega
         case rel => exact ⟨(y336), (y342), (wrap64 (x12_1 + 1)), (by first | rfl | (simp; done) | (simp [*]; done)), H', ⟨by have := HK1.out; omega⟩, ⟨by (with_reducible repeat (first | apply Kd.R_alloc | apply Kd.R_drewN | apply Kd.R_drew)); exact Kd.R_mono HO338.out (fun _ hk => hk.2)⟩, ⟨by (with_reducible repeat (first | apply Kd.R_alloc | apply Kd.R_drewN | apply Kd.R_drew)); exact Kd.R_mono HO344.out (fun _ hk => hk.2.1)⟩, ⟨by repeat (first | (with_reducible first | exact HB.out | apply below_alloc | apply pw_below_drewN | apply below_drew1 | refine below_set ?_ GE332.out) | exact HB.out)⟩⟩
        ·rw [if_neg c7] at H
         exact absurd H (by simp)
       ·rw [if_neg c6] at H
        exact absurd H (by simp)
      ·rw [if_neg c5] at H
       exact absurd H (by simp)
     ·rw [if_neg c4] at H
      exact absurd H (by simp)
    ·rw [if_neg c3] at H
     have c3b0 : decide (x12_1 < (l0.length : Int)) = false := decide_eq_false c3
     clear c3
     replace H := Option.bind_eq_some_iff.mp H
     obtain ⟨t345, A230, H⟩ := H
     replace H : (if t345 = true then ((impl_differentBelow.f k1 x3_1 251).bind fun t346 => (if t346 = true then ((impl_allWithin.f k1 x4_1 0 250).bind fun t347 => (some t347)) else (some false))) else (some false)) = some r := H
     have A23 := Aside0.mk A230
     clear A230
     by_cases c24 : t345 = true
     ·subst c24
      have H1 : ((impl_differentBelow.f k1 x3_1 251).bind fun t346 => (if t346 = true then ((impl_allWithin.f k1 x4_1 0 250).bind fun t347 => (some t347)) else (some false))) = some r := by rw [if_pos rfl] at H; exact H
      clear H
      have H := H1
      clear H1
      replace H := Option.bind_eq_some_iff.mp H
      obtain ⟨t346, A250, H⟩ := H
      replace H : (if t346 = true then ((impl_allWithin.f k1 x4_1 0 250).bind fun t347 => (some t347)) else (some false)) = some r := H
      have A25 := Aside0.mk A250
      clear A250
      by_cases c26 : t346 = true
      ·subst c26
       have H1 : ((impl_allWithin.f k1 x4_1 0 250).bind fun t347 => (some t347)) = some r := by rw [if_pos rfl] at H; exact H
       clear H
       have H := H1
       clear H1
       replace H := Option.bind_eq_some_iff.mp H
       obtain ⟨t347, A270, H⟩ := H
       replace H : (some t347) = some r := H
       have A27 := Aside0.mk A270
       clear A270
       obtain rfl := Option.some.inj H
       obtain ⟨Ao28, co28, eo28⟩ := Kd.R_slice HO_3.out
       subst eo28
       go_wp2_with (first | ((with_reducible refine gate_callee (f := 67) rfl ?_); refine goesL_ (some 28) rfl rfl Try.func67 (by kernel_rfl) rfl #[.slice Ao28 x3_1.length co28, .int .i64 1, .int .i64 250] rfl (by (try simp only [List.map_toArray, List.map_cons, List.map_nil]); first | done | rfl | (simp only [List.length_drop, List.length_take]; rfl)) ?_; (with_reducible refine (impl_allWithin.calls k1 _ _ x3_1 1 250 true _ ?side1 ?side2 A23.out).mono ?_); (case side1 => repeat (first | exact (Kd.R_reads' HO_3.out).2.2 | (with_reducible refine Kd.C_alloc ?_ _) | (with_reducible refine Kd.C_drewN ?_ _) | (with_reducible refine Kd.C_drew ?_))); (case side2 => exact (Kd.R_reads' HO_3.out).2.1); rintro e w' ⟨rfl, ⟨nd, rfl⟩⟩; refine ⟨_, rfl, ?_⟩) | (go_at_call 65; (with_reducible refine (impl_differentBelow.calls k1 _ _ x3_1 251 true _ ?side1 ?side2 A25.out).mono ?_); (case side1 => repeat (first | exact (Kd.R_reads' HO_3.out).2.2 | (with_reducible refine Kd.C_alloc ?_ _) | (with_reducible refine Kd.C_drewN ?_ _) | (with_reducible refine Kd.C_drew ?_))); (case side2 => exact (Kd.R_reads' HO_3.out).2.1); rintro e w29 ⟨rfl, hb⟩; have n0_ := Aside0.mk (Kd.R_below (by (with_reducible repeat (first | apply Kd.R_alloc | apply Kd.R_drewN | apply Kd.R_drew)); exact HO_3.out) hb); have n1_ := Aside0.mk (Kd.R_below (by (with_reducible repeat (first | apply Kd.R_alloc | apply Kd.R_drewN | apply Kd.R_drew)); exact HO_4.out) hb); have n2_ := Aside0.mk (below_step (by repeat (first | (with_reducible first | exact HB.out | apply below_alloc | apply pw_below_drewN | apply below_drew1) | exact HB.out)) hb); clear HO_3; clear HO_4; clear HB; have HO_3 := n0_; have HO_4 := n1_; have HB := n2_; clear n0_ n1_ n2_; (try clear hb); (try clear hb2); (try clear hk); (try clear hi); obtain ⟨Ao30, co30, eo30⟩ := Kd.R_slice HO_4.out; subst eo30) | (go_at_call 67; (with_reducible refine (impl_allWithin.calls k1 _ _ x4_1 0 250 t347 _ ?side1 ?side2 A27.out).mono ?_); (case side1 => repeat (first | exact (Kd.R_reads' HO_4.out).2.2 | (with_reducible refine Kd.C_alloc ?_ _) | (with_reducible refine Kd.C_drewN ?_ _) | (with_reducible refine Kd.C_drew ?_))); (case side2 => exact (Kd.R_reads' HO_4.out).2.1); rintro e w' ⟨rfl, ⟨nd, rfl⟩⟩))
       go_ret
       exact ⟨by first | rfl | (simp [errW_none, errW_some] <;> rfl) | (simp [*, errW_none, errW_some] <;> rfl), by repeat (first | (with_reducible first | exact HB.out | apply below_alloc | apply pw_below_drewN | apply below_drew1) | exact HB.out)⟩
      ·replace c26 := Bool.eq_false_iff.mpr c26
       subst c26
       have H1 : (some false) = some r := by rw [if_neg (show ¬ (false = true) by decide)] at H; exact H
       clear H
       have H := H1
       clear H1
       obtain rfl := Option.some.inj H
       obtain ⟨Ao31, co31, eo31⟩ := Kd.R_slice HO_3.out
       subst eo31
       go_wp2_with (first | ((with_reducible refine gate_callee (f := 67) rfl ?_); refine goesL_ (some 28) rfl rfl Try.func67 (by kernel_rfl) rfl #[.slice Ao31 x3_1.length co31, .int .i64 1, .int .i64 250] rfl (by (try simp only [List.map_toArray, List.map_cons, List.map_nil]); first | done | rfl | (simp only [List.length_drop, List.length_take]; rfl)) ?_; (with_reducible refine (impl_allWithin.calls k1 _ _ x3_1 1 250 true _ ?side1 ?side2 A23.out).mono ?_); (case side1 => repeat (first | exact (Kd.R_reads' HO_3.out).2.2 | (with_reducible refine Kd.C_alloc ?_ _) | (with_reducible refine Kd.C_drewN ?_ _) | (with_reducible refine Kd.C_drew ?_))); (case side2 => exact (Kd.R_reads' HO_3.out).2.1); rintro e w' ⟨rfl, ⟨nd, rfl⟩⟩; refine ⟨_, rfl, ?_⟩) | (go_at_call 65; (with_reducible refine (impl_differentBelow.calls k1 _ _ x3_1 251 false _ ?side1 ?side2 A25.out).mono ?_); (case side1 => repeat (first | exact (Kd.R_reads' HO_3.out).2.2 | (with_reducible refine Kd.C_alloc ?_ _) | (with_reducible refine Kd.C_drewN ?_ _) | (with_reducible refine Kd.C_drew ?_))); (case side2 => exact (Kd.R_reads' HO_3.out).2.1); rintro e w32 ⟨rfl, hb⟩; have n0_ := Aside0.mk (Kd.R_below (by (with_reducible repeat (first | apply Kd.R_alloc | apply Kd.R_drewN | apply Kd.R_drew)); exact HO_3.out) hb); have n1_ := Aside0.mk (Kd.R_below (by (with_reducible repeat (first | apply Kd.R_alloc | apply Kd.R_drewN | apply Kd.R_drew)); exact HO_4.out) hb); have n2_ := Aside0.mk (below_step (by repeat (first | (with_reducible first | exact HB.out | apply below_alloc | apply pw_below_drewN | apply below_drew1) | exact HB.out)) hb); clear HO_3; clear HO_4; clear HB; have HO_3 := n0_; have HO_4 := n1_; have HB := n2_; clear n0_ n1_ n2_; (try clear hb); (try clear hb2); (try clear hk); (try clear hi)))
       go_ret
       exact ⟨by first | rfl | (simp [errW_none, errW_some] <;> rfl) | (simp [*, errW_none, errW_some] <;> rfl), by repeat (first | (with_reducible first | exact HB.out | apply below_alloc | apply pw_below_drewN | apply below_drew1) | exact HB.out)⟩
     ·replace c24 := Bool.eq_false_iff.mpr c24
      subst c24
      have H1 : (some false) = some r := by rw [if_neg (show ¬ (false = true) by decide)] at H; exact H
      clear H
      have H := H1
      clear H1
      obtain rfl := Option.some.inj H
      obtain ⟨Ao33, co33, eo33⟩ := Kd.R_slice HO_3.out
      subst eo33
      go_wp2_with (first | ((with_reducible refine gate_callee (f := 67) rfl ?_); refine goesL_ (some 28) rfl rfl Try.func67 (by kernel_rfl) rfl #[.slice Ao33 x3_1.length co33, .int .i64 1, .int .i64 250] rfl (by (try simp only [List.map_toArray, List.map_cons, List.map_nil]); first | done | rfl | (simp only [List.length_drop, List.length_take]; rfl)) ?_; (with_reducible refine (impl_allWithin.calls k1 _ _ x3_1 1 250 false _ ?side1 ?side2 A23.out).mono ?_); (case side1 => repeat (first | exact (Kd.R_reads' HO_3.out).2.2 | (with_reducible refine Kd.C_alloc ?_ _) | (with_reducible refine Kd.C_drewN ?_ _) | (with_reducible refine Kd.C_drew ?_))); (case side2 => exact (Kd.R_reads' HO_3.out).2.1); rintro e w' ⟨rfl, ⟨nd, rfl⟩⟩; refine ⟨_, rfl, ?_⟩))
      go_ret
      exact ⟨by first | rfl | (simp [errW_none, errW_some] <;> rfl) | (simp [*, errW_none, errW_some] <;> rfl), by repeat (first | (with_reducible first | exact HB.out | apply below_alloc | apply pw_below_drewN | apply below_drew1) | exact HB.out)⟩

/-! ### slices_Backward_int_int: function 84 -/
section
attribute [local go_sem] Oper.semAt_some
open Go.Shelf
def downs (zs : List Int) (k : Nat) : List (Int × Int) := (List.range k).map fun j : Nat => ((zs.length : Int) - 1 - (j : Int), rd zs ((zs.length : Int) - 1 - (j : Int)))
theorem downs_succ (zs : List Int) (k : Nat) : downs zs (k + 1) = downs zs k ++ [((zs.length : Int) - 1 - k, rd zs ((zs.length : Int) - 1 - k))] := by simp [downs, List.range_succ]
theorem downs_length (zs : List Int) (k : Nat) : (downs zs k).length = k := by simp [downs]
/-- The blocks that a range over a slice reads: the slice's box, the slice's own. -/
def BackReads (Bs : Nat) (A : Option Addr) (n : Nat) (k : Nat) : Prop := k = Bs ∨ (0 < n ∧ ∃ ad, A = some ad ∧ ad.block = k)
def BackKeeps (Bs : Nat) (A : Option Addr) (n : Nat) (X Y : World) : Prop := ∀ q : Addr, BackReads Bs A n q.block → Y.cell? q = X.cell? q
theorem at_intK {zs : List Int} {w W : World} {A : Option Addr} {Bs : Nat} (h : (Kd.int .i64).C w A zs.length zs) (hk : BackKeeps Bs A zs.length w W) (i : Int) (h0 : 0 ≤ i) (h1 : i < zs.length) : ∃ ad, A = some ad ∧ W.cell? (ad.add i.toNat) = some (.int .i64 (rd zs i)) := by
 obtain ⟨ad, e, hc⟩ := Kd.at_int h i h0 h1
 refine ⟨ad, e, (hk _ (.inr ⟨by omega, ad, e, ?_⟩)).trans hc⟩
 unfold Addr.add
 split <;> rfl
set_option maxRecDepth 100000 in
set_option maxHeartbeats 2000000 in
theorem back1_in (F : Fence) (n : Nat) (hf : F.fn 92) (hro : F.round = none) (hn : 1 ≤ n) (l Bs : Nat) (A : Option Addr) (c : Nat) (zs : List Int) (J Jx : List (Int × Int) → World → Prop)
  (hY : ∀ pre x W, J pre W → pre.length < zs.length → YieldAt F (n - 1) Try.prog l #[.int .i64 x.1, .int .i64 x.2] W fun e W' =>
   (e = .returned (.bool true) ∧ J (pre ++ [x]) W' ∧ BackKeeps Bs A zs.length W W') ∨ (e = .returned (.bool false) ∧ Jx (pre ++ [x]) W'))
  (W : World) (hBs : W.cell? ⟨Bs, 0, none⟩ = some (.slice A zs.length c)) (hC : (Kd.int .i64).C W A zs.length zs) (hmax : zs.length ≤ 9223372036854775807) (h0 : J [] W) :
  CallsIn F n Try.prog 92 #[.func (.yield l) #[] #[], .pointer (some ⟨Bs, 0, none⟩)] W fun e W' => (∃ v, e = .returned v) ∧
   ((∃ ys, ys = downs zs zs.length ∧ J ys W') ∨ (∃ pre, True ∧ Jx pre W')) := by
 have HC := Aside0.mk hC
 clear hC
 refine callsIn_of_wp Try.func92 rfl hf ?_ hro
 simp only [Try.ntmps92, List.size_toArray, List.length_cons, List.length_nil, Nat.reduceAdd, Nat.reduceSub, Array.replicate_succ, Array.replicate_zero, List.push_toArray, List.append_toArray, List.nil_append, List.cons_append]
 gi_wp2
 gi_loopw [3] (fun v wr => ∃ (k : Nat) (i : Int), v = .int .i64 i ∧ Aside0 (k ≤ zs.length ∧ i = (zs.length : Int) - 1 - k) ∧ J (downs zs k) wr ∧ Aside0 (BackKeeps Bs A zs.length W wr))
  (fun i _ => (intOf i + 1).toNat)
 case atStart => exact ⟨0, (zs.length : Int) - 1, by first | rfl | simp, ⟨by omega, by omega⟩, by simpa [downs] using h0, ⟨fun _ _ => rfl⟩⟩
 case round =>
  obtain ⟨k, i, rfl, HI, hJs, HK⟩ := hrel
  have hbx : wr.cell? ⟨Bs, 0, none⟩ = some (.slice A zs.length c) := (HK.out _ (.inl rfl)).trans hBs
  by_cases hlt : k < zs.length
  ·have g0 : 0 ≤ i := by have := HI.out; omega
   have g1 : i < (zs.length : Int) := by have := HI.out; omega
   obtain ⟨ad, e, hcx⟩ := at_intK HC.out HK.out i g0 g1
   subst e
   have hlt' := Aside0.mk hlt
   clear hlt
   have g0b : decide (0 ≤ i) = true := decide_eq_true g0
   have g1b : decide (i < (zs.length : Int)) = true := decide_eq_true g1
   obtain ⟨fn, tmps, assign, body, hy, hR⟩ := hY _ (i, rd zs i) wr hJs (by rw [downs_length]; exact hlt'.out)
   dsimp only at hy
   gi_wp2
   refine hR.mono ?_
   rintro e W3 (⟨rfl, hJ3, hk3⟩ | ⟨rfl, hJx3⟩)
   ·have HK3 := Aside0.mk hk3
    clear hk3
    gi_wp2
    go_roundw
    case rel => exact ⟨k + 1, i - 1, by first | rfl | simp, ⟨by have := hlt'.out; omega, by have := HI.out; omega⟩, by rw [downs_succ]; have := HI.out.2; rw [← this]; exact hJ3, ⟨fun q hq => (HK3.out q hq).trans (HK.out q hq)⟩⟩
    case measure => simp [intOf]; omega
   ·gi_wp2
    refine bodyPost_ret (results_none rfl _ _ _) rfl ?_
    exact ⟨⟨_, rfl⟩, .inr ⟨_, trivial, hJx3⟩⟩
  ·have g0 : i = -1 := by have := HI.out; omega
   have hkk : k = zs.length := by have := HI.out; omega
   subst g0
   subst hkk
   gi_wp2
   go_end0
   exact ⟨⟨_, rfl⟩, .inl ⟨_, rfl, hJs⟩⟩
theorem back_stops (F : Fence) (n : Nat) (hf : F.fn 92) (hro : F.round = none) (hn : 1 ≤ n) (Bs : Nat) (A : Option Addr) (c : Nat) (zs : List Int) (w : World) (hBs : w.cell? ⟨Bs, 0, none⟩ = some (.slice A zs.length c)) (hC : (Kd.int .i64).C w A zs.length zs) (hmax : zs.length ≤ 9223372036854775807) :
  SeqStopsK F n Try.prog 92 #[.pointer (some ⟨Bs, 0, none⟩)] (fun x : Int × Int => #[.int .i64 x.1, .int .i64 x.2]) (BackKeeps Bs A zs.length) (fun ys => ys = downs zs zs.length) (fun _ => True) zs.length w := fun l J Jx W hW _ _ hY h0 =>
 back1_in F n hf hro hn l Bs A c zs J Jx hY W ((hW.cell (p := ⟨Bs, 0, none⟩) (World.block_lt_of_cell? w _ hBs)).trans hBs) (Kd.C_below hC hW) hmax h0
theorem below_set2 {n : Nat} {w W : World} {p : Addr} {u v : Value} (h : Below n (w.setCell p u) W) (hs : n ≤ w.heap.size) : Below n (w.setCell p v) (W.setCell p v) := by
 refine ⟨h.os, h.tape, h.output, ?_, fun k hk => ?_⟩
 ·have := h.size
  simp only [World.setCell, Array.size_modify] at this ⊢
  exact this
 ·have := h.block k hk
  simp only [World.setCell] at this ⊢
  rw [Array.getElem?_modify] at this ⊢
  rw [Array.getElem?_modify]
  by_cases hkp : p.block = k
  ·rw [if_pos hkp] at this ⊢
   rw [if_pos hkp, this]
   cases w.heap[k]? with
   | none => rfl
   | some o =>
    cases o <;> simp
    cases p.spot <;> simp
  ·rw [if_neg hkp] at this ⊢
   rw [if_neg hkp, this]
theorem below_set_same {n : Nat} {w : World} {p : Addr} {u : Value} (h : w.cell? p = some u) (hs : p.spot = none) : Below n (w.setCell p u) w := by
 refine ⟨rfl, rfl, rfl, by simp [World.setCell], fun k hk => ?_⟩
 simp only [World.setCell]
 rw [Array.getElem?_modify]
 by_cases hkp : p.block = k
 ·rw [if_pos hkp]
  subst hkp
  unfold World.cell? at h
  cases ho : w.heap[p.block]? with
  | none => rfl
  | some o =>
   rw [ho] at h
   cases o <;> simp
   rename_i cs e fr
   simp only [hs] at h ⊢
   simp at h ⊢
   apply Array.ext_getElem?
   intro i
   rw [Array.getElem?_setIfInBounds]
   by_cases hi : p.off = i
   ·subst hi
    obtain ⟨hlt, _⟩ := Array.getElem?_eq_some_iff.1 h
    rw [if_pos rfl, if_pos hlt, h]
   ·rw [if_neg hi]
 ·rw [if_neg hkp]
theorem downs_fold (step : Int → Int → Int) (v0 : Int) (zs : List Int) : (downs zs zs.length).foldl (fun v x => step v x.2) v0 = zs.foldr (fun c v => step v c) v0 := by
 have h : (downs zs zs.length).map (·.2) = zs.reverse := by
  apply List.ext_getElem?
  intro i
  unfold downs
  rw [List.map_map, List.getElem?_map]
  by_cases hi : i < zs.length
  ·rw [List.getElem?_range hi, List.getElem?_reverse hi]
   simp only [Option.map_some, Function.comp]
   have e1 : ((zs.length : Int) - 1 - (i : Int)).toNat = zs.length - 1 - i := by omega
   have : rd zs ((zs.length : Int) - 1 - (i : Int)) = zs[zs.length - 1 - i]?.getD 0 := by
    unfold rd
    rw [e1]
    simp
   rw [this, List.getElem?_eq_getElem (by omega)]
   rfl
  ·rw [List.getElem?_eq_none (by simpa using hi), List.getElem?_eq_none (by simpa using hi)]
   rfl
 have h2 : ∀ (l : List (Int × Int)) (v : Int), l.foldl (fun v x => step v x.2) v = (l.map (·.2)).foldl (fun v c => step v c) v := by
  intro l
  induction l with
  | nil => intro v; rfl
  | cons x l ih => intro v; exact ih _
 rw [h2, h, List.foldl_reverse]
/-- What a range over slices.Backward does whose body turns one variable in memory, and that alone. -/
theorem back_fold {ps : Array Tmp} {g : Operand} {assign body : Code} {Q : Exit → Act → World → Prop} {a : Act} {w : World} (Bs Bv : Nat) (A : Option Addr) (c : Nat) (zs : List Int) (v0 : Int) (step : Int → Int → Int)
  (hg : a.eval g = .func (.func 92) #[] #[.pointer (some ⟨Bs, 0, none⟩)]) (hps : 2 = ps.size) (hBs : w.cell? ⟨Bs, 0, none⟩ = some (.slice A zs.length c)) (hC : (Kd.int .i64).C w A zs.length zs) (hmax : zs.length ≤ 9223372036854775807)
  (hv : w.cell? ⟨Bv, 0, none⟩ = some (.int .i64 v0)) (hfz : w.frozen? ⟨Bv, 0, none⟩ = false) (hne : ¬ BackReads Bs A zs.length Bv) (a₁ : Int × Int → Act)
  (hassign : ∀ (l : Nat) (x : Int × Int) (W : World) (K : Act → World → Prop), K (a₁ x) W →
   assign.wpIn (Fence.wide.inRound l) 3 Try.prog (Exit.then K (fun _ _ _ => False)) { tmps := (ps.zip #[.int .i64 x.1, .int .i64 x.2]).foldl (fun t (p, v) => t.setIfInBounds p v) a.tmps, defers := [] } W)
  (hbody : ∀ (l : Nat) (x : Int × Int) (v : Int) (W : World) (R : Exit → Act → World → Prop), Below w.heap.size (w.setCell ⟨Bv, 0, none⟩ (.int .i64 v)) W → W.cell? ⟨Bv, 0, none⟩ = some (.int .i64 v) → W.frozen? ⟨Bv, 0, none⟩ = false →
   (∀ a', R .normal a' (W.setCell ⟨Bv, 0, none⟩ (.int .i64 (step v x.2)))) → body.wpIn (Fence.wide.inRound l) 3 Try.prog R (a₁ x) W)
  (hdone : ∀ (D : Nat) (W : World), w.heap.size ≤ D → Below w.heap.size (w.setCell ⟨Bv, 0, none⟩ (.int .i64 (zs.foldr (fun c v => step v c) v0))) W → W.heap[D]? = some (.deferred (some [])) → Q .normal { a with defers := { target := .collected D, args := #[] } :: a.defers } W) :
  (Code.rangeFunc g ps assign body).wp Try.prog Q a w := by
 have hs1 := World.block_lt_of_cell? w _ hBs
 have hs2 := World.block_lt_of_cell? w _ hv
 have hAb : ∀ k, BackReads Bs A zs.length k → k < w.heap.size := by
  rintro k (rfl | ⟨hp, ad, rfl, rfl⟩)
  ·exact hs1
  ·obtain ⟨ad', e, hc⟩ := Kd.at_int hC 0 (by omega) (by omega)
   cases e
   exact World.block_lt_of_cell? w _ hc
 have hset : ∀ u, (w.setCell ⟨Bv, 0, none⟩ u).cell? ⟨Bv, 0, none⟩ = some u := fun u => World.cell?_setCell_same' _ _ _ (by rw [hv]; rfl)
 have hsf : ∀ u, (w.setCell ⟨Bv, 0, none⟩ u).frozen? ⟨Bv, 0, none⟩ = false := fun u => by rw [World.frozen?_setCell]; exact hfz
 refine (wpIn_wide (n := 5)).1 (wpIn_rangeFunc_ownG rfl (by decide) (gf := 92) (lb := #[.pointer (some ⟨Bs, 0, none⟩)]) hg trivial (enters_of Try.func92 (by kernel_rfl) rfl)
  (back_stops Fence.wide 4 trivial rfl (by decide) Bs A c zs w hBs hC hmax) (fun {X Y Z} h k q hq => (k q hq).trans (h q hq))
  (fun W l o o' hl ho h1 h2 q hq => (belowK_b (Nat.le_refl _) W l o o' hl ho h1 h2).cell (hAb _ hq)) (Below.refl _ _) (fun _ => by simpa using hps)
  (fun pre W => Below w.heap.size (w.setCell ⟨Bv, 0, none⟩ (.int .i64 (pre.foldl (fun v x => step v x.2) v0))) W) (fun _ _ _ => False)
  (fun pre X Y row hs hg hr => by have hs' : Below w.heap.size _ X := hs; exact (show Below w.heap.size _ Y from hs'.grown hg (by have := hs'.size; simpa [World.setCell] using this) (fun k e => (hr k e).1))) (fun _ _ _ _ _ hs _ _ => hs) ?start a₁ hassign ?body ?done ?stop)
 case start =>
  exact below_set_same hv rfl
 case body =>
  intro l pre x W hI _
  refine hbody l x _ W _ hI ((hI.cell (p := ⟨Bv, 0, none⟩) hs2).trans (hset _)) ((hI.frozen (p := ⟨Bv, 0, none⟩) hs2).trans (hsf _)) (fun a' => ?_)
  refine ⟨(KeepsOthers.setCell _ _ _).from _, fun q hq => World.cell?_setCell_other _ _ _ _ (fun e => hne (by rw [← e] at hq; exact hq)), ?_⟩
  show Below w.heap.size (w.setCell ⟨Bv, 0, none⟩ (.int .i64 ((pre ++ [x]).foldl (fun v x => step v x.2) v0))) _
  rw [List.foldl_append]
  exact below_set2 hI (Nat.le_refl _)
 case done =>
  rintro D ys W hD rfl hI hK
  rw [downs_fold] at hI
  exact hdone D W hD hI hK
 case stop =>
  rintro D c' pre W _ _ h _
  exact h.elim
/-- slices.Backward at []int: the slice value is boxed; the function value captures the box. -/
theorem back_calls (A : Option Addr) (n c : Nat) (w : World) : Calls Try.prog 84 #[.slice A n c] w fun e w' => e = .returned (.func (.func 92) #[] #[.pointer (some ⟨w.heap.size, 0, none⟩)]) ∧ w' = w.alloc (.cells #[.slice A n c] 22) := by
 go_enter Try.func84, Try.ntmps84
 go_wp2
 go_ret
 exact ⟨rfl, rfl⟩
/-- What a function's end owes behind ranges over functions: marks of loops that are over. -/
def Dead (n : Nat) (W : World) : List Deferred → Prop
 | [] => True
 | d :: ds => (∃ D, d.target = .collected D ∧ n ≤ D ∧ W.heap[D]? = some (.deferred (some [])) ∧ ∀ d' ∈ ds, d'.target ≠ .collected D) ∧ Dead n W ds
theorem Dead.kept {n : Nat} {W W' : World} : ∀ {ds : List Deferred}, Dead n W ds → (∀ D : Nat, (∃ d ∈ ds, d.target = .collected D) → W.heap[D]? = some (.deferred (some [])) → W'.heap[D]? = some (.deferred (some []))) → Dead n W' ds
 | [], _, _ => trivial
 | d :: ds, ⟨⟨D, h1, h2, h3, h4⟩, h⟩, k => ⟨⟨D, h1, h2, k D ⟨d, by simp, h1⟩ h3, h4⟩, h.kept fun D' ⟨d', q1, q2⟩ q3 => k D' ⟨d', by simp [q1], q2⟩ q3⟩
theorem leaves_dead {n m : Nat} {F : Fence} {fn : Func} {tmps : Array Value} {R : Ending → World → Prop} (J : World → Prop) (hJ : ∀ {W W' : World} {D : Nat}, J W → W.grownBy W' (some D) → W.heap[D]? = some (.deferred (some [])) → J W') : ∀ {ds : List Deferred} {W : World}, n ≤ W.heap.size → Dead n W ds → J W → (∀ W', Below n W W' → J W' → LeavesIn F m Try.prog fn tmps R [] .returning W') → LeavesInM F m Try.prog fn tmps R ds .returning W
 | [], W, _, _, j, k => k W (Below.refl _ _) j
 | d :: ds, W, hn, ⟨⟨D, h1, h2, h3, h4⟩, h⟩, j, k => by
  refine ⟨by simp, .inl ⟨D, _, h1, run_takeDeferred h3, ?_⟩⟩
  have hb : Below n W (W.putObj D (.deferred none)) := (Below.refl n W).grown (grownBy_putObj' W D _) hn (fun k e => by cases e; exact h2)
  refine leaves_dead J hJ (Nat.le_trans hn hb.size) (h.kept fun D' ⟨d', q1, q2⟩ q3 => ?_) (hJ j (grownBy_putObj' W D _) h3) (fun W' hW => k W' (hb.trans hW))
  rw [World.putObj_heap_other (fun e => h4 d' q1 (by rw [q2, e]))]
  exact q3
end
/-- A body's end without panics. -/
def bodyPostR (n : Nat) (fn : Func) (R : Ending → World → Prop) : Exit → Act → World → Prop
 | .normal, a, w | .ret, a, w => LeavesInM Fence.wide n Try.prog fn a.tmps R a.defers .returning w
 | _, _, _ => False
theorem bodyPostR_M {n : Nat} {fn : Func} {R : Ending → World → Prop} : ∀ (e : Exit) (a : Act) (w : World), bodyPostR n fn R e a w → bodyPostM Fence.wide n Try.prog fn R e a w
 | .normal, _, _, h => h
 | .ret, _, _, h => h
 | .panic _, _, _, h => h.elim
 | .exit _, _, _, h => h.elim
 | .goto _, _, _, h => h.elim
 | .outgrown, _, _, h => h.elim
theorem ko_alloc {A W : World} {o : Obj} (h : KeepsOthers A W) : KeepsOthers A (W.alloc o) := h.trans (KeepsOthers.alloc _ _)
theorem ko_set {A W : World} {a : Addr} {v : Value} (h : KeepsOthers A W) : KeepsOthers A (W.setCell a v) := h.trans (KeepsOthers.setCell _ _ _)
theorem ko_drew {A W : World} (h : KeepsOthers A W) : KeepsOthers A W.drew := ⟨h.size, h.same⟩
theorem ko_drewN {A W : World} {n : Nat} (h : KeepsOthers A W) : KeepsOthers A (W.drewN n) := ⟨h.size, h.same⟩
theorem ko_below {A W : World} (h : Below A.heap.size A W) : KeepsOthers A W := ⟨h.size, fun k o hk _ => (h.block k (Array.getElem?_eq_some_iff.1 hk).1).trans hk⟩
theorem ko_set_below {A W : World} {p : Addr} {u : Value} (h : Below A.heap.size (A.setCell p u) W) : KeepsOthers A W := (KeepsOthers.setCell A p u).trans (ko_below (by simpa [World.setCell] using h))
theorem ko_grown {A W W' : World} {row : Option Nat} (h : KeepsOthers A W) (hg : W.grownBy W' row) (hrow : ∀ k, row = some k → ∃ cs e f, W.heap[k]? = some (.cells cs e f)) : KeepsOthers A W' :=
 h.trans (KeepsOthers.of_grownBy hg fun j o hj ho => by obtain ⟨cs, e, f, h⟩ := hrow j hj; rw [h] at ho; cases ho; rfl)
theorem ko_append {α : Type} {d : Kd α} {e b : Nat} {ok : Nat → Prop} {v : Value} {xs : List α} {A W W' : World} (hR : Kd.R d e W b ok v xs) (h : KeepsOthers A W) (hg : W.grownBy W' v.ownBlock) : KeepsOthers A W' :=
 ko_grown h hg fun k hk => by obtain ⟨cs, q⟩ := Kd.R_typed hR k hk; exact ⟨_, _, _, q⟩
theorem Dead.lt {n : Nat} {W : World} : ∀ {ds : List Deferred}, Dead n W ds → ∀ d ∈ ds, ∃ D, d.target = .collected D ∧ D < W.heap.size
 | [], _, d, hd => by simp at hd
 | d' :: ds, ⟨⟨D, h1, h2, h3, h4⟩, h⟩, d, hd => by
  rcases List.mem_cons.1 hd with rfl | hd
  ·exact ⟨D, h1, (Array.getElem?_eq_some_iff.1 h3).1⟩
  ·exact Dead.lt h d hd
theorem Dead.ko {n : Nat} {W W' : World} {ds : List Deferred} (h : Dead n W ds) (k : KeepsOthers W W') : Dead n W' ds := h.kept fun D _ hD => k.same D _ hD rfl
theorem Dead.push {n D : Nat} {W W' : World} {ds : List Deferred} (h : Dead n W ds) (k : KeepsOthers W W') (hn : n ≤ W.heap.size) (hD : W.heap.size ≤ D) (hK : W'.heap[D]? = some (.deferred (some []))) : Dead n W' ({ target := .collected D, args := #[] } :: ds) :=
 ⟨⟨D, rfl, Nat.le_trans hn hD, hK, fun d' hd' e => by obtain ⟨D', e', hl⟩ := h.lt d' hd'; rw [e'] at e; cases e; omega⟩, h.ko k⟩
theorem backblk_lt {W : World} {g : Nat} {o : Obj} (h : W.heap[g]? = some o) : g < W.heap.size := (Array.getElem?_eq_some_iff.1 h).1
/-- A row that lies already has another block than a variable that was made behind it. -/
theorem back_ne {W : World} {zs : List Int} {A : Option Addr} {Bs Bv : Nat} (h : (Kd.int .i64).C W A zs.length zs) (hs : Bv ≠ Bs) (hN : W.heap.size ≤ Bv) : ¬ BackReads Bs A zs.length Bv := by
 rintro (e | ⟨hp, ad, rfl, e⟩)
 ·exact hs e
 ·obtain ⟨ad', e', hc⟩ := Kd.at_int h 0 (by omega) (by omega)
  cases e'
  have := World.block_lt_of_cell? W _ hc
  have e2 : (ad.add (0 : Int).toNat).block = ad.block := rfl
  omega
def hornerB (l : List Int) (x : Int) : Int := l.foldr (fun c v => Int.tmod (wrap64 (wrap64 (v * x) + c)) 251) 0

end Go.Proofs.Ytkommecfnfdapaa.P
