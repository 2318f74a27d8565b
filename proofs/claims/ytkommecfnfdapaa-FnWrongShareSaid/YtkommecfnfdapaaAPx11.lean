-- By a program of this session (wip/tools/xprint.py), which uses the kit's print; not a text of print.sh. Not trusted: Lean checks it.
import Derived.Test.YtkommecfnfdapaaAPx0
import Derived.Test.YtkommecfnfdapaaAPx8
import Derived.Test.YtkommecfnfdapaaAPx9
import Derived.Test.YtkommecfnfdapaaAPx10
namespace Go.Proofs.Ytkommecfnfdapaa.P
open Go.RowKit Go.Proofs.YtkommecfnfdapaaW.PrintWords Go.Proofs.YtkommecfnfdapaaW.PrintLast Go.Proofs.YtkommecfnfdapaaW.PrintMore
attribute [local go_sem] max2_int min2_int max_two min_two max_three min_three max_four min_four   -- for this text's walks alone
set_option linter.unusedVariables false
set_option linter.unusedSimpArgs false

/-! ### impl_polyOf: function 56 -/
/-! ### impl_polyOf: function 56 -/
mutual
def impl_polyOf.l0 : Nat → List Int → List Int → List (S72) → Int → Int → Option (List Int)
 | 0, _, _, _, _, _ => none
 | k + 1, x3, x4, x18, x19, x20 => if x20 < x19 then (if 0 ≤ x20 then (if x20 < (x18.length : Int) then ((some (hornerB x3 ((rd_T72 x18 x20).f0))).bind fun t353 => ((some (hornerB x4 ((rd_T72 x18 x20).f0))).bind fun t354 => ((impl_InverseOf.f k t354).bind fun t355 => (if x3.length < 17592186044416 then (if 0 ≤ (wrap64 ((x4.length : Int) + 1)) then (if (wrap64 ((x4.length : Int) + 1) : Int).toNat ≤ 35184372088832 then (impl_polyOf.l1 k (x3 ++ [0]) (Int.tmod (wrap64 ((wrap64 ((wrap64 (((rd_T72 x18 x20).f1) - t353)) + 251)) * t355)) 251) (List.replicate (wrap64 ((x4.length : Int) + 1) : Int).toNat 0) x18 x19 x20 x4 (x4.length : Int) 0 ((rd_T72 x18 x20).f0) ((rd_T72 x18 x20).f1)) else (none)) else (none)) else (none))))) else (none)) else (none)) else (some x3)
def impl_polyOf.l1 : Nat → List Int → Int → List Int → List (S72) → Int → Int → List Int → Int → Int → Int → Int → Option (List Int)
 | 0, _, _, _, _, _, _, _, _, _, _, _ => none
 | k + 1, x3, x13, x14, x18, x19, x20, x62, x63, x64, x353000, x353001 => if x64 < x63 then (if 0 ≤ x64 then (if x64 < (x62.length : Int) then (if x64 < (x3.length : Int) then (if 0 ≤ (wrap64 (x64 + 1)) then (if (wrap64 (x64 + 1)) < (x14.length : Int) then ((some (x14.set ((wrap64 (x64 + 1)) : Int).toNat (Int.tmod (wrap64 ((rd x14 (wrap64 (x64 + 1))) + (rd x62 x64))) 251) : List Int)).bind fun y366 => (if x64 < (x14.length : Int) then (impl_polyOf.l1 k (x3.set (x64 : Int).toNat (Int.tmod (wrap64 ((rd x3 x64) + (wrap64 (x13 * (rd x62 x64))))) 251)) x13 (y366.set (x64 : Int).toNat (Int.tmod (wrap64 ((rd y366 x64) + (wrap64 ((wrap64 (251 - x353000)) * (rd x62 x64))))) 251)) x18 x19 x20 x62 x63 (wrap64 (x64 + 1)) x353000 x353001) else (none))) else (none)) else (none)) else (none)) else (none)) else (none)) else (impl_polyOf.l0 k x3 x14 x18 x19 (wrap64 (x20 + 1)))
end
def impl_polyOf.f (k : Nat) (l0 : List (S72)) : Option (List Int) := impl_polyOf.l0 k ([] : List Int) (([1] : List Int)) l0 (l0.length : Int) 0
theorem impl_polyOf.mono_l : ∀ k, (∀ y0 y1 y2 y3 y4, LeO (impl_polyOf.l0 k y0 y1 y2 y3 y4) (impl_polyOf.l0 (k + 1) y0 y1 y2 y3 y4)) ∧ (∀ y0 y1 y2 y3 y4 y5 y6 y7 y8 y9 y10, LeO (impl_polyOf.l1 k y0 y1 y2 y3 y4 y5 y6 y7 y8 y9 y10) (impl_polyOf.l1 (k + 1) y0 y1 y2 y3 y4 y5 y6 y7 y8 y9 y10))
 | 0 => ⟨fun _ _ _ _ _ r h => by simp [impl_polyOf.l0] at h, fun _ _ _ _ _ _ _ _ _ _ _ r h => by simp [impl_polyOf.l1] at h⟩
 | k + 1 => by
  obtain ⟨ih0, ih1⟩ := impl_polyOf.mono_l k
  refine ⟨?_, ?_⟩
  ·intro y0 y1 y2 y3 y4
   unfold impl_polyOf.l0
   repeat' first
   | (with_reducible exact ih0 _ _ _ _ _)
   | (with_reducible exact ih1 _ _ _ _ _ _ _ _ _ _ _)
   | (with_reducible exact impl_InverseOf.mono _ _)
   | (with_reducible exact LeO.refl _)
   | (with_reducible exact LeO.none _)
   | (with_reducible refine LeO.ite ?_ ?_)
   | (with_reducible refine LeO.bind ?_ (fun _ => ?_))
   | exact ih0 _ _ _ _ _
   | exact ih1 _ _ _ _ _ _ _ _ _ _ _
   | exact impl_InverseOf.mono _ _
   | exact LeO.none _
   | refine LeO.ite ?_ ?_
   | refine LeO.bind ?_ (fun _ => ?_)
  ·intro y0 y1 y2 y3 y4 y5 y6 y7 y8 y9 y10
   unfold impl_polyOf.l1
   repeat' first
   | (with_reducible exact ih0 _ _ _ _ _)
   | (with_reducible exact ih1 _ _ _ _ _ _ _ _ _ _ _)
   | (with_reducible exact impl_InverseOf.mono _ _)
   | (with_reducible exact LeO.refl _)
   | (with_reducible exact LeO.none _)
   | (with_reducible refine LeO.ite ?_ ?_)
   | (with_reducible refine LeO.bind ?_ (fun _ => ?_))
   | exact ih0 _ _ _ _ _
   | exact ih1 _ _ _ _ _ _ _ _ _ _ _
   | exact impl_InverseOf.mono _ _
   | exact LeO.none _
   | refine LeO.ite ?_ ?_
   | refine LeO.bind ?_ (fun _ => ?_)
theorem impl_polyOf.mono : ∀ a0 k, LeO (impl_polyOf.f k a0) (impl_polyOf.f (k + 1) a0) := by
 intro a0 k
 obtain ⟨ih0, ih1⟩ := impl_polyOf.mono_l k
 unfold impl_polyOf.f
 repeat' first
   | (with_reducible exact ih0 _ _ _ _ _)
   | (with_reducible exact ih1 _ _ _ _ _ _ _ _ _ _ _)
   | (with_reducible exact impl_InverseOf.mono _ _)
   | (with_reducible exact LeO.refl _)
   | (with_reducible exact LeO.none _)
   | (with_reducible refine LeO.ite ?_ ?_)
   | (with_reducible refine LeO.bind ?_ (fun _ => ?_))
   | exact ih0 _ _ _ _ _
   | exact ih1 _ _ _ _ _ _ _ _ _ _ _
   | exact impl_InverseOf.mono _ _
   | exact LeO.none _
   | refine LeO.ite ?_ ?_
   | refine LeO.bind ?_ (fun _ => ?_)
def impl_polyOf.T13 : Bool × List (List Nat × List Nat) := (true, [([], []), ([0], [0]), ([], []), ([1, 2], [1, 2]), ([3], [3]), ([], []), ([5], [5]), ([4, 6], [4, 6]), ([7], [7]), ([8, 6, 0, 1, 2, 3, 4, 5, 6, 7, 8], [8])])
def impl_polyOf.B13 : List Nat := [0, 1, 0, 7, 15, 0, 32, 127, 255, 511]
theorem impl_polyOf.tab13 : rtab .any (opsOf Try.f56 13) = impl_polyOf.T13 := by kernel_rfl
theorem impl_polyOf.bits13 : waitsOk impl_polyOf.T13.2 impl_polyOf.B13 = true := by kernel_rfl
def impl_polyOf.T21 : Bool × List (List Nat × List Nat) := (true, [([], []), ([], []), ([], []), ([], []), ([2, 3], [2, 3]), ([4], [4]), ([], []), ([6], [6]), ([7], [7]), ([], []), ([8, 9], [8, 9]), ([5, 10], [5, 10]), ([11], [11]), ([0, 1, 0, 1, 2, 3, 4, 5, 6, 7, 8, 9, 10, 11, 12], [0, 1]), ([13, 12, 0, 1, 2, 3, 4, 5, 6, 7, 8, 9, 10, 11, 12], [12, 13])])
def impl_polyOf.B21 : List Nat := [0, 0, 0, 0, 12, 28, 0, 64, 192, 0, 960, 2044, 4092, 8191, 16383]
theorem impl_polyOf.tab21 : rtab .any (opsOf Try.f56 21) = impl_polyOf.T21 := by kernel_rfl
theorem impl_polyOf.bits21 : waitsOk impl_polyOf.T21.2 impl_polyOf.B21 = true := by kernel_rfl
section
attribute [local go_sem] Oper.semAt_some
open Go.Shelf
set_option maxHeartbeats 8000000 in
set_option maxRecDepth 100000 in
theorem impl_polyOf.calls (k : Nat) (A0 : Option Addr) (c0 : Nat) (l0 : List (S72)) (r : List Int) (w : World) (hr0 : Kd.C k72 w A0 l0.length l0) (hc0 : l0.length ≤ c0) (h : impl_polyOf.f k l0 = some r) :
  Calls Try.prog 56 #[.slice A0 l0.length c0] w fun e w' => ∃ v0_ : Value, e = .returned (v0_) ∧ Kd.R (Kd.int .i64) 3 w' w.heap.size (fun _ => True) v0_ r ∧ Below w.heap.size w w' := by
 have hu72 := Try.underlying72
 have HR0 := Aside0.mk hr0
 have HC0 := Aside0.mk hc0
 clear hr0 hc0
 have HB := Aside0.mk (Below.refl w.heap.size w)
 have H : (impl_polyOf.l0 k ([] : List Int) (([1] : List Int)) l0 (l0.length : Int) 0) = some r := h
 clear h
 obtain ⟨y348, hy348⟩ : ∃ y_ : List Int, y_ = (([1] : List Int)) := ⟨_, rfl⟩
 replace H : (impl_polyOf.l0 k ([] : List Int) y348 l0 (l0.length : Int) 0) = some r := by first | (rw [hy348]; with_reducible exact H) | (have H2_ := (Option.bind_some _ _).symm.trans H; rw [hy348]; with_reducible exact H2_) | (have H2_ := (Option.bind_some _ _).symm.trans H; with_reducible exact H2_) | with_reducible exact H | (rw [hy348]; exact H) | exact H
 have Ny348 := Aside0.mk hy348
 clear hy348
 have H' := Aside0.mk H
 clear H
 refine (callsIn_wide (n := 5)).1 (callsIn_of_wp_marks Try.func56 rfl trivial ((wpIn_wide (n := 5)).2 (wp_mono (Q := bodyPostR 5 _ _) ?_ bodyPostR_M)))
 simp only [Try.ntmps56, List.size_toArray, List.length_cons, List.length_nil, Nat.reduceAdd, Nat.reduceSub, Array.replicate_succ, Array.replicate_zero, List.push_toArray, List.append_toArray, List.nil_append, List.cons_append]
 go_wp2_with (first | ((with_reducible refine gate_dst (N := 17) rfl ?_); refine Kd.R_lit (Kd.int .i64) _ 3 ?hg (N := 17) ?hd (xs := ([1] : List Int)) (inner := [.int .i64 1]) (ok := fun _ => True) (okp := fun _ => True) ?hr ?hp (fun _ hk => hk) trivial (Below.refl _ _) (Nat.le_refl _) (by simp) ?_; (case hd => rfl); (case hg => rfl); (case hr => first | (go_simp; done) | (go_simp; rfl)); (case hp => exact (Reps.one (show Kd.M (Kd.int .i64) _ _ _ 1 [.int .i64 1] from rfl) (Reps.none _ _))); intro v349 w2 ho3 hb hg_ hnew_; clear hg_ hnew_; (first | rw [← Ny348.out] at ho3 | (simp only [Int.reduceToNat] at ho3; rw [← Ny348.out] at ho3)); have n0_ := Aside0.mk (Kd.R_lower ho3 (below_size (by repeat (first | (with_reducible first | exact HB.out | apply below_alloc | apply pw_below_drewN | apply below_drew1) | exact HB.out)))); have n1_ := Aside0.mk (below_step (by repeat (first | (with_reducible first | exact HB.out | apply below_alloc | apply pw_below_drewN | apply below_drew1) | exact HB.out)) hb); clear HB; have HO350 := n0_; have HB := n1_; clear n0_ n1_; clear hb ho3))
 refine wp_loop_ghost_k (fun kq a' w' => ∃ u1 u2 u3 u4 u5 u6 u7 u8 u9 u10 u11 u12 u13 u14 u15 u16 u17 u20 u21 u22 u23 u24 u25 u26 u27 u28 u29 u30 u31 u32 u33 u34 u35 u36 u37 u38 u39 u40 u41 u42 u43 u44 u45 u46 u47 u48 u49 u50 u51 u52 u53 u54 u55 u56 u57 u58 u59 u60 u61 u62 u63 u64 u65 u66 u67 u68 u69 u70 u71 u72 u73 u74 u75 u76 u77 u78 u79 u80 u81 u82 u83 u84 u85 u86 u87 u88 u89 u90 u91 u92 u93 u94 u95 u96 u97 u98 u99 u100 u101 u102 u103 u104 u105 u106 u107 u108 u109 u110 ds, ((∃ (x3_1 : List Int) (x4_1 : List Int) (x20_1 : Int), u20 = .int .i64 x20_1 ∧ Aside0 (impl_polyOf.l0 kq x3_1 x4_1 l0 (l0.length : Int) x20_1 = some r) ∧ Aside0 (kq ≤ k) ∧ Aside0 (Kd.R (Kd.int .i64) 3 w' w.heap.size (fun k_ => some k_ ≠ (u4 : Value).ownBlock) u3 x3_1) ∧ Aside0 (Kd.R (Kd.int .i64) 3 w' w.heap.size (fun k_ => some k_ ≠ (u3 : Value).ownBlock) u4 x4_1) ∧ Aside0 (Below w.heap.size w w')) ∧ Aside0 (Dead w.heap.size w' ds)) ∧ a' = ({ tmps := #[.slice A0 l0.length c0, u1, u2, u3, u4, u5, u6, u7, u8, u9, u10, u11, u12, u13, u14, u15, u16, u17, .slice A0 l0.length c0, .int .i64 (l0.length : Int), u20, u21, u22, u23, u24, u25, u26, u27, u28, u29, u30, u31, u32, u33, u34, u35, u36, u37, u38, u39, u40, u41, u42, u43, u44, u45, u46, u47, u48, u49, u50, u51, u52, u53, u54, u55, u56, u57, u58, u59, u60, u61, u62, u63, u64, u65, u66, u67, u68, u69, u70, u71, u72, u73, u74, u75, u76, u77, u78, u79, u80, u81, u82, u83, u84, u85, u86, u87, u88, u89, u90, u91, u92, u93, u94, u95, u96, u97, u98, u99, u100, u101, u102, u103, u104, u105, u106, u107, u108, u109, u110], defers := ds } : Act)) k ?start_ ?round_
 case start_ =>
  repeat apply Exists.intro
  refine ⟨?_, rfl⟩
  exact ⟨⟨(([] : List Int)), (y348), (0), (by first | rfl | (simp; done) | (simp [*]; done)), H', ⟨Nat.le_refl _⟩, ⟨by first | exact Kd.R_nil _ _ _ _ _ | exact Kd.N_nil _ _ _ _ _ | exact Kd.V_nil _ _ _ _ _ | exact Kd.Q_nil _ _ _ _ _ | exact Kd.S_nil _ _ _ _ _⟩, ⟨by (with_reducible repeat (first | apply Kd.R_alloc | apply Kd.R_drewN | apply Kd.R_drew)); exact Kd.R_mono HO350.out (fun _ hk => (by simp [Value.ownBlock]))⟩, ⟨by repeat (first | (with_reducible first | exact HB.out | apply below_alloc | apply pw_below_drewN | apply below_drew1) | exact HB.out)⟩⟩, ⟨trivial⟩⟩
 case round_ =>
  intro gk _ wr hinv
  obtain ⟨u1, hinv⟩ := hinv
  obtain ⟨u2, hinv⟩ := hinv
  obtain ⟨u3, hinv⟩ := hinv
  obtain ⟨u4, hinv⟩ := hinv
  obtain ⟨u5, hinv⟩ := hinv
  obtain ⟨u6, hinv⟩ := hinv
  obtain ⟨u7, hinv⟩ := hinv
  obtain ⟨u8, hinv⟩ := hinv
  obtain ⟨u9, hinv⟩ := hinv
  obtain ⟨u10, hinv⟩ := hinv
  obtain ⟨u11, hinv⟩ := hinv
  obtain ⟨u12, hinv⟩ := hinv
  obtain ⟨u13, hinv⟩ := hinv
  obtain ⟨u14, hinv⟩ := hinv
  obtain ⟨u15, hinv⟩ := hinv
  obtain ⟨u16, hinv⟩ := hinv
  obtain ⟨u17, hinv⟩ := hinv
  obtain ⟨u20, hinv⟩ := hinv
  obtain ⟨u21, hinv⟩ := hinv
  obtain ⟨u22, hinv⟩ := hinv
  obtain ⟨u23, hinv⟩ := hinv
  obtain ⟨u24, hinv⟩ := hinv
  obtain ⟨u25, hinv⟩ := hinv
  obtain ⟨u26, hinv⟩ := hinv
  obtain ⟨u27, hinv⟩ := hinv
  obtain ⟨u28, hinv⟩ := hinv
  obtain ⟨u29, hinv⟩ := hinv
  obtain ⟨u30, hinv⟩ := hinv
  obtain ⟨u31, hinv⟩ := hinv
  obtain ⟨u32, hinv⟩ := hinv
  obtain ⟨u33, hinv⟩ := hinv
  obtain ⟨u34, hinv⟩ := hinv
  obtain ⟨u35, hinv⟩ := hinv
  obtain ⟨u36, hinv⟩ := hinv
  obtain ⟨u37, hinv⟩ := hinv
  obtain ⟨u38, hinv⟩ := hinv
  obtain ⟨u39, hinv⟩ := hinv
  obtain ⟨u40, hinv⟩ := hinv
  obtain ⟨u41, hinv⟩ := hinv
  obtain ⟨u42, hinv⟩ := hinv
  obtain ⟨u43, hinv⟩ := hinv
  obtain ⟨u44, hinv⟩ := hinv
  obtain ⟨u45, hinv⟩ := hinv
  obtain ⟨u46, hinv⟩ := hinv
  obtain ⟨u47, hinv⟩ := hinv
  obtain ⟨u48, hinv⟩ := hinv
  obtain ⟨u49, hinv⟩ := hinv
  obtain ⟨u50, hinv⟩ := hinv
  obtain ⟨u51, hinv⟩ := hinv
  obtain ⟨u52, hinv⟩ := hinv
  obtain ⟨u53, hinv⟩ := hinv
  obtain ⟨u54, hinv⟩ := hinv
  obtain ⟨u55, hinv⟩ := hinv
  obtain ⟨u56, hinv⟩ := hinv
  obtain ⟨u57, hinv⟩ := hinv
  obtain ⟨u58, hinv⟩ := hinv
  obtain ⟨u59, hinv⟩ := hinv
  obtain ⟨u60, hinv⟩ := hinv
  obtain ⟨u61, hinv⟩ := hinv
  obtain ⟨u62, hinv⟩ := hinv
  obtain ⟨u63, hinv⟩ := hinv
  obtain ⟨u64, hinv⟩ := hinv
  obtain ⟨u65, hinv⟩ := hinv
  obtain ⟨u66, hinv⟩ := hinv
  obtain ⟨u67, hinv⟩ := hinv
  obtain ⟨u68, hinv⟩ := hinv
  obtain ⟨u69, hinv⟩ := hinv
  obtain ⟨u70, hinv⟩ := hinv
  obtain ⟨u71, hinv⟩ := hinv
  obtain ⟨u72, hinv⟩ := hinv
  obtain ⟨u73, hinv⟩ := hinv
  obtain ⟨u74, hinv⟩ := hinv
  obtain ⟨u75, hinv⟩ := hinv
  obtain ⟨u76, hinv⟩ := hinv
  obtain ⟨u77, hinv⟩ := hinv
  obtain ⟨u78, hinv⟩ := hinv
  obtain ⟨u79, hinv⟩ := hinv
  obtain ⟨u80, hinv⟩ := hinv
  obtain ⟨u81, hinv⟩ := hinv
  obtain ⟨u82, hinv⟩ := hinv
  obtain ⟨u83, hinv⟩ := hinv
  obtain ⟨u84, hinv⟩ := hinv
  obtain ⟨u85, hinv⟩ := hinv
  obtain ⟨u86, hinv⟩ := hinv
  obtain ⟨u87, hinv⟩ := hinv
  obtain ⟨u88, hinv⟩ := hinv
  obtain ⟨u89, hinv⟩ := hinv
  obtain ⟨u90, hinv⟩ := hinv
  obtain ⟨u91, hinv⟩ := hinv
  obtain ⟨u92, hinv⟩ := hinv
  obtain ⟨u93, hinv⟩ := hinv
  obtain ⟨u94, hinv⟩ := hinv
  obtain ⟨u95, hinv⟩ := hinv
  obtain ⟨u96, hinv⟩ := hinv
  obtain ⟨u97, hinv⟩ := hinv
  obtain ⟨u98, hinv⟩ := hinv
  obtain ⟨u99, hinv⟩ := hinv
  obtain ⟨u100, hinv⟩ := hinv
  obtain ⟨u101, hinv⟩ := hinv
  obtain ⟨u102, hinv⟩ := hinv
  obtain ⟨u103, hinv⟩ := hinv
  obtain ⟨u104, hinv⟩ := hinv
  obtain ⟨u105, hinv⟩ := hinv
  obtain ⟨u106, hinv⟩ := hinv
  obtain ⟨u107, hinv⟩ := hinv
  obtain ⟨u108, hinv⟩ := hinv
  obtain ⟨u109, hinv⟩ := hinv
  obtain ⟨u110, hinv⟩ := hinv
  obtain ⟨ds, hrel, ha⟩ := hinv
  subst ha
  try dsimp only
  intro _ _ _ _
  clear H'
  try clear p2
  obtain ⟨⟨x3_1, x4_1, x20_1, rfl, HA, HK1, HO_3, HO_4, HB⟩, HD⟩ := hrel
  have KO := Aside0.mk (KeepsOthers.refl wr)
  cases gk with
  | zero => exact absurd HA.out (by simp [impl_polyOf.l0])
  | succ k1 =>
   have H := HA.out
   clear HA
   simp only [impl_polyOf.l0] at H
   by_cases c4 : x20_1 < (l0.length : Int)
   ·rw [if_pos c4] at H
    have c4b0 : decide (x20_1 < (l0.length : Int)) = true := decide_eq_true c4
    clear c4
    by_cases c5 : 0 ≤ x20_1
    ·rw [if_pos c5] at H
     have c5b0 : decide (0 ≤ x20_1) = true := decide_eq_true c5
     clear c5
     by_cases c6 : x20_1 < (l0.length : Int)
     ·rw [if_pos c6] at H
      have c6b0 : decide (x20_1 < (l0.length : Int)) = true := decide_eq_true c6
      clear c6
      replace H := Option.bind_eq_some_iff.mp H
      obtain ⟨t353, A70, H⟩ := H
      replace H : ((some (hornerB x4_1 ((rd_T72 l0 x20_1).f0))).bind fun t354 => ((impl_InverseOf.f k1 t354).bind fun t355 => (if x3_1.length < 17592186044416 then (if 0 ≤ (wrap64 ((x4_1.length : Int) + 1)) then (if (wrap64 ((x4_1.length : Int) + 1) : Int).toNat ≤ 35184372088832 then (impl_polyOf.l1 k1 (x3_1 ++ [0]) (Int.tmod (wrap64 ((wrap64 ((wrap64 (((rd_T72 l0 x20_1).f1) - t353)) + 251)) * t355)) 251) (List.replicate (wrap64 ((x4_1.length : Int) + 1) : Int).toNat 0) l0 (l0.length : Int) x20_1 x4_1 (x4_1.length : Int) 0 ((rd_T72 l0 x20_1).f0) ((rd_T72 l0 x20_1).f1)) else (none)) else (none)) else (none)))) = some r := H
      have A7 := Aside0.mk A70
      clear A70
      replace H := Option.bind_eq_some_iff.mp H
      obtain ⟨t354, A80, H⟩ := H
      replace H : ((impl_InverseOf.f k1 t354).bind fun t355 => (if x3_1.length < 17592186044416 then (if 0 ≤ (wrap64 ((x4_1.length : Int) + 1)) then (if (wrap64 ((x4_1.length : Int) + 1) : Int).toNat ≤ 35184372088832 then (impl_polyOf.l1 k1 (x3_1 ++ [0]) (Int.tmod (wrap64 ((wrap64 ((wrap64 (((rd_T72 l0 x20_1).f1) - t353)) + 251)) * t355)) 251) (List.replicate (wrap64 ((x4_1.length : Int) + 1) : Int).toNat 0) l0 (l0.length : Int) x20_1 x4_1 (x4_1.length : Int) 0 ((rd_T72 l0 x20_1).f0) ((rd_T72 l0 x20_1).f1)) else (none)) else (none)) else (none))) = some r := H
      have A8 := Aside0.mk A80
      clear A80
      replace H := Option.bind_eq_some_iff.mp H
      obtain ⟨t355, A90, H⟩ := H
      replace H : (if x3_1.length < 17592186044416 then (if 0 ≤ (wrap64 ((x4_1.length : Int) + 1)) then (if (wrap64 ((x4_1.length : Int) + 1) : Int).toNat ≤ 35184372088832 then (impl_polyOf.l1 k1 (x3_1 ++ [0]) (Int.tmod (wrap64 ((wrap64 ((wrap64 (((rd_T72 l0 x20_1).f1) - t353)) + 251)) * t355)) 251) (List.replicate (wrap64 ((x4_1.length : Int) + 1) : Int).toNat 0) l0 (l0.length : Int) x20_1 x4_1 (x4_1.length : Int) 0 ((rd_T72 l0 x20_1).f0) ((rd_T72 l0 x20_1).f1)) else (none)) else (none)) else (none)) = some r := H
      have A9 := Aside0.mk A90
      clear A90
      by_cases c10 : x3_1.length < 17592186044416
      ·rw [if_pos c10] at H
       have LMc10 := Aside0.mk c10
       clear c10
       obtain ⟨y356, hy356⟩ : ∃ y_ : List Int, y_ = (x3_1 ++ [0]) := ⟨_, rfl⟩
       replace H : (if 0 ≤ (wrap64 ((x4_1.length : Int) + 1)) then (if (wrap64 ((x4_1.length : Int) + 1) : Int).toNat ≤ 35184372088832 then (impl_polyOf.l1 k1 y356 (Int.tmod (wrap64 ((wrap64 ((wrap64 (((rd_T72 l0 x20_1).f1) - t353)) + 251)) * t355)) 251) (List.replicate (wrap64 ((x4_1.length : Int) + 1) : Int).toNat 0) l0 (l0.length : Int) x20_1 x4_1 (x4_1.length : Int) 0 ((rd_T72 l0 x20_1).f0) ((rd_T72 l0 x20_1).f1)) else (none)) else (none)) = some r := by first | (rw [hy356]; with_reducible exact H) | (have H2_ := (Option.bind_some _ _).symm.trans H; rw [hy356]; with_reducible exact H2_) | (have H2_ := (Option.bind_some _ _).symm.trans H; with_reducible exact H2_) | with_reducible exact H | (rw [hy356]; exact H) | exact H
       have Ny356 := Aside0.mk hy356
       clear hy356
       obtain ⟨ji11, hji11⟩ : ∃ j_ : Int, (wrap64 ((x4_1.length : Int) + 1)) = j_ := ⟨_, rfl⟩
       replace H : (if 0 ≤ (ji11) then (if (ji11 : Int).toNat ≤ 35184372088832 then (impl_polyOf.l1 k1 y356 (Int.tmod (wrap64 ((wrap64 ((wrap64 (((rd_T72 l0 x20_1).f1) - t353)) + 251)) * t355)) 251) (List.replicate (ji11 : Int).toNat 0) l0 (l0.length : Int) x20_1 x4_1 (x4_1.length : Int) 0 ((rd_T72 l0 x20_1).f0) ((rd_T72 l0 x20_1).f1)) else (none)) else (none)) = some r := by first | (rw [hji11] at H; exact H) | (simp only [hji11] at H ⊢; exact H)
       (try rw [hji11] at A7)
       (try rw [hji11] at A8)
       (try rw [hji11] at A9)
       have hji11w : (IntKind.i64.wrap ((x4_1.length : Int) + 1)) = ji11 := (i64_w _).trans hji11
       by_cases c12 : 0 ≤ (ji11)
       ·rw [if_pos c12] at H
        have c12b0 := eq_true c12
        have c12b1 : decide (0 ≤ (ji11)) = true := decide_eq_true c12
        clear c12
        by_cases c13 : (ji11 : Int).toNat ≤ 35184372088832
        ·rw [if_pos c13] at H
         have c13b0 := eq_true c13
         have c13b1 : decide ((ji11 : Int).toNat ≤ 35184372088832) = true := decide_eq_true c13
         clear c13
         obtain ⟨y359, hy359⟩ : ∃ y_ : List Int, y_ = (List.replicate (ji11 : Int).toNat 0) := ⟨_, rfl⟩
         replace H : (impl_polyOf.l1 k1 y356 (Int.tmod (wrap64 ((wrap64 ((wrap64 (((rd_T72 l0 x20_1).f1) - t353)) + 251)) * t355)) 251) y359 l0 (l0.length : Int) x20_1 x4_1 (x4_1.length : Int) 0 ((rd_T72 l0 x20_1).f0) ((rd_T72 l0 x20_1).f1)) = some r := by first | (rw [hy359]; with_reducible exact H) | (have H2_ := (Option.bind_some _ _).symm.trans H; rw [hy359]; with_reducible exact H2_) | (have H2_ := (Option.bind_some _ _).symm.trans H; with_reducible exact H2_) | with_reducible exact H | (rw [hy359]; exact H) | exact H
         have Ny359 := Aside0.mk hy359
         clear hy359
         have H' := Aside0.mk H
         clear H
         have p351 : 0 ≤ (x20_1 : Int) := of_decide_eq_true (by first | (with_reducible assumption) | assumption)
         have q351 : x20_1 < (l0.length : Int) := of_decide_eq_true (by first | (with_reducible assumption) | assumption)
         obtain ⟨ad351, e351, hx351_0, hx351_1⟩ := at_T72 HR0.out x20_1 p351 q351
         cases e351
         replace hx351_0 := (HB.out.cell (World.block_lt_of_cell? w _ hx351_0)).trans hx351_0
         replace hx351_1 := (HB.out.cell (World.block_lt_of_cell? w _ hx351_1)).trans hx351_1
         replace p351 := eq_true p351
         replace q351 := eq_true q351
         go_upto_region 6 with (((with_reducible refine gate_dst (N := 6) rfl ?_); refine box_event ?hg (N := 6) ?hd (cs := #[.int .i64 0, .int .i64 0]) (t := 72) ?hr ?_; (case hd => rfl); (case hg => rfl); (case hr => first | (go_simp; done) | (go_simp; rfl)); intro gb352 hg w14 hbox hb; have n0_ := Aside0.mk (Kd.R_below (by (with_reducible repeat (first | apply Kd.R_alloc | apply Kd.R_drewN | apply Kd.R_drew)); exact HO_3.out) hb); have n1_ := Aside0.mk (Kd.R_below (by (with_reducible repeat (first | apply Kd.R_alloc | apply Kd.R_drewN | apply Kd.R_drew)); exact HO_4.out) hb); have n2_ := Aside0.mk (below_step (by repeat (first | (with_reducible first | exact HB.out | apply below_alloc | apply pw_below_drewN | apply below_drew1) | exact HB.out)) hb); have n3_ := Aside0.mk (hbox); have n4_ := Aside0.mk ((by rw [hg]; exact (below_size (by repeat (first | (with_reducible first | exact HB.out | apply below_alloc | apply pw_below_drewN | apply below_drew1) | exact HB.out))) : w.heap.size ≤ gb352)); have n5_ := Aside0.mk ((by rw [hg]; exact (below_size (by repeat (first | (with_reducible first | exact HB.out | apply below_alloc | apply pw_below_drewN | apply below_drew1) | exact HB.out))) : w.heap.size ≤ gb352)); have n6_ := Aside0.mk (KeepsOthers.trans (by repeat (first | (with_reducible first | exact KO.out | apply ko_alloc | apply ko_drewN | apply ko_drew | apply ko_set) | exact KO.out)) (ko_below hb)); clear KO; clear HO_3; clear HO_4; clear HB; have HO_3 := n0_; have HO_4 := n1_; have HB := n2_; have BK352 := n3_; have GW352 := n4_; have GE352 := n5_; have KO := n6_; clear n0_ n1_ n2_ n3_ n4_ n5_ n6_; clear hb hbox hg; have hcz15_0 : w14.cell? ⟨gb352, 0, none⟩ = some (.int .i64 0) := (blk_cell BK352.out 0).trans rfl; have hcz15_1 : w14.cell? ⟨gb352, 1, none⟩ = some (.int .i64 0) := (blk_cell BK352.out 1).trans rfl; have hfz15_0 := blk_frozen BK352.out 0; have hfz15_1 := blk_frozen BK352.out 1; obtain ⟨Ao16, co16, eo16⟩ := Kd.R_slice HO_3.out; subst eo16))
         obtain ⟨Ao17, co17, eo17⟩ := Kd.R_slice HO_4.out
         subst eo17
         have n0_ : Aside0 (Kd.R (Kd.int .i64) 3 ((w14.setCell ⟨gb352, 0, none⟩ (.int .i64 ((rd_T72 l0 x20_1).f0))).setCell ⟨gb352, 1, none⟩ (.int .i64 ((rd_T72 l0 x20_1).f1))) w.heap.size (fun k_ => some k_ ≠ (.slice Ao17 x4_1.length co17 : Value).ownBlock) (.slice Ao16 x3_1.length co16) x3_1) := ⟨by (with_reducible repeat (first | apply Kd.R_alloc | apply Kd.R_drewN | apply Kd.R_drew)); exact Kd.R_mono (Kd.R_far (p := ⟨gb352, 1, none⟩) (Kd.R_far (p := ⟨gb352, 0, none⟩) (Kd.R_types HO_3.out BK352.out (by decide)) (fun _ hk => hk.2) (.int .i64 ((rd_T72 l0 x20_1).f0))) (fun _ hk => hk.2) (.int .i64 ((rd_T72 l0 x20_1).f1))) (fun _ hk => hk.1)⟩
         have n1_ : Aside0 (Kd.R (Kd.int .i64) 3 ((w14.setCell ⟨gb352, 0, none⟩ (.int .i64 ((rd_T72 l0 x20_1).f0))).setCell ⟨gb352, 1, none⟩ (.int .i64 ((rd_T72 l0 x20_1).f1))) w.heap.size (fun k_ => some k_ ≠ (.slice Ao16 x3_1.length co16 : Value).ownBlock) (.slice Ao17 x4_1.length co17) x4_1) := ⟨by (with_reducible repeat (first | apply Kd.R_alloc | apply Kd.R_drewN | apply Kd.R_drew)); exact Kd.R_mono (Kd.R_far (p := ⟨gb352, 1, none⟩) (Kd.R_far (p := ⟨gb352, 0, none⟩) (Kd.R_types HO_4.out BK352.out (by decide)) (fun _ hk => hk.2) (.int .i64 ((rd_T72 l0 x20_1).f0))) (fun _ hk => hk.2) (.int .i64 ((rd_T72 l0 x20_1).f1))) (fun _ hk => hk.1)⟩
         have n2_ : Aside0 (((w14.setCell ⟨gb352, 0, none⟩ (.int .i64 ((rd_T72 l0 x20_1).f0))).setCell ⟨gb352, 1, none⟩ (.int .i64 ((rd_T72 l0 x20_1).f1))).heap[gb352]? = some (.cells #[.int .i64 ((rd_T72 l0 x20_1).f0), .int .i64 ((rd_T72 l0 x20_1).f1)] 72 (0, 0))) := ⟨by (with_reducible repeat (first | refine blk_drewN ?_ _ | refine blk_drew ?_ | refine blk_alloc ?_ _)); refine blk_put (cs := #[.int .i64 ((rd_T72 l0 x20_1).f0), .int .i64 0]) ?_ 1 _ rfl; (with_reducible repeat (first | refine blk_drewN ?_ _ | refine blk_drew ?_ | refine blk_alloc ?_ _)); refine blk_put (cs := #[.int .i64 0, .int .i64 0]) ?_ 0 _ rfl; (with_reducible repeat (first | refine blk_drewN ?_ _ | refine blk_drew ?_ | refine blk_alloc ?_ _)); exact BK352.out⟩
         have n3_ : Aside0 (Below w.heap.size w ((w14.setCell ⟨gb352, 0, none⟩ (.int .i64 ((rd_T72 l0 x20_1).f0))).setCell ⟨gb352, 1, none⟩ (.int .i64 ((rd_T72 l0 x20_1).f1)))) := ⟨by repeat (first | (with_reducible first | exact HB.out | apply below_alloc | apply pw_below_drewN | apply below_drew1 | refine below_set ?_ GE352.out) | exact HB.out)⟩
         (try clear HO_3)
         (try clear HO_4)
         (try clear BK352)
         (try clear HB)
         have n4_ : Aside0 (KeepsOthers wr ((w14.setCell ⟨gb352, 0, none⟩ (.int .i64 ((rd_T72 l0 x20_1).f0))).setCell ⟨gb352, 1, none⟩ (.int .i64 ((rd_T72 l0 x20_1).f1)))) := ⟨by repeat (first | (with_reducible first | exact KO.out | apply ko_alloc | apply ko_drewN | apply ko_drew | apply ko_set) | exact KO.out)⟩
         clear KO
         generalize ((w14.setCell ⟨gb352, 0, none⟩ (.int .i64 ((rd_T72 l0 x20_1).f0))).setCell ⟨gb352, 1, none⟩ (.int .i64 ((rd_T72 l0 x20_1).f1))) = w18 at n0_ n1_ n2_ n3_ n4_ ⊢
         have HO_3 := n0_
         have HO_4 := n1_
         have BK352 := n2_
         have HB := n3_
         have HD18 := Aside0.mk (Dead.ko HD.out n4_.out)
         clear n0_ n1_ n2_ n3_ n4_ HD
         have hsz18 := Aside0.mk (show w.heap.size ≤ w18.heap.size from HB.out.size)
         go_wp2_with (go_at_call 84; refine (back_calls _ _ _ _).mono ?_; rintro e w' ⟨rfl, rfl⟩)
         refine back_fold (w18.heap.size + 1 + 1) w18.heap.size Ao16 co16 x3_1 0 (fun v c => Int.tmod (wrap64 (wrap64 (v * ((rd_T72 l0 x20_1).f0)) + c)) 251) rfl rfl (by go_simp) ?C1 ?M1 (by go_simp) (by go_simp) ?ne1 (fun x => ({ tmps := #[.slice (some ad351) l0.length c0, u1, u2, .slice Ao16 x3_1.length co16, .slice Ao17 x4_1.length co17, u5, .pointer (some ⟨gb352, 0, none⟩), .pointer (some ⟨w18.heap.size, 0, none⟩), .pointer (some ⟨w18.heap.size + 1, 0, none⟩), u9, .int .i64 x.2, u11, u12, u13, u14, u15, u16, u17, .slice (some ad351) l0.length c0, .int .i64 (l0.length : Int), .int .i64 x20_1, .bool true, .pointer (some (ad351.add (x20_1.toNat * 2))), .agg #[.int .i64 (rd_T72 l0 x20_1).f0, .int .i64 (rd_T72 l0 x20_1).f1], .slice Ao16 x3_1.length co16, .func (.func 92) #[] #[.pointer (some ⟨w18.heap.size + 1 + 1, 0, none⟩)], .int .i64 x.1, .int .i64 x.2, u28, u29, u30, u31, u32, u33, u34, u35, u36, u37, u38, u39, u40, u41, u42, u43, u44, u45, u46, u47, u48, u49, u50, u51, u52, u53, u54, u55, u56, u57, u58, u59, u60, u61, u62, u63, u64, u65, u66, u67, u68, u69, u70, u71, u72, u73, u74, u75, u76, u77, u78, u79, u80, u81, u82, u83, u84, u85, u86, u87, u88, u89, u90, u91, u92, u93, u94, u95, u96, u97, u98, u99, u100, u101, u102, u103, u104, u105, u106, u107, u108, u109, u110], defers := [] } : Act)) ?assign1 ?body1 ?done1
         case C1 => exact Kd.C_below (Kd.R_reads' HO_3.out).2.2 (by repeat (first | exact Below.refl _ _ | apply below_alloc))
         case M1 => exact (Kd.R_reads' HO_3.out).2.2.2.1
         case ne1 => exact back_ne (Kd.R_reads' HO_3.out).2.2 (by omega) (Nat.le_refl _)
         case assign1 =>
          intro l x W K hK
          gi_wp2
          exact hK
         case body1 =>
          intro l x v W R hb hv hf hR
          have hx : W.cell? ⟨gb352, 0, none⟩ = some (.int .i64 ((rd_T72 l0 x20_1).f0)) := (hb.cell (p := ⟨gb352, 0, none⟩) (by have := backblk_lt BK352.out; first | (simp; done) | (simp; omega))).trans ((World.cell?_setCell_other _ _ _ _ (by intro e_; have := backblk_lt BK352.out; injection e_; omega)).trans ((blk_cell (by (with_reducible repeat (first | refine blk_drewN ?_ _ | refine blk_drew ?_ | refine blk_alloc ?_ _)); exact BK352.out) 0).trans rfl))
          gi_wp2
          exact hR _
         intro D1 wx1 hD1 hb1 hK1
         have C7 : wx1.cell? ⟨w18.heap.size, 0, none⟩ = some (.int .i64 t353) := (hb1.cell (p := ⟨w18.heap.size, 0, none⟩) (by first | (simp; done) | (simp; omega))).trans ((World.cell?_setCell_same' _ _ _ (by first | (go_simp; done) | (go_simp; rfl))).trans (by rw [← Option.some.inj A7.out]; rfl))
         have C8 : wx1.cell? ⟨w18.heap.size + 1, 0, none⟩ = some (.int .i64 0) := (hb1.cell (p := ⟨w18.heap.size + 1, 0, none⟩) (by simp)).trans ((World.cell?_setCell_other _ _ _ _ (by intro e_; injection e_; omega)).trans (by go_simp))
         have F8 : wx1.frozen? ⟨w18.heap.size + 1, 0, none⟩ = false := (hb1.frozen (p := ⟨w18.heap.size + 1, 0, none⟩) (by simp)).trans (by go_simp)
         have hs1 := Aside0.mk (show w18.heap.size + 3 ≤ wx1.heap.size from (by have := hb1.size; simp [World.setCell] at this; omega))
         have HD1 := Aside0.mk (Dead.push (D := D1) HD18.out (KeepsOthers.trans (by repeat (first | (with_reducible first | exact KeepsOthers.refl _ | apply ko_alloc | apply ko_set))) (ko_set_below hb1)) hsz18.out (by simp at hD1; omega) hK1)
         replace hb1 : Below w18.heap.size w18 wx1 := (by refine Below.trans ?_ (hb1.mono (by first | (simp; done) | (simp; omega))); refine Below.setCell ?_ (Nat.le_refl w18.heap.size) _; repeat (first | exact Below.refl _ _ | apply below_alloc))
         have HB1 := Aside0.mk hb1
         have C7' := Aside0.mk C7
         clear hb1 hD1 hK1 C7 HD18
         have C8a : (wx1.alloc (.cells #[.slice Ao17 x4_1.length co17] 22)).cell? ⟨w18.heap.size + 1, 0, none⟩ = some (.int .i64 0) := (((Below.refl wx1.heap.size wx1).alloc (Nat.le_refl _) _).cell (p := ⟨w18.heap.size + 1, 0, none⟩) (by have := hs1.out; first | (simp; done) | (simp; omega))).trans C8
         have F8a : (wx1.alloc (.cells #[.slice Ao17 x4_1.length co17] 22)).frozen? ⟨w18.heap.size + 1, 0, none⟩ = false := (((Below.refl wx1.heap.size wx1).alloc (Nat.le_refl _) _).frozen (p := ⟨w18.heap.size + 1, 0, none⟩) (by have := hs1.out; first | (simp; done) | (simp; omega))).trans F8
         have C8a' := Aside0.mk C8a
         have F8a' := Aside0.mk F8a
         clear C8 F8 C8a F8a
         go_wp2_with (go_at_call 84; refine (back_calls _ _ _ _).mono ?_; rintro e w' ⟨rfl, rfl⟩)
         refine back_fold wx1.heap.size (w18.heap.size + 1) Ao17 co17 x4_1 0 (fun v c => Int.tmod (wrap64 (wrap64 (v * ((rd_T72 l0 x20_1).f0)) + c)) 251) rfl rfl (by go_simp) ?C2 ?M2 C8a'.out F8a'.out ?ne2 (fun x => ({ tmps := #[.slice (some ad351) l0.length c0, u1, u2, .slice Ao16 x3_1.length co16, .slice Ao17 x4_1.length co17, u5, .pointer (some ⟨gb352, 0, none⟩), .pointer (some ⟨w18.heap.size, 0, none⟩), .pointer (some ⟨w18.heap.size + 1, 0, none⟩), u9, u10, u11, .int .i64 x.2, u13, u14, u15, u16, u17, .slice (some ad351) l0.length c0, .int .i64 (l0.length : Int), .int .i64 x20_1, .bool true, .pointer (some (ad351.add (x20_1.toNat * 2))), .agg #[.int .i64 (rd_T72 l0 x20_1).f0, .int .i64 (rd_T72 l0 x20_1).f1], .slice Ao16 x3_1.length co16, .func (.func 92) #[] #[.pointer (some ⟨w18.heap.size + 1 + 1, 0, none⟩)], u26, u27, u28, u29, u30, u31, u32, u33, u34, .slice Ao17 x4_1.length co17, .func (.func 92) #[] #[.pointer (some ⟨wx1.heap.size, 0, none⟩)], .int .i64 x.1, .int .i64 x.2, u39, u40, u41, u42, u43, u44, u45, u46, u47, u48, u49, u50, u51, u52, u53, u54, u55, u56, u57, u58, u59, u60, u61, u62, u63, u64, u65, u66, u67, u68, u69, u70, u71, u72, u73, u74, u75, u76, u77, u78, u79, u80, u81, u82, u83, u84, u85, u86, u87, u88, u89, u90, u91, u92, u93, u94, u95, u96, u97, u98, u99, u100, u101, u102, u103, u104, u105, u106, u107, u108, u109, u110], defers := [] } : Act)) ?assign2 ?body2 ?done2
         case C2 => exact Kd.C_below (Kd.C_below (Kd.R_reads' HO_4.out).2.2 HB1.out) (by repeat (first | exact Below.refl _ _ | apply below_alloc))
         case M2 => exact (Kd.R_reads' HO_4.out).2.2.2.1
         case ne2 => exact back_ne (Kd.R_reads' HO_4.out).2.2 (by have := hs1.out; omega) (by omega)
         case assign2 =>
          intro l x W K hK
          gi_wp2
          exact hK
         case body2 =>
          intro l x v W R hb hv hf hR
          have hx : W.cell? ⟨gb352, 0, none⟩ = some (.int .i64 ((rd_T72 l0 x20_1).f0)) := (hb.cell (p := ⟨gb352, 0, none⟩) (by have := backblk_lt BK352.out; have := hs1.out; first | (simp; done) | (simp; omega))).trans ((World.cell?_setCell_other _ _ _ _ (by intro e_; have := backblk_lt BK352.out; injection e_; omega)).trans ((blk_cell (by (with_reducible repeat (first | refine blk_drewN ?_ _ | refine blk_drew ?_ | refine blk_alloc ?_ _)); exact blk_below (g := gb352) BK352.out HB1.out) 0).trans rfl))
          gi_wp2
          exact hR _
         intro D2 wx2 hD2 hb2 hK2
         have C8 := Aside0.mk (show wx2.cell? ⟨w18.heap.size + 1, 0, none⟩ = some (.int .i64 t354) from (hb2.cell (p := ⟨w18.heap.size + 1, 0, none⟩) (by have := hs1.out; first | (simp; done) | (simp; omega))).trans ((World.cell?_setCell_same' _ _ _ (by rw [C8a'.out]; rfl)).trans (by rw [← Option.some.inj A8.out]; rfl)))
         have C7 := Aside0.mk (show wx2.cell? ⟨w18.heap.size, 0, none⟩ = some (.int .i64 t353) from (hb2.cell (p := ⟨w18.heap.size, 0, none⟩) (by have := hs1.out; first | (simp; done) | (simp; omega))).trans ((World.cell?_setCell_other _ _ _ _ (by intro e_; injection e_; omega)).trans ((((Below.refl wx1.heap.size wx1).alloc (Nat.le_refl _) _).cell (p := ⟨w18.heap.size, 0, none⟩) (by have := hs1.out; first | (simp; done) | (simp; omega))).trans C7'.out)))
         have HD := Aside0.mk (Dead.push (D := D2) HD1.out (KeepsOthers.trans (by repeat (first | (with_reducible first | exact KeepsOthers.refl _ | apply ko_alloc | apply ko_set))) (ko_set_below hb2)) (Nat.le_trans hsz18.out (by have := hs1.out; omega)) (by simp at hD2; omega) hK2)
         have HB2 := Aside0.mk (show Below w18.heap.size w18 wx2 from (by refine Below.trans HB1.out ?_; refine Below.trans ?_ (hb2.mono (by have := hs1.out; first | (simp; done) | (simp; omega))); refine Below.setCell ?_ (show w18.heap.size ≤ w18.heap.size + 1 from Nat.le_succ _) _; refine Below.mono ?_ (show w18.heap.size ≤ wx1.heap.size from by have := hs1.out; omega); repeat (first | exact Below.refl _ _ | apply below_alloc)))
         have n0_ := Aside0.mk (Kd.R_below HO_3.out HB2.out)
         have n1_ := Aside0.mk (Kd.R_below HO_4.out HB2.out)
         have n2_ := Aside0.mk (blk_below (g := gb352) BK352.out HB2.out)
         have n3_ := Aside0.mk (below_step HB.out HB2.out)
         clear HO_3 HO_4 BK352 HB hb2 hD2 hK2 HD1 C7' HB1 HB2 hs1 hsz18
         have HO_3 := n0_
         have HO_4 := n1_
         have BK352 := n2_
         have HB := n3_
         have KO := Aside0.mk (KeepsOthers.refl wx2)
         clear n0_ n1_ n2_ n3_
         clear C8a' F8a'
         try go_wp2
         have n0_ := Aside0.mk (Kd.R_drew HO_3.out)
         have n1_ := Aside0.mk (Kd.R_drew HO_4.out)
         have n2_ := Aside0.mk (blk_drew BK352.out)
         have n3_ := Aside0.mk (below_drew1 HB.out)
         have n5_ := Aside0.mk (ko_drew KO.out)
         have n6_ := Aside0.mk (show wx2.drew.cell? ⟨w18.heap.size, 0, none⟩ = some (.int .i64 t353) from C7.out)
         have n7_ := Aside0.mk (show wx2.drew.cell? ⟨w18.heap.size + 1, 0, none⟩ = some (.int .i64 t354) from C8.out)
         clear KO C7 C8
         have KO := n5_
         have C7 := n6_
         have C8 := n7_
         clear n5_ n6_ n7_
         clear HO_3
         clear HO_4
         clear BK352
         clear HB
         have HO_3 := n0_
         have HO_4 := n1_
         have BK352 := n2_
         have HB := n3_
         clear n0_ n1_ n2_ n3_
         refine start_ (n := 10) (S := fun w' => w'.cell? ⟨gb352, 0, none⟩ = some (.int .i64 ((rd_T72 l0 x20_1).f0)) ∧ w'.cell? ⟨gb352, 1, none⟩ = some (.int .i64 ((rd_T72 l0 x20_1).f1)) ∧ w'.cell? ⟨w18.heap.size, 0, none⟩ = some (.int .i64 t353) ∧ w'.cell? ⟨w18.heap.size + 1, 0, none⟩ = some (.int .i64 t354)) (ds := []) #[false, false, false, false, false, false, false, false, false, false] (by kernel_rfl) rfl rfl ⟨(blk_cell BK352.out 0).trans rfl, (blk_cell BK352.out 1).trans rfl, C7.out, C8.out⟩ (fun hHeld => ?_); refine with_tabW impl_polyOf.tab13 impl_polyOf.bits13 (fun HT_ HW_ => ?_)
         generalize wx2.drew = w19 at HO_3 HO_4 BK352 HB KO C7 C8 hHeld ⊢
         refine pure_ (i := 0) (N := some 46) (v := ?_) (a' := ?_) #[true, false, false, false, false, false, false, false, false, false] rfl rfl (any_of HT_.out (by kernel_rfl)) (fun _ _ _ h => h) (Or.inl ⟨by rfl, ?_⟩) ?_ ?_
         rotate_left
         ·intro w'
          go_simp
          with_reducible rfl
         rotate_left
         ·simp only [Act.put, List.setIfInBounds_toArray, List.set_cons_zero, List.set_cons_succ, i64_w, i32_w]
          rfl
         refine take_ (i := 2) (N := some 48) (v := ?_) (a' := ?_) #[true, false, true, false, false, false, false, false, false, false] rfl rfl (take_ofW HT_.out HW_.out (by kernel_rfl)) (fun _ _ _ h => h) (Or.inl ⟨by rfl, ?_⟩) hHeld ?_ ?_
         rotate_left
         ·rintro w' ⟨s0, s1, s2, s3⟩
          go_simp
          with_reducible rfl
         rotate_left
         ·simp only [Act.put, List.setIfInBounds_toArray, List.set_cons_zero, List.set_cons_succ, i64_w, i32_w]
          rfl
         refine take_ (i := 5) (N := some 51) (v := ?_) (a' := ?_) #[true, false, true, false, false, true, false, false, false, false] rfl rfl (take_ofW HT_.out HW_.out (by kernel_rfl)) (fun _ _ _ h => h) (Or.inl ⟨by rfl, ?_⟩) hHeld ?_ ?_
         rotate_left
         ·rintro w' ⟨s0, s1, s2, s3⟩
          go_simp
          with_reducible rfl
         rotate_left
         ·simp only [Act.put, List.setIfInBounds_toArray, List.set_cons_zero, List.set_cons_succ, i64_w, i32_w]
          rfl
         refine take_ (i := 1) (N := some 47) (v := ?_) (a' := ?_) #[true, true, true, false, false, true, false, false, false, false] rfl rfl (take_ofW HT_.out HW_.out (by kernel_rfl)) (fun _ _ _ h => h) (Or.inl ⟨by rfl, ?_⟩) hHeld ?_ ?_
         rotate_left
         ·rintro w' ⟨s0, s1, s2, s3⟩
          go_simp
          with_reducible rfl
         rotate_left
         ·simp only [Act.put, List.setIfInBounds_toArray, List.set_cons_zero, List.set_cons_succ, i64_w, i32_w]
          rfl
         refine pure_ (i := 3) (N := some 49) (v := ?_) (a' := ?_) #[true, true, true, true, false, true, false, false, false, false] rfl rfl (any_of HT_.out (by kernel_rfl)) (fun _ _ _ h => h) (Or.inl ⟨by rfl, ?_⟩) ?_ ?_
         rotate_left
         ·intro w'
          go_simp
          with_reducible rfl
         rotate_left
         ·simp only [Act.put, List.setIfInBounds_toArray, List.set_cons_zero, List.set_cons_succ, i64_w, i32_w]
          rfl
         refine pure_ (i := 4) (N := some 50) (v := ?_) (a' := ?_) #[true, true, true, true, true, true, false, false, false, false] rfl rfl (any_of HT_.out (by kernel_rfl)) (fun _ _ _ h => h) (Or.inl ⟨by rfl, ?_⟩) ?_ ?_
         rotate_left
         ·intro w'
          go_simp
          with_reducible rfl
         rotate_left
         ·simp only [Act.put, List.setIfInBounds_toArray, List.set_cons_zero, List.set_cons_succ, i64_w, i32_w]
          rfl
         refine one_ (i := 6) (N := some 52) #[true, true, true, true, true, true, true, false, false, false] rfl rfl (one_of HT_.out (by kernel_rfl)) (by decide) (fun K hK => ?_)
         refine goes_ Try.func85 (by kernel_rfl) rfl #[.int .i64 t354] (by rfl) rfl rfl (by (try simp only [List.map_toArray, List.map_cons, List.map_nil]); first | done | rfl | (simp only [List.length_drop, List.length_take]; rfl)) ?_
         with_reducible refine (impl_InverseOf.calls k1 t354 t355 _ A9.out).mono ?_
         rintro e w' ⟨rfl, ⟨nd, rfl⟩⟩
         refine ⟨_, rfl, ?_⟩
         refine hK.out _ _ ⟨(blk_cell BK352.out 0).trans rfl, (blk_cell BK352.out 1).trans rfl, C7.out, C8.out⟩ (fun hHeld => ?_)
         clear hK K
         refine norm_ (a' := ?_) ?_ ?_
         rotate_left
         ·show Act.put _ (some 52) _ = _
          simp only [Act.put, List.setIfInBounds_toArray, List.set_cons_zero, List.set_cons_succ, i64_w, i32_w]
          rfl
         refine pure_ (i := 7) (N := some 53) (v := ?_) (a' := ?_) #[true, true, true, true, true, true, true, true, false, false] rfl rfl (any_of HT_.out (by kernel_rfl)) (fun _ _ _ h => h) (Or.inl ⟨by rfl, ?_⟩) ?_ ?_
         rotate_left
         ·intro w'
          go_simp
          with_reducible rfl
         rotate_left
         ·simp only [Act.put, List.setIfInBounds_toArray, List.set_cons_zero, List.set_cons_succ, i64_w, i32_w]
          rfl
         refine pure_ (i := 8) (N := some 54) (v := ?_) (a' := ?_) #[true, true, true, true, true, true, true, true, true, false] rfl rfl (any_of HT_.out (by kernel_rfl)) (fun _ _ _ h => h) (Or.inl ⟨by rfl, ?_⟩) ?_ ?_
         rotate_left
         ·intro w'
          go_simp
          with_reducible rfl
         rotate_left
         ·simp only [Act.put, List.setIfInBounds_toArray, List.set_cons_zero, List.set_cons_succ, i64_w, i32_w]
          rfl
         refine pure_ (i := 9) (N := some 13) (v := ?_) (a' := ?_) #[true, true, true, true, true, true, true, true, true, true] rfl rfl (any_of HT_.out (by kernel_rfl)) (fun _ _ _ h => h) (Or.inl ⟨by rfl, ?_⟩) ?_ ?_
         rotate_left
         ·intro w'
          go_simp
          with_reducible rfl
         rotate_left
         ·simp only [Act.put, List.setIfInBounds_toArray, List.set_cons_zero, List.set_cons_succ, i64_w, i32_w]
          rfl
         refine done_ (done_of HT_.out (by kernel_rfl)) ?_
         try go_wp2_with (first | ((with_reducible refine gate_builtin (b := .append) (xs := #[.tmp 55, .tmp 56]) rfl ?_); at_builtin; refine Kd.R_append (Kd.int .i64) (w0 := w) w.heap.size rfl (.tmp 55) (.tmp 56) 22 3 (.int .i64 0) 8 rfl Try.underlying22 info3 rfl (by decide) (by omega) (.slice Ao16 x3_1.length co16) x3_1 0 [.int .i64 0] (fun k_ => some k_ ≠ (.slice Ao17 x4_1.length co17 : Value).ownBlock) (fun _ => False) rfl rfl ?aP (fun _ hk => hk.elim) ?aF ?aO ?aB ?aS ?aL ?_; (case aP => exact rfl); (case aB => exact (by repeat (first | (with_reducible first | exact HB.out | apply below_alloc | apply pw_below_drewN | apply below_drew1 | refine below_set ?_ GE352.out) | exact HB.out))); (case aF => exact (fun k_ hk => Kd.fresh' (Kd.R_lt (by (with_reducible repeat (first | apply Kd.R_alloc | apply Kd.R_drewN | apply Kd.R_drew)); exact HO_4.out)) k_ hk)); (case aO => exact (by (with_reducible repeat (first | apply Kd.R_alloc | apply Kd.R_drewN | apply Kd.R_drew)); exact HO_3.out)); (case aS => exact (below_size (by repeat (first | (with_reducible first | exact HB.out | apply below_alloc | apply pw_below_drewN | apply below_drew1 | refine below_set ?_ GE352.out) | exact HB.out)))); (case aL => have := LMc10.out; omega); intro v357 w20 ho hb hg hat; rw [← Ny356.out] at ho; have kq_ := Aside0.mk (ko_append (by (with_reducible repeat (first | apply Kd.R_alloc | apply Kd.R_drewN | apply Kd.R_drew)); exact HO_3.out) (by repeat (first | (with_reducible first | exact KO.out | apply ko_alloc | apply ko_drewN | apply ko_drew | apply ko_set) | exact KO.out)) hg); clear KO; have KO := kq_; clear kq_; have n0_ := Aside0.mk (Kd.R_after (ok := (fun _ => True)) (by (with_reducible repeat (first | apply Kd.R_alloc | apply Kd.R_drewN | apply Kd.R_drew)); exact Kd.R_mono HO_4.out (fun _ hk => ⟨trivial, by first | exact hk | (intro e_; apply hk; rw [e_]; apply own_len)⟩)) hg hat); have n1_ := Aside0.mk (blk_grown (g := gb352) (o := .cells #[.int .i64 ((rd_T72 l0 x20_1).f0), .int .i64 ((rd_T72 l0 x20_1).f1)] 72 (0, 0)) (by (with_reducible repeat (first | refine blk_drewN ?_ _ | refine blk_drew ?_ | refine blk_alloc ?_ _)); exact BK352.out) hg (Kd.R_ne HO_3.out BK352.out (by decide))); have n2_ := Aside0.mk (hb); have n3_ := Aside0.mk (ho); clear HO_4; clear BK352; clear HB; clear HO_3; have HO_4 := n0_; have BK352 := n1_; have HB := n2_; have HO358 := n3_; clear n0_ n1_ n2_ n3_; clear ho hb hg hat) | ((with_reducible refine gate_dst (N := 61) rfl ?_); refine Kd.R_make (Kd.int .i64) _ 3 rfl (N := 61) rfl 22 _ _ rfl ji11 rfl rfl Try.underlying22 (.int .i64 0) 8 info3 rfl (by decide) (by omega) 0 (ok := fun _ => True) (okp := fun _ => True) rfl (fun _ hk => hk) trivial (of_decide_eq_true (by first | (with_reducible assumption) | assumption)) (Nat.le_trans (Nat.mul_le_mul_right _ (of_decide_eq_true (by first | (with_reducible assumption) | assumption) : ji11.toNat ≤ 35184372088832)) (by omega)) (Below.refl _ _) (Nat.le_refl _) ?_; intro v360 w21 ho22 hb hg_ hnew_; have kq_ := Aside0.mk (KeepsOthers.trans (by repeat (first | (with_reducible first | exact KO.out | apply ko_alloc | apply ko_drewN | apply ko_drew | apply ko_set) | exact KO.out)) (ko_below hb)); clear KO; have KO := kq_; clear kq_; clear hg_ hnew_; (first | rw [← Ny359.out] at ho22 | (simp only [Int.reduceToNat] at ho22; rw [← Ny359.out] at ho22)); have n0_ := Aside0.mk (Kd.R_elder' (by (with_reducible repeat (first | apply Kd.R_alloc | apply Kd.R_drewN | apply Kd.R_drew)); exact HO_4.out) (Kd.R_base ho22) hb); have n1_ := Aside0.mk (Kd.R_elder' (by (with_reducible repeat (first | apply Kd.R_alloc | apply Kd.R_drewN | apply Kd.R_drew)); exact HO358.out) (Kd.R_base ho22) hb); have n2_ := Aside0.mk (Kd.R_lower (Kd.R_new' (Kd.R_new' ho22 (Kd.R_lt (by (with_reducible repeat (first | apply Kd.R_alloc | apply Kd.R_drewN | apply Kd.R_drew)); exact HO_4.out))) (Kd.R_lt (by (with_reducible repeat (first | apply Kd.R_alloc | apply Kd.R_drewN | apply Kd.R_drew)); exact HO358.out))) (below_size (by repeat (first | (with_reducible first | exact HB.out | apply below_alloc | apply pw_below_drewN | apply below_drew1 | refine below_set ?_ GE352.out) | exact HB.out)))); have n3_ := Aside0.mk (blk_below (g := gb352) (o := .cells #[.int .i64 ((rd_T72 l0 x20_1).f0), .int .i64 ((rd_T72 l0 x20_1).f1)] 72 (0, 0)) (by (with_reducible repeat (first | refine blk_drewN ?_ _ | refine blk_drew ?_ | refine blk_alloc ?_ _)); exact BK352.out) hb); have n4_ := Aside0.mk (below_step (by repeat (first | (with_reducible first | exact HB.out | apply below_alloc | apply pw_below_drewN | apply below_drew1 | refine below_set ?_ GE352.out) | exact HB.out)) hb); clear HO_4; clear HO358; clear BK352; clear HB; have HO_4 := n0_; have HO358 := n1_; have HO361 := n2_; have BK352 := n3_; have HB := n4_; clear n0_ n1_ n2_ n3_ n4_; clear hb ho22))
         go_loopg [64] k1 (fun kq v64 w' => ∃ (x3_2 : List Int) (x14_2 : List Int) (x64_2 : Int), v64 = .int .i64 x64_2 ∧ Aside0 (impl_polyOf.l1 kq x3_2 (Int.tmod (wrap64 ((wrap64 ((wrap64 (((rd_T72 l0 x20_1).f1) - t353)) + 251)) * t355)) 251) x14_2 l0 (l0.length : Int) x20_1 x4_1 (x4_1.length : Int) x64_2 ((rd_T72 l0 x20_1).f0) ((rd_T72 l0 x20_1).f1) = some r) ∧ Aside0 (kq ≤ k1) ∧ Aside0 (Kd.R (Kd.int .i64) 3 w' w.heap.size (fun k_ => some k_ ≠ (v360 : Value).ownBlock ∧ some k_ ≠ ((.slice Ao17 x4_1.length co17) : Value).ownBlock) v357 x3_2) ∧ Aside0 (Kd.R (Kd.int .i64) 3 w' w.heap.size (fun k_ => some k_ ≠ (v357 : Value).ownBlock ∧ some k_ ≠ ((.slice Ao17 x4_1.length co17) : Value).ownBlock) v360 x14_2) ∧ Aside0 (Kd.R (Kd.int .i64) 3 w' w.heap.size (fun k_ => some k_ ≠ (v357 : Value).ownBlock ∧ some k_ ≠ (v360 : Value).ownBlock) (.slice Ao17 x4_1.length co17) x4_1) ∧ Aside0 (w'.heap[gb352]? = some (.cells #[.int .i64 ((rd_T72 l0 x20_1).f0), .int .i64 ((rd_T72 l0 x20_1).f1)] 72 (0, 0))) ∧ Aside0 (Below w.heap.size w w') ∧ Aside0 (KeepsOthers wx2 w'))
         case atStart => exact ⟨(y356), (y359), (0), (by first | rfl | (simp; done) | (simp [*]; done)), H', ⟨Nat.le_refl _⟩, ⟨by (with_reducible repeat (first | apply Kd.R_alloc | apply Kd.R_drewN | apply Kd.R_drew)); exact Kd.R_mono HO358.out (fun _ hk => ⟨hk.2, hk.1⟩)⟩, ⟨by (with_reducible repeat (first | apply Kd.R_alloc | apply Kd.R_drewN | apply Kd.R_drew)); exact Kd.R_mono HO361.out (fun _ hk => ⟨hk.2, hk.1.2⟩)⟩, ⟨by (with_reducible repeat (first | apply Kd.R_alloc | apply Kd.R_drewN | apply Kd.R_drew)); exact Kd.R_mono HO_4.out (fun _ hk => ⟨hk.1.2, hk.2⟩)⟩, ⟨by (with_reducible repeat (first | refine blk_drewN ?_ _ | refine blk_drew ?_ | refine blk_alloc ?_ _)); exact BK352.out⟩, ⟨by repeat (first | (with_reducible first | exact HB.out | apply below_alloc | apply pw_below_drewN | apply below_drew1 | refine below_set ?_ GE352.out) | exact HB.out)⟩, ⟨by repeat (first | (with_reducible first | exact KO.out | apply ko_alloc | apply ko_drewN | apply ko_drew | apply ko_set) | exact KO.out)⟩⟩
         case round =>
          clear H'
          try clear c1
          try clear p2
          try clear p3
          try clear q3
          try clear hx3
          try clear c4
          try clear c4b0
          try clear c5
          try clear c5b0
          try clear c6
          try clear c6b0
          try clear p6
          try clear c8
          try clear c10
          try clear c12
          try clear c12b0
          try clear c12b1
          try clear c13
          try clear c13b0
          try clear c13b1
          try clear hcz15_0
          try clear hcz15_1
          try clear hfz15_0
          try clear hfz15_1
          try clear hx351_0
          try clear hx351_1
          try clear p2
          try clear p351
          try clear q351
          clear KO
          obtain ⟨x3_2, x14_2, x64_2, rfl, HA, HK2, HO_3, HO_14, HO_62, BK352, HB, KO⟩ := hrel
          cases gk with
          | zero => exact absurd HA.out (by simp [impl_polyOf.l1])
          | succ k2 =>
           have H := HA.out
           clear HA
           simp only [impl_polyOf.l1] at H
           by_cases c23 : x64_2 < (x4_1.length : Int)
           ·rw [if_pos c23] at H
            have c23b0 : decide (x64_2 < (x4_1.length : Int)) = true := decide_eq_true c23
            clear c23
            by_cases c24 : 0 ≤ x64_2
            ·rw [if_pos c24] at H
             have c24b0 : decide (0 ≤ x64_2) = true := decide_eq_true c24
             clear c24
             by_cases c25 : x64_2 < (x4_1.length : Int)
             ·rw [if_pos c25] at H
              have c25b0 : decide (x64_2 < (x4_1.length : Int)) = true := decide_eq_true c25
              clear c25
              by_cases c26 : x64_2 < (x3_2.length : Int)
              ·rw [if_pos c26] at H
               have c26b0 : decide (x64_2 < (x3_2.length : Int)) = true := decide_eq_true c26
               clear c26
               obtain ⟨y364, hy364⟩ : ∃ y_ : List Int, y_ = (x3_2.set (x64_2 : Int).toNat (Int.tmod (wrap64 ((rd x3_2 x64_2) + (wrap64 ((Int.tmod (wrap64 ((wrap64 ((wrap64 (((rd_T72 l0 x20_1).f1) - t353)) + 251)) * t355)) 251) * (rd x4_1 x64_2))))) 251)) := ⟨_, rfl⟩
               replace H : (if 0 ≤ (wrap64 (x64_2 + 1)) then (if (wrap64 (x64_2 + 1)) < (x14_2.length : Int) then ((some (x14_2.set ((wrap64 (x64_2 + 1)) : Int).toNat (Int.tmod (wrap64 ((rd x14_2 (wrap64 (x64_2 + 1))) + (rd x4_1 x64_2))) 251) : List Int)).bind fun y366 => (if x64_2 < (x14_2.length : Int) then (impl_polyOf.l1 k2 y364 (Int.tmod (wrap64 ((wrap64 ((wrap64 (((rd_T72 l0 x20_1).f1) - t353)) + 251)) * t355)) 251) (y366.set (x64_2 : Int).toNat (Int.tmod (wrap64 ((rd y366 x64_2) + (wrap64 ((wrap64 (251 - ((rd_T72 l0 x20_1).f0))) * (rd x4_1 x64_2))))) 251)) l0 (l0.length : Int) x20_1 x4_1 (x4_1.length : Int) (wrap64 (x64_2 + 1)) ((rd_T72 l0 x20_1).f0) ((rd_T72 l0 x20_1).f1)) else (none))) else (none)) else (none)) = some r := by first | (rw [hy364]; with_reducible exact H) | (have H2_ := (Option.bind_some _ _).symm.trans H; rw [hy364]; with_reducible exact H2_) | (have H2_ := (Option.bind_some _ _).symm.trans H; with_reducible exact H2_) | with_reducible exact H | (rw [hy364]; exact H) | exact H
               have Ny364 := Aside0.mk hy364
               clear hy364
               obtain ⟨ji28, hji28⟩ : ∃ j_ : Int, (wrap64 (x64_2 + 1)) = j_ := ⟨_, rfl⟩
               replace H : (if 0 ≤ (ji28) then (if (ji28) < (x14_2.length : Int) then ((some (x14_2.set ((ji28) : Int).toNat (Int.tmod (wrap64 ((rd x14_2 (ji28)) + (rd x4_1 x64_2))) 251) : List Int)).bind fun y366 => (if x64_2 < (x14_2.length : Int) then (impl_polyOf.l1 k2 y364 (Int.tmod (wrap64 ((wrap64 ((wrap64 (((rd_T72 l0 x20_1).f1) - t353)) + 251)) * t355)) 251) (y366.set (x64_2 : Int).toNat (Int.tmod (wrap64 ((rd y366 x64_2) + (wrap64 ((wrap64 (251 - ((rd_T72 l0 x20_1).f0))) * (rd x4_1 x64_2))))) 251)) l0 (l0.length : Int) x20_1 x4_1 (x4_1.length : Int) ji28 ((rd_T72 l0 x20_1).f0) ((rd_T72 l0 x20_1).f1)) else (none))) else (none)) else (none)) = some r := by first | (rw [hji28] at H; exact H) | (simp only [hji28] at H ⊢; exact H)
               have hji28w : (IntKind.i64.wrap (x64_2 + 1)) = ji28 := (i64_w _).trans hji28
               by_cases c29 : 0 ≤ (ji28)
               ·rw [if_pos c29] at H
                have c29b0 : decide (0 ≤ (ji28)) = true := decide_eq_true c29
                clear c29
                by_cases c30 : (ji28) < (x14_2.length : Int)
                ·rw [if_pos c30] at H
                 have c30b0 : decide ((ji28) < (x14_2.length : Int)) = true := decide_eq_true c30
                 clear c30
                 obtain ⟨y366, hy366⟩ : ∃ y_ : List Int, y_ = (x14_2.set ((ji28) : Int).toNat (Int.tmod (wrap64 ((rd x14_2 (ji28)) + (rd x4_1 x64_2))) 251)) := ⟨_, rfl⟩
                 replace H : (if x64_2 < (x14_2.length : Int) then (impl_polyOf.l1 k2 y364 (Int.tmod (wrap64 ((wrap64 ((wrap64 (((rd_T72 l0 x20_1).f1) - t353)) + 251)) * t355)) 251) (y366.set (x64_2 : Int).toNat (Int.tmod (wrap64 ((rd y366 x64_2) + (wrap64 ((wrap64 (251 - ((rd_T72 l0 x20_1).f0))) * (rd x4_1 x64_2))))) 251)) l0 (l0.length : Int) x20_1 x4_1 (x4_1.length : Int) ji28 ((rd_T72 l0 x20_1).f0) ((rd_T72 l0 x20_1).f1)) else (none)) = some r := by first | (rw [hy366]; with_reducible exact H) | (have H2_ := (Option.bind_some _ _).symm.trans H; rw [hy366]; with_reducible exact H2_) | (have H2_ := (Option.bind_some _ _).symm.trans H; with_reducible exact H2_) | with_reducible exact H | (rw [hy366]; exact H) | exact H
                 have Ny366 := Aside0.mk hy366
                 clear hy366
                 by_cases c32 : x64_2 < (x14_2.length : Int)
                 ·rw [if_pos c32] at H
                  have c32b0 : decide (x64_2 < (x14_2.length : Int)) = true := decide_eq_true c32
                  clear c32
                  obtain ⟨y368, hy368⟩ : ∃ y_ : List Int, y_ = (y366.set (x64_2 : Int).toNat (Int.tmod (wrap64 ((rd y366 x64_2) + (wrap64 ((wrap64 (251 - ((rd_T72 l0 x20_1).f0))) * (rd x4_1 x64_2))))) 251)) := ⟨_, rfl⟩
                  replace H : (impl_polyOf.l1 k2 y364 (Int.tmod (wrap64 ((wrap64 ((wrap64 (((rd_T72 l0 x20_1).f1) - t353)) + 251)) * t355)) 251) y368 l0 (l0.length : Int) x20_1 x4_1 (x4_1.length : Int) ji28 ((rd_T72 l0 x20_1).f0) ((rd_T72 l0 x20_1).f1)) = some r := by first | (rw [hy368]; with_reducible exact H) | (have H2_ := (Option.bind_some _ _).symm.trans H; rw [hy368]; with_reducible exact H2_) | (have H2_ := (Option.bind_some _ _).symm.trans H; with_reducible exact H2_) | with_reducible exact H | (rw [hy368]; exact H) | exact H
                  have Ny368 := Aside0.mk hy368
                  clear hy368
                  have H' := Aside0.mk H
                  clear H
                  have p362 : 0 ≤ (x64_2 : Int) := of_decide_eq_true (by first | (with_reducible assumption) | assumption)
                  have q362 : x64_2 < (x4_1.length : Int) := of_decide_eq_true (by first | (with_reducible assumption) | assumption)
                  obtain ⟨ad362, e362, hx362_0⟩ := Kd.at_int (Kd.R_reads' HO_62.out).2.2 x64_2 p362 q362
                  cases e362
                  replace p362 := eq_true p362
                  replace q362 := eq_true q362
                  obtain ⟨Ao34, co34, eo34⟩ := Kd.R_slice HO_3.out
                  subst eo34
                  have p363 : 0 ≤ (x64_2 : Int) := of_decide_eq_true (by first | (with_reducible assumption) | assumption)
                  have q363 : x64_2 < (x3_2.length : Int) := of_decide_eq_true (by first | (with_reducible assumption) | assumption)
                  obtain ⟨ad363, e363, hx363_0⟩ := Kd.at_int (Kd.R_reads' HO_3.out).2.2 x64_2 p363 q363
                  cases e363
                  replace p363 := eq_true p363
                  replace q363 := eq_true q363
                  have p27 : 0 ≤ (x64_2 : Int) := of_decide_eq_true (by first | (with_reducible assumption) | assumption)
                  have q27 : (x64_2 : Int) < ((x3_2.length : Int) : Int) := of_decide_eq_true (by first | (with_reducible assumption) | assumption)
                  obtain ⟨go27, co27, eo27, gb27, gl27, cl27, HG27⟩ := Kd.R_form HO_3.out (by omega)
                  (first | cases eo27 | (injection eo27 with ea_ en_ ec_; (first | subst ea_ | (injection ea_ with ea_; subst ea_)); subst ec_; clear en_))
                  have GB27 := Aside0.mk gb27
                  have GG27 := Aside0.mk HG27
                  clear gb27 gl27 HG27
                  (first | simp only [add_plain] at hx363_0 | skip)
                  obtain ⟨hx27_0, hf27_0⟩ := Kd.R_celln 0 HO_3.out (x64_2 : Int) p27 q27
                  replace p27 := eq_true p27
                  replace q27 := eq_true q27
                  have HP35 := Kd.R_putg HO_3.out (x64_2 : Int) (Int.tmod (wrap64 ((rd x3_2 x64_2) + (wrap64 ((Int.tmod (wrap64 ((wrap64 ((wrap64 (((rd_T72 l0 x20_1).f1) - t353)) + 251)) * t355)) 251) * (rd x4_1 x64_2))))) 251)
                  try go_wp2_with (first | ((with_reducible refine gate_store (t := 3) (p := 80) rfl ?_); refine store_event (t := 3) (p := 80) (v := ?vo_w36) (w1 := (wr.setCell ⟨go27, (x64_2 : Int).toNat, none⟩ (.int .i64 (Int.tmod (wrap64 ((rd x3_2 x64_2) + (wrap64 ((Int.tmod (wrap64 ((wrap64 ((wrap64 (((rd_T72 l0 x20_1).f1) - t353)) + 251)) * t355)) 251) * (rd x4_1 x64_2))))) 251)))) ?hg ?ho ?hn ?hr ?_; (case ho => rfl); (case hg => rfl); (case hn => rfl); (case hr => first | (go_simp; done) | (go_simp; rfl)); intro w36 hw; have kq_ := Aside0.mk (by rw [hw]; exact ko_set KO.out : KeepsOthers wx2 w36); clear KO; have KO := kq_; clear kq_; have hg : wr.grownBy w36 (some go27) := (by rw [hw]; exact HP35.2); have hp_ : Kd.R (Kd.int .i64) 3 w36 w.heap.size (fun k_ => some k_ ≠ (v360 : Value).ownBlock ∧ some k_ ≠ (.slice (some ad362) x4_1.length co17 : Value).ownBlock) (.slice (some ⟨go27, 0, none⟩) x3_2.length co34) y364 := (by rw [hw, Ny364.out]; exact HP35.1); clear HP35; have n0_ := Aside0.mk (hp_); have n1_ := Aside0.mk (Kd.R_after (v := (.slice (some ⟨go27, 0, none⟩) x3_2.length co34)) (v1 := (.slice (some ⟨go27, 0, none⟩) x3_2.length co34)) (ok := (fun k_ => some k_ ≠ (.slice (some ad362) x4_1.length co17 : Value).ownBlock)) (by (with_reducible repeat (first | apply Kd.R_alloc | apply Kd.R_drewN | apply Kd.R_drew)); exact Kd.R_mono HO_14.out (fun _ hk => ⟨hk.2, hk.1⟩)) hg (.inl rfl)); have n2_ := Aside0.mk (Kd.R_after (v := (.slice (some ⟨go27, 0, none⟩) x3_2.length co34)) (v1 := (.slice (some ⟨go27, 0, none⟩) x3_2.length co34)) (ok := (fun k_ => some k_ ≠ (v360 : Value).ownBlock)) (by (with_reducible repeat (first | apply Kd.R_alloc | apply Kd.R_drewN | apply Kd.R_drew)); exact Kd.R_mono HO_62.out (fun _ hk => ⟨hk.2, hk.1⟩)) hg (.inl rfl)); have n3_ := Aside0.mk (blk_grown (g := gb352) (o := .cells #[.int .i64 ((rd_T72 l0 x20_1).f0), .int .i64 ((rd_T72 l0 x20_1).f1)] 72 (0, 0)) (by (with_reducible repeat (first | refine blk_drewN ?_ _ | refine blk_drew ?_ | refine blk_alloc ?_ _)); exact BK352.out) hg (Kd.R_ne HO_3.out BK352.out (by decide))); have n4_ := Aside0.mk ((by rw [hw]; exact below_set (HB.out) GB27.out : Below w.heap.size w w36)); clear HO_3; clear HO_14; clear HO_62; clear BK352; clear HB; have HO_3 := n0_; have HO_14 := n1_; have HO_62 := n2_; have BK352 := n3_; have HB := n4_; clear n0_ n1_ n2_ n3_ n4_; clear hg hw hp_; obtain ⟨Ao37, co37, eo37⟩ := Kd.R_slice HO_14.out; subst eo37; have p365 : 0 ≤ ((ji28) : Int) := of_decide_eq_true (by first | (with_reducible assumption) | assumption); have q365 : (ji28) < (x14_2.length : Int) := of_decide_eq_true (by first | (with_reducible assumption) | assumption); obtain ⟨ad365, e365, hx365_0⟩ := Kd.at_int (Kd.R_reads' HO_14.out).2.2 (ji28) p365 q365; cases e365; replace p365 := eq_true p365; replace q365 := eq_true q365; have p31 : 0 ≤ ((ji28) : Int) := of_decide_eq_true (by first | (with_reducible assumption) | assumption); have q31 : ((ji28) : Int) < ((x14_2.length : Int) : Int) := of_decide_eq_true (by first | (with_reducible assumption) | assumption); obtain ⟨go31, co31, eo31, gb31, gl31, cl31, HG31⟩ := Kd.R_form HO_14.out (by omega); (first | cases eo31 | (injection eo31 with ea_ en_ ec_; (first | subst ea_ | (injection ea_ with ea_; subst ea_)); subst ec_; clear en_)); have GB31 := Aside0.mk gb31; have GG31 := Aside0.mk HG31; clear gb31 gl31 HG31; (first | simp only [add_plain] at hx365_0 | skip); obtain ⟨hx31_0, hf31_0⟩ := Kd.R_celln 0 HO_14.out ((ji28) : Int) p31 q31; replace p31 := eq_true p31; replace q31 := eq_true q31; obtain ⟨hy38_, hz38_⟩ := Kd.R_celln 0 HO_14.out ((ji28) : Int) (of_decide_eq_true (by first | (with_reducible assumption) | assumption)) (of_decide_eq_true (by first | (with_reducible assumption) | assumption)); have HP38 := Kd.R_putg HO_14.out ((ji28) : Int) (Int.tmod (wrap64 ((rd x14_2 (ji28)) + (rd x4_1 x64_2))) 251)) | ((with_reducible refine gate_store (t := 3) (p := 92) rfl ?_); refine store_event (t := 3) (p := 92) (v := ?vo_w39) (w1 := (w36.setCell ⟨go31, ((ji28) : Int).toNat, none⟩ (.int .i64 (Int.tmod (wrap64 ((rd x14_2 (ji28)) + (rd x4_1 x64_2))) 251)))) ?hg ?ho ?hn ?hr ?_; (case ho => rfl); (case hg => rfl); (case hn => rfl); (case hr => first | (go_simp; done) | (go_simp; rfl)); intro w39 hw; have kq_ := Aside0.mk (by rw [hw]; exact ko_set KO.out : KeepsOthers wx2 w39); clear KO; have KO := kq_; clear kq_; have hg : w36.grownBy w39 (some go31) := (by rw [hw]; exact HP38.2); have hp_ : Kd.R (Kd.int .i64) 3 w39 w.heap.size (fun k_ => some k_ ≠ (.slice (some ad362) x4_1.length co17 : Value).ownBlock ∧ some k_ ≠ (.slice (some ⟨go27, 0, none⟩) x3_2.length co34 : Value).ownBlock) (.slice (some ⟨go31, 0, none⟩) x14_2.length co37) y366 := (by rw [hw, Ny366.out]; exact HP38.1); clear HP38; have n0_ := Aside0.mk (Kd.R_after (v := (.slice (some ⟨go31, 0, none⟩) x14_2.length co37)) (v1 := (.slice (some ⟨go31, 0, none⟩) x14_2.length co37)) (ok := (fun k_ => some k_ ≠ (.slice (some ad362) x4_1.length co17 : Value).ownBlock)) (by (with_reducible repeat (first | apply Kd.R_alloc | apply Kd.R_drewN | apply Kd.R_drew)); exact Kd.R_mono HO_3.out (fun _ hk => ⟨hk.2, hk.1⟩)) hg (.inl rfl)); have n1_ := Aside0.mk (hp_); have n2_ := Aside0.mk (Kd.R_after (v := (.slice (some ⟨go31, 0, none⟩) x14_2.length co37)) (v1 := (.slice (some ⟨go31, 0, none⟩) x14_2.length co37)) (ok := (fun k_ => some k_ ≠ (.slice (some ⟨go27, 0, none⟩) x3_2.length co34 : Value).ownBlock)) (by (with_reducible repeat (first | apply Kd.R_alloc | apply Kd.R_drewN | apply Kd.R_drew)); exact Kd.R_mono HO_62.out (fun _ hk => ⟨hk.2, hk.1⟩)) hg (.inl rfl)); have n3_ := Aside0.mk (blk_grown (g := gb352) (o := .cells #[.int .i64 ((rd_T72 l0 x20_1).f0), .int .i64 ((rd_T72 l0 x20_1).f1)] 72 (0, 0)) (by (with_reducible repeat (first | refine blk_drewN ?_ _ | refine blk_drew ?_ | refine blk_alloc ?_ _)); exact BK352.out) hg (Kd.R_ne HO_14.out BK352.out (by decide))); have n4_ := Aside0.mk ((by rw [hw]; exact below_set (HB.out) GB31.out : Below w.heap.size w w39)); clear HO_3; clear HO_14; clear HO_62; clear BK352; clear HB; have HO_3 := n0_; have HO_14 := n1_; have HO_62 := n2_; have BK352 := n3_; have HB := n4_; clear n0_ n1_ n2_ n3_ n4_; clear hg hw hp_))
                  have n0_ := Aside0.mk (Kd.R_drew HO_3.out)
                  have n1_ := Aside0.mk (Kd.R_drew HO_14.out)
                  have n2_ := Aside0.mk (Kd.R_drew HO_62.out)
                  have n3_ := Aside0.mk (blk_drew BK352.out)
                  have n4_ := Aside0.mk (below_drew1 HB.out)
                  have kq_ := Aside0.mk (ko_drew KO.out)
                  clear KO
                  have KO := kq_
                  clear kq_
                  clear HO_3
                  clear HO_14
                  clear HO_62
                  clear BK352
                  clear HB
                  have HO_3 := n0_
                  have HO_14 := n1_
                  have HO_62 := n2_
                  have BK352 := n3_
                  have HB := n4_
                  clear n0_ n1_ n2_ n3_ n4_
                  have p367 : 0 ≤ (x64_2 : Int) := of_decide_eq_true (by first | (with_reducible assumption) | assumption)
                  have q367 : x64_2 < (y366.length : Int) := (by have h_ : (x64_2 : Int) < ((x14_2.length : Int) : Int) := of_decide_eq_true (by first | (with_reducible assumption) | assumption); first | (have e_ := (Kd.R_reads' HO_14.out).1; omega) | simpa only [Ny366.out, List.length_set] using h_)
                  have ql367 : ((x64_2 : Int) < ((x14_2.length : Int) : Int)) = True := eq_true (of_decide_eq_true (by first | (with_reducible assumption) | assumption))
                  obtain ⟨ad367, e367, hx367_0⟩ := Kd.at_int (Kd.R_reads' HO_14.out).2.2 x64_2 p367 q367
                  obtain rfl : (⟨go31, 0, none⟩ : Addr) = ad367 := (by injection e367)
                  (first | simp only [add_plain] at hx367_0 | simp only [add_at] at hx367_0 | simp only [Addr.add, Nat.zero_add] at hx367_0 | skip)
                  replace p367 := eq_true p367
                  replace q367 := eq_true q367
                  have p33 : 0 ≤ (x64_2 : Int) := of_decide_eq_true (by first | (with_reducible assumption) | assumption)
                  have q33 : (x64_2 : Int) < ((x14_2.length : Int) : Int) := of_decide_eq_true (by first | (with_reducible assumption) | assumption)
                  obtain ⟨hx33_0, hf33_0⟩ := Kd.R_celln 0 HO_14.out (x64_2 : Int) p33 q33
                  replace p33 := eq_true p33
                  replace q33 := eq_true q33
                  have HP41 := Kd.R_putn HO_14.out (x64_2 : Int) (Int.tmod (wrap64 ((rd y366 x64_2) + (wrap64 ((wrap64 (251 - ((rd_T72 l0 x20_1).f0))) * (rd x4_1 x64_2))))) 251)
                  rw [← Ny368.out] at HP41
                  have HQ41 := Aside0.mk HP41
                  clear HP41
                  refine start_ (n := 15) (S := fun w' => w'.cell? ⟨gb352, 0, none⟩ = some (.int .i64 ((rd_T72 l0 x20_1).f0)) ∧ w'.cell? ⟨gb352, 1, none⟩ = some (.int .i64 ((rd_T72 l0 x20_1).f1)) ∧ w'.cell? ⟨go31, (x64_2).toNat, none⟩ = some (.int .i64 (rd y366 x64_2))) (ds := [14]) #[false, false, false, false, false, false, false, false, false, false, false, false, false, false, false] (by kernel_rfl) rfl rfl ⟨(blk_cell BK352.out 0).trans rfl, (blk_cell BK352.out 1).trans rfl, hx367_0⟩ (fun hHeld => ?_); refine with_tabW impl_polyOf.tab21 impl_polyOf.bits21 (fun HT_ HW_ => ?_)
                  generalize w39.drew = w40 at HO_3 HO_14 HO_62 BK352 HB KO HQ41 hf33_0 hx33_0 hx367_0 hHeld ⊢
                  refine pure_ (i := 0) (N := some 93) (v := ?_) (a' := ?_) #[true, false, false, false, false, false, false, false, false, false, false, false, false, false, false] rfl rfl (any_of HT_.out (by kernel_rfl)) (fun _ _ _ h => h) (Or.inl ⟨by rfl, ?_⟩) ?_ ?_
                  rotate_left
                  ·intro w'
                   go_simp
                   with_reducible rfl
                  rotate_left
                  ·simp only [Act.put, List.setIfInBounds_toArray, List.set_cons_zero, List.set_cons_succ, i64_w, i32_w]
                   rfl
                  refine pure_ (i := 1) (N := some 94) (v := ?_) (a' := ?_) #[true, true, false, false, false, false, false, false, false, false, false, false, false, false, false] rfl rfl (any_of HT_.out (by kernel_rfl)) (fun _ _ _ h => h) (Or.inl ⟨by rfl, ?_⟩) ?_ ?_
                  rotate_left
                  ·intro w'
                   go_simp
                   with_reducible rfl
                  rotate_left
                  ·simp only [Act.put, List.setIfInBounds_toArray, List.set_cons_zero, List.set_cons_succ, i64_w, i32_w]
                   rfl
                  refine pure_ (i := 2) (N := some 95) (v := ?_) (a' := ?_) #[true, true, true, false, false, false, false, false, false, false, false, false, false, false, false] rfl rfl (any_of HT_.out (by kernel_rfl)) (fun _ _ _ h => h) (Or.inl ⟨by rfl, ?_⟩) ?_ ?_
                  rotate_left
                  ·intro w'
                   go_simp
                   with_reducible rfl
                  rotate_left
                  ·simp only [Act.put, List.setIfInBounds_toArray, List.set_cons_zero, List.set_cons_succ, i64_w, i32_w]
                   rfl
                  refine pure_ (i := 3) (N := some 96) (v := ?_) (a' := ?_) #[true, true, true, true, false, false, false, false, false, false, false, false, false, false, false] rfl rfl (any_of HT_.out (by kernel_rfl)) (fun _ _ _ h => h) (Or.inl ⟨by rfl, ?_⟩) ?_ ?_
                  rotate_left
                  ·intro w'
                   go_simp
                   with_reducible rfl
                  rotate_left
                  ·simp only [Act.put, List.setIfInBounds_toArray, List.set_cons_zero, List.set_cons_succ, i64_w, i32_w]
                   rfl
                  refine pure_ (i := 4) (N := some 97) (v := ?_) (a' := ?_) #[true, true, true, true, true, false, false, false, false, false, false, false, false, false, false] rfl rfl (any_of HT_.out (by kernel_rfl)) (fun _ _ _ h => h) (Or.inl ⟨by rfl, ?_⟩) ?_ ?_
                  rotate_left
                  ·intro w'
                   go_simp
                   with_reducible rfl
                  rotate_left
                  ·simp only [Act.put, List.setIfInBounds_toArray, List.set_cons_zero, List.set_cons_succ, i64_w, i32_w]
                   rfl
                  refine pure_ (i := 6) (N := some 99) (v := ?_) (a' := ?_) #[true, true, true, true, true, false, true, false, false, false, false, false, false, false, false] rfl rfl (any_of HT_.out (by kernel_rfl)) (fun _ _ _ h => h) (Or.inl ⟨by rfl, ?_⟩) ?_ ?_
                  rotate_left
                  ·intro w'
                   go_simp
                   with_reducible rfl
                  rotate_left
                  ·simp only [Act.put, List.setIfInBounds_toArray, List.set_cons_zero, List.set_cons_succ, i64_w, i32_w]
                   rfl
                  refine pure_ (i := 9) (N := some 102) (v := ?_) (a' := ?_) #[true, true, true, true, true, false, true, false, false, true, false, false, false, false, false] rfl rfl (any_of HT_.out (by kernel_rfl)) (fun _ _ _ h => h) (Or.inl ⟨by rfl, ?_⟩) ?_ ?_
                  rotate_left
                  ·intro w'
                   go_simp
                   with_reducible rfl
                  rotate_left
                  ·simp only [Act.put, List.setIfInBounds_toArray, List.set_cons_zero, List.set_cons_succ, i64_w, i32_w]
                   rfl
                  refine take_ (i := 5) (N := some 98) (v := ?_) (a' := ?_) #[true, true, true, true, true, true, true, false, false, true, false, false, false, false, false] rfl rfl (take_ofW HT_.out HW_.out (by kernel_rfl)) (fun _ _ _ h => h) (Or.inl ⟨by rfl, ?_⟩) hHeld ?_ ?_
                  rotate_left
                  ·rintro w' ⟨s0, s1, s2⟩
                   go_simp
                   with_reducible rfl
                  rotate_left
                  ·simp only [Act.put, List.setIfInBounds_toArray, List.set_cons_zero, List.set_cons_succ, i64_w, i32_w]
                   rfl
                  refine take_ (i := 7) (N := some 100) (v := ?_) (a' := ?_) #[true, true, true, true, true, true, true, true, false, true, false, false, false, false, false] rfl rfl (take_ofW HT_.out HW_.out (by kernel_rfl)) (fun _ _ _ h => h) (Or.inl ⟨by rfl, ?_⟩) hHeld ?_ ?_
                  rotate_left
                  ·rintro w' ⟨s0, s1, s2⟩
                   go_simp
                   with_reducible rfl
                  rotate_left
                  ·simp only [Act.put, List.setIfInBounds_toArray, List.set_cons_zero, List.set_cons_succ, i64_w, i32_w]
                   rfl
                  refine pure_ (i := 8) (N := some 101) (v := ?_) (a' := ?_) #[true, true, true, true, true, true, true, true, true, true, false, false, false, false, false] rfl rfl (any_of HT_.out (by kernel_rfl)) (fun _ _ _ h => h) (Or.inl ⟨by rfl, ?_⟩) ?_ ?_
                  rotate_left
                  ·intro w'
                   go_simp
                   with_reducible rfl
                  rotate_left
                  ·simp only [Act.put, List.setIfInBounds_toArray, List.set_cons_zero, List.set_cons_succ, i64_w, i32_w]
                   rfl
                  refine pure_ (i := 10) (N := some 103) (v := ?_) (a' := ?_) #[true, true, true, true, true, true, true, true, true, true, true, false, false, false, false] rfl rfl (any_of HT_.out (by kernel_rfl)) (fun _ _ _ h => h) (Or.inl ⟨by rfl, ?_⟩) ?_ ?_
                  rotate_left
                  ·intro w'
                   go_simp
                   with_reducible rfl
                  rotate_left
                  ·simp only [Act.put, List.setIfInBounds_toArray, List.set_cons_zero, List.set_cons_succ, i64_w, i32_w]
                   rfl
                  refine pure_ (i := 11) (N := some 104) (v := ?_) (a' := ?_) #[true, true, true, true, true, true, true, true, true, true, true, true, false, false, false] rfl rfl (any_of HT_.out (by kernel_rfl)) (fun _ _ _ h => h) (Or.inl ⟨by rfl, ?_⟩) ?_ ?_
                  rotate_left
                  ·intro w'
                   go_simp
                   with_reducible rfl
                  rotate_left
                  ·simp only [Act.put, List.setIfInBounds_toArray, List.set_cons_zero, List.set_cons_succ, i64_w, i32_w]
                   rfl
                  refine pure_ (i := 12) (N := some 105) (v := ?_) (a' := ?_) #[true, true, true, true, true, true, true, true, true, true, true, true, true, false, false] rfl rfl (any_of HT_.out (by kernel_rfl)) (fun _ _ _ h => h) (Or.inl ⟨by rfl, ?_⟩) ?_ ?_
                  rotate_left
                  ·intro w'
                   go_simp
                   with_reducible rfl
                  rotate_left
                  ·simp only [Act.put, List.setIfInBounds_toArray, List.set_cons_zero, List.set_cons_succ, i64_w, i32_w]
                   rfl
                  refine pure_ (i := 13) (N := some 106) (v := ?_) (a' := ?_) #[true, true, true, true, true, true, true, true, true, true, true, true, true, true, false] rfl rfl (any_of HT_.out (by kernel_rfl)) (fun _ _ _ h => h) (Or.inl ⟨by rfl, ?_⟩) ?_ ?_
                  rotate_left
                  ·intro w'
                   go_simp
                   with_reducible rfl
                  rotate_left
                  ·simp only [Act.put, List.setIfInBounds_toArray, List.set_cons_zero, List.set_cons_succ, i64_w, i32_w]
                   rfl
                  refine last_ (i := 14) (N := none) #[true, true, true, true, true, true, true, true, true, true, true, true, true, true, true] rfl rfl (one_of HT_.out (by kernel_rfl)) (by decide) (fun K hK => ?_)
                  refine skip_ (w1 := ?_) (by rfl) rfl ?_ ?_
                  rotate_left
                  ·go_simp
                   rfl
                  refine hK.out _ _ ?_
                  clear hK K
                  refine done_ (done_of HT_.out (by kernel_rfl)) ?_
                  try go_wp2
                  go_roundg k2
                  case measure => have := HK1.out; have := HK2.out; omega
                  case rel => exact ⟨(y364), (y368), (ji28), (by first | rfl | (simp; done) | (simp only [← hji28] <;> (first | rfl | simp)) | (simp [*]; done)), H', ⟨by have := HK1.out; have := HK2.out; omega⟩, ⟨by (with_reducible repeat (first | apply Kd.R_alloc | apply Kd.R_drewN | apply Kd.R_drew)); exact Kd.R_mono (Kd.R_far (p := ⟨go31, (x64_2 : Int).toNat, none⟩) (Kd.R_mono HO_3.out (fun k_ hk => (⟨hk, fun e_ => hk.2 (by rw [e_]; rfl)⟩ : _ ∧ k_ ≠ go31))) (fun _ hk => hk.2) (.int .i64 (Int.tmod (wrap64 ((rd y366 x64_2) + (wrap64 ((wrap64 (251 - ((rd_T72 l0 x20_1).f0))) * (rd x4_1 x64_2))))) 251))) (fun _ hk => ⟨hk.1.2, hk.1.1⟩)⟩, ⟨by (with_reducible repeat (first | apply Kd.R_alloc | apply Kd.R_drewN | apply Kd.R_drew)); exact Kd.R_mono HQ41.out (fun _ hk => ⟨hk.2, hk.1⟩)⟩, ⟨by (with_reducible repeat (first | apply Kd.R_alloc | apply Kd.R_drewN | apply Kd.R_drew)); exact Kd.R_mono (Kd.R_far (p := ⟨go31, (x64_2 : Int).toNat, none⟩) (Kd.R_mono HO_62.out (fun k_ hk => (⟨hk, fun e_ => hk.2 (by rw [e_]; rfl)⟩ : _ ∧ k_ ≠ go31))) (fun _ hk => hk.2) (.int .i64 (Int.tmod (wrap64 ((rd y366 x64_2) + (wrap64 ((wrap64 (251 - ((rd_T72 l0 x20_1).f0))) * (rd x4_1 x64_2))))) 251))) (fun _ hk => ⟨hk.1.1, hk.1.2⟩)⟩, ⟨by (with_reducible repeat (first | refine blk_drewN ?_ _ | refine blk_drew ?_ | refine blk_alloc ?_ _)); refine blk_far ?_ (by have h_ := Kd.R_ne HO_14.out BK352.out (by decide); intro e_; exact h_ (by rw [e_]; rfl)) _; (with_reducible repeat (first | refine blk_drewN ?_ _ | refine blk_drew ?_ | refine blk_alloc ?_ _)); exact BK352.out⟩, ⟨by repeat (first | (with_reducible first | exact HB.out | apply below_alloc | apply pw_below_drewN | apply below_drew1 | refine below_set ?_ GB31.out | refine below_set ?_ GE352.out) | exact HB.out)⟩, ⟨by repeat (first | (with_reducible first | exact KO.out | apply ko_alloc | apply ko_drewN | apply ko_drew | apply ko_set) | exact KO.out)⟩⟩
                 ·rw [if_neg c32] at H
                  exact absurd H (by simp)
                ·rw [if_neg c30] at H
                 exact absurd H (by simp)
               ·rw [if_neg c29] at H
                exact absurd H (by simp)
              ·rw [if_neg c26] at H
               exact absurd H (by simp)
             ·rw [if_neg c25] at H
              exact absurd H (by simp)
            ·rw [if_neg c24] at H
             exact absurd H (by simp)
           ·rw [if_neg c23] at H
            have c23b0 : decide (x64_2 < (x4_1.length : Int)) = false := decide_eq_false c23
            clear c23
            have H' := Aside0.mk H
            clear H
            go_wp2
            go_roundg k2
            case measure => have := HK1.out; have := HK2.out; omega
            case rel => exact ⟨⟨(x3_2), (x14_2), (wrap64 (x20_1 + 1)), (by first | rfl | (simp; done) | (simp [*]; done)), H', ⟨by have := HK1.out; have := HK2.out; omega⟩, ⟨by (with_reducible repeat (first | apply Kd.R_alloc | apply Kd.R_drewN | apply Kd.R_drew)); exact Kd.R_mono HO_3.out (fun _ hk => hk.1)⟩, ⟨by (with_reducible repeat (first | apply Kd.R_alloc | apply Kd.R_drewN | apply Kd.R_drew)); exact Kd.R_mono HO_14.out (fun _ hk => hk.1)⟩, ⟨by repeat (first | (with_reducible first | exact HB.out | apply below_alloc | apply pw_below_drewN | apply below_drew1 | refine below_set ?_ GE352.out) | exact HB.out)⟩⟩, ⟨HD.out.ko KO.out⟩⟩
        ·rw [if_neg c13] at H
         exact absurd H (by simp)
       ·rw [if_neg c12] at H
        exact absurd H (by simp)
      ·rw [if_neg c10] at H
       exact absurd H (by simp)
     ·rw [if_neg c6] at H
      exact absurd H (by simp)
    ·rw [if_neg c5] at H
     exact absurd H (by simp)
   ·rw [if_neg c4] at H
    have c4b0 : decide (x20_1 < (l0.length : Int)) = false := decide_eq_false c4
    clear c4
    obtain rfl := Option.some.inj H
    go_wp2
    refine leaves_dead (fun W => Kd.R (Kd.int .i64) 3 W w.heap.size (fun _ => True) u3 x3_1) (fun hJ hg hD => Kd.R_grown2 hJ rfl hg (fun k_ e_ h_ => by obtain ⟨cs_, q_⟩ := Kd.R_typed hJ k_ h_.symm; cases e_; rw [hD] at q_; cases q_)) HB.out.size HD.out (by exact Kd.R_mono HO_3.out (fun _ _ => trivial)) (fun W' hb' hJ => ?_)
    exact ⟨_, results_tmp (t := 2) rfl _ _ _, u3, rfl, hJ, HB.out.trans hb'⟩
end

/-! ### impl_validCoefs: function 86 -/
def impl_validCoefs.f (k : Nat) (l0 : List Int) : Option (Bool) := if (l0.length : Int) ≤ 8 then ((impl_allWithin.f k l0 0 250).bind fun t348 => (some t348)) else (some false)
theorem impl_validCoefs.mono : ∀ a0 k, LeO (impl_validCoefs.f k a0) (impl_validCoefs.f (k + 1) a0) := by
 intro a0 k
 unfold impl_validCoefs.f
 repeat' first
   | (with_reducible exact impl_allWithin.mono _ _ _ _)
   | (with_reducible exact LeO.refl _)
   | (with_reducible exact LeO.none _)
   | (with_reducible refine LeO.ite ?_ ?_)
   | (with_reducible refine LeO.bind ?_ (fun _ => ?_))
   | exact impl_allWithin.mono _ _ _ _
   | exact LeO.none _
   | refine LeO.ite ?_ ?_
   | refine LeO.bind ?_ (fun _ => ?_)
set_option maxHeartbeats 8000000 in
set_option maxRecDepth 100000 in
theorem impl_validCoefs.calls (k : Nat) (A0 : Option Addr) (c0 : Nat) (l0 : List Int) (r : Bool) (w : World) (hr0 : Kd.C (Kd.int .i64) w A0 l0.length l0) (hc0 : l0.length ≤ c0) (h : impl_validCoefs.f k l0 = some r) :
  Calls Try.prog 86 #[.slice A0 l0.length c0] w fun e w' => e = .returned (.bool r) ∧ Drawn0 w w' := by
 have HR0 := Aside0.mk hr0
 have HC0 := Aside0.mk hc0
 clear hr0 hc0
 have H : (if (l0.length : Int) ≤ 8 then ((impl_allWithin.f k l0 0 250).bind fun t348 => (some t348)) else (some false)) = some r := h
 clear h
 by_cases c2 : (l0.length : Int) ≤ 8
 ·rw [if_pos c2] at H
  have c2b0 : decide ((l0.length : Int) ≤ 8) = true := decide_eq_true c2
  have c2b1 : decide (l0.length ≤ 8) = true := decide_eq_true (by omega)
  clear c2
  replace H := Option.bind_eq_some_iff.mp H
  obtain ⟨t348, A30, H⟩ := H
  replace H : (some t348) = some r := H
  have A3 := Aside0.mk A30
  clear A30
  obtain rfl := Option.some.inj H
  go_enter Try.func86, Try.ntmps86
  go_wp2_with (first | (go_at_call 67; (with_reducible refine (impl_allWithin.calls k _ _ l0 0 250 t348 _ ?side1 ?side2 A3.out).mono ?_); (case side1 => repeat (first | exact HR0.out | (with_reducible refine Kd.C_alloc ?_ _) | (with_reducible refine Kd.C_drewN ?_ _) | (with_reducible refine Kd.C_drew ?_))); (case side2 => exact HC0.out); rintro e w' ⟨rfl, ⟨nd, rfl⟩⟩))
  go_ret
  exact ⟨by first | rfl | (simp; done) | (simp [*]; done), by repeat (first | exact Drawn0.refl _ | apply Drawn0.step)⟩
 ·rw [if_neg c2] at H
  have c2b0 : decide ((l0.length : Int) ≤ 8) = false := decide_eq_false c2
  have c2b1 : decide (l0.length ≤ 8) = false := decide_eq_false (by omega)
  clear c2
  obtain rfl := Option.some.inj H
  go_enter Try.func86, Try.ntmps86
  go_wp2
  go_ret
  exact ⟨by first | rfl | (simp; done) | (simp [*]; done), by repeat (first | exact Drawn0.refl _ | apply Drawn0.step)⟩

end Go.Proofs.Ytkommecfnfdapaa.P
