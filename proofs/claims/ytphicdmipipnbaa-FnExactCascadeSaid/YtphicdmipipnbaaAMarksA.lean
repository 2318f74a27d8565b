/- markLoanS: the marks of loans, each loan's guards too. By hand: the print takes no own row of rows. -/
import Derived.Test.YtphicdmipipnbaaAPx2
import Derived.Test.YtphicdmipipnbaaALawTools
namespace Go.Proofs.Ytphicdmipipnbaa.P
open Go.RowKit Go.Proofs.YtphicdmipipnbaaW.PrintWords Go.Proofs.YtphicdmipipnbaaW.PrintLast Go.Proofs.YtphicdmipipnbaaW.PrintMore Go.Proofs.Ytphicdmipipnbaa.LawTools
set_option linter.unusedVariables false
set_option linter.unusedSimpArgs false
/-! ### laws_markLoanS: function 12 -/
def laws_markLoanS.l0 : Nat → List S50 → Int → Int → Option (Int × List S50)
  | 0, _, _, _ => none
  | k + 1, x0, x1, x5 => if x5 < (x0.length : Int) then (if 0 ≤ x5 then ((laws_markIntS.f k ((rd_T50 x0 x5).f2) (wrap64 (wrap64 (x1 + 1) + 1))).bind fun bt => laws_markLoanS.l0 k (x0.set x5.toNat ⟨x1, wrap64 (x1 + 1), bt.2⟩) bt.1 (wrap64 (x5 + 1))) else none) else some (x1, x0)
def laws_markLoanS.f (k : Nat) (l0 : List S50) (a1 : Int) : Option (Int × List S50) := laws_markLoanS.l0 k l0 a1 0
set_option maxHeartbeats 8000000 in
set_option maxRecDepth 100000 in
theorem laws_markLoanS.calls (k : Nat) (P0_ : Nat → Prop) (u9000_ : Value) (l0 : List S50) (a1 : Int) (r1 : Int) (r2 : List S50) (w0 w : World) (hB : Below w0.heap.size w0 w) (ho0 : Kd.S k50 50 w w0.heap.size P0_ u9000_ l0) (h : laws_markLoanS.f k l0 a1 = some (r1, r2)) :
    Calls Try.prog 12 #[u9000_, .int .i64 a1] w fun e w' => e = .returned (.int .i64 r1) ∧ Kd.S k50 50 w' w0.heap.size P0_ u9000_ r2 ∧ Below w0.heap.size w0 w' ∧ Kept w w' (fun k_ => P0_ k_) := by
  have HO0 := Aside0.mk ho0
  have HK := Aside0.mk (Kept.refl w (fun k_ => P0_ k_))
  have HB := Aside0.mk hB
  clear hB ho0
  have H' := Aside0.mk (show laws_markLoanS.l0 k l0 a1 0 = some (r1, r2) from h)
  clear h
  go_enter Try.func12, Try.ntmps12
  go_wp2
  go_loopg [1, 5] k (fun kq v1 v5 w' => ∃ (x0_1 : List S50) (x1_1 : Int) (x5_1 : Int), v1 = .int .i64 x1_1 ∧ v5 = .int .i64 x5_1 ∧ Aside0 (laws_markLoanS.l0 kq x0_1 x1_1 x5_1 = some (r1, r2)) ∧ Aside0 (kq ≤ k) ∧ Aside0 (Kd.S k50 50 w' w0.heap.size P0_ u9000_ x0_1) ∧ Aside0 (Kept w w' (fun k_ => P0_ k_)) ∧ Aside0 (Below w0.heap.size w0 w'))
  case atStart => exact ⟨(l0), (a1), (0), (by first | rfl | (simp; done) | (simp [*]; done)), (by first | rfl | (simp; done) | (simp [*]; done)), H', ⟨Nat.le_refl _⟩, ⟨by (with_reducible repeat (first | apply Kd.S_alloc | apply Kd.S_drewN | apply Kd.S_drew)); exact HO0.out⟩, ⟨by repeat (first | (with_reducible first | exact HK.out | apply Kept.alloc | apply Kept.drewN | apply Kept.drew) | exact HK.out)⟩, ⟨by repeat (first | (with_reducible first | exact HB.out | apply below_alloc | apply pw_below_drewN | apply below_drew1) | exact HB.out)⟩⟩
  case round =>
    clear H'
    try clear c1
    try clear p2
    obtain ⟨x0_1, x1_1, x5_1, rfl, rfl, HA, HK1, HO_0, HK, HB⟩ := hrel
    cases gk with
    | zero => exact absurd HA.out (by simp [laws_markLoanS.l0])
    | succ k1 =>
      have H := HA.out
      clear HA
      simp only [laws_markLoanS.l0] at H
      by_cases c3 : x5_1 < (x0_1.length : Int)
      · rw [if_pos c3] at H
        have c3b0 : decide (x5_1 < (x0_1.length : Int)) = true := decide_eq_true c3
        by_cases c4 : 0 ≤ x5_1
        · rw [if_pos c4] at H
          have c4b0 : decide (0 ≤ x5_1) = true := decide_eq_true c4
          replace H := Option.bind_eq_some_iff.mp H
          obtain ⟨⟨m1, M1⟩, A1, H⟩ := H
          have H' := Aside0.mk (show laws_markLoanS.l0 k1 (x0_1.set x5_1.toNat ⟨x1_1, wrap64 (x1_1 + 1), M1⟩) m1 (wrap64 (x5_1 + 1)) = some (r1, r2) from H)
          have A1' := Aside0.mk A1
          clear H A1
          obtain ⟨Ao9, co9, eo9⟩ := Kd.S_slice HO_0.out
          subst eo9
          obtain ⟨go5, co5, eo5, gb5, gl5, cl5, HG5⟩ := Kd.S_form HO_0.out (by omega)
          (first | cases eo5 | (injection eo5 with ea_ en_ ec_; (first | subst ea_ | (injection ea_ with ea_; subst ea_)); subst ec_; clear en_))
          have GB5 := Aside0.mk gb5
          have GP := Aside0.mk (show P0_ go5 from (Kd.S_R HO_0.out).1 _ rfl)
          obtain ⟨oki, ce, hcl, hM, hcc, hfr, hoki, hH⟩ := Kd.S_elem HO_0.out z50 x5_1 c4 c3
          obtain ⟨v2, rfl, hG⟩ := k50_openM hM
          have HG := Aside0.mk hG
          have HOK := Aside0.mk hoki
          have hs0 := Kd.H_seg hH c4 c3 (seg := [.int .i64 x1_1]) (j := 0) (show 0 + 1 ≤ 3 by decide) (by intro q hq; simp at hq; subst hq; rfl)
          have HP10 := Aside0.mk hs0
          have hx5_0 : wr.cell? ⟨go5, (x5_1 : Int).toNat * 3, none⟩ = some (.int .i64 ((rd_T50 x0_1 x5_1).f0)) := hcc 0 _ rfl
          have hf5_0 : wr.frozen? ⟨go5, (x5_1 : Int).toNat * 3, none⟩ = false := hfr 0
          clear hcl hcc hfr hM hH hs0 hG hoki gb5 gl5 HG5
          have p5 : 0 ≤ (x5_1 : Int) := c4
          have q5 : (x5_1 : Int) < ((x0_1.length : Int) : Int) := c3
          have C3 := Aside0.mk c3
          have C4 := Aside0.mk c4
          clear c3 c4
          replace p5 := eq_true p5
          replace q5 := eq_true q5
          go_wp2_with (first | ((with_reducible refine gate_store (t := 3) (p := 16) rfl ?_); refine store_event (t := 3) (p := 16) (v := ?vo_w11) (w1 := (wr.setCell ⟨go5, (x5_1 : Int).toNat * 3, none⟩ (.int .i64 x1_1))) ?hg ?ho ?hn ?hr ?_; (case ho => rfl); (case hg => rfl); (case hn => rfl); (case hr => first | (go_simp; done) | (go_simp; rfl)); intro w11 hw; have hg : wr.grownBy w11 (some go5) := (by rw [hw]; exact HP10.out.2); have hh_ : Kd.H k50 50 w11 w0.heap.size P0_ (.slice (some ⟨go5, 0, none⟩) x0_1.length co9) x0_1 x5_1 oki [.int .i64 x1_1, .int .i64 ((rd_T50 x0_1 x5_1).f1), v2] := (by rw [hw]; exact HP10.out.1); have hv_ := Aside0.mk (Kd.R_grown HG.out hg (fun k_ hk_ e_ => (HOK.out k_ hk_).2 (by injection e_))); have n1_ := Aside0.mk ((by rw [hw]; exact below_set (HB.out) GB5.out : Below w0.heap.size w0 w11)); have n2_ := Aside0.mk (Kept.of_grown (S := (fun k_ => P0_ k_)) hg HK.out (fun k_ e_ => .inl (by injection e_ with e_; rw [← e_]; exact GP.out))); clear HO_0 HG HB HK HP10; have HG := hv_; have HB := n1_; have HK := n2_; clear n1_ n2_ hv_ hg hw; have hs1 := Kd.H_seg hh_ C4.out C3.out (seg := [.int .i64 (wrap64 (x1_1 + 1))]) (j := 1) (show 1 + 1 ≤ 3 by decide) (by intro q hq; simp at hq; subst hq; rfl); have HP12 := Aside0.mk hs1; have hx6_1 : w11.cell? ⟨go5, (x5_1 : Int).toNat * 3 + 1, none⟩ = some (.int .i64 ((rd_T50 x0_1 x5_1).f1)) := (Kd.H_at hh_ C4.out C3.out).1 1 _ rfl; have hf6_1 : w11.frozen? ⟨go5, (x5_1 : Int).toNat * 3 + 1, none⟩ = false := (Kd.H_at hh_ C4.out C3.out).2 1; clear hh_ hs1) | ((with_reducible refine gate_store (t := 3) (p := 23) rfl ?_); refine store_event (t := 3) (p := 23) (v := ?vo_w13) (w1 := (w11.setCell ⟨go5, (x5_1 : Int).toNat * 3 + 1, none⟩ (.int .i64 (wrap64 (x1_1 + 1))))) ?hg ?ho ?hn ?hr ?_; (case ho => rfl); (case hg => rfl); (case hn => rfl); (case hr => first | (go_simp; done) | (go_simp; rfl)); intro w13 hw; have hg : w11.grownBy w13 (some go5) := (by rw [hw]; exact HP12.out.2); have hh_ : Kd.H k50 50 w13 w0.heap.size P0_ (.slice (some ⟨go5, 0, none⟩) x0_1.length co9) x0_1 x5_1 oki [.int .i64 x1_1, .int .i64 (wrap64 (x1_1 + 1)), v2] := (by rw [hw]; exact HP12.out.1); have hv_ := Aside0.mk (Kd.R_grown HG.out hg (fun k_ hk_ e_ => (HOK.out k_ hk_).2 (by injection e_))); have n1_ := Aside0.mk ((by rw [hw]; exact below_set (HB.out) GB5.out : Below w0.heap.size w0 w13)); have n2_ := Aside0.mk (Kept.of_grown (S := (fun k_ => P0_ k_)) hg HK.out (fun k_ e_ => .inl (by injection e_ with e_; rw [← e_]; exact GP.out))); clear HG HB HK HP12; have HG := hv_; have HB := n1_; have HK := n2_; clear n1_ n2_ hv_ hg hw; have HH := Aside0.mk hh_; have hx7_2 : w13.cell? ⟨go5, (x5_1 : Int).toNat * 3 + 2, none⟩ = some v2 := (Kd.H_at hh_ C4.out C3.out).1 2 _ rfl; clear hh_) | ((first | ((with_reducible refine gate_callee (f := 18) rfl ?_); refine goesL_ (some 32) rfl rfl Try.func18 (by kernel_rfl) rfl #[v2, .int .i64 (wrap64 (wrap64 (x1_1 + 1) + 1))] rfl (by (try simp only [List.map_toArray, List.map_cons, List.map_nil]); first | done | rfl) ?_) | go_at_call 18); (with_reducible refine (laws_markIntS.calls k1 oki v2 _ _ m1 M1 w0 _ ?side1 ?side2 A1'.out).mono ?_); (case side1 => repeat (first | (with_reducible first | exact HB.out | apply below_alloc | apply pw_below_drewN | apply below_drew1) | exact HB.out)); (case side2 => exact (by (with_reducible repeat (first | apply Kd.R_alloc | apply Kd.R_drewN | apply Kd.R_drew)); exact HG.out)); rintro e w15 ⟨rfl, hy0, hb, hkp⟩; (try refine ⟨_, rfl, ?_⟩); have n0_ := Aside0.mk (Kd.H_back (Kd.H_kept (by (with_reducible repeat (first | apply Kd.H_alloc | apply Kd.H_drewN | apply Kd.H_drew)); exact HH.out) hkp (fun k_ _ hn_ => hn_)) (k50_mkM w15 w0.heap.size oki (⟨x1_1, wrap64 (x1_1 + 1), M1⟩ : S50) (Kd.R_reok rfl hy0 (fun k_ e_ => HG.out.1 k_ e_))) (fun _ hk_ => hk_)); have n2_ := Aside0.mk (Kept.then_ (by repeat (first | (with_reducible first | exact HK.out | apply Kept.alloc | apply Kept.drewN | apply Kept.drew) | exact HK.out)) hkp (fun k_ hk_ => .inl (HOK.out k_ hk_).1)); clear HG HB HK HH; have HO_0 := n0_; have HB := Aside0.mk hb; have HK := n2_; clear n0_ n2_ hb hkp hy0))
          go_roundg k1
          case measure => have := HK1.out; omega
          case rel => exact ⟨(x0_1.set x5_1.toNat ⟨x1_1, wrap64 (x1_1 + 1), M1⟩), m1, (wrap64 (x5_1 + 1)), (by first | rfl | (simp; done) | (simp [*]; done)), (by first | rfl | (simp; done) | (simp [*]; done)), H', ⟨by have := HK1.out; omega⟩, ⟨by (with_reducible repeat (first | apply Kd.S_alloc | apply Kd.S_drewN | apply Kd.S_drew)); exact HO_0.out⟩, ⟨by repeat (first | (with_reducible first | exact HK.out | apply Kept.alloc | apply Kept.drewN | apply Kept.drew) | exact HK.out)⟩, ⟨by repeat (first | (with_reducible first | exact HB.out | apply below_alloc | apply pw_below_drewN | apply below_drew1) | exact HB.out)⟩⟩
        · rw [if_neg c4] at H
          exact absurd H (by simp)
      · rw [if_neg c3] at H
        have c3b0 : decide (x5_1 < (x0_1.length : Int)) = false := decide_eq_false c3
        clear c3
        simp only [Option.some.injEq, Prod.mk.injEq] at H
        obtain ⟨rfl, rfl⟩ := H
        obtain ⟨Ao18, co18, eo18⟩ := Kd.S_slice HO_0.out
        subst eo18
        go_wp2
        go_ret
        exact ⟨by first | rfl | (simp; done) | (simp [*]; done), by (with_reducible repeat (first | apply Kd.S_alloc | apply Kd.S_drewN | apply Kd.S_drew)); exact HO_0.out, by repeat (first | (with_reducible first | exact HB.out | apply below_alloc | apply pw_below_drewN | apply below_drew1) | exact HB.out), by repeat (first | (with_reducible first | exact HK.out | apply Kept.alloc | apply Kept.drewN | apply Kept.drew) | exact HK.out)⟩
end Go.Proofs.Ytphicdmipipnbaa.P
