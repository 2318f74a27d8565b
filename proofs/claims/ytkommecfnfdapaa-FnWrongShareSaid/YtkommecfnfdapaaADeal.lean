/- The drawn shares: they are drawn, and such as the tests take. Numbers and lists alone. -/
import Derived.Test.YtkommecfnfdapaaAReader
import Derived.Test.YtkommecfnfdapaaAShares
import Derived.Test.YtkommecfnfdapaaAPx8
namespace Go.Proofs.Ytkommecfnfdapaa.Pure
open Go.RowKit Go.Proofs.Ytkommecfnfdapaa.P Go.Proofs.YtkommecfnfdapaaW.PrintWords Go.Proofs.YtkommecfnfdapaaW.PrintMore Go.Proofs.Ytkommecfnfdapaa.Tools Go.Proofs.Ytkommecfnfdapaa.Poly Go.Proofs.Ytkommecfnfdapaa.Reader
theorem someC_l0 {b : List Int} (hc : Reader.Code b) : ∀ (n : Nat) (out : List Int) (p : Int), 0 ≤ p → p + 10 * n < 1000000000 → out.length + n < 1000000 →
    ∃ out' p', out'.length ≤ out.length + n ∧ p ≤ p' ∧ p' ≤ p + 10 * n + 10 ∧ Ev (fun k => spec_someCoefs.l0 k out (n : Int) b p) (out', p') := by
  intro n
  induction n with
  | zero =>
    intro out p hp hb _
    by_cases h : (out.length : Int) > 0
    · obtain ⟨v1, a1, b1, e1⟩ := pick_ok hc (p := p) (n := 16) hp (by omega) (by omega)
      by_cases h1 : v1 = 0
      · obtain ⟨v2, _, e2⟩ := one_ok hc (p := p + 1) (by omega) (by omega) ([-1, 251] : List Int) (by simp)
        exact ⟨out.set ((0 : Int)).toNat v2, p + 1 + 1, by simp, by omega, by omega, Ev.step (fun k => by rw [spec_someCoefs.l0]) (ev_neg (by simp) (ev_pos h (Ev.bind e1 (ev_pos h1 (Ev.bind e2 (ev_pos h (ev_some rfl)))))))⟩
      · exact ⟨out, p + 1, by omega, by omega, by omega, Ev.step (fun k => by rw [spec_someCoefs.l0]) (ev_neg (by simp) (ev_pos h (Ev.bind e1 (ev_neg h1 (ev_some rfl)))))⟩
    · exact ⟨out, p, by omega, by omega, by omega, Ev.step (fun k => by rw [spec_someCoefs.l0]) (ev_neg (by simp) (ev_neg h (ev_some rfl)))⟩
  | succ n ih =>
    intro out p hp hb hl
    obtain ⟨v1, a1, b1, e1⟩ := pick_ok hc (p := p) (n := 251) hp (by omega) (by omega)
    obtain ⟨v2, _, e2⟩ := one_ok hc (p := p + 1) (by omega) (by omega) ([v1, 0, 250, 1] : List Int) (by simp)
    have hw : wrap64 (((n + 1 : Nat) : Int) - 1) = (n : Int) := by rw [w_id] <;> omega
    obtain ⟨out', p', h1, h2, h3, h4⟩ := ih (out ++ [v2]) (p + 1 + 1) (by omega) (by omega) (by simp; omega)
    refine ⟨out', p', by simp at h1; omega, by omega, by omega, ?_⟩
    refine Ev.step (fun k => by rw [spec_someCoefs.l0]) ?_
    rw [hw]
    exact ev_pos (by omega) (Ev.bind e1 (Ev.bind e2 (ev_pos (by omega) h4)))
theorem someCoefs_ok {b : List Int} (hc : Reader.Code b) {p : Int} (hp : 0 ≤ p) (hp1 : p < 100000000) :
    ∃ l p', l.length ≤ 8 ∧ p ≤ p' ∧ p' ≤ p + 100 ∧ Ev (fun k => spec_someCoefs.f k b p) (l, p') := by
  obtain ⟨v, hv, e⟩ := one_ok hc hp (by omega) ([3, 2, 4, 1, 0, 8] : List Int) (by simp)
  have hv2 : 0 ≤ v ∧ v ≤ 8 := by simp at hv; omega
  obtain ⟨n, rfl⟩ := Int.eq_ofNat_of_zero_le hv2.1
  obtain ⟨l, p', h1, h2, h3, h4⟩ := someC_l0 hc n [] (p + 1) (by omega) (by omega) (by simp; omega)
  refine ⟨l, p', by simp at h1; omega, by omega, by omega, ?_⟩
  unfold spec_someCoefs.f
  exact Ev.bind e h4
theorem someP_l0 {b : List Int} (hc : Reader.Code b) : ∀ (n : Nat) (out : List Int) (p : Int), 0 ≤ p → p + 10 * n < 1000000000 → out.length + n < 1000000 →
    ∃ out' p', out'.length ≤ out.length + n ∧ p ≤ p' ∧ p' ≤ p + 10 * n + 10 ∧ Ev (fun k => spec_somePlaces.l0 k out (n : Int) b p) (out', p') := by
  intro n
  induction n with
  | zero =>
    intro out p hp hb hl
    by_cases h : (out.length : Int) > 0
    · obtain ⟨v1, a1, b1, e1⟩ := pick_ok hc (p := p) (n := 16) hp (by omega) (by omega)
      by_cases h1 : v1 = 0
      · have hw : wrap64 ((out.length : Int) - 1) = (out.length : Int) - 1 := by rw [w_id] <;> omega
        obtain ⟨v2, _, e2⟩ := one_ok hc (p := p + 1) (by omega) (by omega) ([0, 251, rd out ((out.length : Int) - 1)] : List Int) (by simp)
        refine ⟨out.set ((0 : Int)).toNat v2, p + 1 + 1, by simp, by omega, by omega, Ev.step (fun k => by rw [spec_somePlaces.l0]) ?_⟩
        rw [hw]
        exact ev_neg (by simp) (ev_pos h (Ev.bind e1 (ev_pos h1 (ev_pos (by omega) (ev_pos (by omega) (Ev.bind e2 (ev_pos h (ev_some rfl))))))))
      · exact ⟨out, p + 1, by omega, by omega, by omega, Ev.step (fun k => by rw [spec_somePlaces.l0]) (ev_neg (by simp) (ev_pos h (Ev.bind e1 (ev_neg h1 (ev_some rfl)))))⟩
    · exact ⟨out, p, by omega, by omega, by omega, Ev.step (fun k => by rw [spec_somePlaces.l0]) (ev_neg (by simp) (ev_neg h (ev_some rfl)))⟩
  | succ n ih =>
    intro out p hp hb hl
    obtain ⟨v1, a1, b1, e1⟩ := pick_ok hc (p := p) (n := 250) hp (by omega) (by omega)
    obtain ⟨v2, _, e2⟩ := one_ok hc (p := p + 1) (by omega) (by omega) ([wrap64 (1 + v1), wrap64 ((out.length : Int) + 1)] : List Int) (by simp)
    obtain ⟨v, hv, _⟩ := place_f out v2 (by omega)
    have hw : wrap64 (((n + 1 : Nat) : Int) - 1) = (n : Int) := by rw [w_id] <;> omega
    by_cases h0 : v < 0
    · obtain ⟨out', p', h1, h2, h3, h4⟩ := ih (out ++ [v2]) (p + 1 + 1) (by omega) (by omega) (by simp; omega)
      refine ⟨out', p', by simp at h1; omega, by omega, by omega, ?_⟩
      refine Ev.step (fun k => by rw [spec_somePlaces.l0]) ?_
      rw [hw]
      exact ev_pos (by omega) (Ev.bind e1 (Ev.bind e2 (Ev.bind hv (ev_pos h0 (ev_pos (by omega) h4)))))
    · obtain ⟨out', p', h1, h2, h3, h4⟩ := ih out (p + 1 + 1) (by omega) (by omega) (by omega)
      refine ⟨out', p', by omega, by omega, by omega, ?_⟩
      refine Ev.step (fun k => by rw [spec_somePlaces.l0]) ?_
      rw [hw]
      exact ev_pos (by omega) (Ev.bind e1 (Ev.bind e2 (Ev.bind hv (ev_neg h0 h4))))
theorem somePlaces_ok {b : List Int} (hc : Reader.Code b) {p : Int} (hp : 0 ≤ p) (hp1 : p < 100000000) :
    ∃ l p', l.length ≤ 8 ∧ p ≤ p' ∧ p' ≤ p + 100 ∧ Ev (fun k => spec_somePlaces.f k b p) (l, p') := by
  obtain ⟨v, hv, e⟩ := one_ok hc hp (by omega) ([4, 5, 3, 6, 1, 0, 8] : List Int) (by simp)
  have hv2 : 0 ≤ v ∧ v ≤ 8 := by simp at hv; omega
  obtain ⟨n, rfl⟩ := Int.eq_ofNat_of_zero_le hv2.1
  obtain ⟨l, p', h1, h2, h3, h4⟩ := someP_l0 hc n [] (p + 1) (by omega) (by omega) (by simp; omega)
  refine ⟨l, p', by simp at h1; omega, by omega, by omega, ?_⟩
  unfold spec_somePlaces.f
  exact Ev.bind e h4
/-! ### Dealing -/
theorem validPoly_f (l : List Int) (h : l.length ≤ 8) : ∃ b, Ev (fun k => spec_validPoly.f k l) b ∧ (b = true → Rs l) := by
  obtain ⟨b, h1, h2⟩ := allI_f l 0 250 (by omega)
  refine ⟨b, ?_, h2.1⟩
  unfold spec_validPoly.f
  exact ev_pos (by omega) (Ev.bind h1 (ev_some rfl))
def dealt (c : List Int) (xs : List Int) : List S72 := xs.map fun x => ⟨x, ev c x % 251⟩
theorem deal_l0 (c : List Int) (hc : Rs c) (hn : c.length ≤ 8) (B : List Int) : ∀ A : List Int, (A ++ B).length ≤ 12 → (∀ x ∈ A ++ B, 1 ≤ x ∧ x ≤ 250) → Ev (fun k => spec_deal.l0 k c (A ++ B) (dealt c A) (A.length : Int)) (dealt c (A ++ B)) := by
  induction B with
  | nil =>
    intro A _ _
    exact Ev.step (fun k => by rw [spec_deal.l0]) (ev_neg (by simp) (ev_some (by simp)))
  | cons x B ih =>
    intro A hb hx
    have hb' : A.length + (B.length + 1) ≤ 12 := by simpa using hb
    have w1 : wrap64 ((A.length : Int) + 1) = (((A ++ [x]).length : Nat) : Int) := by rw [w_len (by omega)]; simp
    have r1 : rd (A ++ x :: B) (A.length : Int) = x := getD_app _ _ _ _ _ (by simp)
    have q1 : (A.length : Int) < ((A ++ x :: B).length : Nat) := lt_mid rfl
    have hx1 := hx x (by simp)
    have hP := polyS c x hc (by omega) hx1.2 (by omega)
    have hlen : (dealt c A).length < 8796093022208 := by unfold dealt; rw [List.length_map]; omega
    have := ih (A ++ [x]) (by simpa using hb) (by simpa using hx)
    refine Ev.step (fun k => by rw [spec_deal.l0]) ?_
    rw [r1, w1]
    refine ev_pos q1 (ev_pos (Int.natCast_nonneg _) (Ev.bind hP (ev_pos hlen ?_)))
    simpa [dealt] using this
theorem deal_good (c xs : List Int) (h1 : xs.length ≤ 12) (h2 : ∀ x ∈ xs, 1 ≤ x ∧ x ≤ 250) (h3 : xs.Nodup) : good (dealt c xs) := by
  refine ⟨by simpa [dealt] using h1, fun x hx => ?_, ?_⟩
  · obtain ⟨y, hy, rfl⟩ := List.mem_map.1 hx
    exact ⟨h2 y hy, mod_rng _⟩
  · have : (dealt c xs).map (·.f0) = xs := by unfold dealt; rw [List.map_map]; exact List.map_id'' (fun _ => rfl) xs
    rw [this]
    exact h3
theorem good_nil : good [] := ⟨by simp, by simp, by simp⟩
theorem good_set {l : List S72} (hg : good l) (i : Nat) (v : Int) (hv : 0 ≤ v ∧ v ≤ 250) : good (l.set i ⟨(rd_T72 l (i : Int)).f0, v⟩) := by
  by_cases hi : i < l.length
  · obtain ⟨A, x, B, rfl, hA⟩ := split_at l i hi
    subst hA
    have r1 : rd_T72 (A ++ x :: B) (A.length : Int) = x := getD_app _ _ _ _ _ (by simp)
    rw [r1, set_app _ _ _ _ _ rfl]
    refine ⟨by simpa using hg.1, fun y hy => ?_, by simpa using hg.2.2⟩
    rcases List.mem_append.1 hy with hy | hy
    · exact hg.2.1 y (by simp [hy])
    · rcases List.mem_cons.1 hy with rfl | hy
      · exact ⟨(hg.2.1 x (by simp)).1, hv⟩
      · exact hg.2.1 y (by simp [hy])
  · rw [List.set_eq_of_length_le (by omega)]
    exact hg
def need_ok (n : Int) : Prop := -1000 ≤ n ∧ n ≤ 1000
theorem need_of {c : List Int} (hc : c.length ≤ 8) {v : Int} (h : v ∈ ([mx (c.length : Int) 1, 2, 3, 1, 0, 9] : List Int)) : need_ok v := by
  have : mx (c.length : Int) 1 ≤ 8 ∧ 1 ≤ mx (c.length : Int) 1 := by unfold mx; split <;> omega
  unfold need_ok
  simp only [List.mem_cons, List.not_mem_nil, or_false] at h
  rcases h with rfl | rfl | rfl | rfl | rfl | rfl <;> omega
theorem fitting_ok {b : List Int} (hc : Reader.Code b) {p : Int} (hp : 0 ≤ p) (hp1 : p < 1000000) : ∃ l n p', good l ∧ need_ok n ∧ Ev (fun k => spec_fitting.f k b p) (l, n, p') := by
  obtain ⟨c, p1, c1, c2, c3, ec⟩ := someCoefs_ok hc hp (by omega)
  obtain ⟨xs, p2, x1, x2, x3, ex⟩ := somePlaces_ok hc (p := p1) (by omega) (by omega)
  have j1 : ∀ l, good l → ∃ l' n p', good l' ∧ need_ok n ∧ Ev (fun k => spec_fitting.j1 k c l b p2) (l', n, p') := by
    intro l hg
    have j2f : ∀ q : Int, 0 ≤ q → q < 100000000 → ∃ l' n p', good l' ∧ need_ok n ∧ Ev (fun k => spec_fitting.j2 k c l false b q) (l', n, p') := by
      intro q q0 q1
      obtain ⟨v, hv, e⟩ := one_ok hc (p := q) q0 (by omega) ([mx (c.length : Int) 1, 2, 3, 1, 0, 9] : List Int) (by simp)
      exact ⟨l, v, q + 1, hg, need_of c1 hv, Ev.step (fun k => by rw [spec_fitting.j2]) (ev_neg Bool.false_ne_true (Ev.bind e (ev_some rfl)))⟩
    by_cases h : (l.length : Int) > 0
    · obtain ⟨v1, a1, b1, e1⟩ := pick_ok hc (p := p2) (n := 2) (by omega) (by omega) (by omega)
      by_cases h1 : v1 = 0
      · obtain ⟨v2, a2, b2, e2⟩ := pick_ok hc (p := p2 + 1) (n := (l.length : Int)) (by omega) (by omega) (by omega)
        obtain ⟨v3, a3, b3, e3⟩ := pick_ok hc (p := p2 + 1 + 1) (n := 9) (by omega) (by omega) (by omega)
        obtain ⟨v4, hv, e4⟩ := one_ok hc (p := p2 + 1 + 1 + 1) (by omega) (by omega) ([mx (c.length : Int) 1, 2, 3, 1, 0, 9] : List Int) (by simp)
        obtain ⟨i, rfl⟩ := Int.eq_ofNat_of_zero_le a2
        have hs : 0 ≤ (rd_T72 l (i : Int)).f1 ∧ (rd_T72 l (i : Int)).f1 ≤ 250 := by
          obtain ⟨A, x, B, rfl, hA⟩ := split_at l i (by omega)
          subst hA
          have r1 : rd_T72 (A ++ x :: B) (A.length : Int) = x := getD_app _ _ _ _ _ (by simp)
          rw [r1]
          exact (hg.2.1 x (by simp)).2
        have hw : Int.tmod (wrap64 (wrap64 ((rd_T72 l (i : Int)).f1 + 1) + v3)) 251 = ((rd_T72 l (i : Int)).f1 + 1 + v3) % 251 := by
          rw [w_id (x := (rd_T72 l (i : Int)).f1 + 1) (by omega) (by omega), w_id (by omega) (by omega), tmod_nn (by omega)]
        refine ⟨l.set i ⟨(rd_T72 l (i : Int)).f0, ((rd_T72 l (i : Int)).f1 + 1 + v3) % 251⟩, v4, p2 + 1 + 1 + 1 + 1, good_set hg i _ (mod_rng _), need_of c1 hv, ?_⟩
        refine Ev.step (fun k => by rw [spec_fitting.j1]) (ev_pos h (Ev.bind e1 ?_))
        rw [h1]
        show Ev (fun k => spec_fitting.j2 k c l true b (p2 + 1)) _
        refine Ev.step (fun k => by rw [spec_fitting.j2]) (ev_pos rfl (Ev.bind e2 (ev_pos a2 (ev_pos b2 (Ev.bind e3 (Ev.bind e4 ?_))))))
        rw [hw, Int.toNat_natCast]
        exact ev_some rfl
      · obtain ⟨l', n, p', g1, g2, g3⟩ := j2f (p2 + 1) (by omega) (by omega)
        refine ⟨l', n, p', g1, g2, Ev.step (fun k => by rw [spec_fitting.j1]) (ev_pos h (Ev.bind e1 ?_))⟩
        rw [show (v1 == 0) = false from beq_false_of_ne h1]
        exact g3
    · obtain ⟨l', n, p', g1, g2, g3⟩ := j2f p2 (by omega) (by omega)
      exact ⟨l', n, p', g1, g2, Ev.step (fun k => by rw [spec_fitting.j1]) (ev_neg h g3)⟩
  obtain ⟨b1, e1, k1⟩ := validPoly_f c c1
  unfold spec_fitting.f
  cases b1 with
  | false =>
    obtain ⟨l', n, p', g1, g2, g3⟩ := j1 [] good_nil
    exact ⟨l', n, p', g1, g2, Ev.bind ec (Ev.bind ex (ev_bind0 rfl (Ev.bind e1 (ev_neg Bool.false_ne_true (Ev.step (fun k => by rw [spec_fitting.j0]) (ev_neg Bool.false_ne_true g3))))))⟩
  | true =>
    obtain ⟨b2, e2, k2⟩ := vP_f xs (by omega)
    cases b2 with
    | false =>
      obtain ⟨l', n, p', g1, g2, g3⟩ := j1 [] good_nil
      exact ⟨l', n, p', g1, g2, Ev.bind ec (Ev.bind ex (ev_bind0 rfl (Ev.bind e1 (ev_pos rfl (Ev.bind e2 (Ev.step (fun k => by rw [spec_fitting.j0]) (ev_neg Bool.false_ne_true g3)))))))⟩
    | true =>
      obtain ⟨y1, y2, y3⟩ := k2.1 rfl
      obtain ⟨l', n, p', g1, g2, g3⟩ := j1 (dealt c xs) (deal_good c xs y1 y2 y3)
      have hd : Ev (fun k => spec_deal.f k c xs) (dealt c xs) := by
        unfold spec_deal.f
        simpa [dealt] using deal_l0 c (k1 rfl) c1 xs [] (by simpa using y1) (by simpa using y2)
      exact ⟨l', n, p', g1, g2, Ev.bind ec (Ev.bind ex (ev_bind0 rfl (Ev.bind e1 (ev_pos rfl (Ev.bind e2 (Ev.step (fun k => by rw [spec_fitting.j0]) (ev_pos rfl (Ev.bind hd g3))))))))⟩
theorem draw_ok (l : List Int) (h : ∀ x ∈ l, (Lit.int .u8 x).wf = true) : ∃ s n, good s ∧ need_ok n ∧ Ev (fun k => spec_DrawWrongShare.f k l) (s, n) := by
  obtain ⟨b, hc, hr⟩ := newReader_ok l h
  obtain ⟨s, n, p', g1, g2, g3⟩ := fitting_ok hc (p := 0) (by omega) (by omega)
  refine ⟨s, n, g1, g2, ?_⟩
  unfold spec_DrawWrongShare.f
  exact ev_bind0 hr (Ev.bind g3 (ev_some rfl))
end Go.Proofs.Ytkommecfnfdapaa.Pure
