/- The drawn books: they are drawn, and short. Numbers and lists alone. -/
import Derived.Test.YtoiipfaagfhpoaaBReader
import Derived.Test.YtoiipfaagfhpoaaBPx9
namespace Go.Proofs.Ytoiipfaagfhpoaa.Reader
open Go.RowKit Go.Proofs.Ytoiipfaagfhpoaa.P Go.Proofs.YtoiipfaagfhpoaaW.PrintWords Go.Proofs.Ytoiipfaagfhpoaa.Tools

theorem someE_l0 {b : List Int} (hc : Code b) : ∀ (n : Nat) (out : List S40) (p : Int), 0 ≤ p → p + 10 * n < 1000000000 → out.length + 2 * n < 1000000 →
    ∃ out' p', out'.length ≤ out.length + 2 * n ∧ p ≤ p' ∧ p' ≤ p + 10 * n ∧ Ev (fun k => spec_someEntries.l0 k out (n : Int) b p) (out', p') := by
  intro n
  induction n with
  | zero =>
    intro out p hp _ _
    refine ⟨out, p, by omega, by omega, by omega, ?_⟩
    refine Ev.step (fun k => by rw [spec_someEntries.l0]) ?_
    exact ev_neg (by simp) (ev_some rfl)
  | succ n ih =>
    intro out p hp hb hl
    obtain ⟨v1, a1, b1, e1⟩ := pick_ok hc (p := p) (n := 5) hp (by omega) (by omega)
    obtain ⟨v2, a2, b2, e2⟩ := pick_ok hc (p := p + 1) (n := 6) (by omega) (by omega) (by omega)
    obtain ⟨v3, a3, b3, e3⟩ := pick_ok hc (p := p + 1 + 1) (n := 4) (by omega) (by omega) (by omega)
    obtain ⟨v4, a4, b4, e4⟩ := pick_ok hc (p := p + 1 + 1 + 1) (n := 250) (by omega) (by omega) (by omega)
    obtain ⟨v5, a5, b5, e5⟩ := pick_ok hc (p := p + 1 + 1 + 1 + 1) (n := 100) (by omega) (by omega) (by omega)
    obtain ⟨v6, _, e6⟩ := one_ok hc (p := p + 1 + 1 + 1 + 1 + 1) (by omega) (by omega) ([1200, wrap64 (1 + v4), 1234, 50, 90, wrap64 (100 * (wrap64 (1 + v5)))] : List Int) (by simp)
    obtain ⟨v7, a7, b7, e7⟩ := pick_ok hc (p := p + 1 + 1 + 1 + 1 + 1 + 1) (n := 6) (by omega) (by omega) (by omega)
    obtain ⟨y, hy⟩ : ∃ y : List S40, y = out ++ [(⟨v2, v1, Int.tmod (wrap64 ((wrap64 (v1 + 1)) + v3)) 5, v6⟩ : S40)] := ⟨_, rfl⟩
    have hyl : y.length = out.length + 1 := by rw [hy]; simp
    have hw : wrap64 (((n + 1 : Nat) : Int) - 1) = (n : Int) := by rw [w_id] <;> omega
    by_cases h7 : v7 = 0
    · obtain ⟨v8, a8, b8, e8⟩ := pick_ok hc (p := p + 1 + 1 + 1 + 1 + 1 + 1 + 1) (n := (y.length : Int)) (by omega) (by omega) (by omega)
      obtain ⟨out', p', h1, h2, h3, h4⟩ := ih (y ++ [(⟨(rd_T40 y v8).f0, (rd_T40 y v8).f1, (rd_T40 y v8).f2, (rd_T40 y v8).f3⟩ : S40)]) (p + 1 + 1 + 1 + 1 + 1 + 1 + 1 + 1) (by omega) (by omega) (by simp; omega)
      refine ⟨out', p', by simp at h1; omega, by omega, by omega, ?_⟩
      refine Ev.step (fun k => by rw [spec_someEntries.l0]) ?_
      rw [hw]
      refine ev_pos (by omega) (Ev.bind e1 (Ev.bind e2 (Ev.bind e3 (Ev.bind e4 (Ev.bind e5 (Ev.bind e6 (ev_pos (by omega) (ev_bind0 (v := y) (by rw [hy]) (Ev.bind e7 (ev_pos h7 (Ev.bind e8 (ev_pos a8 (ev_pos b8 (ev_pos (by omega) h4))))))))))))))
    · obtain ⟨out', p', h1, h2, h3, h4⟩ := ih y (p + 1 + 1 + 1 + 1 + 1 + 1 + 1) (by omega) (by omega) (by omega)
      refine ⟨out', p', by omega, by omega, by omega, ?_⟩
      refine Ev.step (fun k => by rw [spec_someEntries.l0]) ?_
      rw [hw]
      refine ev_pos (by omega) (Ev.bind e1 (Ev.bind e2 (Ev.bind e3 (Ev.bind e4 (Ev.bind e5 (Ev.bind e6 (ev_pos (by omega) (ev_bind0 (v := y) (by rw [hy]) (Ev.bind e7 (ev_neg h7 h4))))))))))
theorem someEntries_ok {b : List Int} (hc : Code b) {p : Int} (hp : 0 ≤ p) (hp1 : p < 100000000) :
    ∃ l p', l.length ≤ 20 ∧ p ≤ p' ∧ p' ≤ p + 101 ∧ Ev (fun k => spec_someEntries.f k b p) (l, p') := by
  obtain ⟨v, hv, e⟩ := one_ok hc hp (by omega) ([4, 5, 3, 7, 1, 0, 10] : List Int) (by simp)
  have hv2 : 0 ≤ v ∧ v ≤ 10 := by
    simp at hv
    omega
  obtain ⟨n, rfl⟩ := Int.eq_ofNat_of_zero_le hv2.1
  obtain ⟨l, p', h1, h2, h3, h4⟩ := someE_l0 hc n [] (p + 1) (by omega) (by omega) (by simp; omega)
  refine ⟨l, p', by simp at h1; omega, by omega, by omega, ?_⟩
  unfold spec_someEntries.f
  exact Ev.bind e h4
theorem anyEntries_ok {b : List Int} (hc : Code b) {p : Int} (hp : 0 ≤ p) (hp1 : p < 100000000) :
    ∃ l p', l.length ≤ 20 ∧ p ≤ p' ∧ p' ≤ p + 110 ∧ Ev (fun k => spec_anyEntries.f k b p) (l, p') := by
  obtain ⟨l, q, h1, h2, h3, h4⟩ := someEntries_ok hc hp hp1
  unfold spec_anyEntries.f
  by_cases hl : (l.length : Int) > 0
  · obtain ⟨v1, a1, b1, e1⟩ := pick_ok hc (p := q) (n := (l.length : Int)) (by omega) (by omega) (by omega)
    obtain ⟨v2, a2, b2, e2⟩ := pick_ok hc (p := q + 1) (n := 20) (by omega) (by omega) (by omega)
    by_cases c0 : v2 = 0
    · obtain ⟨v3, _, e3⟩ := one_ok hc (p := q + 1 + 1) (by omega) (by omega) ([0, 1000001, 1000000] : List Int) (by simp)
      exact ⟨l.set (v1 : Int).toNat (⟨(rd_T40 l v1).f0, (rd_T40 l v1).f1, (rd_T40 l v1).f2, v3⟩ : S40), q + 1 + 1 + 1, by simpa using h1, by omega, by omega, Ev.bind h4 (ev_pos hl (Ev.bind e1 (Ev.bind e2 (ev_pos c0 (Ev.bind e3 (ev_pos a1 (ev_pos b1 (ev_some rfl))))))))⟩
    · by_cases c1 : v2 = 1
      · obtain ⟨v3, _, e3⟩ := one_ok hc (p := q + 1 + 1) (by omega) (by omega) ([(rd_T40 l v1).f1, 8, (-1)] : List Int) (by simp)
        exact ⟨l.set (v1 : Int).toNat (⟨(rd_T40 l v1).f0, (rd_T40 l v1).f1, v3, (rd_T40 l v1).f3⟩ : S40), q + 1 + 1 + 1, by simpa using h1, by omega, by omega, Ev.bind h4 (ev_pos hl (Ev.bind e1 (Ev.bind e2 (ev_neg c0 (ev_pos c1 (ev_pos a1 (ev_pos b1 (Ev.bind e3 (ev_some rfl)))))))))⟩
      · by_cases c2 : v2 = 2
        · obtain ⟨v3, _, e3⟩ := one_ok hc (p := q + 1 + 1) (by omega) (by omega) ([(-1), 1000] : List Int) (by simp)
          exact ⟨l.set (v1 : Int).toNat (⟨v3, (rd_T40 l v1).f1, (rd_T40 l v1).f2, (rd_T40 l v1).f3⟩ : S40), q + 1 + 1 + 1, by simpa using h1, by omega, by omega, Ev.bind h4 (ev_pos hl (Ev.bind e1 (Ev.bind e2 (ev_neg c0 (ev_neg c1 (ev_pos c2 (Ev.bind e3 (ev_pos a1 (ev_pos b1 (ev_some rfl))))))))))⟩
        · exact ⟨l, q + 1 + 1, h1, by omega, by omega, Ev.bind h4 (ev_pos hl (Ev.bind e1 (Ev.bind e2 (ev_neg c0 (ev_neg c1 (ev_neg c2 (ev_some rfl)))))))⟩
  · exact ⟨l, q, h1, by omega, by omega, Ev.bind h4 (ev_neg hl (ev_some rfl))⟩
end Go.Proofs.Ytoiipfaagfhpoaa.Reader
