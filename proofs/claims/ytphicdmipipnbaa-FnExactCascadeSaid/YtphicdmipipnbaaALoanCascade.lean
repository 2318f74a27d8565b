/- Cascade: the program's and the reference's come to the same. Numbers and lists alone. -/
import Derived.Test.YtphicdmipipnbaaALoanValid
namespace Go.Proofs.Ytphicdmipipnbaa.Pure
open Go.RowKit Go.Proofs.Ytphicdmipipnbaa.P Go.Proofs.YtphicdmipipnbaaW.PrintWords Go.Proofs.YtphicdmipipnbaaW.PrintMore Go.Proofs.Ytphicdmipipnbaa.Tools
def okSt (l : List Int) : Prop := (1 ≤ l.length ∧ l.length ≤ 12) ∧ ∀ x ∈ l, 0 ≤ x ∧ x ≤ 100000
theorem stI (l : List Int) (h : l.length < 4000000) : ∃ b, Ev (fun k => impl_validStakes.f k l) b ∧ (b = true ↔ okSt l) := by
  unfold impl_validStakes.f
  by_cases h1 : (l.length : Int) ≥ 1
  · by_cases h2 : (l.length : Int) ≤ 12
    · obtain ⟨b, q1, q2⟩ := allW_f l 0 100000 h
      refine ⟨b, ev_pos h1 (ev_pos h2 (q1.bind (ev_some rfl))), ?_⟩
      rw [q2]
      exact ⟨fun h => ⟨⟨by omega, by omega⟩, h⟩, fun h => h.2⟩
    · exact ⟨false, ev_pos h1 (ev_neg h2 (ev_some rfl)), by simp [okSt]; omega⟩
  · exact ⟨false, ev_neg h1 (ev_some rfl), by simp [okSt]; omega⟩
theorem stS (l : List Int) (h : l.length < 4000000) : ∃ b, Ev (fun k => spec_validStakes.f k l) b ∧ (b = true ↔ okSt l) := by
  unfold spec_validStakes.f
  by_cases h1 : 1 ≤ (l.length : Int) ∧ (l.length : Int) ≤ 12
  · obtain ⟨b, q1, q2⟩ := allI_f l 0 100000 h
    refine ⟨b, ev_bind0 (inR _ _ _) (ev_pos (decide_eq_true h1) (q1.bind (ev_some rfl))), ?_⟩
    rw [q2]
    exact ⟨fun h => ⟨⟨by omega, by omega⟩, h⟩, fun h => h.2⟩
  · exact ⟨false, ev_bind0 (inR _ _ _) (ev_neg (by simp [h1]) (ev_some rfl)), by simp [okSt]; omega⟩
def okL (x : S50) (n : Int) : Prop := (0 ≤ x.f0 ∧ x.f0 < n) ∧ (1 ≤ x.f1 ∧ x.f1 ≤ 100000) ∧ 0 < x.f2.length ∧ okG x.f2 n ∧ x.f0 ∉ x.f2
def okLs (l : List S50) (n : Int) : Prop := l.length ≤ 16 ∧ ∀ x ∈ l, okL x n
theorem lsS_l0 (n : Int) (hn : 1 ≤ n) (hn2 : n ≤ 12) (B : List S50) : ∀ A : List S50, A.length + B.length < 4000000 → (∀ x ∈ B, x.f2.length < 4000000) → ∃ b, Ev (fun k => spec_validLoans.l0 k (A ++ B) n (A.length : Int)) b ∧ (b = true ↔ (A ++ B).length ≤ 16 ∧ ∀ x ∈ B, okL x n) := by
  induction B with
  | nil =>
    intro A _ _
    by_cases h : (A.length : Int) ≤ 16
    · refine ⟨true, ?_, by simp; omega⟩
      refine Ev.step (fun k => by rw [spec_validLoans.l0]) ?_
      exact ev_neg (by simp) (ev_pos (by simpa using h) (ev_bind0 (inR _ _ _) (ev_some (decide_eq_true ⟨hn, hn2⟩))))
    · refine ⟨false, ?_, by simp; omega⟩
      refine Ev.step (fun k => by rw [spec_validLoans.l0]) ?_
      exact ev_neg (by simp) (ev_neg (by simpa using h) (ev_some rfl))
  | cons e B ih =>
    intro A hb hx
    simp only [List.length_cons] at hb
    have w1 : wrap64 ((A.length : Int) + 1) = (((A ++ [e]).length : Nat) : Int) := by simp only [List.length_append, List.length_cons, List.length_nil]; rw [w_id] <;> omega
    have w2 : wrap64 (n - 1) = n - 1 := w_id (by omega) (by omega)
    have r1 : rd_T50 (A ++ e :: B) (A.length : Int) = e := getD_app _ _ _ _ _ (by simp)
    have fin : ∀ b : Bool, (b = true ↔ False) → (b = true ↔ (A ++ e :: B).length ≤ 16 ∧ ∀ x ∈ e :: B, okL x n) → (b = true ↔ (A ++ e :: B).length ≤ 16 ∧ ∀ x ∈ e :: B, okL x n) := fun _ _ h => h
    have no : ¬ okL e n → (false = true ↔ (A ++ e :: B).length ≤ 16 ∧ ∀ x ∈ e :: B, okL x n) := fun h => by
      simp only [Bool.false_eq_true, false_iff]; exact fun q => h (q.2 e (by simp))
    by_cases h0 : 0 ≤ e.f0 ∧ e.f0 ≤ n - 1
    case neg =>
      refine ⟨false, ?_, no fun q => h0 ⟨q.1.1, by have := q.1.2; omega⟩⟩
      refine Ev.step (fun k => by rw [spec_validLoans.l0]) ?_
      rw [r1, w2]
      exact ev_pos (by simp; omega) (ev_pos (by omega) (ev_bind0 (inR _ _ _) (ev_neg (by simp [h0]) (ev_some rfl))))
    by_cases h1 : 1 ≤ e.f1 ∧ e.f1 ≤ 100000
    case neg =>
      refine ⟨false, ?_, no fun q => h1 q.2.1⟩
      refine Ev.step (fun k => by rw [spec_validLoans.l0]) ?_
      rw [r1, w2]
      exact ev_pos (by simp; omega) (ev_pos (by omega) (ev_bind0 (inR _ _ _) (ev_pos (decide_eq_true h0) (ev_bind0 (inR _ _ _) (ev_neg (by simp [h1]) (ev_some rfl))))))
    by_cases h2 : (e.f2.length : Int) = 0
    · refine ⟨false, ?_, no fun q => by have := q.2.2.1; omega⟩
      refine Ev.step (fun k => by rw [spec_validLoans.l0]) ?_
      rw [r1, w2]
      exact ev_pos (by simp; omega) (ev_pos (by omega) (ev_bind0 (inR _ _ _) (ev_pos (decide_eq_true h0) (ev_bind0 (inR _ _ _) (ev_pos (decide_eq_true h1) (ev_pos h2 (ev_some rfl)))))))
    obtain ⟨v, v1, v2⟩ := vM_f e.f2 n hn (by omega) (hx e (by simp))
    cases v with
    | false =>
      refine ⟨false, ?_, no fun q => by have := v2.2 q.2.2.2.1; cases this⟩
      refine Ev.step (fun k => by rw [spec_validLoans.l0]) ?_
      rw [r1, w2]
      exact ev_pos (by simp; omega) (ev_pos (by omega) (ev_bind0 (inR _ _ _) (ev_pos (decide_eq_true h0) (ev_bind0 (inR _ _ _) (ev_pos (decide_eq_true h1) (ev_neg h2 (v1.bind (ev_neg (by simp) (ev_some rfl)))))))))
    | true =>
      obtain ⟨p, p1, p2⟩ := place_f e.f2 e.f0 (hx e (by simp))
      by_cases hp : p ≥ 0
      · refine ⟨false, ?_, no fun q => by have := p2.2 q.2.2.2.2; omega⟩
        refine Ev.step (fun k => by rw [spec_validLoans.l0]) ?_
        rw [r1, w2]
        exact ev_pos (by simp; omega) (ev_pos (by omega) (ev_bind0 (inR _ _ _) (ev_pos (decide_eq_true h0) (ev_bind0 (inR _ _ _) (ev_pos (decide_eq_true h1) (ev_neg h2 (v1.bind (ev_pos rfl (p1.bind (ev_pos hp (ev_some rfl)))))))))))
      · obtain ⟨b, q1, q2⟩ := ih (A ++ [e]) (by simp; omega) (fun x hx' => hx x (by simp [hx']))
        refine ⟨b, ?_, ?_⟩
        · refine Ev.step (fun k => by rw [spec_validLoans.l0]) ?_
          rw [r1, w2, w1]
          refine ev_pos (by simp; omega) (ev_pos (by omega) (ev_bind0 (inR _ _ _) (ev_pos (decide_eq_true h0) (ev_bind0 (inR _ _ _) (ev_pos (decide_eq_true h1) (ev_neg h2 (v1.bind (ev_pos rfl (p1.bind (ev_neg hp ?_))))))))))
          simpa using q1
        · rw [q2]
          simp only [List.mem_cons, forall_eq_or_imp, List.append_assoc, List.singleton_append]
          exact ⟨fun h => ⟨h.1, ⟨⟨h0.1, by omega⟩, h1, by omega, v2.1 rfl, p2.1 (by omega)⟩, h.2⟩, fun h => ⟨h.1, h.2.2⟩⟩
theorem lsS (l : List S50) (n : Int) (hn : 1 ≤ n) (hn2 : n ≤ 12) (h : l.length < 4000000) (hx : ∀ x ∈ l, x.f2.length < 4000000) : ∃ b, Ev (fun k => spec_validLoans.f k l n) b ∧ (b = true ↔ okLs l n) := by
  obtain ⟨b, h1, h2⟩ := lsS_l0 n hn hn2 l [] (by simpa using h) hx
  exact ⟨b, by unfold spec_validLoans.f; simpa using h1, by simpa [okLs] using h2⟩
theorem lsI_l0 (n : Nat) (hn : 1 ≤ n) (hn2 : n ≤ 12) (N : Int) (B : List S50) : ∀ A : List S50, N = ((A ++ B).length : Nat) → A.length + B.length < 4000000 → (∀ x ∈ B, x.f2.length < 4000000) → ∃ b, Ev (fun k => impl_ValidLoans.l0 k (n : Int) (A ++ B) N (A.length : Int)) b ∧ (b = true ↔ ∀ x ∈ B, okL x n) := by
  induction B with
  | nil =>
    intro A hN _ _
    refine ⟨true, ?_, by simp⟩
    refine Ev.step (fun k => by rw [impl_ValidLoans.l0]) ?_
    exact ev_neg (by rw [hN]; simp) (ev_some rfl)
  | cons e B ih =>
    intro A hN hb hx
    simp only [List.length_cons] at hb
    have w1 : wrap64 ((A.length : Int) + 1) = (((A ++ [e]).length : Nat) : Int) := by simp only [List.length_append, List.length_cons, List.length_nil]; rw [w_id] <;> omega
    have r1 : rd_T50 (A ++ e :: B) (A.length : Int) = e := getD_app _ _ _ _ _ (by simp)
    have no : ¬ okL e n → (false = true ↔ ∀ x ∈ e :: B, okL x n) := fun h => by
      simp only [Bool.false_eq_true, false_iff]; exact fun q => h (q e (by simp))
    have jt : Ev (fun k => impl_ValidLoans.j2 k (n : Int) (A ++ e :: B) N (A.length : Int) true e.f0 e.f1 e.f2) false :=
      Ev.step (fun k => by rw [impl_ValidLoans.j2]) (ev_pos rfl (ev_some rfl))
    by_cases h0 : e.f0 < 0
    · refine ⟨false, ?_, no fun q => by have := q.1.1; omega⟩
      refine Ev.step (fun k => by rw [impl_ValidLoans.l0]) ?_
      rw [r1]
      exact ev_pos (by rw [hN]; simp; omega) (ev_pos (by omega) (ev_pos (by simp; omega) (ev_pos h0 jt)))
    by_cases h1 : e.f0 ≥ (n : Int)
    · refine ⟨false, ?_, no fun q => by have := q.1.2; omega⟩
      refine Ev.step (fun k => by rw [impl_ValidLoans.l0]) ?_
      rw [r1]
      exact ev_pos (by rw [hN]; simp; omega) (ev_pos (by omega) (ev_pos (by simp; omega) (ev_neg h0 (ev_pos h1 jt))))
    by_cases h2 : e.f1 < 1
    · refine ⟨false, ?_, no fun q => by have := q.2.1.1; omega⟩
      refine Ev.step (fun k => by rw [impl_ValidLoans.l0]) ?_
      rw [r1]
      exact ev_pos (by rw [hN]; simp; omega) (ev_pos (by omega) (ev_pos (by simp; omega) (ev_neg h0 (ev_neg h1 (ev_pos h2 jt)))))
    have go : ∀ b, Ev (fun k => impl_ValidLoans.j2 k (n : Int) (A ++ e :: B) N (A.length : Int) (decide (e.f1 > 100000)) e.f0 e.f1 e.f2) b → Ev (fun k => impl_ValidLoans.l0 k (n : Int) (A ++ e :: B) N (A.length : Int)) b := fun b q => by
      refine Ev.step (fun k => by rw [impl_ValidLoans.l0]) ?_
      rw [r1]
      exact ev_pos (by rw [hN]; simp; omega) (ev_pos (by omega) (ev_pos (by simp; omega) (ev_neg h0 (ev_neg h1 (ev_neg h2 q)))))
    by_cases h3 : e.f1 > 100000
    · refine ⟨false, go _ ?_, no fun q => by have := q.2.1.2; omega⟩
      rw [decide_eq_true h3]
      exact jt
    rw [decide_eq_false h3] at go
    by_cases h4 : (e.f2.length : Int) < 1
    · refine ⟨false, go _ (Ev.step (fun k => by rw [impl_ValidLoans.j2]) ?_), no fun q => by have := q.2.2.1; omega⟩
      exact ev_neg Bool.false_ne_true (ev_pos h4 (ev_some rfl))
    obtain ⟨v, v1, v2⟩ := dB_f e.f2 n (by omega) (hx e (by simp))
    cases v with
    | false =>
      refine ⟨false, go _ (Ev.step (fun k => by rw [impl_ValidLoans.j2]) ?_), no fun q => by have := v2.2 q.2.2.2.1; cases this⟩
      exact ev_neg Bool.false_ne_true (ev_neg h4 (v1.bind (ev_neg Bool.false_ne_true (ev_some rfl))))
    | true =>
      obtain ⟨p, p1, p2⟩ := contains_f e.f2 e.f0 (hx e (by simp))
      cases p with
      | true =>
        refine ⟨false, go _ (Ev.step (fun k => by rw [impl_ValidLoans.j2]) ?_), no fun q => q.2.2.2.2 (p2.1 rfl)⟩
        exact ev_neg Bool.false_ne_true (ev_neg h4 (v1.bind (ev_pos rfl (p1.bind (ev_pos rfl (ev_some rfl))))))
      | false =>
        obtain ⟨b, q1, q2⟩ := ih (A ++ [e]) (by simpa using hN) (by simp; omega) (fun x hx' => hx x (by simp [hx']))
        refine ⟨b, go _ (Ev.step (fun k => by rw [impl_ValidLoans.j2]) ?_), ?_⟩
        · rw [w1]
          refine ev_neg Bool.false_ne_true (ev_neg h4 (v1.bind (ev_pos rfl (p1.bind (ev_neg Bool.false_ne_true ?_)))))
          simpa using q1
        · rw [q2]
          simp only [List.mem_cons, forall_eq_or_imp]
          exact ⟨fun h => ⟨⟨⟨by omega, by omega⟩, ⟨by omega, by omega⟩, by omega, v2.1 rfl, fun hm => by have := p2.2 hm; cases this⟩, h⟩, fun h => h.2⟩
theorem lsI (l : List S50) (n : Nat) (hn : 1 ≤ n) (hn2 : n ≤ 12) (h : l.length < 4000000) (hx : ∀ x ∈ l, x.f2.length < 4000000) : ∃ b, Ev (fun k => impl_ValidLoans.f k l (n : Int)) b ∧ (b = true ↔ okLs l n) := by
  unfold impl_ValidLoans.f
  by_cases h1 : (l.length : Int) > 16
  · exact ⟨false, ev_pos h1 (Ev.step (fun k => by rw [impl_ValidLoans.j0]) (ev_pos rfl (ev_some rfl))), by simp [okLs]; omega⟩
  · obtain ⟨b, q1, q2⟩ := lsI_l0 n hn hn2 (l.length : Int) l [] (by simp) (by simpa using h) hx
    refine ⟨b, ev_neg h1 (ev_neg (by omega) ?_), ?_⟩
    · rw [decide_eq_false (by omega)]
      exact Ev.step (fun k => by rw [impl_ValidLoans.j0]) (ev_neg (by simp) (by simpa using q1))
    · rw [q2]
      exact ⟨fun h => ⟨by omega, h⟩, fun h => h.2⟩
end Go.Proofs.Ytphicdmipipnbaa.Pure
