/- FnExactByDay: of every book, ByDay is the reference's. -/
import Derived.Test.YtoiipfaagfhpoaaCEntryByDay
import Derived.Test.YtoiipfaagfhpoaaCOkayFnExactByDay
namespace Go.Proofs.Ytoiipfaagfhpoaa.Pure
open Go.RowKit Go.Proofs.Ytoiipfaagfhpoaa.P Go.Proofs.YtoiipfaagfhpoaaW.PrintWords Go.Proofs.Ytoiipfaagfhpoaa.Tools Go.Proofs.Ytoiipfaagfhpoaa.EntrySort
def cv (x : S48) : S40 := ⟨x.f0, x.f1, x.f2, x.f3⟩
theorem to_l0 (B : List S48) : ∀ (A : List S48) (D : List S40), D.length = B.length → A.length + B.length < 2000000 → Ev (fun k => laws_toEntryS.l0 k (A ++ B) (A.map cv ++ D) (A.length : Int)) ((A ++ B).map cv) := by
  induction B with
  | nil =>
    intro A D hd _
    obtain rfl : D = [] := List.eq_nil_of_length_eq_zero (by simpa using hd)
    refine Ev.step (fun k => by rw [laws_toEntryS.l0]) ?_
    exact ev_neg (by simp) (ev_some (by simp))
  | cons e B ih =>
    intro A D hd hb
    simp only [List.length_cons] at hd hb
    cases D with
    | nil => simp at hd
    | cons d D =>
      simp only [List.length_cons, Nat.succ.injEq] at hd
      have w1 : wrap64 ((A.length : Int) + 1) = (((A ++ [e]).length : Nat) : Int) := by simp only [List.length_append, List.length_cons, List.length_nil]; rw [w_id] <;> omega
      have r1 : rd_T48 (A ++ e :: B) (A.length : Int) = e := getD_app _ _ _ _ _ (by simp)
      refine Ev.step (fun k => by rw [laws_toEntryS.l0]) ?_
      rw [w1, r1]
      refine ev_pos (by simp; omega) (ev_pos (by omega) ?_)
      refine ev_bind0 (v := (e.f0, e.f1, e.f2, e.f3)) (by rfl) ?_
      refine ev_pos (by simp; omega) ?_
      rw [set_app _ _ _ _ _ (by simp)]
      have := ih (A ++ [e]) D hd (by simp; omega)
      simpa [cv] using this
theorem to_f (l : List S48) (h : l.length < 2000000) : Ev (fun k => laws_toEntryS.f k l) (l.map cv) := by
  unfold laws_toEntryS.f
  refine ev_pos (by omega) (ev_pos (by simp; omega) ?_)
  have := to_l0 l [] (List.replicate ((l.length : Int)).toNat z40) (by simp) (by simpa using h)
  simpa using this
theorem eqS_l0 (B : List S40) : ∀ A : List S40, A.length + B.length < 2000000 → Ev (fun k => laws_eqEntryS.l0 k (A ++ B) (A ++ B) (A.length : Int)) true := by
  induction B with
  | nil =>
    intro A _
    refine Ev.step (fun k => by rw [laws_eqEntryS.l0]) ?_
    exact ev_neg (by simp) (ev_some rfl)
  | cons e B ih =>
    intro A hb
    simp only [List.length_cons] at hb
    have w1 : wrap64 ((A.length : Int) + 1) = (((A ++ [e]).length : Nat) : Int) := by simp only [List.length_append, List.length_cons, List.length_nil]; rw [w_id] <;> omega
    refine Ev.step (fun k => by rw [laws_eqEntryS.l0]) ?_
    rw [w1]
    refine ev_pos (by simp; omega) (ev_pos (by omega) (ev_pos (by simp; omega) ?_))
    refine ev_bind0 (v := true) (by simp [laws_eqEntry.f]) (ev_pos rfl ?_)
    have := ih (A ++ [e]) (by simp; omega)
    simpa using this
theorem eqS_f (l : List S40) (h : l.length < 2000000) : Ev (fun k => laws_eqEntryS.f k l l) true := by
  unfold laws_eqEntryS.f
  refine ev_pos rfl ?_
  have := eqS_l0 l [] (by simpa using h)
  simpa using this
def marks : Nat → Int → List S40
  | 0, _ => []
  | n + 1, k => ⟨k, k + 1, k + 2, k + 3⟩ :: marks n (k + 4)
theorem marks_len : ∀ n k, (marks n k).length = n
  | 0, _ => rfl
  | n + 1, k => by simp [marks, marks_len n]
theorem w4 {k : Int} (h0 : 0 ≤ k) (h1 : k < 4611686018427387904) : wrap64 (k + 1) = k + 1 ∧ wrap64 (wrap64 (k + 1) + 1) = k + 2 ∧ wrap64 (wrap64 (wrap64 (k + 1) + 1) + 1) = k + 3 ∧ wrap64 (wrap64 (wrap64 (wrap64 (k + 1) + 1) + 1) + 1) = k + 4 := by
  have e1 : wrap64 (k + 1) = k + 1 := w_id (by omega) (by omega)
  have e2 : wrap64 (k + 1 + 1) = k + 2 := by rw [w_id] <;> omega
  have e3 : wrap64 (k + 2 + 1) = k + 3 := by rw [w_id] <;> omega
  have e4 : wrap64 (k + 3 + 1) = k + 4 := by rw [w_id] <;> omega
  rw [e1, e2, e3, e4]; simp
theorem mark_l0 (B : List S40) : ∀ (A : List S40) (k : Int), 0 ≤ k → k + 4 * B.length < 4000000000 → A.length + B.length < 2000000 → Ev (fun m => laws_markEntryS.l0 m (A ++ B) k (A.length : Int)) (k + 4 * B.length, A ++ marks B.length k) := by
  induction B with
  | nil =>
    intro A k _ _ _
    refine Ev.step (fun k => by rw [laws_markEntryS.l0]) ?_
    exact ev_neg (by simp) (ev_some (by simp [marks]))
  | cons e B ih =>
    intro A k h0 hk hb
    simp only [List.length_cons] at hb hk
    have w1 : wrap64 ((A.length : Int) + 1) = (((A ++ [(⟨k, k + 1, k + 2, k + 3⟩ : S40)]).length : Nat) : Int) := by simp only [List.length_append, List.length_cons, List.length_nil]; rw [w_id] <;> omega
    obtain ⟨e1, e2, e3, e4⟩ := w4 h0 (by omega : k < 4611686018427387904)
    have st : ∀ x y : S40, (A ++ x :: B).set ((A.length : Int)).toNat y = A ++ y :: B := fun x y => set_app _ _ _ _ _ (by simp)
    have rr : ∀ x : S40, rd_T40 (A ++ x :: B) (A.length : Int) = x := fun x => rd_app _ _ _ _ (by simp)
    refine Ev.step (fun k => by rw [laws_markEntryS.l0]) ?_
    rw [w1, e4, e3, e2, e1]
    refine ev_pos (by simp; omega) (ev_pos (by omega) ?_)
    simp only [Option.bind_some, st, rr]
    have := ih (A ++ [(⟨k, k + 1, k + 2, k + 3⟩ : S40)]) (k + 4) (by omega) (by omega) (by simp; omega)
    simp only [List.append_assoc, List.singleton_append] at this
    simp only [List.length_cons, marks]
    have hh : k + 4 + 4 * (B.length : Int) = k + 4 * ((B.length + 1 : Nat) : Int) := by omega
    rw [hh] at this
    exact this
theorem mark_f (l : List S40) (h : l.length < 1500000) : Ev (fun m => laws_markEntryS.f m l 1) (1 + 4 * l.length, marks l.length 1) := by
  unfold laws_markEntryS.f
  have := mark_l0 l [] 1 (by omega) (by omega) (by simp; omega)
  simpa using this
theorem held_l0 (n : Nat) : ∀ (A : List S40) (k : Int), 0 ≤ k → k + 4 * n < 4000000000 → A.length + n < 2000000 → Ev (fun m => laws_heldEntryS.l0 m (A ++ marks n k) k (A.length : Int)) (k + 4 * n) := by
  induction n with
  | zero =>
    intro A k _ _ _
    refine Ev.step (fun k => by rw [laws_heldEntryS.l0]) ?_
    exact ev_neg (by simp [marks]) (ev_some (by simp))
  | succ n ih =>
    intro A k h0 hk hb
    have w1 : wrap64 ((A.length : Int) + 1) = (((A ++ [(⟨k, k + 1, k + 2, k + 3⟩ : S40)]).length : Nat) : Int) := by simp only [List.length_append, List.length_cons, List.length_nil]; rw [w_id] <;> omega
    obtain ⟨e1, e2, e3, e4⟩ := w4 h0 (by omega : k < 4611686018427387904)
    have rr : rd_T40 (A ++ marks (n + 1) k) (A.length : Int) = ⟨k, k + 1, k + 2, k + 3⟩ := rd_app _ _ _ _ (by simp)
    refine Ev.step (fun k => by rw [laws_heldEntryS.l0]) ?_
    rw [w1, e4, e3, e2, e1, rr]
    refine ev_pos (by simp [marks_len]; omega) (ev_pos (by omega) (ev_pos rfl (ev_pos rfl (ev_pos rfl (ev_pos rfl ?_)))))
    have := ih (A ++ [(⟨k, k + 1, k + 2, k + 3⟩ : S40)]) (k + 4) (by omega) (by omega) (by simp; omega)
    simp only [List.append_assoc, List.singleton_append] at this
    have hh : k + 4 + 4 * (n : Int) = k + 4 * ((n + 1 : Nat) : Int) := by omega
    rw [hh] at this
    exact this
theorem held_f (n : Nat) (h : n < 1500000) : Ev (fun m => laws_heldEntryS.f m (marks n 1) 1) (1 + 4 * n) := by
  unfold laws_heldEntryS.f
  have := held_l0 n [] 1 (by omega) (by omega) (by simp; omega)
  simpa using this
theorem same (l : List S40) (hl : l.length < 1500000) : ∃ M : List S40, M.length ≤ l.length ∧ Ev (fun k => impl_ByDay.f k l) M ∧ Ev (fun k => spec_ByDay.f k l) M := by
  cases hv : vEs l with
  | false => exact ⟨[], by simp, impl_byDay_not l hv, spec_byDay_not l (by omega) hv⟩
  | true =>
    obtain ⟨M, h1, e1⟩ := impl_byDay l hv
    obtain ⟨M', h2, e2⟩ := spec_byDay_ev l hv
    obtain rfl := h1.uniq h2
    exact ⟨M, by rw [h1.2.length]; omega, e1, e2⟩
theorem FnExactByDay : laws_FnExactByDay.Pure := by
  intro l0 hl
  obtain ⟨_, hl⟩ := hl
  unfold maxLen at hl
  suffices h : Ev (fun k => laws_FnExactByDay.f k l0) true by obtain ⟨K, hK⟩ := h; exact ⟨K, hK K (Nat.le_refl _)⟩
  unfold laws_FnExactByDay.f
  by_cases hs : l0.length ≤ 1048576
  case neg =>
    refine ev_bind0 (v := -1) (by unfold laws_szEntryS.f; rw [if_pos (by rw [w_id] <;> omega)]) (ev_pos (by omega) (ev_some rfl))
  refine ev_bind0 (v := 1048576 - (l0.length : Int)) (by unfold laws_szEntryS.f; rw [w_id (by omega) (by omega), if_neg (by omega)]) (ev_neg (by omega) ?_)
  have ht := to_f l0 (by omega)
  obtain ⟨M, hM, hi, hsp⟩ := same (l0.map cv) (by simp; omega)
  simp only [List.length_map] at hM
  have he := eqS_f M (by omega)
  have he0 := eqS_f (l0.map cv) (by simp; omega)
  have hm0 := mark_f (l0.map cv) (by simp; omega)
  have hm := mark_f M (by omega)
  have hh := held_f M.length (by omega)
  have hj : Ev (fun k => laws_FnExactByDay.j0 k l0 M M false) true := by
    refine Ev.step (fun k => by rw [laws_FnExactByDay.j0]) ?_
    refine ev_neg (by simp) (hm.bind (hh.bind (ev_neg (by omega) (ev_pos rfl (ht.bind (hi.bind (he.bind (ev_pos rfl (hh.bind (ev_neg (by omega) (ev_pos rfl (ev_some rfl))))))))))))
  refine ht.bind (hsp.bind (ht.bind (hi.bind (he.bind (ev_pos rfl (ht.bind (he0.bind (ev_pos rfl (hm0.bind (ev_neg (by simp; omega) (he.bind hj)))))))))))
end Go.Proofs.Ytoiipfaagfhpoaa.Pure
