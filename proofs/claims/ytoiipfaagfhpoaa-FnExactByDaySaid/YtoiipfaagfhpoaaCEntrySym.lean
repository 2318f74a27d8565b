/- The library's symMerge at entries by their days: of two sorted neighbours it makes one sorted row, stably. Numbers and lists alone. -/
import Derived.Test.YtoiipfaagfhpoaaCEntryMerge
namespace Go.Proofs.Ytoiipfaagfhpoaa.EntrySort
open Go.RowKit Go.Proofs.Ytoiipfaagfhpoaa.P Go.Proofs.YtoiipfaagfhpoaaW.PrintWords Go.Proofs.Ytoiipfaagfhpoaa.Tools

theorem sym_l0 (D : List S40) (hD : D.length < 2305843009213693952) (a : Int) (ha : 0 ≤ a) (ha1 : a < D.length) : ∀ (n : Nat) (i j : Int), (j - i).toNat = n → 0 ≤ i → i ≤ j → j ≤ D.length →
    ∃ s, i ≤ s ∧ s ≤ j ∧ (s = i ∨ kD (rd_T40 D (s - 1)) < kD (rd_T40 D a)) ∧ (s = j ∨ ¬ kD (rd_T40 D s) < kD (rd_T40 D a)) ∧ ∀ r, Ev (fun k => impl_Entry_59.l1 k D s a) r → Ev (fun k => impl_Entry_59.l0 k D a i j) r := by
  intro n
  induction n using Nat.strongRecOn with
  | _ n ih =>
    intro i j hn hi hij hj
    by_cases hlt : i < j
    · have hm := mid_w (x := i) (y := j) hi (by omega) (by omega) (by omega)
      obtain ⟨t, ht, hc⟩ := cmp_lt (rd_T40 D ((i + j) / 2)) (rd_T40 D a)
      by_cases hk : kD (rd_T40 D ((i + j) / 2)) < kD (rd_T40 D a)
      · have e1 : wrap64 ((i + j) / 2 + 1) = (i + j) / 2 + 1 := by rw [w_id] <;> omega
        obtain ⟨s, h1, h2, h3, h4, h5⟩ := ih _ (by omega) ((i + j) / 2 + 1) j rfl (by omega) (by omega) hj
        refine ⟨s, by omega, h2, .inr ?_, h4, fun r hr => ?_⟩
        · rcases h3 with h3 | h3
          · rw [h3, show (i + j) / 2 + 1 - 1 = (i + j) / 2 by omega]; exact hk
          · exact h3
        · refine Ev.step (fun k => by rw [impl_Entry_59.l0]) ?_
          rw [hm, e1]
          exact ev_pos hlt (ev_pos (by omega) (ev_pos (by omega) (ev_pos ha (ev_pos ha1 (ev_bind0 ht (ev_pos (hc.2 hk) (h5 r hr)))))))
      · obtain ⟨s, h1, h2, h3, h4, h5⟩ := ih _ (by omega) i ((i + j) / 2) rfl hi (by omega) (by omega)
        refine ⟨s, h1, by omega, h3, .inr ?_, fun r hr => ?_⟩
        · rcases h4 with h4 | h4
          · rw [h4]; exact hk
          · exact h4
        · refine Ev.step (fun k => by rw [impl_Entry_59.l0]) ?_
          rw [hm]
          exact ev_pos hlt (ev_pos (by omega) (ev_pos (by omega) (ev_pos ha (ev_pos ha1 (ev_bind0 ht (ev_neg (fun h => hk (hc.1 h)) (h5 r hr)))))))
    · refine ⟨i, Int.le_refl _, hij, .inl rfl, .inl (by omega), fun r hr => ?_⟩
      exact Ev.step (fun k => by rw [impl_Entry_59.l0]) (ev_neg hlt hr)
theorem sym_l2 (D : List S40) (hD : D.length < 2305843009213693952) (m : Int) (hm0 : 0 ≤ m) (hm1 : m < D.length) : ∀ (n : Nat) (i j : Int), (j - i).toNat = n → 0 ≤ i → i ≤ j → j ≤ D.length →
    ∃ s, i ≤ s ∧ s ≤ j ∧ (s = i ∨ ¬ kD (rd_T40 D m) < kD (rd_T40 D (s - 1))) ∧ (s = j ∨ kD (rd_T40 D m) < kD (rd_T40 D s)) ∧ ∀ r, Ev (fun k => impl_Entry_59.l3 k D s m) r → Ev (fun k => impl_Entry_59.l2 k D m i j) r := by
  intro n
  induction n using Nat.strongRecOn with
  | _ n ih =>
    intro i j hn hi hij hj
    by_cases hlt : i < j
    · have hm := mid_w (x := i) (y := j) hi (by omega) (by omega) (by omega)
      obtain ⟨t, ht, hc⟩ := cmp_lt (rd_T40 D m) (rd_T40 D ((i + j) / 2))
      by_cases hk : kD (rd_T40 D m) < kD (rd_T40 D ((i + j) / 2))
      · obtain ⟨s, h1, h2, h3, h4, h5⟩ := ih _ (by omega) i ((i + j) / 2) rfl hi (by omega) (by omega)
        refine ⟨s, h1, by omega, h3, .inr ?_, fun r hr => ?_⟩
        · rcases h4 with h4 | h4
          · rw [h4]; exact hk
          · exact h4
        · refine Ev.step (fun k => by rw [impl_Entry_59.l2]) ?_
          rw [hm]
          exact ev_pos hlt (ev_pos hm0 (ev_pos hm1 (ev_pos (by omega) (ev_pos (by omega) (ev_bind0 ht (ev_pos (hc.2 hk) (h5 r hr)))))))
      · have e1 : wrap64 ((i + j) / 2 + 1) = (i + j) / 2 + 1 := by rw [w_id] <;> omega
        obtain ⟨s, h1, h2, h3, h4, h5⟩ := ih _ (by omega) ((i + j) / 2 + 1) j rfl (by omega) (by omega) hj
        refine ⟨s, by omega, h2, .inr ?_, h4, fun r hr => ?_⟩
        · rcases h3 with h3 | h3
          · rw [h3, show (i + j) / 2 + 1 - 1 = (i + j) / 2 by omega]; exact hk
          · exact h3
        · refine Ev.step (fun k => by rw [impl_Entry_59.l2]) ?_
          rw [hm, e1]
          exact ev_pos hlt (ev_pos hm0 (ev_pos hm1 (ev_pos (by omega) (ev_pos (by omega) (ev_bind0 ht (ev_neg (fun h => hk (hc.1 h)) (h5 r hr)))))))
    · refine ⟨i, Int.le_refl _, hij, .inl rfl, .inl (by omega), fun r hr => ?_⟩
      exact Ev.step (fun k => by rw [impl_Entry_59.l2]) (ev_neg hlt hr)
/-- The last part of l4: what follows behind the search. -/
theorem sym_l4 (D : List S40) (hD : D.length < 2305843009213693952) (x1 x2 x3 x18 x19 p : Int) : ∀ (n : Nat) (i j : Int), (j - i).toNat = n → 0 ≤ i → i ≤ j → j ≤ D.length → (∀ c, i ≤ c → c < j → 0 ≤ p - c ∧ p - c < D.length) →
    ∃ s, i ≤ s ∧ s ≤ j ∧ (s = i ∨ ¬ kD (rd_T40 D (p - (s - 1))) < kD (rd_T40 D (s - 1))) ∧ (s = j ∨ kD (rd_T40 D (p - s)) < kD (rd_T40 D s)) ∧ ∀ r, Ev (fun k => if s < x2 then impl_Entry_59.j6 k D x1 x2 x3 x18 s (wrap64 (x19 - s)) (decide (x2 < wrap64 (x19 - s))) else impl_Entry_59.j6 k D x1 x2 x3 x18 s (wrap64 (x19 - s)) false) r → Ev (fun k => impl_Entry_59.l4 k D x1 x2 x3 x18 x19 i j p) r := by
  intro n
  induction n using Nat.strongRecOn with
  | _ n ih =>
    intro i j hn hi hij hj hcc
    by_cases hlt : i < j
    · have hm := mid_w (x := i) (y := j) hi (by omega) (by omega) (by omega)
      have hb := hcc ((i + j) / 2) (by omega) (by omega)
      have e2 : wrap64 (p - (i + j) / 2) = p - (i + j) / 2 := by rw [w_id] <;> omega
      obtain ⟨t, ht, hc⟩ := cmp_lt (rd_T40 D (p - (i + j) / 2)) (rd_T40 D ((i + j) / 2))
      by_cases hk : kD (rd_T40 D (p - (i + j) / 2)) < kD (rd_T40 D ((i + j) / 2))
      · obtain ⟨s, h1, h2, h3, h4, h5⟩ := ih _ (by omega) i ((i + j) / 2) rfl hi (by omega) (by omega) (fun c h h' => hcc c h (by omega))
        refine ⟨s, h1, by omega, h3, .inr ?_, fun r hr => ?_⟩
        · rcases h4 with h4 | h4
          · rw [h4]; exact hk
          · exact h4
        · refine Ev.step (fun k => by rw [impl_Entry_59.l4]) ?_
          rw [hm, e2]
          exact ev_pos hlt (ev_pos hb.1 (ev_pos hb.2 (ev_pos (by omega) (ev_pos (by omega) (ev_bind0 ht (ev_pos (hc.2 hk) (h5 r hr)))))))
      · have e1 : wrap64 ((i + j) / 2 + 1) = (i + j) / 2 + 1 := by rw [w_id] <;> omega
        obtain ⟨s, h1, h2, h3, h4, h5⟩ := ih _ (by omega) ((i + j) / 2 + 1) j rfl (by omega) (by omega) hj (fun c h h' => hcc c (by omega) h')
        refine ⟨s, by omega, h2, .inr ?_, h4, fun r hr => ?_⟩
        · rcases h3 with h3 | h3
          · rw [h3, show (i + j) / 2 + 1 - 1 = (i + j) / 2 by omega]; exact hk
          · exact h3
        · refine Ev.step (fun k => by rw [impl_Entry_59.l4]) ?_
          rw [hm, e2, e1]
          exact ev_pos hlt (ev_pos hb.1 (ev_pos hb.2 (ev_pos (by omega) (ev_pos (by omega) (ev_bind0 ht (ev_neg (fun h => hk (hc.1 h)) (h5 r hr)))))))
    · refine ⟨i, Int.le_refl _, hij, .inl rfl, .inl (by omega), fun r hr => ?_⟩
      exact Ev.step (fun k => by rw [impl_Entry_59.l4]) (ev_neg hlt hr)

/-- The element goes forward. -/
theorem sym_l1 (X Q : List S40) (x : S40) : ∀ (R2 R1 : List S40), X.length + R1.length + R2.length + 1 + Q.length < 2305843009213693952 →
    Ev (fun k => impl_Entry_59.l1 k (X ++ (R1 ++ x :: (R2 ++ Q))) ((X.length + R1.length + R2.length + 1 : Nat) : Int) ((X.length + R1.length : Nat) : Int)) (X ++ (R1 ++ (R2 ++ x :: Q))) := by
  intro R2
  induction R2 with
  | nil =>
    intro R1 hb
    refine Ev.step (fun k => by rw [impl_Entry_59.l1]) ?_
    refine ev_neg ?_ (ev_some (by simp))
    simp only [List.length_nil] at *
    rw [w_id] <;> omega
  | cons y R2 ih =>
    intro R1 hb
    simp only [List.length_cons] at hb
    have e1 : wrap64 (((X.length + R1.length + (y :: R2).length + 1 : Nat) : Int) - 1) = ((X.length + R1.length + R2.length + 1 : Nat) : Int) := by simp only [List.length_cons]; rw [w_id] <;> omega
    have e2 : wrap64 (((X.length + R1.length : Nat) : Int) + 1) = ((X.length + R1.length + 1 : Nat) : Int) := by rw [w_id] <;> omega
    have r1 : rd_T40 (X ++ (R1 ++ x :: (y :: R2 ++ Q))) ((X.length + R1.length + 1 : Nat) : Int) = y := by
      rw [show X ++ (R1 ++ x :: (y :: R2 ++ Q)) = (X ++ (R1 ++ [x])) ++ y :: (R2 ++ Q) by simp]; exact rd_app _ _ _ _ (by simp; omega)
    have r2 : rd_T40 (X ++ (R1 ++ x :: (y :: R2 ++ Q))) ((X.length + R1.length : Nat) : Int) = x := by
      rw [← List.append_assoc]; exact rd_app _ _ _ _ (by simp; omega)
    refine Ev.step (fun k => by rw [impl_Entry_59.l1]) ?_
    rw [e1, e2, r1, r2]
    refine ev_pos (by omega) (ev_pos (by omega) (ev_pos (by simp; omega) (ev_pos (by omega) (ev_pos (by simp; omega) ?_))))
    have s1 : ((X ++ (R1 ++ x :: (y :: R2 ++ Q))).set (((X.length + R1.length : Nat) : Int)).toNat y).set (((X.length + R1.length + 1 : Nat) : Int)).toNat x = X ++ ((R1 ++ [y]) ++ x :: (R2 ++ Q)) := by
      rw [← List.append_assoc, set_app _ _ _ _ _ (by simp; omega), show X ++ R1 ++ y :: (y :: R2 ++ Q) = (X ++ (R1 ++ [y])) ++ y :: (R2 ++ Q) by simp, set_app _ _ _ _ _ (by simp; omega)]
      simp
    have h := ih (R1 ++ [y]) (by simp; omega)
    show Ev (fun k => impl_Entry_59.l1 k (((X ++ (R1 ++ x :: (y :: R2 ++ Q))).set (((X.length + R1.length : Nat) : Int)).toNat y).set (((X.length + R1.length + 1 : Nat) : Int)).toNat x) _ _) _
    rw [s1, show ((X.length + R1.length + (y :: R2).length + 1 : Nat) : Int) = ((X.length + (R1 ++ [y]).length + R2.length + 1 : Nat) : Int) by simp; omega, show ((X.length + R1.length + 1 : Nat) : Int) = ((X.length + (R1 ++ [y]).length : Nat) : Int) by simp; omega]
    simpa using h
/-- The element goes back. -/
theorem sym_l3 (X Q : List S40) (y : S40) : ∀ (n : Nat) (L1 L2 : List S40), L1.length = n → X.length + L1.length + L2.length + 1 + Q.length < 2305843009213693952 →
    Ev (fun k => impl_Entry_59.l3 k (X ++ (L1 ++ y :: (L2 ++ Q))) (X.length : Int) ((X.length + L1.length : Nat) : Int)) (X ++ (y :: (L1 ++ (L2 ++ Q)))) := by
  intro n
  induction n with
  | zero =>
    intro L1 L2 hn hb
    obtain rfl := List.eq_nil_of_length_eq_zero hn
    refine Ev.step (fun k => by rw [impl_Entry_59.l3]) ?_
    exact ev_neg (by simp only [List.length_nil]; omega) (ev_some (by simp))
  | succ n ih =>
    intro L1 L2 hn hb
    rcases List.eq_nil_or_concat L1 with rfl | ⟨L0, x, rfl⟩
    · simp at hn
    · rw [List.concat_eq_append] at *
      have hl : (L0 ++ [x]).length = L0.length + 1 := by simp
      rw [hl] at hn hb
      have e1 : wrap64 (((X.length + (L0 ++ [x]).length : Nat) : Int) - 1) = ((X.length + L0.length : Nat) : Int) := by rw [hl, w_id] <;> omega
      have r1 : rd_T40 (X ++ (L0 ++ [x] ++ y :: (L2 ++ Q))) ((X.length + L0.length : Nat) : Int) = x := by
        rw [show X ++ (L0 ++ [x] ++ y :: (L2 ++ Q)) = (X ++ L0) ++ x :: (y :: (L2 ++ Q)) by simp]; exact rd_app _ _ _ _ (by simp; omega)
      have r2 : rd_T40 (X ++ (L0 ++ [x] ++ y :: (L2 ++ Q))) ((X.length + (L0 ++ [x]).length : Nat) : Int) = y := by
        rw [← List.append_assoc]; exact rd_app _ _ _ _ (by simp; omega)
      refine Ev.step (fun k => by rw [impl_Entry_59.l3]) ?_
      rw [e1, r1, r2]
      refine ev_pos (by rw [hl]; omega) (ev_pos (by omega) (ev_pos (by simp; omega) (ev_pos (by omega) (ev_pos (by simp; omega) ?_))))
      have s1 : ((X ++ (L0 ++ [x] ++ y :: (L2 ++ Q))).set (((X.length + (L0 ++ [x]).length : Nat) : Int)).toNat x).set (((X.length + L0.length : Nat) : Int)).toNat y = X ++ (L0 ++ y :: (x :: L2 ++ Q)) := by
        rw [← List.append_assoc, set_app _ _ _ _ _ (by simp; omega), show X ++ (L0 ++ [x]) ++ x :: (L2 ++ Q) = (X ++ L0) ++ x :: (x :: (L2 ++ Q)) by simp, set_app _ _ _ _ _ (by simp; omega)]
        simp
      have h := ih L0 (x :: L2) (by omega) (by simp; omega)
      show Ev (fun k => impl_Entry_59.l3 k (((X ++ (L0 ++ [x] ++ y :: (L2 ++ Q))).set (((X.length + (L0 ++ [x]).length : Nat) : Int)).toNat x).set (((X.length + L0.length : Nat) : Int)).toNat y) _ _) _
      rw [s1]
      simpa using h
end Go.Proofs.Ytoiipfaagfhpoaa.EntrySort
