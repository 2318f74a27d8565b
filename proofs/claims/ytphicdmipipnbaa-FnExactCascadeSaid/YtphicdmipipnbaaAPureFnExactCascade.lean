/- FnExactCascade: of all stakes, loans and members, Cascade is the reference's. -/
import Derived.Test.YtphicdmipipnbaaALoanFail
import Derived.Test.YtphicdmipipnbaaAOkayFnExactCascade
namespace Go.Proofs.Ytphicdmipipnbaa.Pure
open Go.RowKit Go.Proofs.Ytphicdmipipnbaa.P Go.Proofs.YtphicdmipipnbaaW.PrintWords Go.Proofs.YtphicdmipipnbaaW.PrintMore Go.Proofs.Ytphicdmipipnbaa.Tools
/-- Members who have failed. -/
def okF (F : List Int) (n : Nat) : Prop := F.Nodup ∧ ∀ x ∈ F, 0 ≤ x ∧ x < (n : Int)
theorem okF_len {F : List Int} {n : Nat} (h : okF F n) : F.length ≤ n := pigeon n F h.1 h.2
theorem okF_snoc {F : List Int} {n : Nat} {g : Int} (h : okF F n) (hg : 0 ≤ g ∧ g < (n : Int)) (hm : g ∉ F) : okF (F ++ [g]) n := by
  refine ⟨?_, fun x hx => ?_⟩
  · rw [List.nodup_append]
    exact ⟨h.1, by simp, fun a ha b hb => by simp at hb; subst hb; rintro rfl; exact hm ha⟩
  · rcases List.mem_append.1 hx with hx | hx
    · exact h.2 x hx
    · simp at hx; subst hx; exact hg
/-- The guards who fail are noted. -/
theorem casc_l2 (n : Nat) (hn : n ≤ 12) (ls : List S50) (S : List Int) (T : Int) (nx : Int) (M : Int) (i : Int) (D : List Bool) (V : Int) (B : List Int) : ∀ (A F : List Int), V = ((A ++ B).length : Nat) → (A ++ B).length ≤ 1000 → okF F n → (∀ g ∈ B, 0 ≤ g ∧ g < (n : Int)) →
    ∃ F', okF F' n ∧ (∃ E, F' = F ++ E) ∧ ∀ r1 r2, (Ev (fun k => impl_Cascade.l1 k ls S T F' nx ls M (wrap64 (i + 1))) r1 → Ev (fun k => impl_Cascade.l2 k ls S T F nx ls M i (A ++ B) V (A.length : Int)) r1) ∧
      (Ev (fun k => spec_cascade.l1 k S ls F' T D nx (wrap64 (i + 1))) r2 → Ev (fun k => spec_cascade.l2 k S ls F T D nx i (A ++ B) (A.length : Int)) r2) := by
  induction B with
  | nil =>
    intro A F hV _ hF _
    refine ⟨F, hF, ⟨[], by simp⟩, fun r1 r2 => ⟨fun h => ?_, fun h => ?_⟩⟩
    · refine Ev.step (fun k => by rw [impl_Cascade.l2]) ?_
      exact ev_neg (by rw [hV]; simp) h
    · refine Ev.step (fun k => by rw [spec_cascade.l2]) ?_
      exact ev_neg (by simp) h
  | cons g B ih =>
    intro A F hV hM hF hg
    have hM' := hM
    simp only [List.length_append, List.length_cons] at hM'
    have hFl := okF_len hF
    have w1 : wrap64 ((A.length : Int) + 1) = (((A ++ [g]).length : Nat) : Int) := by simp only [List.length_append, List.length_cons, List.length_nil]; rw [w_id] <;> omega
    have r1 : rd (A ++ g :: B) (A.length : Int) = g := getD_app _ _ _ _ _ (by simp)
    obtain ⟨b, b1, b2⟩ := contains_f F g (by omega)
    obtain ⟨p, p1, p2⟩ := place_f F g (by omega)
    by_cases hm : g ∈ F
    · obtain ⟨F', q1, q2, q3⟩ := ih (A ++ [g]) F (by simpa using hV) (by simpa using hM) hF (fun x hx => hg x (by simp [hx]))
      refine ⟨F', q1, q2, fun x1 x2 => ⟨fun h => ?_, fun h => ?_⟩⟩
      · refine Ev.step (fun k => by rw [impl_Cascade.l2]) ?_
        rw [r1, w1]
        refine ev_pos (by rw [hV]; simp; omega) (ev_pos (by omega) (ev_pos (by simp; omega) (b1.bind (ev_pos (b2.2 hm) ?_))))
        simpa using (q3 x1 x2).1 h
      · refine Ev.step (fun k => by rw [spec_cascade.l2]) ?_
        rw [r1, w1]
        have : ¬ p < 0 := fun hp => p2.1 hp hm
        refine ev_pos (by simp; omega) (ev_pos (by omega) (p1.bind (ev_neg this ?_)))
        simpa using (q3 x1 x2).2 h
    · obtain ⟨F', q1, ⟨E, q2⟩, q3⟩ := ih (A ++ [g]) (F ++ [g]) (by simpa using hV) (by simpa using hM) (okF_snoc hF (hg g (by simp)) hm) (fun x hx => hg x (by simp [hx]))
      refine ⟨F', q1, ⟨g :: E, by rw [q2]; simp⟩, fun x1 x2 => ⟨fun h => ?_, fun h => ?_⟩⟩
      · refine Ev.step (fun k => by rw [impl_Cascade.l2]) ?_
        rw [r1, w1]
        refine ev_pos (by rw [hV]; simp; omega) (ev_pos (by omega) (ev_pos (by simp; omega) (b1.bind (ev_neg (fun hb => hm (b2.1 hb)) (ev_pos (by omega) ?_)))))
        simpa using (q3 x1 x2).1 h
      · refine Ev.step (fun k => by rw [spec_cascade.l2]) ?_
        rw [r1, w1]
        refine ev_pos (by simp; omega) (ev_pos (by omega) (p1.bind (ev_pos (p2.2 hm) (ev_pos (by omega) ?_))))
        simpa using (q3 x1 x2).2 h
/-- What the reference has noted as done. -/
def okD (ls : List S50) (F : List Int) (nx idx : Nat) (D : List Bool) : Prop :=
  D.length = ls.length ∧ ∀ j : Nat, j < ls.length → rdOf false D (j : Int) = true → (∃ q, q < nx ∧ F[q]? = some (rd_T50 ls (j : Int)).f0) ∨ (j < idx ∧ F[nx]? = some (rd_T50 ls (j : Int)).f0)
theorem okF_idx {F : List Int} {n : Nat} (h : okF F n) {p q : Nat} {x : Int} (h1 : F[p]? = some x) (h2 : F[q]? = some x) : p = q := by
  obtain ⟨a1, a2⟩ := List.getElem?_eq_some_iff.1 h1
  obtain ⟨b1, b2⟩ := List.getElem?_eq_some_iff.1 h2
  exact (List.getElem?_inj a1 h.1).1 (h1.trans h2.symm)
/-- All loans of one who fails. -/
theorem casc_l1 (n : Nat) (hn : n ≤ 12) (nx : Nat) (B : List S50) : ∀ (A : List S50) (S : List Int) (T : Int) (F : List Int) (D : List Bool), (∀ x ∈ B, okL x (n : Int)) → (A ++ B).length ≤ 16 → S.length = n → (∀ x ∈ S, 0 ≤ x ∧ x ≤ 100000) → okF F n → nx < F.length → okD (A ++ B) F nx A.length D →
    ∃ (S' : List Int) (T' : Int) (F' : List Int) (D' : List Bool), S'.length = n ∧ (∀ x ∈ S', 0 ≤ x ∧ x ≤ 100000) ∧ okF F' n ∧ F.length ≤ F'.length ∧ okD (A ++ B) F' (nx + 1) 0 D' ∧
      ∀ r1 r2, (Ev (fun k => impl_Cascade.l0 k (A ++ B) S' T' F' (wrap64 ((nx : Int) + 1))) r1 → Ev (fun k => impl_Cascade.l1 k (A ++ B) S T F (nx : Int) (A ++ B) (((A ++ B).length : Nat) : Int) (A.length : Int)) r1) ∧
        (Ev (fun k => spec_cascade.l0 k S' (A ++ B) F' T' D' (wrap64 ((nx : Int) + 1))) r2 → Ev (fun k => spec_cascade.l1 k S (A ++ B) F T D (nx : Int) (A.length : Int)) r2) := by
  induction B with
  | nil =>
    intro A S T F D _ _ hS hx hF hnx hD
    refine ⟨S, T, F, D, hS, hx, hF, Nat.le_refl _, ⟨hD.1, fun j hj hr => ?_⟩, fun r1 r2 => ⟨fun h => ?_, fun h => ?_⟩⟩
    · rcases hD.2 j hj hr with ⟨q, h1, h2⟩ | ⟨h1, h2⟩
      · exact .inl ⟨q, by omega, h2⟩
      · exact .inl ⟨nx, by omega, h2⟩
    · refine Ev.step (fun k => by rw [impl_Cascade.l1]) ?_
      exact ev_neg (by simp) h
    · refine Ev.step (fun k => by rw [spec_cascade.l1]) ?_
      exact ev_neg (by simp) h
  | cons e B ih =>
    intro A S T F D hl hM hS hx hF hnx hD
    have hM' := hM
    simp only [List.length_append, List.length_cons] at hM'
    have hFl := okF_len hF
    have w1 : wrap64 ((A.length : Int) + 1) = (((A ++ [e]).length : Nat) : Int) := by simp only [List.length_append, List.length_cons, List.length_nil]; rw [w_id] <;> omega
    have r1 : rd_T50 (A ++ e :: B) (A.length : Int) = e := getD_app _ _ _ _ _ (by simp)
    have hAe : A ++ [e] ++ B = A ++ e :: B := by simp
    have hFn : F[nx]? = some (rd F (nx : Int)) := by
      unfold rd
      rw [List.getD_eq_getElem?_getD, Int.toNat_natCast, List.getElem?_eq_getElem hnx]
      rfl
    have hDl : A.length < D.length := by rw [hD.1]; simp
    -- what the reference asks
    have ask : ∀ r2, (e.f0 ≠ rd F (nx : Int) → Ev (fun k => spec_cascade.l1 k S (A ++ e :: B) F T D (nx : Int) (((A ++ [e]).length : Nat) : Int)) r2) → (e.f0 = rd F (nx : Int) → Ev (fun k => spec_cascade.j2 k S (A ++ e :: B) F T D (nx : Int) (A.length : Int) false) r2) → Ev (fun k => spec_cascade.l1 k S (A ++ e :: B) F T D (nx : Int) (A.length : Int)) r2 := fun r2 g1 g2 => by
      refine Ev.step (fun k => by rw [spec_cascade.l1]) ?_
      rw [r1]
      refine ev_pos (by simp; omega) (ev_pos (by omega) (ev_pos (by omega) ?_))
      by_cases hd : rdOf false D (A.length : Int) = true
      · refine ev_pos hd ?_
        have hne : e.f0 ≠ rd F (nx : Int) := by
          intro he
          rcases hD.2 A.length (by simp) hd with ⟨q, h1, h2⟩ | ⟨h1, _⟩
          · rw [r1, he] at h2
            have := okF_idx hF h2 hFn
            omega
          · omega
        refine Ev.step (fun k => by rw [spec_cascade.j2]) (ev_pos rfl ?_)
        rw [w1]
        exact g1 hne
      · refine ev_neg hd (ev_pos (by omega) (ev_pos (by omega) ?_))
        by_cases he : e.f0 = rd F (nx : Int)
        · have : (e.f0 != rd F (nx : Int)) = false := by simp [he]
          rw [this]
          exact g2 he
        · have : (e.f0 != rd F (nx : Int)) = true := by simp [he]
          rw [this]
          refine Ev.step (fun k => by rw [spec_cascade.j2]) (ev_pos rfl ?_)
          rw [w1]
          exact g1 he
    by_cases he : e.f0 = rd F (nx : Int)
    · obtain ⟨S1, W1, L1, f1, f2, f3, f4, f5, f6⟩ := fail_f n hn S e hS hx (hl e (by simp))
      obtain ⟨F1, c1, ⟨E, c2⟩, c3⟩ := casc_l2 n hn (A ++ e :: B) S1 (wrap64 (T + L1)) (nx : Int) (((A ++ e :: B).length : Nat) : Int) (A.length : Int) (D.set ((A.length : Int)).toNat true) (W1.length : Int) W1 [] F (by simp) (by simpa using f6) hF f5
      have hD1 : okD (A ++ e :: B) F1 nx (A ++ [e]).length (D.set ((A.length : Int)).toNat true) := by
        refine ⟨by simp [hD.1], fun j hj hr => ?_⟩
        by_cases hja : j = A.length
        · subst hja
          refine .inr ⟨by simp, ?_⟩
          rw [r1, he, c2, List.getElem?_append_left hnx]
          exact hFn
        · have hr' : rdOf false D (j : Int) = true := by
            unfold rdOf at hr ⊢
            rw [List.getD_eq_getElem?_getD, List.getElem?_set_ne (by simp; omega)] at hr
            rw [List.getD_eq_getElem?_getD]
            exact hr
          rcases hD.2 j hj hr' with ⟨q, h1, h2⟩ | ⟨h1, h2⟩
          · refine .inl ⟨q, h1, ?_⟩
            rw [c2, List.getElem?_append_left (by omega)]
            exact h2
          · refine .inr ⟨by simp; omega, ?_⟩
            rw [c2, List.getElem?_append_left hnx]
            exact h2
      obtain ⟨S', T', F', D', g1, g2, g3, g4, g5, g6⟩ := ih (A ++ [e]) S1 (wrap64 (T + L1)) F1 (D.set ((A.length : Int)).toNat true) (fun x hx' => hl x (by simp [hx'])) (by simpa using hM) f3 f4 c1 (by rw [c2]; simp; omega) (by rw [hAe]; exact hD1)
      rw [hAe] at g5 g6
      refine ⟨S', T', F', D', g1, g2, g3, by rw [c2] at g4; simp at g4; omega, g5, fun x1 x2 => ⟨fun h => ?_, fun h => ?_⟩⟩
      · refine Ev.step (fun k => by rw [impl_Cascade.l1]) ?_
        rw [r1]
        refine ev_pos (by simp; omega) (ev_pos (by omega) (ev_pos (by simp; omega) (ev_pos (by omega) (ev_pos (by omega) (ev_pos he (f1.bind ?_))))))
        have h1 := (g6 x1 x2).1 h
        rw [← w1] at h1
        simpa using (c3 x1 x2).1 h1
      · refine ask x2 (fun hne => absurd he hne) (fun _ => ?_)
        refine Ev.step (fun k => by rw [spec_cascade.j2]) ?_
        rw [r1]
        refine ev_neg Bool.false_ne_true (ev_pos (by omega) (ev_pos (by omega) (ev_pos (by simp; omega) (f2.bind ?_))))
        have h1 := (g6 x1 x2).2 h
        rw [← w1] at h1
        simpa using (c3 x1 x2).2 h1
    · have hD1 : okD (A ++ e :: B) F nx (A ++ [e]).length D := ⟨hD.1, fun j hj hr => by
        rcases hD.2 j hj hr with h | ⟨h1, h2⟩
        · exact .inl h
        · exact .inr ⟨by simp; omega, h2⟩⟩
      obtain ⟨S', T', F', D', g1, g2, g3, g4, g5, g6⟩ := ih (A ++ [e]) S T F D (fun x hx' => hl x (by simp [hx'])) (by simpa using hM) hS hx hF hnx (by rw [hAe]; exact hD1)
      rw [hAe] at g5 g6
      refine ⟨S', T', F', D', g1, g2, g3, g4, g5, fun x1 x2 => ⟨fun h => ?_, fun h => ?_⟩⟩
      · refine Ev.step (fun k => by rw [impl_Cascade.l1]) ?_
        rw [r1, w1]
        refine ev_pos (by simp; omega) (ev_pos (by omega) (ev_pos (by simp; omega) (ev_pos (by omega) (ev_pos (by omega) (ev_neg he ?_)))))
        exact (g6 x1 x2).1 h
      · exact ask x2 (fun _ => (g6 x1 x2).2 h) (fun h' => absurd h' he)
theorem casc_l0 (n : Nat) (hn : n ≤ 12) (ls : List S50) (hl : ∀ x ∈ ls, okL x (n : Int)) (hM : ls.length ≤ 16) : ∀ (d nx : Nat) (S : List Int) (T : Int) (F : List Int) (D : List Bool), nx + d = 13 → S.length = n → (∀ x ∈ S, 0 ≤ x ∧ x ≤ 100000) → okF F n → nx ≤ F.length → okD ls F nx 0 D →
    ∃ (S' : List Int) (T' : Int) (F' : List Int), S'.length ≤ 12 ∧ F'.length ≤ 12 ∧ Ev (fun k => impl_Cascade.l0 k ls S T F (nx : Int)) (S', T', F') ∧ Ev (fun k => spec_cascade.l0 k S ls F T D (nx : Int)) (S', T', F') := by
  intro d
  induction d with
  | zero => intro nx S T F D hd _ _ hF hnx _; have := okF_len hF; omega
  | succ d ih =>
    intro nx S T F D hd hS hx hF hnx hD
    have hFl := okF_len hF
    have w1 : wrap64 ((nx : Int) + 1) = ((nx + 1 : Nat) : Int) := by rw [w_id] <;> omega
    by_cases hlt : nx < F.length
    · obtain ⟨S', T', F', D', g1, g2, g3, g4, g5, g6⟩ := casc_l1 n hn nx ls [] S T F D hl (by simpa using hM) hS hx hF hlt (by simpa using hD)
      obtain ⟨S2, T2, F2, k1, k2, k3, k4⟩ := ih (nx + 1) S' T' F' D' (by omega) g1 g2 g3 (by omega) (by simpa using g5)
      refine ⟨S2, T2, F2, k1, k2, ?_, ?_⟩
      · refine Ev.step (fun k => by rw [impl_Cascade.l0]) ?_
        refine ev_pos (by omega) ?_
        have := (g6 (S2, T2, F2) (S2, T2, F2)).1 (by rw [w1]; simpa using k3)
        simpa using this
      · refine Ev.step (fun k => by rw [spec_cascade.l0]) ?_
        refine ev_pos (by omega) ?_
        have := (g6 (S2, T2, F2) (S2, T2, F2)).2 (by rw [w1]; simpa using k4)
        simpa using this
    · refine ⟨S, T, F, by omega, by omega, ?_, ?_⟩
      · refine Ev.step (fun k => by rw [impl_Cascade.l0]) ?_
        exact ev_neg (by omega) (ev_some rfl)
      · refine Ev.step (fun k => by rw [spec_cascade.l0]) ?_
        exact ev_neg (by omega) (ev_some rfl)
theorem same (st : List Int) (ls : List S50) (a : Int) (h1 : st.length < 2000000) (h2 : ls.length < 2000000) (h3 : ∀ x ∈ ls, x.f2.length < 2000000) : ∃ (S : List Int) (T : Int) (F : List Int), S.length ≤ 12 ∧ F.length ≤ 12 ∧ Ev (fun k => impl_Cascade.f k st ls a) (S, T, F) ∧ Ev (fun k => spec_Cascade.f k st ls a) (S, T, F) := by
  obtain ⟨b, b1, b2⟩ := stI st (by omega)
  obtain ⟨c, c1, c2⟩ := stS st (by omega)
  obtain rfl : b = c := by rw [Bool.eq_iff_iff, b2, c2]
  have noI : Ev (fun k => impl_Cascade.j0 k st ls a true) (([] : List Int), (-1 : Int), ([] : List Int)) := Ev.step (fun k => by rw [impl_Cascade.j0]) (ev_pos rfl (ev_some rfl))
  have noS : Ev (fun k => spec_Cascade.j0 k st ls a true) (([] : List Int), (-1 : Int), ([] : List Int)) := Ev.step (fun k => by rw [spec_Cascade.j0]) (ev_pos rfl (ev_some rfl))
  cases b with
  | false =>
    refine ⟨[], -1, [], by simp, by simp, ?_, ?_⟩
    · unfold impl_Cascade.f
      exact b1.bind (ev_neg Bool.false_ne_true noI)
    · unfold spec_Cascade.f
      exact c1.bind (ev_neg Bool.false_ne_true noS)
  | true =>
    obtain ⟨⟨s1, s2⟩, s3⟩ := b2.1 rfl
    obtain ⟨d, d1, d2⟩ := lsI ls st.length s1 s2 (by omega) (fun x hx => by have := h3 x hx; omega)
    obtain ⟨e, e1, e2⟩ := lsS ls (st.length : Int) (by omega) (by omega) (by omega) (fun x hx => by have := h3 x hx; omega)
    obtain rfl : d = e := by rw [Bool.eq_iff_iff, d2, e2]
    cases d with
    | false =>
      refine ⟨[], -1, [], by simp, by simp, ?_, ?_⟩
      · unfold impl_Cascade.f
        exact b1.bind (ev_pos rfl (d1.bind (ev_neg Bool.false_ne_true noI)))
      · unfold spec_Cascade.f
        exact c1.bind (ev_pos rfl (e1.bind (ev_neg Bool.false_ne_true noS)))
    | true =>
      obtain ⟨l1, l2⟩ := d2.1 rfl
      have w2 : wrap64 ((st.length : Int) - 1) = (st.length : Int) - 1 := w_id (by omega) (by omega)
      by_cases ha : 0 ≤ a ∧ a ≤ (st.length : Int) - 1
      case neg =>
        refine ⟨[], -1, [], by simp, by simp, ?_, ?_⟩
        · unfold impl_Cascade.f
          refine b1.bind (ev_pos rfl (d1.bind (ev_pos rfl ?_)))
          by_cases hn : a < 0
          · exact ev_pos hn noI
          · refine ev_neg hn ?_
            rw [decide_eq_true (show a ≥ (st.length : Int) by omega)]
            exact noI
        · unfold spec_Cascade.f
          refine c1.bind (ev_pos rfl (e1.bind (ev_pos rfl (ev_bind0 (inR _ _ _) ?_))))
          rw [w2]
          simp only [ha, decide_false, Bool.not_false]
          exact noS
      · obtain ⟨S, T, F, k1, k2, k3, k4⟩ := casc_l0 st.length s2 ls l2 l1 13 0 st 0 [a] (List.replicate ((ls.length : Int)).toNat false) rfl rfl s3 ⟨by simp, by simp; omega⟩ (by simp) ⟨by simp, fun j hj hr => by unfold rdOf at hr; simp [hj] at hr⟩
        refine ⟨S, T, F, k1, k2, ?_, ?_⟩
        · unfold impl_Cascade.f
          refine b1.bind (ev_pos rfl (d1.bind (ev_pos rfl (ev_neg (by omega) ?_))))
          rw [decide_eq_false (show ¬ a ≥ (st.length : Int) by omega)]
          refine Ev.step (fun k => by rw [impl_Cascade.j0]) ?_
          refine ev_neg Bool.false_ne_true (ev_bind0 (v := st) (by unfold slices_Clone_int_int.f; simp; omega) ?_)
          simpa using k3
        · unfold spec_Cascade.f
          refine c1.bind (ev_pos rfl (e1.bind (ev_pos rfl (ev_bind0 (inR _ _ _) ?_))))
          rw [w2]
          simp only [ha, and_self, decide_true, Bool.not_true]
          refine Ev.step (fun k => by rw [spec_Cascade.j0]) ?_
          refine ev_neg Bool.false_ne_true (ev_bind0 (v := st) (by unfold spec_copyInts.f; simp; omega) ?_)
          have : Ev (fun k => spec_cascade.f k st ls a) (S, T, F) := by
            unfold spec_cascade.f
            exact ev_pos (by omega) (ev_pos (by omega) (by simpa using k4))
          exact this.bind (ev_some rfl)
theorem FnExactCascade : laws_FnExactCascade.Pure := by
  intro l0 l1 a2 h0 h1 _
  obtain ⟨_, h0⟩ := h0
  obtain ⟨h1x, h1⟩ := h1
  unfold maxLen at h0 h1
  suffices h : ∃ k, laws_FnExactCascade.Fine k l0 l1 a2 by
    obtain ⟨k, hk⟩ := h
    exact ⟨k, by unfold laws_FnExactCascade.f; rw [if_pos hk]⟩
  unfold laws_FnExactCascade.Fine
  by_cases hl : ((l0.length : Nat) : Int) > 1048576
  · exact ⟨0, .inl (decide_eq_true hl)⟩
  obtain ⟨L, hL, hq⟩ := sz_f l1 h1 (fun x hx => (h1x x hx).2.2.2)
  rcases hq with hq | ⟨hq, hq0⟩
  · obtain ⟨K, hK⟩ := hL
    exact ⟨K, .inr (.inl ⟨L, hK K (Nat.le_refl _), decide_eq_false hl, decide_eq_true hq⟩)⟩
  have hx : ∀ x ∈ l1, x.f2.length < 2000000 := fun x hx => by have := wt_mem hx; omega
  have hx2 : ∀ x ∈ l1.map cvL, x.f2.length < 2000000 := fun x hx' => by
    obtain ⟨y, hy, rfl⟩ := List.mem_map.1 hx'
    exact hx y hy
  have hw := wtS_cv l1
  obtain ⟨S, T, F, s1, s2, s3, s4⟩ := same l0 (l1.map cvL) a2 (by omega) (by simp; omega) hx2
  have t0 := toI_f l0 (by omega)
  have t1 := toL_f l1 (by omega) hx
  have q0 := eqI_f l0 (by omega)
  have q1 := eqL_f (l1.map cvL) (by simp; omega) hx2
  have q2 := eqI_f S (by omega)
  have q3 := eqI_f F (by omega)
  have m1 := markI_f l0 1 (by omega) (by omega) (by omega)
  have m2 := markL_f (l1.map cvL) (1 + (l0.length : Int)) (by omega) (by omega) (by simp; omega) (by omega)
  have m3 := markI_f S 1 (by omega) (by omega) (by omega)
  have m4 := markI_f F (1 + (S.length : Int)) (by omega) (by omega) (by omega)
  have n3 := heldI_f S.length 1 (by omega) (by omega) (by omega)
  have n4 := heldI_f F.length (1 + (S.length : Int)) (by omega) (by omega) (by omega)
  obtain ⟨k0, x0⟩ := hL
  obtain ⟨k1, x1⟩ := t0
  obtain ⟨k2, x2⟩ := t1
  obtain ⟨k3, x3⟩ := s3
  obtain ⟨k4, x4⟩ := s4
  obtain ⟨k5, x5⟩ := q0
  obtain ⟨k6, x6⟩ := q1
  obtain ⟨k7, x7⟩ := q2
  obtain ⟨k8, x8⟩ := q3
  obtain ⟨k9, x9⟩ := m1
  obtain ⟨k10, x10⟩ := m2
  obtain ⟨k11, x11⟩ := m3
  obtain ⟨k12, x12⟩ := m4
  obtain ⟨k13, x13⟩ := n3
  obtain ⟨k14, x14⟩ := n4
  obtain ⟨K, hK⟩ : ∃ K, K = k0 + k1 + k2 + k3 + k4 + k5 + k6 + k7 + k8 + k9 + k10 + k11 + k12 + k13 + k14 := ⟨_, rfl⟩
  have y0 := x0 K (by omega)
  have y1 := x1 K (by omega)
  have y2 := x2 K (by omega)
  have y3 := x3 K (by omega)
  have y4 := x4 K (by omega)
  have y5 := x5 K (by omega)
  have y6 := x6 K (by omega)
  have y7 := x7 K (by omega)
  have y8 := x8 K (by omega)
  have y9 := x9 K (by omega)
  have y10 := x10 K (by omega)
  have y11 := x11 K (by omega)
  have y12 := x12 K (by omega)
  have y13 := x13 K (by omega)
  have y14 := x14 K (by omega)
  refine ⟨K, .inr (.inr ?_)⟩
  refine ⟨L, l0, l1.map cvL, S, T, F, l0, l1.map cvL, l0, l1.map cvL, _, _, _, _, _, _, _, _, l0, l1.map cvL, y0, y1, y2, y4, y1, y2, y3, y7, y8, y1, y5, y2, y6, y9, y10, y7, y8, y11, y12, ?_⟩
  exact ⟨y13, y14, y1, y2, y3, y7, y8, y13, y14, decide_eq_false hl, decide_eq_false (by omega), decide_eq_false (by omega), decide_eq_false (by omega), decide_eq_false (by omega)⟩
end Go.Proofs.Ytphicdmipipnbaa.Pure
