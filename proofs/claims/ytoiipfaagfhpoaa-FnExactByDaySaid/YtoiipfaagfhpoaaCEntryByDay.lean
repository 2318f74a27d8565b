/- ByDay of valid entries: sorted, stable; the reference's ByDay answers the same. ValidEntries of both sides. Numbers and lists alone. -/
import Derived.Test.YtoiipfaagfhpoaaCEntrySymF
import Derived.Test.YtoiipfaagfhpoaaCPx8
import Derived.Test.YtoiipfaagfhpoaaCPx4
namespace Go.Proofs.Ytoiipfaagfhpoaa.EntrySort
open Go.RowKit Go.Proofs.Ytoiipfaagfhpoaa.P Go.Proofs.YtoiipfaagfhpoaaW.PrintWords Go.Proofs.Ytoiipfaagfhpoaa.Tools

/-! ### The whole sort -/
theorem two_parts (D : List S40) (n : Nat) (h : n ≤ D.length) : ∃ A B, D = A ++ B ∧ A.length = n := split_le D n h
theorem stb_f (D : List S40) (hD : D.length ≤ 40) : ∃ M, Srt kD M ∧ Eqv kD M D ∧ Ev (fun k => impl_Entry_50.f k D (D.length : Int)) M := by
  have w1 : wrap64 (20 + 20) = 40 := by unfold wrap64; omega
  have w2 : wrap64 (40 + 20) = 60 := by unfold wrap64; omega
  have w3 : wrap64 (2 * 20) = 40 := by unfold wrap64; omega
  have w4 : wrap64 (20 * 2) = 40 := by unfold wrap64; omega
  have w5 : wrap64 (0 + 20) = 20 := by unfold wrap64; omega
  have w6 : wrap64 (40 + 40) = 80 := by unfold wrap64; omega
  unfold impl_Entry_50.f
  by_cases h1 : D.length < 20
  · obtain ⟨M, m1, m2, m3⟩ := ins_f [] D [] (by simp; omega) 0 (D.length : Int) rfl (by simp)
    refine ⟨M, m1, m2, ?_⟩
    refine Ev.step (fun k => by rw [impl_Entry_50.l0]) ?_
    refine ev_neg (by omega) (Ev.bind (a := M) (by simpa using m3) ?_)
    refine Ev.step (fun k => by rw [impl_Entry_50.l1]) ?_
    exact ev_neg (by omega) (ev_some rfl)
  · obtain ⟨A, B, rfl, hA⟩ := two_parts D 20 (by omega)
    simp only [List.length_append] at hD h1
    obtain ⟨M1, a1, a2, a3⟩ := ins_f [] A B (by simp; omega) 0 20 rfl (by simp; omega)
    have hl1 : M1.length = 20 := by rw [a2.length, hA]
    obtain ⟨M2, b1, b2, b3⟩ := ins_f M1 B [] (by simp; omega) 20 ((A.length + B.length : Nat) : Int) (by omega) (by omega)
    have hl2 : M2.length = B.length := b2.length
    have hlen : (((A ++ B).length : Nat) : Int) = ((A.length + B.length : Nat) : Int) := by simp
    rw [hlen]
    have tail0 : 1 ≤ B.length → ∃ M, Srt kD M ∧ Eqv kD M (A ++ B) ∧ Ev (fun k => impl_Entry_59.f k (M1 ++ M2) 0 20 ((A.length + B.length : Nat) : Int)) M := by
      intro hB
      obtain ⟨M, c1, c2, c3⟩ := merges _ [] M1 M2 [] rfl (by omega) (by omega) a1 b1 (by simp; omega)
      refine ⟨M, c1, c2.trans (Eqv.app a2 b2), ?_⟩
      simp only [List.length_nil, Nat.zero_add, List.nil_append, List.append_nil] at c3
      rw [hl1, hl2] at c3
      rw [show ((A.length + B.length : Nat) : Int) = ((20 + B.length : Nat) : Int) by omega]
      simpa using c3
    by_cases h2 : B.length = 0
    · have hB := List.eq_nil_of_length_eq_zero h2
      subst hB
      obtain rfl := List.eq_nil_of_length_eq_zero hl2
      refine ⟨M1, a1, by simpa using a2, ?_⟩
      refine Ev.step (fun k => by rw [impl_Entry_50.l0]) ?_
      rw [w1]
      refine ev_pos (by omega) (Ev.bind (a := M1) (by simpa using a3) ?_)
      refine Ev.step (fun k => by rw [impl_Entry_50.l0]) ?_
      refine ev_neg (by simp; omega) (Ev.bind (a := M1) (by simpa using b3) ?_)
      refine Ev.step (fun k => by rw [impl_Entry_50.l1]) ?_
      exact ev_neg (by simp; omega) (ev_some rfl)
    · obtain ⟨M, c1, c2, c3⟩ := tail0 (by omega)
      refine ⟨M, c1, c2, ?_⟩
      refine Ev.step (fun k => by rw [impl_Entry_50.l0]) ?_
      rw [w1]
      refine ev_pos (by omega) (Ev.bind (a := M1 ++ B) (by simpa using a3) ?_)
      have l1M : ∀ x, Ev (fun k => impl_Entry_50.l1 k x ((A.length + B.length : Nat) : Int) 40) x := by
        intro x
        refine Ev.step (fun k => by rw [impl_Entry_50.l1]) ?_
        exact ev_neg (by omega) (ev_some rfl)
      refine Ev.step (fun k => by rw [impl_Entry_50.l0]) ?_
      rw [w2]
      by_cases h3 : B.length = 20
      · refine ev_pos (by omega) (Ev.bind (a := M1 ++ M2) ?_ ?_)
        · rw [show ((A.length + B.length : Nat) : Int) = 40 by omega] at b3
          simpa using b3
        · refine Ev.step (fun k => by rw [impl_Entry_50.l0]) ?_
          obtain ⟨M3, d1, d2, d3⟩ := ins_f (M1 ++ M2) [] [] (by simp; omega) 40 ((A.length + B.length : Nat) : Int) (by simp; omega) (by simp; omega)
          obtain rfl := List.eq_nil_of_length_eq_zero d2.length
          refine ev_neg (by omega) (Ev.bind (a := M1 ++ M2) (by simpa using d3) ?_)
          refine Ev.step (fun k => by rw [impl_Entry_50.l1]) ?_
          refine ev_pos (by omega) ?_
          rw [w3]
          refine Ev.step (fun k => by rw [impl_Entry_50.l2]) ?_
          rw [w5, w3, w6]
          refine ev_pos (by omega) (Ev.bind (a := M) ?_ ?_)
          · rw [show ((A.length + B.length : Nat) : Int) = 40 by omega] at c3
            exact c3
          · refine Ev.step (fun k => by rw [impl_Entry_50.l2]) ?_
            rw [show wrap64 (40 + 20) = 60 by unfold wrap64; omega, w4]
            exact ev_neg (by omega) (ev_neg (by omega) (l1M M))
      · refine ev_neg (by omega) (Ev.bind (a := M1 ++ M2) (by simpa using b3) ?_)
        refine Ev.step (fun k => by rw [impl_Entry_50.l1]) ?_
        refine ev_pos (by omega) ?_
        rw [w3]
        refine Ev.step (fun k => by rw [impl_Entry_50.l2]) ?_
        rw [w5, w4]
        refine ev_neg (by omega) (ev_pos (by omega) (Ev.bind (a := M) c3 (l1M M)))

/-! ### Valid entries -/
def vE (e : S40) : Bool := decide (0 ≤ e.f0 ∧ e.f0 ≤ 999 ∧ 0 ≤ e.f1 ∧ e.f1 ≤ 7 ∧ 0 ≤ e.f2 ∧ e.f2 ≤ 7 ∧ e.f1 ≠ e.f2 ∧ 1 ≤ e.f3 ∧ e.f3 ≤ 1000000)
def vEs (l : List S40) : Bool := decide (l.length ≤ 40) && l.all vE
theorem impl_valid_one (e : S40) : Ev (fun k => impl_validEntry.f k e.f0 e.f1 e.f2 e.f3) (vE e) := by
  unfold impl_validEntry.f
  have step : ∀ b : Bool, ((b = true → vE e = false) ∧ (b = false → 0 ≤ e.f0 ∧ e.f0 ≤ 999 ∧ 1 ≤ e.f3 ∧ e.f3 ≤ 1000000)) → Ev (fun k => impl_validEntry.j0 k b e.f0 e.f1 e.f2 e.f3) (vE e) := by
    intro b hb
    refine Ev.step (fun k => by rw [impl_validEntry.j0]) ?_
    refine ev_ite (fun h => ev_some (hb.1 h).symm) (fun h => ?_)
    have hc := hb.2 (by simpa using h)
    refine ⟨0, fun _ _ => ?_⟩
    unfold impl_validAccount.f
    by_cases g1 : 0 ≤ e.f1 <;> by_cases g2 : e.f1 < 8 <;> by_cases g3 : 0 ≤ e.f2 <;> by_cases g4 : e.f2 < 8 <;> simp [g1, g2, g3, g4, vE, bne] <;> first | omega | skip
    rw [Bool.eq_iff_iff]
    simp
    omega
  refine ev_ite (fun h => step true ⟨fun _ => by simp [vE]; omega, fun h => by cases h⟩) (fun h1 => ?_)
  refine ev_ite (fun h => step true ⟨fun _ => by simp [vE]; omega, fun h => by cases h⟩) (fun h2 => ?_)
  refine ev_ite (fun h => step true ⟨fun _ => by simp [vE]; omega, fun h => by cases h⟩) (fun h3 => ?_)
  refine step _ ⟨fun h => ?_, fun h => ?_⟩
  · simp at h; simp [vE]; omega
  · simp at h; omega
theorem spec_valid_one (e : S40) : spec_validEntry.f e.f0 e.f1 e.f2 e.f3 = some (vE e) := by
  unfold spec_validEntry.f spec_inRange.f
  by_cases g0 : 0 ≤ e.f0 <;> by_cases g1 : e.f0 ≤ 999 <;> by_cases g2 : 0 ≤ e.f1 <;> by_cases g3 : e.f1 ≤ 7 <;> by_cases g4 : 0 ≤ e.f2 <;> by_cases g5 : e.f2 ≤ 7 <;> by_cases g6 : e.f1 = e.f2 <;> by_cases g7 : 1 ≤ e.f3 <;> by_cases g8 : e.f3 ≤ 1000000 <;> simp [g0, g1, g2, g3, g4, g5, g6, g7, g8, vE] <;> omega
theorem impl_valid_l0 (B : List S40) : ∀ A : List S40, A.length + B.length < 4611686018427387904 → Ev (fun k => impl_ValidEntries.l0 k (A ++ B) (((A ++ B).length : Nat) : Int) (A.length : Int)) (B.all vE) := by
  induction B with
  | nil =>
    intro A hb
    refine Ev.step (fun k => by rw [impl_ValidEntries.l0]) ?_
    exact ev_neg (by simp) (ev_some rfl)
  | cons e B ih =>
    intro A hb
    simp only [List.length_cons] at hb
    refine Ev.step (fun k => by rw [impl_ValidEntries.l0]) ?_
    rw [rd_app A B e _ (by simp)]
    refine ev_pos (by simp; omega) (ev_pos (by omega) (ev_pos (by simp; omega) (Ev.bind (impl_valid_one e) (ev_ite (fun h => ?_) (fun h => ?_)))))
    · have := ih (A ++ [e]) (by simp; omega)
      rw [show wrap64 ((A.length : Int) + 1) = (((A ++ [e]).length : Nat) : Int) by simp only [List.length_append, List.length_cons, List.length_nil]; rw [w_id] <;> omega]
      simpa [h] using this
    · exact ev_some (by simp [h])
theorem impl_valid (l : List S40) : Ev (fun k => impl_ValidEntries.f k l) (vEs l) := by
  unfold impl_ValidEntries.f
  refine ev_ite (fun h => ev_some (by simp [vEs]; omega)) (fun h => ?_)
  have := impl_valid_l0 l [] (by simp; omega)
  simp only [List.nil_append, List.length_nil] at this
  rw [show vEs l = l.all vE by simp [vEs]; omega]
  simpa using this
theorem spec_valid_l0 (B : List S40) : ∀ A : List S40, A.length + B.length < 4611686018427387904 → Ev (fun k => spec_validEntries.l0 k (A ++ B) (A.length : Int)) (decide ((A ++ B).length ≤ 40) && B.all vE) := by
  induction B with
  | nil =>
    intro A hb
    refine Ev.step (fun k => by rw [spec_validEntries.l0]) ?_
    exact ev_neg (by simp) (ev_some (by simp; omega))
  | cons e B ih =>
    intro A hb
    simp only [List.length_cons] at hb
    refine Ev.step (fun k => by rw [spec_validEntries.l0]) ?_
    rw [rd_app A B e _ (by simp)]
    refine ev_pos (by simp; omega) (ev_pos (by omega) (ev_bind0 (spec_valid_one e) (ev_ite (fun h => ?_) (fun h => ?_))))
    · have := ih (A ++ [e]) (by simp; omega)
      rw [show wrap64 ((A.length : Int) + 1) = (((A ++ [e]).length : Nat) : Int) by simp only [List.length_append, List.length_cons, List.length_nil]; rw [w_id] <;> omega]
      simpa [h] using this
    · exact ev_some (by simp [h])
theorem spec_valid (l : List S40) (hl : l.length < 4611686018427387904) : Ev (fun k => spec_validEntries.f k l) (vEs l) := by
  unfold spec_validEntries.f
  have := spec_valid_l0 l [] (by simpa using hl)
  simpa [vEs] using this

/-! ### ByDay -/
/-- What ByDay answers of valid entries. -/
def IsByDay (l M : List S40) : Prop := Srt kD M ∧ Eqv kD M l
theorem IsByDay.uniq {l M M' : List S40} (h : IsByDay l M) (h' : IsByDay l M') : M = M' := Eqv.eq h.1 h'.1 (h.2.trans h'.2.symm)
theorem clone_f (l : List S40) (h : l.length ≤ 40) : impl_Entry_30.f l = some l := by
  unfold impl_Entry_30.f
  simp
  omega
theorem impl_byDay (l : List S40) (h : vEs l = true) : ∃ M, IsByDay l M ∧ Ev (fun k => impl_ByDay.f k l) M := by
  have hl : l.length ≤ 40 := by simp [vEs] at h; exact h.1
  obtain ⟨M, m1, m2, m3⟩ := stb_f l hl
  refine ⟨M, ⟨m1, m2⟩, ?_⟩
  unfold impl_ByDay.f impl_Entry_31.f
  have hv := impl_valid l
  rw [h] at hv
  refine Ev.bind hv (ev_pos rfl (ev_bind0 (clone_f l hl) (Ev.bind (a := M) (Ev.bind m3 (ev_some rfl)) (ev_some rfl))))
theorem impl_byDay_not (l : List S40) (h : vEs l = false) : Ev (fun k => impl_ByDay.f k l) [] := by
  unfold impl_ByDay.f
  have hv := impl_valid l
  rw [h] at hv
  exact Ev.bind hv (ev_neg (by simp) (ev_some rfl))
theorem spec_l1 (A B : List S40) (x : S40) : ∀ (n : Nat) (P Q : List S40), P.length = n → Srt kD (P ++ Q) → (∀ b ∈ Q, kD x < kD b) → A.length + B.length + 1 < 4611686018427387904 → P.length + Q.length ≤ A.length →
    ∃ M, Srt kD M ∧ Eqv kD M (P ++ Q ++ [x]) ∧ ∀ r, A.length + B.length + 1 < 4398046511104 → Ev (fun k => spec_byDay.l0 k (A ++ x :: B) M ((A.length + 1 : Nat) : Int)) r → Ev (fun k => spec_byDay.l1 k (A ++ x :: B) (P ++ Q) (A.length : Int) (P.length : Int)) r := by
  intro n
  induction n with
  | zero =>
    intro P Q hn hs hq hb hl
    obtain rfl := List.eq_nil_of_length_eq_zero hn
    refine ⟨x :: Q, srt_cons.2 ⟨fun b h => Int.le_of_lt (hq b h), by simpa using hs⟩, ?_, fun r hA hr => ?_⟩
    · have := Eqv.swap (key := kD) (l := Q) (m := [x]) (fun a ha b hb => by rw [List.mem_singleton.1 hb]; exact hq a ha)
      exact this.symm
    · refine Ev.step (fun k => by rw [spec_byDay.l1]) ?_
      rw [rd_app A B x _ (by simp), show wrap64 ((A.length : Int) + 1) = ((A.length + 1 : Nat) : Int) by rw [w_id] <;> omega]
      simp only [Option.bind_some, List.nil_append, List.length_nil] at *
      refine ev_neg (by simp) (ev_pos (by simp) (ev_pos (by simp) (ev_pos (by simp; omega) (ev_pos (by omega) (ev_pos (by simp; omega) (ev_pos (by simp) (ev_pos (by simp; omega) ?_)))))))
      simpa using hr
  | succ n ih =>
    intro P Q hn hs hq hb hl
    rcases List.eq_nil_or_concat P with rfl | ⟨P0, y, rfl⟩
    · simp at hn
    · rw [List.concat_eq_append] at *
      have hl0 : (P0 ++ [y]).length = P0.length + 1 := by simp
      rw [hl0] at hn hl
      have e1 : wrap64 (((P0 ++ [y]).length : Int) - 1) = (P0.length : Int) := by rw [hl0, w_id] <;> omega
      have r1 : rd_T40 (P0 ++ [y] ++ Q) (P0.length : Int) = y := by
        rw [List.append_assoc]; exact rd_app _ _ _ _ (by simp)
      by_cases hxy : kD x < kD y
      · obtain ⟨M, h1, h2, h3⟩ := ih P0 (y :: Q) (by omega) (by simpa using hs) (fun b hb' => by
          rcases List.mem_cons.1 hb' with rfl | hb'
          · exact hxy
          · exact hq b hb') hb (by simp; omega)
        refine ⟨M, h1, by simpa using h2, fun r hA hr => ?_⟩
        refine Ev.step (fun k => by rw [spec_byDay.l1]) ?_
        rw [e1, r1, rd_app A B x _ (by simp)]
        refine ev_pos (by rw [hl0]; omega) (ev_pos (by omega) (ev_pos (by simp; omega) (ev_pos (by omega) (ev_pos (by simp; omega) (ev_pos hxy ?_)))))
        have := h3 r hA hr
        simpa using this
      · refine ⟨P0 ++ [y] ++ x :: Q, srt_ins hs (srt_last (srt_app.1 hs).1 (by omega)) hq, ?_, fun r hA hr => ?_⟩
        · have := Eqv.swap (key := kD) (l := Q) (m := [x]) (fun a ha b hb => by rw [List.mem_singleton.1 hb]; exact hq a ha)
          have h5 := Eqv.app (Eqv.refl (key := kD) (P0 ++ [y])) this.symm
          simpa using h5
        · refine Ev.step (fun k => by rw [spec_byDay.l1]) ?_
          rw [e1, r1, rd_app A B x _ (by simp), show wrap64 ((A.length : Int) + 1) = ((A.length + 1 : Nat) : Int) by rw [w_id] <;> omega]
          have d1 : (P0 ++ [y] ++ Q).drop (((P0 ++ [y]).length : Nat) : Int).toNat = Q := by simp
          have d2 : (P0 ++ [y] ++ Q).take (((P0 ++ [y]).length : Nat) : Int).toNat = P0 ++ [y] := by
            rw [Int.toNat_natCast]; exact List.take_left
          simp only [Option.bind_some, d1, d2, List.nil_append, List.length_nil]
          refine ev_pos (by rw [hl0]; omega) (ev_pos (by omega) (ev_pos (by simp; omega) (ev_pos (by omega) (ev_pos (by simp; omega) (ev_neg hxy (ev_pos (by omega) (ev_pos (by simp; omega) (ev_pos (by omega) (ev_pos (by rw [hl0]; omega) (ev_pos (by simp; omega) ?_))))))))))
          simpa using hr
theorem spec_l0 (B : List S40) : ∀ (A P : List S40), Srt kD P → Eqv kD P A → A.length + B.length < 4398046511104 → ∃ M, IsByDay (A ++ B) M ∧ Ev (fun k => spec_byDay.l0 k (A ++ B) P (A.length : Int)) M := by
  induction B with
  | nil =>
    intro A P h1 h2 hb
    refine ⟨P, ⟨h1, by simpa using h2⟩, ?_⟩
    refine Ev.step (fun k => by rw [spec_byDay.l0]) ?_
    exact ev_neg (by simp) (ev_some rfl)
  | cons x B ih =>
    intro A P h1 h2 hb
    simp only [List.length_cons] at hb
    obtain ⟨M, m1, m2, m3⟩ := spec_l1 A B x P.length P [] rfl (by simpa using h1) (by simp) (by omega) (by have := h2.length; simp; omega)
    obtain ⟨M', q1, q2⟩ := ih (A ++ [x]) M m1 (m2.trans (by simpa using Eqv.app h2 (Eqv.refl [x]))) (by simp; omega)
    refine ⟨M', by simpa using q1, ?_⟩
    refine Ev.step (fun k => by rw [spec_byDay.l0]) ?_
    refine ev_pos (by simp; omega) ?_
    have := m3 M' (by omega) (by simpa using q2)
    simpa using this
theorem spec_byDay_ev (l : List S40) (h : vEs l = true) : ∃ M, IsByDay l M ∧ Ev (fun k => spec_ByDay.f k l) M := by
  have hl : l.length ≤ 40 := by simp [vEs] at h; exact h.1
  obtain ⟨M, m1, m2⟩ := spec_l0 l [] [] List.Pairwise.nil (Eqv.refl _) (by simp; omega)
  refine ⟨M, by simpa using m1, ?_⟩
  unfold spec_ByDay.f spec_byDay.f
  have hv := spec_valid l (by omega)
  rw [h] at hv
  refine Ev.bind hv (ev_pos rfl (Ev.bind (a := M) (by simpa using m2) (ev_some rfl)))
theorem spec_byDay_not (l : List S40) (hl : l.length < 4611686018427387904) (h : vEs l = false) : Ev (fun k => spec_ByDay.f k l) [] := by
  unfold spec_ByDay.f
  have hv := spec_valid l hl
  rw [h] at hv
  exact Ev.bind hv (ev_neg (by simp) (ev_some rfl))
end Go.Proofs.Ytoiipfaagfhpoaa.EntrySort
