/- The library's stable sort, at entries by their days: what it answers is sorted and stable. Numbers and lists alone. -/
import Derived.Test.YtoiipfaagfhpoaaCTools
import Derived.Test.YtoiipfaagfhpoaaCPx8
namespace Go.Proofs.Ytoiipfaagfhpoaa.EntrySort
open Go.RowKit Go.Proofs.Ytoiipfaagfhpoaa.P Go.Proofs.YtoiipfaagfhpoaaW.PrintWords Go.Proofs.Ytoiipfaagfhpoaa.Tools

abbrev kD (e : S40) : Int := e.f0
theorem rd_app (A B : List S40) (x : S40) (i : Int) (h : i.toNat = A.length) : rd_T40 (A ++ x :: B) i = x := getD_app A B x _ _ h
theorem cmp_day (a b : S40) : impl_ByDay_1.f a.f0 a.f1 a.f2 a.f3 b.f0 b.f1 b.f2 b.f3 = some (if a.f0 < b.f0 then -1 else if a.f0 > b.f0 then 1 else 0) := by
  unfold impl_ByDay_1.f cmp_Compare_int.f cmp_isNaN_int.f
  by_cases h1 : a.f0 < b.f0 <;> by_cases h2 : a.f0 > b.f0 <;> simp [h1, h2]
theorem cmp_lt (a b : S40) : ∃ t, impl_ByDay_1.f a.f0 a.f1 a.f2 a.f3 b.f0 b.f1 b.f2 b.f3 = some t ∧ (t < 0 ↔ kD a < kD b) := by
  refine ⟨_, cmp_day a b, ?_⟩
  show _ ↔ a.f0 < b.f0
  split
  · simp [*]
  · split <;> simp [*]

/-! ### Insertion -/
theorem ins_l1 (A Q : List S40) (e i : Int) : ∀ (n : Nat) (P1 P2 : List S40) (x : S40), P1.length = n → Srt kD (P1 ++ P2) → (∀ b ∈ P2, kD x < kD b) → A.length + P1.length + P2.length + 1 + Q.length < 4611686018427387904 →
    ∃ P', Srt kD P' ∧ Eqv kD P' (P1 ++ P2 ++ [x]) ∧ ∀ r, Ev (fun k => impl_Entry_58.l0 k (A ++ (P' ++ Q)) A.length e (wrap64 (i + 1))) r → Ev (fun k => impl_Entry_58.l1 k (A ++ (P1 ++ x :: (P2 ++ Q))) A.length e i ((A.length + P1.length : Nat) : Int)) r := by
  intro n
  induction n with
  | zero =>
    intro P1 P2 x h1 hs hx hb
    obtain rfl := List.eq_nil_of_length_eq_zero h1
    refine ⟨x :: P2, srt_cons.2 ⟨fun b h => Int.le_of_lt (hx b h), by simpa using hs⟩, ?_, fun r hr => ?_⟩
    · have := Eqv.swap (key := kD) (l := P2) (m := [x]) (fun a ha b hb => by rw [List.mem_singleton.1 hb]; exact hx a ha)
      exact this.symm
    · refine Ev.step (fun k => by rw [impl_Entry_58.l1]) ?_
      refine ev_neg (by simp) ?_
      simpa using hr
  | succ n ih =>
    intro P1 P2 x h1 hs hx hb
    rcases List.eq_nil_or_concat P1 with rfl | ⟨P0, y, rfl⟩
    · simp at h1
    · rw [List.concat_eq_append] at *
      have hl : (P0 ++ [y]).length = P0.length + 1 := by simp
      rw [hl] at h1 hb
      obtain ⟨t, ht, hlt⟩ := cmp_lt x y
      have hj : wrap64 (((A.length + (P0 ++ [y]).length : Nat) : Int) - 1) = ((A.length + P0.length : Nat) : Int) := by rw [hl, w_id] <;> omega
      have r1 : rd_T40 (A ++ (P0 ++ [y] ++ x :: (P2 ++ Q))) ((A.length + (P0 ++ [y]).length : Nat) : Int) = x := by
        rw [← List.append_assoc]; exact rd_app _ _ _ _ (by simp; omega)
      have r2 : rd_T40 (A ++ (P0 ++ [y] ++ x :: (P2 ++ Q))) ((A.length + P0.length : Nat) : Int) = y := by
        rw [show A ++ (P0 ++ [y] ++ x :: (P2 ++ Q)) = (A ++ P0) ++ y :: (x :: (P2 ++ Q)) by simp]; exact rd_app _ _ _ _ (by simp; omega)
      by_cases hxy : kD x < kD y
      · obtain ⟨P', h1', h2', h3'⟩ := ih P0 (y :: P2) x (by omega) (by simpa using hs) (fun b hb' => by
          rcases List.mem_cons.1 hb' with rfl | hb'
          · exact hxy
          · exact hx b hb') (by simp; omega)
        refine ⟨P', h1', by simpa using h2', fun r hr => ?_⟩
        have h4 := h3' r hr
        refine Ev.step (fun k => by rw [impl_Entry_58.l1]) ?_
        rw [hj, r1, r2]
        refine ev_pos (by rw [hl]; omega) (ev_pos (by omega) (ev_pos (by simp; omega) (ev_pos (by omega) (ev_pos (by simp; omega) (ev_bind0 ht (ev_pos (hlt.2 hxy) ?_))))))
        have s1 : ((A ++ (P0 ++ [y] ++ x :: (P2 ++ Q))).set (((A.length + (P0 ++ [y]).length : Nat) : Int)).toNat y).set (((A.length + P0.length : Nat) : Int)).toNat x = A ++ (P0 ++ x :: ((y :: P2) ++ Q)) := by
          rw [← List.append_assoc, set_app _ _ _ _ _ (by simp; omega), show A ++ (P0 ++ [y]) ++ y :: (P2 ++ Q) = (A ++ P0) ++ y :: (y :: (P2 ++ Q)) by simp, set_app _ _ _ _ _ (by simp; omega)]
          simp
        rw [s1]
        exact h4
      · refine ⟨P0 ++ [y] ++ x :: P2, srt_ins hs ?_ hx, ?_, fun r hr => ?_⟩
        · exact srt_last (srt_app.1 hs).1 (by omega)
        · have := Eqv.swap (key := kD) (l := P2) (m := [x]) (fun a ha b hb => by rw [List.mem_singleton.1 hb]; exact hx a ha)
          have h5 := Eqv.app (Eqv.refl (key := kD) (P0 ++ [y])) this.symm
          simpa using h5
        · refine Ev.step (fun k => by rw [impl_Entry_58.l1]) ?_
          rw [hj, r1, r2]
          refine ev_pos (by rw [hl]; omega) (ev_pos (by omega) (ev_pos (by simp; omega) (ev_pos (by omega) (ev_pos (by simp; omega) (ev_bind0 ht (ev_neg (fun h => hxy (hlt.1 h)) ?_))))))
          simpa using hr

theorem ins_l0 (A B : List S40) : ∀ (R P : List S40), Srt kD P → A.length + P.length + R.length + B.length < 4611686018427387904 →
    ∃ M, Srt kD M ∧ Eqv kD M (P ++ R) ∧ Ev (fun k => impl_Entry_58.l0 k (A ++ (P ++ (R ++ B))) A.length ((A.length + P.length + R.length : Nat) : Int) ((A.length + P.length : Nat) : Int)) (A ++ (M ++ B)) := by
  intro R
  induction R with
  | nil =>
    intro P hs hb
    refine ⟨P, hs, by simpa using Eqv.refl _, ?_⟩
    refine Ev.step (fun k => by rw [impl_Entry_58.l0]) (ev_neg (by simp) ?_)
    exact ev_some (by simp)
  | cons x R ih =>
    intro P hs hb
    simp only [List.length_cons] at hb
    obtain ⟨P', h1, h2, h3⟩ := ins_l1 A (R ++ B) ((A.length + P.length + (x :: R).length : Nat) : Int) ((A.length + P.length : Nat) : Int) P.length P [] x rfl (by simpa using hs) (by simp) (by simp; omega)
    have hl : P'.length = P.length + 1 := by have := h2.length; simpa using this
    obtain ⟨M, h4, h5, h6⟩ := ih P' h1 (by omega)
    refine ⟨M, h4, h5.trans ?_, ?_⟩
    · have := Eqv.app h2 (Eqv.refl R)
      simpa using this
    · refine Ev.step (fun k => by rw [impl_Entry_58.l0]) (ev_pos (by simp; omega) ?_)
      have h7 := h3 (A ++ (M ++ B)) (by
        have e1 : wrap64 (((A.length + P.length : Nat) : Int) + 1) = ((A.length + P'.length : Nat) : Int) := by rw [w_id] <;> omega
        have e2 : ((A.length + P.length + (x :: R).length : Nat) : Int) = ((A.length + P'.length + R.length : Nat) : Int) := by simp; omega
        rw [e1, e2]
        exact h6)
      simpa using h7

theorem ins_f (A S B : List S40) (hb : A.length + S.length + B.length < 4611686018427387904) (a b : Int) (ha : a = A.length) (hbb : b = ((A.length + S.length : Nat) : Int)) :
    ∃ M, Srt kD M ∧ Eqv kD M S ∧ Ev (fun k => impl_Entry_58.f k (A ++ (S ++ B)) a b) (A ++ (M ++ B)) := by
  subst ha hbb
  unfold impl_Entry_58.f
  cases S with
  | nil =>
    refine ⟨[], List.Pairwise.nil, Eqv.refl _, ?_⟩
    refine Ev.step (fun k => by rw [impl_Entry_58.l0]) (ev_neg (by simp only [List.length_nil] at *; rw [w_id] <;> omega) (ev_some rfl))
  | cons x R =>
    simp only [List.length_cons] at hb
    obtain ⟨M, h1, h2, h3⟩ := ins_l0 A B R [x] (List.pairwise_singleton _ _) (by simp only [List.length_cons, List.length_nil]; omega)
    refine ⟨M, h1, h2, ?_⟩
    have e1 : wrap64 ((A.length : Int) + 1) = ((A.length + [x].length : Nat) : Int) := by simp only [List.length_cons, List.length_nil] at *; rw [w_id] <;> omega
    have e2 : ((A.length + (x :: R).length : Nat) : Int) = ((A.length + [x].length + R.length : Nat) : Int) := by simp; omega
    rw [e1, e2]
    exact h3
end Go.Proofs.Ytoiipfaagfhpoaa.EntrySort
