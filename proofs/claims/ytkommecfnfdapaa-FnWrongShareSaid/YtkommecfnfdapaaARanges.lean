/- Numbers in bounds, no two alike: the program's tests and the reference's come to the same. Numbers and lists alone. -/
import Derived.Test.YtkommecfnfdapaaATools
import Derived.Test.YtkommecfnfdapaaAPx1
import Derived.Test.YtkommecfnfdapaaAPx8
import Derived.Test.YtkommecfnfdapaaAPx7
import Derived.Test.YtkommecfnfdapaaAPx4
namespace Go.Proofs.Ytkommecfnfdapaa.Pure
open Go.RowKit Go.Proofs.Ytkommecfnfdapaa.P Go.Proofs.YtkommecfnfdapaaW.PrintWords Go.Proofs.YtkommecfnfdapaaW.PrintMore Go.Proofs.Ytkommecfnfdapaa.Tools
theorem inR (a b c : Int) : spec_inRange.f a b c = some (decide (b ≤ a ∧ a ≤ c)) := by
  unfold spec_inRange.f
  by_cases h : b ≤ a
  · rw [if_pos h]; simp [h]
  · rw [if_neg h]; simp [h]
theorem allW_l0 (lo hi : Int) (N : Int) (B : List Int) : ∀ A : List Int, N = ((A ++ B).length : Nat) → A.length + B.length < 4000000 → ∃ b, Ev (fun k => impl_allWithin.l0 k lo hi (A ++ B) N (A.length : Int)) b ∧ (b = true ↔ ∀ x ∈ B, lo ≤ x ∧ x ≤ hi) := by
  induction B with
  | nil =>
    intro A hN _
    refine ⟨true, ?_, by simp⟩
    refine Ev.step (fun k => by rw [impl_allWithin.l0]) ?_
    exact ev_neg (by rw [hN]; simp) (ev_some rfl)
  | cons e B ih =>
    intro A hN hb
    simp only [List.length_cons] at hb
    have w1 : wrap64 ((A.length : Int) + 1) = (((A ++ [e]).length : Nat) : Int) := by simp only [List.length_append, List.length_cons, List.length_nil]; rw [w_id] <;> omega
    have r1 : rd (A ++ e :: B) (A.length : Int) = e := getD_app _ _ _ _ _ (by simp)
    by_cases hlo : e < lo
    · refine ⟨false, ?_, by simp; omega⟩
      refine Ev.step (fun k => by rw [impl_allWithin.l0]) ?_
      rw [r1]
      exact ev_pos (by rw [hN]; simp; omega) (ev_pos (by omega) (ev_pos (by simp; omega) (ev_pos hlo (ev_some rfl))))
    · by_cases hhi : e > hi
      · refine ⟨false, ?_, by simp; omega⟩
        refine Ev.step (fun k => by rw [impl_allWithin.l0]) ?_
        rw [r1]
        exact ev_pos (by rw [hN]; simp; omega) (ev_pos (by omega) (ev_pos (by simp; omega) (ev_neg hlo (ev_pos hhi (ev_some rfl)))))
      · obtain ⟨b, h1, h2⟩ := ih (A ++ [e]) (by simpa using hN) (by simp; omega)
        refine ⟨b, ?_, ?_⟩
        · refine Ev.step (fun k => by rw [impl_allWithin.l0]) ?_
          rw [r1, w1]
          refine ev_pos (by rw [hN]; simp; omega) (ev_pos (by omega) (ev_pos (by simp; omega) (ev_neg hlo (ev_neg hhi ?_))))
          simpa using h1
        · rw [h2]
          simp only [List.mem_cons, forall_eq_or_imp]
          exact ⟨fun h => ⟨⟨by omega, by omega⟩, h⟩, fun h => h.2⟩
theorem allW_f (l : List Int) (lo hi : Int) (h : l.length < 4000000) : ∃ b, Ev (fun k => impl_allWithin.f k l lo hi) b ∧ (b = true ↔ ∀ x ∈ l, lo ≤ x ∧ x ≤ hi) := by
  obtain ⟨b, h1, h2⟩ := allW_l0 lo hi (l.length : Int) l [] (by simp) (by simpa using h)
  exact ⟨b, by unfold impl_allWithin.f; simpa using h1, h2⟩
theorem allI_l0 (lo hi : Int) (B : List Int) : ∀ A : List Int, A.length + B.length < 4000000 → ∃ b, Ev (fun k => spec_allIn.l0 k (A ++ B) lo hi (A.length : Int)) b ∧ (b = true ↔ ∀ x ∈ B, lo ≤ x ∧ x ≤ hi) := by
  induction B with
  | nil =>
    intro A _
    refine ⟨true, ?_, by simp⟩
    refine Ev.step (fun k => by rw [spec_allIn.l0]) ?_
    exact ev_neg (by simp) (ev_some rfl)
  | cons e B ih =>
    intro A hb
    simp only [List.length_cons] at hb
    have w1 : wrap64 ((A.length : Int) + 1) = (((A ++ [e]).length : Nat) : Int) := by simp only [List.length_append, List.length_cons, List.length_nil]; rw [w_id] <;> omega
    have r1 : rd (A ++ e :: B) (A.length : Int) = e := getD_app _ _ _ _ _ (by simp)
    by_cases he : lo ≤ e ∧ e ≤ hi
    · obtain ⟨b, h1, h2⟩ := ih (A ++ [e]) (by simp; omega)
      refine ⟨b, ?_, ?_⟩
      · refine Ev.step (fun k => by rw [spec_allIn.l0]) ?_
        rw [r1, w1]
        refine ev_pos (by simp; omega) (ev_pos (by omega) (ev_bind0 (inR _ _ _) (ev_pos (decide_eq_true he) ?_)))
        simpa using h1
      · rw [h2]
        simp only [List.mem_cons, forall_eq_or_imp]
        exact ⟨fun h => ⟨he, h⟩, fun h => h.2⟩
    · refine ⟨false, ?_, by simp; omega⟩
      refine Ev.step (fun k => by rw [spec_allIn.l0]) ?_
      rw [r1]
      exact ev_pos (by simp; omega) (ev_pos (by omega) (ev_bind0 (inR _ _ _) (ev_neg (by simp [he]) (ev_some rfl))))
theorem allI_f (l : List Int) (lo hi : Int) (h : l.length < 4000000) : ∃ b, Ev (fun k => spec_allIn.f k l lo hi) b ∧ (b = true ↔ ∀ x ∈ l, lo ≤ x ∧ x ≤ hi) := by
  obtain ⟨b, h1, h2⟩ := allI_l0 lo hi l [] (by simpa using h)
  exact ⟨b, by unfold spec_allIn.f; simpa using h1, h2⟩
theorem place_l0 (a : Int) (B : List Int) : ∀ A : List Int, A.length + B.length < 4000000 → ∃ v, Ev (fun k => spec_placeIn.l0 k (A ++ B) a (A.length : Int)) v ∧ (v < 0 ↔ a ∉ B) := by
  induction B with
  | nil =>
    intro A _
    refine ⟨-1, ?_, by simp⟩
    refine Ev.step (fun k => by rw [spec_placeIn.l0]) ?_
    exact ev_neg (by simp) (ev_some rfl)
  | cons e B ih =>
    intro A hb
    simp only [List.length_cons] at hb
    have w1 : wrap64 ((A.length : Int) + 1) = (((A ++ [e]).length : Nat) : Int) := by simp only [List.length_append, List.length_cons, List.length_nil]; rw [w_id] <;> omega
    have r1 : rd (A ++ e :: B) (A.length : Int) = e := getD_app _ _ _ _ _ (by simp)
    by_cases he : e = a
    · refine ⟨A.length, ?_, by simp [he]⟩
      refine Ev.step (fun k => by rw [spec_placeIn.l0]) ?_
      rw [r1]
      exact ev_pos (by simp; omega) (ev_pos (by omega) (ev_pos he (ev_some rfl)))
    · obtain ⟨b, h1, h2⟩ := ih (A ++ [e]) (by simp; omega)
      refine ⟨b, ?_, ?_⟩
      · refine Ev.step (fun k => by rw [spec_placeIn.l0]) ?_
        rw [r1, w1]
        refine ev_pos (by simp; omega) (ev_pos (by omega) (ev_neg he ?_))
        simpa using h1
      · rw [h2]
        simp [Ne.symm he]
theorem place_f (l : List Int) (a : Int) (h : l.length < 4000000) : ∃ v, Ev (fun k => spec_placeIn.f k l a) v ∧ (v < 0 ↔ a ∉ l) := by
  obtain ⟨b, h1, h2⟩ := place_l0 a l [] (by simpa using h)
  exact ⟨b, by unfold spec_placeIn.f; simpa using h1, h2⟩
/-- Members: told below n, no two alike. -/
def okG (g : List Int) (n : Int) : Prop := (∀ x ∈ g, 0 ≤ x ∧ x < n) ∧ g.Nodup
theorem vM_l0 (n : Int) (hn : 1 ≤ n) (hn2 : n ≤ 1000) (B : List Int) : ∀ A : List Int, A.Nodup → A.length + B.length < 4000000 → ∃ b, Ev (fun k => spec_validMembers.l0 k (A ++ B) n (A.length : Int)) b ∧ (b = true ↔ (∀ x ∈ B, 0 ≤ x ∧ x < n) ∧ (A ++ B).Nodup) := by
  induction B with
  | nil =>
    intro A hA _
    refine ⟨true, ?_, by simp [hA]⟩
    refine Ev.step (fun k => by rw [spec_validMembers.l0]) ?_
    exact ev_neg (by simp) (ev_some rfl)
  | cons e B ih =>
    intro A hA hb
    simp only [List.length_cons] at hb
    have w1 : wrap64 ((A.length : Int) + 1) = (((A ++ [e]).length : Nat) : Int) := by simp only [List.length_append, List.length_cons, List.length_nil]; rw [w_id] <;> omega
    have w2 : wrap64 (n - 1) = n - 1 := w_id (by omega) (by omega)
    have r1 : rd (A ++ e :: B) (A.length : Int) = e := getD_app _ _ _ _ _ (by simp)
    by_cases he : 0 ≤ e ∧ e ≤ n - 1
    · obtain ⟨v, hv, hv2⟩ := place_f A e (by omega)
      have ht : (A ++ e :: B).take ((A.length : Int)).toNat = A := by simp
      by_cases hm : e ∈ A
      · refine ⟨false, ?_, by simp only [Bool.false_eq_true, false_iff]; rintro ⟨_, h⟩; exact (List.nodup_append.1 h).2.2 e hm e (by simp) rfl⟩
        refine Ev.step (fun k => by rw [spec_validMembers.l0]) ?_
        rw [r1, w2, ht]
        have : ¬ v < 0 := fun h => hv2.1 h hm
        exact ev_pos (by simp; omega) (ev_pos (by omega) (ev_bind0 (inR _ _ _) (ev_pos (decide_eq_true he) (ev_pos (by simp; omega) (hv.bind (ev_pos (by omega) (ev_some rfl)))))))
      · have hA2 : (A ++ [e]).Nodup := by
          rw [List.nodup_append]
          exact ⟨hA, by simp, fun a ha b hb => by simp at hb; subst hb; rintro rfl; exact hm ha⟩
        obtain ⟨b, h1, h2⟩ := ih (A ++ [e]) hA2 (by simp; omega)
        refine ⟨b, ?_, ?_⟩
        · refine Ev.step (fun k => by rw [spec_validMembers.l0]) ?_
          rw [r1, w1, w2, ht]
          have : v < 0 := hv2.2 hm
          refine ev_pos (by simp; omega) (ev_pos (by omega) (ev_bind0 (inR _ _ _) (ev_pos (decide_eq_true he) (ev_pos (by simp; omega) (hv.bind (ev_neg (by omega) ?_))))))
          simpa using h1
        · rw [h2]
          simp only [List.mem_cons, forall_eq_or_imp, List.append_assoc, List.singleton_append]
          exact ⟨fun h => ⟨⟨⟨by omega, by omega⟩, h.1⟩, h.2⟩, fun h => ⟨h.1.2, h.2⟩⟩
    · refine ⟨false, ?_, by simp; omega⟩
      refine Ev.step (fun k => by rw [spec_validMembers.l0]) ?_
      rw [r1, w2]
      exact ev_pos (by simp; omega) (ev_pos (by omega) (ev_bind0 (inR _ _ _) (ev_neg (by simp; omega) (ev_some rfl))))
theorem vM_f (g : List Int) (n : Int) (hn : 1 ≤ n) (hn2 : n ≤ 1000) (h : g.length < 4000000) : ∃ b, Ev (fun k => spec_validMembers.f k g n) b ∧ (b = true ↔ okG g n) := by
  obtain ⟨b, h1, h2⟩ := vM_l0 n hn hn2 g [] (by simp) (by simpa using h)
  exact ⟨b, by unfold spec_validMembers.f; simpa using h1, h2⟩
theorem pigeon : ∀ (n : Nat) (l : List Int), l.Nodup → (∀ x ∈ l, 0 ≤ x ∧ x < (n : Int)) → l.length ≤ n
  | 0, l, _, h => by
    cases l with
    | nil => simp
    | cons a l => have := h a (by simp); omega
  | n + 1, l, hd, h => by
    have h1 := pigeon n (l.filter (· ≠ (n : Int))) (hd.filter _) (fun x hx => by
      have hx' := List.mem_filter.1 hx
      have := h x hx'.1
      have hne : x ≠ (n : Int) := by simpa using hx'.2
      omega)
    have h2 : l.count (n : Int) ≤ 1 := List.nodup_iff_count.1 hd _
    have h3 := List.length_eq_countP_add_countP (fun x : Int => decide (x ≠ (n : Int))) (l := l)
    rw [List.countP_eq_length_filter] at h3
    have h4 : List.countP (fun a => decide ¬decide (a ≠ (n : Int)) = true) l = l.count (n : Int) := by
      rw [List.count]
      congr 1
      funext a
      by_cases ha : a = (n : Int) <;> simp [ha]
    omega
theorem dB_l0 (n N : Int) (B : List Int) : ∀ (A : List Int) (seen : List Bool), A.Nodup → N = ((A ++ B).length : Nat) → (seen.length : Int) = n → (∀ i : Int, 0 ≤ i → i < n → (rdOf false seen i = true ↔ i ∈ A)) → A.length + B.length < 4000000 →
    ∃ b, Ev (fun k => impl_differentBelow.l0 k n seen (A ++ B) N (A.length : Int)) b ∧ (b = true ↔ (∀ x ∈ B, 0 ≤ x ∧ x < n) ∧ (A ++ B).Nodup) := by
  induction B with
  | nil =>
    intro A seen hA hN _ _ _
    refine ⟨true, ?_, by simp [hA]⟩
    refine Ev.step (fun k => by rw [impl_differentBelow.l0]) ?_
    exact ev_neg (by rw [hN]; simp) (ev_some rfl)
  | cons e B ih =>
    intro A seen hA hN hs hr hb
    simp only [List.length_cons] at hb
    have w1 : wrap64 ((A.length : Int) + 1) = (((A ++ [e]).length : Nat) : Int) := by simp only [List.length_append, List.length_cons, List.length_nil]; rw [w_id] <;> omega
    have r1 : rd (A ++ e :: B) (A.length : Int) = e := getD_app _ _ _ _ _ (by simp)
    have pre : ∀ {X : Nat → Option Bool} {b : Bool}, Ev X b → Ev (fun k => if (A.length : Int) < N then (if 0 ≤ (A.length : Int) then (if (A.length : Int) < (((A ++ e :: B).length : Nat) : Int) then X k else none) else none) else some true) b := fun h =>
      ev_pos (by rw [hN]; simp; omega) (ev_pos (by omega) (ev_pos (by simp; omega) h))
    by_cases h0 : e < 0
    · refine ⟨false, ?_, by simp; omega⟩
      refine Ev.step (fun k => by rw [impl_differentBelow.l0]) ?_
      rw [r1]
      exact pre (ev_pos h0 (ev_some rfl))
    by_cases h1 : e ≥ n
    · refine ⟨false, ?_, by simp; omega⟩
      refine Ev.step (fun k => by rw [impl_differentBelow.l0]) ?_
      rw [r1]
      exact pre (ev_neg h0 (ev_pos h1 (ev_some rfl)))
    have hre := hr e (by omega) (by omega)
    by_cases hm : e ∈ A
    · refine ⟨false, ?_, by simp only [Bool.false_eq_true, false_iff]; rintro ⟨_, h⟩; exact (List.nodup_append.1 h).2.2 e hm e (by simp) rfl⟩
      refine Ev.step (fun k => by rw [impl_differentBelow.l0]) ?_
      rw [r1]
      exact pre (ev_neg h0 (ev_neg h1 (ev_pos (by omega) (ev_pos (by omega) (ev_pos (hre.2 hm) (ev_some rfl))))))
    · have hA2 : (A ++ [e]).Nodup := by
        rw [List.nodup_append]
        exact ⟨hA, by simp, fun a ha b hb => by simp at hb; subst hb; rintro rfl; exact hm ha⟩
      obtain ⟨b, q1, q2⟩ := ih (A ++ [e]) (seen.set e.toNat true) hA2 (by simpa using hN) (by simpa using hs) (fun i hi hin => by
        unfold rdOf
        by_cases hie : i = e
        · subst hie
          have : i.toNat < seen.length := by omega
          simp [this]
        · have hne : e.toNat ≠ i.toNat := by omega
          have := hr i hi hin
          unfold rdOf at this
          rw [List.getD_eq_getElem?_getD, List.getElem?_set_ne hne, ← List.getD_eq_getElem?_getD, this]
          simp [hie]) (by simp; omega)
      refine ⟨b, ?_, ?_⟩
      · refine Ev.step (fun k => by rw [impl_differentBelow.l0]) ?_
        rw [r1, w1]
        refine pre (ev_neg h0 (ev_neg h1 (ev_pos (by omega) (ev_pos (by omega) (ev_neg (fun h => hm (hre.1 h)) ?_)))))
        simpa using q1
      · rw [q2]
        simp only [List.mem_cons, forall_eq_or_imp, List.append_assoc, List.singleton_append]
        exact ⟨fun h => ⟨⟨⟨by omega, by omega⟩, h.1⟩, h.2⟩, fun h => ⟨h.1.2, h.2⟩⟩
theorem dB_f (g : List Int) (n : Nat) (hn2 : n ≤ 1000) (h : g.length < 4000000) : ∃ b, Ev (fun k => impl_differentBelow.f k g (n : Int)) b ∧ (b = true ↔ okG g n) := by
  unfold impl_differentBelow.f
  by_cases hl : (g.length : Int) > (n : Int)
  · refine ⟨false, ev_pos hl (ev_some rfl), ?_⟩
    simp only [Bool.false_eq_true, false_iff]
    rintro ⟨h1, h2⟩
    have := pigeon n g h2 h1
    omega
  · obtain ⟨b, h1, h2⟩ := dB_l0 (n : Int) (g.length : Int) g [] (List.replicate ((n : Int)).toNat false) (by simp) (by simp) (by simp) (fun i hi hin => by unfold rdOf; simp [List.getElem?_replicate]; split <;> simp) (by simpa using h)
    refine ⟨b, ev_neg hl (ev_pos (by omega) (ev_pos (by simp; omega) (by simpa using h1))), h2⟩
end Go.Proofs.Ytkommecfnfdapaa.Pure
