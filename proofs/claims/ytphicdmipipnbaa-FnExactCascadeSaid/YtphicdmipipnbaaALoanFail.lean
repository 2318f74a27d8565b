/- One failed loan, and Cascade. Numbers and lists alone. -/
import Derived.Test.YtphicdmipipnbaaALoanCascade
namespace Go.Proofs.Ytphicdmipipnbaa.Pure
open Go.RowKit Go.Proofs.Ytphicdmipipnbaa.P Go.Proofs.YtphicdmipipnbaaW.PrintWords Go.Proofs.YtphicdmipipnbaaW.PrintMore Go.Proofs.Ytphicdmipipnbaa.Tools
/-- Equal parts of m for n, from part i on. -/
def parts (m n : Int) : Nat → Nat → List Int
  | _, 0 => []
  | i, k + 1 => (m / n + if (i : Int) < m % n then 1 else 0) :: parts m n (i + 1) k
theorem parts_len (m n : Int) : ∀ i k, (parts m n i k).length = k
  | _, 0 => rfl
  | i, k + 1 => by simp [parts, parts_len m n (i + 1) k]
theorem parts_rng (m n : Int) (h0 : 0 ≤ m) (h1 : m ≤ 100000) (hn : 1 ≤ n) : ∀ i k, ∀ x ∈ parts m n i k, 0 ≤ x ∧ x ≤ 100001
  | _, 0 => by simp [parts]
  | i, k + 1 => by
    intro x hx
    simp only [parts, List.mem_cons] at hx
    rcases hx with rfl | hx
    · have a1 : 0 ≤ m / n := Int.ediv_nonneg h0 (by omega)
      have a2 : m / n ≤ m := Int.ediv_le_self _ h0
      split <;> omega
    · exact parts_rng m n h0 h1 hn (i + 1) k x hx
theorem tdm {m n : Int} (h0 : 0 ≤ m) : Int.tdiv m n = m / n ∧ Int.tmod m n = m % n := ⟨Int.tdiv_eq_ediv_of_nonneg h0, Int.tmod_eq_emod_of_nonneg h0⟩
theorem splitS_l0 (m : Int) (n : Nat) (h0 : 0 ≤ m) (h1 : m ≤ 100000) (hn : 1 ≤ n) (hn2 : n ≤ 1000) : ∀ (k i : Nat) (A : List Int), i + k = n → A.length = i → Ev (fun q => spec_split.l0 q m (n : Int) A (i : Int)) (A ++ parts m n i k) := by
  intro k
  induction k with
  | zero =>
    intro i A hi _
    refine Ev.step (fun k => by rw [spec_split.l0]) ?_
    exact ev_neg (by omega) (ev_some (by simp [parts]))
  | succ k ih =>
    intro i A hi hA
    obtain ⟨t1, t2⟩ := tdm (n := (n : Int)) h0
    have a1 : 0 ≤ m / n := Int.ediv_nonneg h0 (by omega)
    have a2 : m / n ≤ m := Int.ediv_le_self _ h0
    have w1 : wrap64 ((i : Int) + 1) = ((i + 1 : Nat) : Int) := by rw [w_id] <;> omega
    have w2 : wrap64 (m / n) = m / n := w_id (by omega) (by omega)
    have w3 : wrap64 (m / n + 1) = m / n + 1 := w_id (by omega) (by omega)
    refine Ev.step (fun k => by rw [spec_split.l0]) ?_
    rw [t1, t2, w1, w2, w3]
    refine ev_pos (by omega) (ev_neg (by omega) ?_)
    by_cases hc : (i : Int) < m % n
    · refine ev_pos hc (ev_pos (by omega) ?_)
      have := ih (i + 1) (A ++ [m / n + 1]) (by omega) (by simp [hA])
      simpa [parts, hc] using this
    · refine ev_neg hc (ev_pos (by omega) ?_)
      have := ih (i + 1) (A ++ [m / n]) (by omega) (by simp [hA])
      simpa [parts, hc] using this
theorem splitS (m : Int) (n : Nat) (h0 : 0 ≤ m) (h1 : m ≤ 100000) (hn : 1 ≤ n) (hn2 : n ≤ 1000) : Ev (fun q => spec_split.f q m (n : Int)) (parts m n 0 n) := by
  unfold spec_split.f
  have := splitS_l0 m n h0 h1 hn hn2 n 0 [] (by omega) rfl
  simpa using this
theorem splitI_l0 (m : Int) (n : Nat) (h0 : 0 ≤ m) (h1 : m ≤ 100000) (hn : 1 ≤ n) (hn2 : n ≤ 1000) : ∀ (k i : Nat) (A : List Int), i + k = n → A.length = i → Ev (fun q => impl_SplitEven.l0 q m (n : Int) (A ++ List.replicate k 0) (n : Int) (i : Int)) (A ++ parts m n i k) := by
  intro k
  induction k with
  | zero =>
    intro i A hi _
    refine Ev.step (fun k => by rw [impl_SplitEven.l0]) ?_
    exact ev_neg (by omega) (ev_some (by simp [parts]))
  | succ k ih =>
    intro i A hi hA
    obtain ⟨t1, t2⟩ := tdm (n := (n : Int)) h0
    have a1 : 0 ≤ m / n := Int.ediv_nonneg h0 (by omega)
    have a2 : m / n ≤ m := Int.ediv_le_self _ h0
    have w1 : wrap64 ((i : Int) + 1) = ((i + 1 : Nat) : Int) := by rw [w_id] <;> omega
    have w2 : wrap64 (m / n) = m / n := w_id (by omega) (by omega)
    have w3 : wrap64 (m / n + 1) = m / n + 1 := w_id (by omega) (by omega)
    have s1 : ∀ v : Int, (A ++ List.replicate (k + 1) (0 : Int)).set ((i : Int)).toNat v = A ++ v :: List.replicate k 0 := fun v => by rw [List.replicate_succ]; exact set_app _ _ _ _ _ (by simp [hA])
    have s2 : ∀ u v : Int, (A ++ u :: List.replicate k (0 : Int)).set ((i : Int)).toNat v = A ++ v :: List.replicate k 0 := fun u v => set_app _ _ _ _ _ (by simp [hA])
    have s3 : ∀ u : Int, rd (A ++ u :: List.replicate k (0 : Int)) (i : Int) = u := fun u => getD_app _ _ _ _ _ (by simp [hA])
    refine Ev.step (fun k => by rw [impl_SplitEven.l0]) ?_
    rw [t1, t2, w1, w2]
    refine ev_pos (by omega) (ev_neg (by omega) (ev_pos (by omega) (ev_pos (by simp; omega) (ev_bind0 rfl ?_))))
    rw [s1, s2, s3, w3]
    by_cases hc : (i : Int) < m % n
    · refine ev_pos hc ?_
      have := ih (i + 1) (A ++ [m / n + 1]) (by omega) (by simp [hA])
      simpa [parts, hc] using this
    · refine ev_neg hc ?_
      have := ih (i + 1) (A ++ [m / n]) (by omega) (by simp [hA])
      simpa [parts, hc] using this
theorem splitI (m : Int) (n : Nat) (h0 : 0 ≤ m) (h1 : m ≤ 100000) (hn : 1 ≤ n) (hn2 : n ≤ 12) : Ev (fun q => impl_SplitEven.f q m (n : Int)) (parts m n 0 n) := by
  unfold impl_SplitEven.f
  refine ev_neg (by omega) (ev_neg (by omega) (ev_neg (by omega) ?_))
  rw [decide_eq_false (by omega)]
  refine Ev.step (fun k => by rw [impl_SplitEven.j0]) (ev_neg Bool.false_ne_true (ev_pos (by omega) (ev_pos (by omega) (ev_bind0 rfl ?_))))
  have := splitI_l0 m n h0 h1 hn (by omega) n 0 [] (by omega) rfl
  simpa using this
theorem mn_le (a b : Int) : mn a b ≤ a ∧ mn a b ≤ b ∧ (0 ≤ a → 0 ≤ b → 0 ≤ mn a b) := by
  unfold mn
  split <;> omega
theorem rd_rng {l : List Int} {n : Nat} (h : l.length = n) (hx : ∀ x ∈ l, 0 ≤ x ∧ x ≤ 100000) (i : Int) (hi : i < n) (h0 : 0 ≤ i) : 0 ≤ rd l i ∧ rd l i ≤ 100000 := by
  unfold rd
  rw [List.getD_eq_getElem?_getD, List.getElem?_eq_getElem (by omega)]
  exact hx _ (List.getElem_mem _)
theorem set_rng {l : List Int} (hx : ∀ x ∈ l, 0 ≤ x ∧ x ≤ 100000) (i : Nat) (v : Int) (hv : 0 ≤ v ∧ v ≤ 100000) : ∀ x ∈ l.set i v, 0 ≤ x ∧ x ≤ 100000 := by
  intro x hx'
  rcases List.mem_or_eq_of_mem_set hx' with h | h
  · exact hx x h
  · rw [h]; exact hv
/-- One round after the other: both go alike. -/
theorem fail_l0 (n : Nat) (f0 f1 : Int) (N : Int) (PB : List Int) : ∀ (PA GA GB S W : List Int) (loss : Int), PA.length = GA.length → PB.length = GB.length → N = ((PA ++ PB).length : Nat) → (PA ++ PB).length ≤ 1000 → (∀ x ∈ PB, 0 ≤ x ∧ x ≤ 100001) → (∀ g ∈ GB, 0 ≤ g ∧ g < (n : Int)) → S.length = n → (∀ x ∈ S, 0 ≤ x ∧ x ≤ 100000) → 0 ≤ loss → loss + 100001 * PB.length ≤ 4000000000 → W.length + PB.length ≤ 2000 →
    ∃ (S' W' : List Int) (loss' : Int), Ev (fun k => impl_failOne.l0 k S loss W (PA ++ PB) N (PA.length : Int) f0 f1 (GA ++ GB)) (loss', W', S') ∧ Ev (fun k => spec_fail.l0 k S W (PA ++ PB) loss (PA.length : Int) f0 f1 (GA ++ GB)) (S', loss', W') ∧
      S'.length = n ∧ (∀ x ∈ S', 0 ≤ x ∧ x ≤ 100000) ∧ (∀ g ∈ W', g ∈ W ∨ g ∈ GB) ∧ W'.length ≤ W.length + PB.length := by
  induction PB with
  | nil =>
    intro PA GA GB S W loss h1 h2 hN _ _ _ hS hx _ _ _
    refine ⟨S, W, loss, ?_, ?_, hS, hx, fun g hg => .inl hg, by simp⟩
    · refine Ev.step (fun k => by rw [impl_failOne.l0]) ?_
      exact ev_neg (by rw [hN]; simp) (ev_some rfl)
    · refine Ev.step (fun k => by rw [spec_fail.l0]) ?_
      exact ev_neg (by simp) (ev_some rfl)
  | cons p PB ih =>
    intro PA GA GB S W loss h1 h2 hN hM hp hg hS hx hl0 hl1 hW
    cases GB with
    | nil => simp at h2
    | cons g GB =>
      simp only [List.length_cons] at h2 hl1 hW hM
      simp only [List.length_append, List.length_cons] at hM
      have hp0 := hp p (by simp)
      have hg0 := hg g (by simp)
      have r1 : rd (PA ++ p :: PB) (PA.length : Int) = p := getD_app _ _ _ _ _ (by simp)
      have r2 : rd (GA ++ g :: GB) (PA.length : Int) = g := getD_app _ _ _ _ _ (by simp [h1])
      have w1 : wrap64 ((PA.length : Int) + 1) = (((PA ++ [p]).length : Nat) : Int) := by simp only [List.length_append, List.length_cons, List.length_nil]; rw [w_id] <;> omega
      have hr := rd_rng hS hx g hg0.2 hg0.1
      obtain ⟨m1, m2, m3⟩ := mn_le (rd S g) p
      have m4 := m3 hr.1 hp0.1
      obtain ⟨c, hc⟩ : ∃ c, mn (rd S g) p = c := ⟨_, rfl⟩
      rw [hc] at m1 m2 m4
      have w2 : wrap64 (rd S g - c) = rd S g - c := w_id (by omega) (by omega)
      have w3 : wrap64 (p - c) = p - c := w_id (by omega) (by omega)
      have w4 : wrap64 (loss + p) = loss + p := w_id (by omega) (by omega)
      have w5 : wrap64 (loss + p - c) = loss + (p - c) := by rw [w_id] <;> omega
      have w6 : wrap64 (loss + (p - c)) = loss + (p - c) := w_id (by omega) (by omega)
      have hS2 : (S.set g.toNat (rd S g - c)).length = n := by simpa using hS
      have hx2 := set_rng hx g.toNat (rd S g - c) ⟨by omega, by omega⟩
      have tk : impl_takeFrom.f S g p = some (p - c, S.set g.toNat (rd S g - c)) := by
        unfold impl_takeFrom.f
        rw [if_pos hg0.1, if_pos (by omega), hc, w2, w3]
      by_cases hlt : c < p
      · obtain ⟨S', W', loss', i1, i2, i3, i4, i5, i6⟩ := ih (PA ++ [p]) (GA ++ [g]) GB (S.set g.toNat (rd S g - c)) (W ++ [g]) (loss + (p - c)) (by simp [h1]) (by omega) (by simpa using hN) (by simp; omega) (fun x hx' => hp x (by simp [hx'])) (fun x hx' => hg x (by simp [hx'])) hS2 hx2 (by omega) (by omega) (by simp; omega)
        refine ⟨S', W', loss', ?_, ?_, i3, i4, fun q hq => ?_, by simp at i6 ⊢; omega⟩
        · refine Ev.step (fun k => by rw [impl_failOne.l0]) ?_
          rw [r1, r2, w1]
          refine ev_pos (by rw [hN]; simp; omega) (ev_pos (by omega) (ev_pos (by simp; omega) (ev_pos (by simp; omega) (ev_bind0 tk ?_))))
          simp only
          rw [w6]
          refine ev_pos (by omega) (ev_pos (by omega) ?_)
          simpa using i1
        · refine Ev.step (fun k => by rw [spec_fail.l0]) ?_
          rw [r1, r2, w1, hc, w2, w4, w5]
          refine ev_pos (by simp; omega) (ev_pos (by omega) (ev_pos (by simp; omega) (ev_pos hg0.1 (ev_pos (by omega) (ev_bind0 rfl (ev_pos hlt (ev_pos (by omega) ?_)))))))
          simpa using i2
        · rcases i5 q hq with h | h
          · rcases List.mem_append.1 h with h | h
            · exact .inl h
            · exact .inr (by simp at h; simp [h])
          · exact .inr (by simp [h])
      · obtain ⟨S', W', loss', i1, i2, i3, i4, i5, i6⟩ := ih (PA ++ [p]) (GA ++ [g]) GB (S.set g.toNat (rd S g - c)) W loss (by simp [h1]) (by omega) (by simpa using hN) (by simp; omega) (fun x hx' => hp x (by simp [hx'])) (fun x hx' => hg x (by simp [hx'])) hS2 hx2 (by omega) (by omega) (by omega)
        refine ⟨S', W', loss', ?_, ?_, i3, i4, fun q hq => ?_, by simp at i6 ⊢; omega⟩
        · refine Ev.step (fun k => by rw [impl_failOne.l0]) ?_
          rw [r1, r2, w1]
          refine ev_pos (by rw [hN]; simp; omega) (ev_pos (by omega) (ev_pos (by simp; omega) (ev_pos (by simp; omega) (ev_bind0 tk ?_))))
          simp only
          refine ev_neg (by omega) ?_
          simpa using i1
        · refine Ev.step (fun k => by rw [spec_fail.l0]) ?_
          rw [r1, r2, w1, hc, w2, w4, w5]
          refine ev_pos (by simp; omega) (ev_pos (by omega) (ev_pos (by simp; omega) (ev_pos hg0.1 (ev_pos (by omega) (ev_bind0 rfl (ev_neg hlt ?_))))))
          have e : loss + (p - c) = loss := by omega
          rw [e]
          simpa using i2
        · rcases i5 q hq with h | h
          · exact .inl h
          · exact .inr (by simp [h])
theorem fail_f (n : Nat) (hn : n ≤ 12) (S : List Int) (x : S50) (hS : S.length = n) (hx : ∀ y ∈ S, 0 ≤ y ∧ y ≤ 100000) (hl : okL x (n : Int)) :
    ∃ (S' W' : List Int) (loss' : Int), Ev (fun k => impl_failOne.f k S x.f0 x.f1 x.f2) (loss', W', S') ∧ Ev (fun k => spec_fail.f k S x.f0 x.f1 x.f2) (S', loss', W') ∧ S'.length = n ∧ (∀ y ∈ S', 0 ≤ y ∧ y ≤ 100000) ∧ (∀ g ∈ W', 0 ≤ g ∧ g < (n : Int)) ∧ W'.length ≤ 1000 := by
  obtain ⟨b1, b2, b3, b4, b5⟩ := hl
  have hr := rd_rng hS hx x.f0 b1.2 b1.1
  obtain ⟨m1, m2, m3⟩ := mn_le (rd S x.f0) x.f1
  have m4 := m3 hr.1 (by omega)
  obtain ⟨c, hc⟩ : ∃ c, mn (rd S x.f0) x.f1 = c := ⟨_, rfl⟩
  rw [hc] at m1 m2 m4
  have w2 : wrap64 (rd S x.f0 - c) = rd S x.f0 - c := w_id (by omega) (by omega)
  have w3 : wrap64 (x.f1 - c) = x.f1 - c := w_id (by omega) (by omega)
  have hgl : x.f2.length ≤ n := pigeon n x.f2 b4.2 b4.1
  have tk : impl_takeFrom.f S x.f0 x.f1 = some (x.f1 - c, S.set x.f0.toNat (rd S x.f0 - c)) := by
    unfold impl_takeFrom.f
    rw [if_pos b1.1, if_pos (by omega), hc, w2, w3]
  have e1 := splitI (x.f1 - c) x.f2.length (by omega) (by omega) (by omega) (by omega)
  have e2 := splitS (x.f1 - c) x.f2.length (by omega) (by omega) (by omega) (by omega)
  have hpl := parts_len (x.f1 - c) (x.f2.length : Int) 0 x.f2.length
  obtain ⟨S', W', loss', i1, i2, i3, i4, i5, i6⟩ := fail_l0 n x.f0 x.f1 ((parts (x.f1 - c) (x.f2.length : Int) 0 x.f2.length).length : Int) (parts (x.f1 - c) (x.f2.length : Int) 0 x.f2.length) [] [] x.f2 (S.set x.f0.toNat (rd S x.f0 - c)) [] 0 rfl hpl (by simp) (by simp; omega) (parts_rng _ _ (by omega) (by omega) (by omega) _ _) b4.1 (by simpa using hS) (set_rng hx _ _ ⟨by omega, by omega⟩) (by omega) (by omega) (by simp; omega)
  refine ⟨S', W', loss', ?_, ?_, i3, i4, fun g hg => ?_, by simp at i6; omega⟩
  · unfold impl_failOne.f
    refine ev_bind0 tk ?_
    simp only
    refine e1.bind ?_
    simpa using i1
  · unfold spec_fail.f
    refine ev_bind0 (v := S) (by unfold spec_copyInts.f; simp; omega) ?_
    rw [hc, w2, w3]
    refine ev_pos b1.1 (ev_pos (by omega) (e2.bind ?_))
    simpa using i2
  · rcases i5 g hg with h | h
    · simp at h
    · exact b4.1 g h
end Go.Proofs.Ytphicdmipipnbaa.Pure
