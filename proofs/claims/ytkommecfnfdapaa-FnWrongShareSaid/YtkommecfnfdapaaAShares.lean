/- The share that spoils the rest: the program's and the reference's answers are one, and what the answer says. Numbers and lists alone. -/
import Derived.Test.YtkommecfnfdapaaAPolyThrough
import Derived.Test.YtkommecfnfdapaaAPx17
import Derived.Test.YtkommecfnfdapaaAPx16
import Derived.Test.YtkommecfnfdapaaAPx13
import Derived.Test.YtkommecfnfdapaaAPx7
namespace Go.Proofs.Ytkommecfnfdapaa.Pure
open Go.RowKit Go.Proofs.Ytkommecfnfdapaa.P Go.Proofs.YtkommecfnfdapaaW.PrintWords Go.Proofs.YtkommecfnfdapaaW.PrintMore Go.Proofs.Ytkommecfnfdapaa.Tools Go.Proofs.Ytkommecfnfdapaa.Poly
/-- A list of shares as it is drawn. -/
def good (l : List S72) : Prop := l.length ≤ 12 ∧ (∀ x ∈ l, (1 ≤ x.f0 ∧ x.f0 ≤ 250) ∧ (0 ≤ x.f1 ∧ x.f1 ≤ 250)) ∧ (l.map (·.f0)).Nodup
theorem good.ok {l : List S72} (h : good l) : okSs l := ⟨fun x hx => ⟨⟨by have := (h.2.1 x hx).1.1; omega, (h.2.1 x hx).1.2⟩, (h.2.1 x hx).2⟩, h.2.2⟩
theorem good.sub {l m : List S72} (h : good l) (hs : List.Sublist m l) : good m :=
  ⟨Nat.le_trans hs.length_le h.1, fun x hx => h.2.1 x (hs.subset hx), h.2.2.sublist (hs.map _)⟩
/-! ### Tests of shares -/
theorem vP_l0 (B : List Int) : ∀ A : List Int, A.Nodup → A.length + B.length < 4000000 → ∃ b, Ev (fun k => spec_validPlaces.l0 k (A ++ B) (A.length : Int)) b ∧ (b = true ↔ (A ++ B).length ≤ 12 ∧ (∀ x ∈ A ++ B, 1 ≤ x ∧ x ≤ 250) ∧ (A ++ B).Nodup) := by
  induction B with
  | nil =>
    intro A hA hb
    by_cases h : (A.length : Int) ≤ 12
    · obtain ⟨b, h1, h2⟩ := allI_f A 1 250 (by omega)
      refine ⟨b, Ev.step (fun k => by rw [spec_validPlaces.l0]) ?_, by rw [h2]; simp [hA]; intro _; omega⟩
      rw [List.append_nil]
      exact ev_neg (by omega) (ev_pos h (Ev.bind h1 (ev_some rfl)))
    · refine ⟨false, Ev.step (fun k => by rw [spec_validPlaces.l0]) ?_, by simp; omega⟩
      rw [List.append_nil]
      exact ev_neg (by omega) (ev_neg h (ev_some rfl))
  | cons e B ih =>
    intro A hA hb
    simp only [List.length_cons] at hb
    have w1 : wrap64 ((A.length : Int) + 1) = (((A ++ [e]).length : Nat) : Int) := by simp only [List.length_append, List.length_cons, List.length_nil]; rw [w_id] <;> omega
    have r1 : rd (A ++ e :: B) (A.length : Int) = e := getD_app _ _ _ _ _ (by simp)
    have q1 : (A.length : Int) < ((A ++ e :: B).length : Nat) := lt_mid rfl
    obtain ⟨v, hv, hv2⟩ := place_f A e (by omega)
    have ht : (A ++ e :: B).take ((A.length : Int)).toNat = A := by simp
    by_cases hm : e ∈ A
    · refine ⟨false, ?_, by simp only [Bool.false_eq_true, false_iff]; rintro ⟨_, _, h⟩; exact (List.nodup_append.1 h).2.2 e hm e (by simp) rfl⟩
      refine Ev.step (fun k => by rw [spec_validPlaces.l0]) ?_
      rw [r1, ht]
      have : ¬ v < 0 := fun h => hv2.1 h hm
      exact ev_pos q1 (ev_pos (Int.natCast_nonneg _) (ev_pos (Int.le_of_lt q1) (hv.bind (ev_pos (by omega) (ev_some rfl)))))
    · have hA2 : (A ++ [e]).Nodup := by
        rw [List.nodup_append]
        exact ⟨hA, by simp, fun a ha b hb => by simp at hb; subst hb; rintro rfl; exact hm ha⟩
      obtain ⟨b, h1, h2⟩ := ih (A ++ [e]) hA2 (by simp; omega)
      refine ⟨b, ?_, by rw [h2, List.append_assoc, List.singleton_append]⟩
      refine Ev.step (fun k => by rw [spec_validPlaces.l0]) ?_
      rw [r1, w1, ht]
      have : v < 0 := hv2.2 hm
      refine ev_pos q1 (ev_pos (Int.natCast_nonneg _) (ev_pos (Int.le_of_lt q1) (hv.bind (ev_neg (by omega) ?_))))
      simpa using h1
theorem vP_f (g : List Int) (h : g.length < 4000000) : ∃ b, Ev (fun k => spec_validPlaces.f k g) b ∧ (b = true ↔ g.length ≤ 12 ∧ (∀ x ∈ g, 1 ≤ x ∧ x ≤ 250) ∧ g.Nodup) := by
  obtain ⟨b, h1, h2⟩ := vP_l0 g [] (by simp) (by simpa using h)
  exact ⟨b, by unfold spec_validPlaces.f; simpa using h1, h2⟩
theorem vS_l0 (l : List S72) (hg : good l) (B : List S72) : ∀ A : List S72, l = A ++ B → Ev (fun k => spec_validShares.l0 k l (A.map (·.f0)) (A.length : Int)) true := by
  induction B with
  | nil =>
    intro A h
    rw [List.append_nil] at h
    subst h
    have h12 := hg.1
    obtain ⟨b, h1, h2⟩ := vP_f (l.map (·.f0)) (by rw [List.length_map]; omega)
    have hb : b = true := h2.2 ⟨by rw [List.length_map]; exact h12, fun x hx => by obtain ⟨y, hy, rfl⟩ := List.mem_map.1 hx; exact (hg.2.1 y hy).1, hg.2.2⟩
    refine Ev.step (fun k => by rw [spec_validShares.l0]) ?_
    exact ev_neg (by omega) (Ev.bind h1 (ev_some hb))
  | cons x B ih =>
    intro A h
    have hl : A.length + (B.length + 1) ≤ 12 := by have := hg.1; rw [h] at this; simpa using this
    have w1 : wrap64 ((A.length : Int) + 1) = (((A ++ [x]).length : Nat) : Int) := by rw [w_len (by omega)]; simp
    have r1 : rd_T72 l (A.length : Int) = x := by rw [h]; exact getD_app _ _ _ _ _ (by simp)
    have q1 : (A.length : Int) < (l.length : Nat) := by rw [h]; exact lt_mid rfl
    have hx := hg.2.1 x (by rw [h]; simp)
    refine Ev.step (fun k => by rw [spec_validShares.l0]) ?_
    rw [r1, w1]
    refine ev_pos q1 (ev_pos (Int.natCast_nonneg _) (ev_bind0 (v := true) ?_ (ev_pos rfl (ev_pos (by rw [List.length_map]; omega) ?_))))
    · unfold spec_validRest.f
      rw [inR]
      simp [hx.2]
    · have := ih (A ++ [x]) (by rw [h]; simp)
      simpa using this
theorem vS (l : List S72) (hg : good l) : Ev (fun k => spec_validShares.f k l) true := by
  unfold spec_validShares.f
  simpa using vS_l0 l hg l [] rfl
theorem vI_l0 (l : List S72) (hg : good l) (B : List S72) : ∀ A : List S72, l = A ++ B → Ev (fun k => impl_ValidShares.l0 k (A.map (·.f0)) (A.map (·.f1)) l (l.length : Int) (A.length : Int)) true := by
  induction B with
  | nil =>
    intro A h
    rw [List.append_nil] at h
    subst h
    have h12 := hg.1
    obtain ⟨b1, h1, g1⟩ := allW_f (l.map (·.f0)) 1 250 (by rw [List.length_map]; omega)
    obtain ⟨b2, h2, g2⟩ := dB_f (l.map (·.f0)) 251 (by decide) (by rw [List.length_map]; omega)
    obtain ⟨b3, h3, g3⟩ := allW_f (l.map (·.f1)) 0 250 (by rw [List.length_map]; omega)
    have e1 : b1 = true := g1.2 fun x hx => by obtain ⟨y, hy, rfl⟩ := List.mem_map.1 hx; exact (hg.2.1 y hy).1
    have e2 : b2 = true := g2.2 ⟨fun x hx => by obtain ⟨y, hy, rfl⟩ := List.mem_map.1 hx; have := (hg.2.1 y hy).1; omega, hg.2.2⟩
    have e3 : b3 = true := g3.2 fun x hx => by obtain ⟨y, hy, rfl⟩ := List.mem_map.1 hx; exact (hg.2.1 y hy).2
    refine Ev.step (fun k => by rw [impl_ValidShares.l0]) ?_
    exact ev_neg (by omega) (Ev.bind h1 (ev_pos e1 (Ev.bind h2 (ev_pos e2 (Ev.bind h3 (ev_some e3))))))
  | cons x B ih =>
    intro A h
    have hl : A.length + (B.length + 1) ≤ 12 := by have := hg.1; rw [h] at this; simpa using this
    have w1 : wrap64 ((A.length : Int) + 1) = (((A ++ [x]).length : Nat) : Int) := by rw [w_len (by omega)]; simp
    have r1 : rd_T72 l (A.length : Int) = x := by rw [h]; exact getD_app _ _ _ _ _ (by simp)
    have q1 : (A.length : Int) < (l.length : Nat) := by rw [h]; exact lt_mid rfl
    refine Ev.step (fun k => by rw [impl_ValidShares.l0]) ?_
    rw [r1, w1]
    refine ev_pos q1 (ev_pos (Int.natCast_nonneg _) (ev_pos q1 (ev_bind0 rfl (ev_pos (by simp; omega) (ev_bind0 rfl (ev_pos (by simp; omega) ?_))))))
    have := ih (A ++ [x]) (by rw [h]; simp)
    simpa using this
theorem vI (l : List S72) (hg : good l) : Ev (fun k => impl_ValidShares.f k l) true := by
  unfold impl_ValidShares.f
  have := hg.1
  exact ev_neg (by omega) (by simpa using vI_l0 l hg l [] rfl)
/-! ### Fitting -/
/-- One polynomial of so many numbers has all the values. -/
def Fits (l : List S72) (n : Nat) : Prop := ∃ c : List Int, c.length = n ∧ Rs c ∧ ∀ x ∈ l, ev c x.f0 % 251 = x.f1
theorem fits_iff {l : List S72} (hg : good l) {n : Nat} (hn : n ≤ l.length) {c : List Int} (hT : Thru c (l.take n)) : Fits l n ↔ ∀ x ∈ l, ev c x.f0 % 251 = x.f1 := by
  have hlen : (l.take n).length = n := by simp; omega
  constructor
  · rintro ⟨d, d1, d2, d3⟩
    have : c = d := Thru.uniq (hg.sub (List.take_sublist n l)).ok hT ⟨by rw [d1, hlen], d2, fun x hx => d3 x (List.mem_of_mem_take hx)⟩
    rw [this]
    exact d3
  · intro h
    exact ⟨c, by rw [hT.1, hlen], hT.2.1, h⟩
theorem fits_drop {l : List S72} {n : Nat} {c : List Int} (hT : Thru c (l.take n)) : (∀ x ∈ l, ev c x.f0 % 251 = x.f1) ↔ ∀ x ∈ l.drop n, ev c x.f0 % 251 = x.f1 := by
  constructor
  · exact fun h x hx => h x (List.mem_of_mem_drop hx)
  · intro h x hx
    rw [← List.take_append_drop n l] at hx
    rcases List.mem_append.1 hx with hx | hx
    · exact hT.2.2 x hx
    · exact h x hx
theorem polyAtI {c : List Int} (hc : Rs c) (hn : c.length ≤ 8) {x : Int} (h0 : 0 ≤ x) (h1 : x ≤ 250) : Ev (fun k => impl_PolyAt.f k c x) (ev c x % 251) := by
  obtain ⟨b, hb, hb2⟩ := allW_f c 0 250 (by omega)
  have e : b = true := hb2.2 hc
  subst e
  unfold impl_PolyAt.f impl_validCoefs.f
  refine Ev.bind (a := true) (ev_pos (by omega) (Ev.bind hb (ev_some rfl))) ?_
  exact ev_pos rfl (ev_neg (by omega) (ev_neg (by omega) (ev_some (hornerB_eq c x hc h0 h1))))
theorem fitI_l0 (c : List Int) (hc : Rs c) (hn : c.length ≤ 8) (N : Int) (B : List S72) : ∀ A : List S72, N = ((A ++ B).length : Nat) → (∀ x ∈ A ++ B, okS x) → (A ++ B).length ≤ 900 → ∃ b, Ev (fun k => impl_FitTogether.l0 k c (A ++ B) N (A.length : Int)) b ∧ (b = true ↔ ∀ x ∈ B, ev c x.f0 % 251 = x.f1) := by
  induction B with
  | nil =>
    intro A hN _ _
    refine ⟨true, Ev.step (fun k => by rw [impl_FitTogether.l0]) (ev_neg (by rw [hN]; simp) (ev_some rfl)), by simp⟩
  | cons x B ih =>
    intro A hN hk hb
    have hb' : A.length + (B.length + 1) ≤ 900 := by simpa using hb
    have hx := hk x (by simp)
    have w1 : wrap64 ((A.length : Int) + 1) = (((A ++ [x]).length : Nat) : Int) := by rw [w_len (by omega)]; simp
    have r1 : rd_T72 (A ++ x :: B) (A.length : Int) = x := getD_app _ _ _ _ _ (by simp)
    have q1 : (A.length : Int) < ((A ++ x :: B).length : Nat) := lt_mid rfl
    by_cases he : ev c x.f0 % 251 = x.f1
    · obtain ⟨b, h1, h2⟩ := ih (A ++ [x]) (by simpa using hN) (by simpa using hk) (by simpa using hb)
      refine ⟨b, Ev.step (fun k => by rw [impl_FitTogether.l0]) ?_, by rw [h2]; simp [he]⟩
      rw [r1, w1]
      refine ev_pos (by rw [hN]; exact q1) (ev_pos (Int.natCast_nonneg _) (ev_pos q1 (Ev.bind (polyAtI hc hn hx.1.1 hx.1.2) (ev_pos he ?_))))
      simpa using h1
    · refine ⟨false, Ev.step (fun k => by rw [impl_FitTogether.l0]) ?_, by simp [he]⟩
      rw [r1]
      exact ev_pos (by rw [hN]; exact q1) (ev_pos (Int.natCast_nonneg _) (ev_pos q1 (Ev.bind (polyAtI hc hn hx.1.1 hx.1.2) (ev_neg he (ev_some rfl)))))
theorem fitI (l : List S72) (hg : good l) (n : Nat) (h1 : 1 ≤ n) (h8 : n ≤ 8) (hn : n < l.length) : ∃ b, Ev (fun k => impl_FitTogether.f k l (n : Int)) b ∧ (b = true ↔ Fits l n) := by
  have h12 := hg.1
  obtain ⟨c, hc, hT⟩ := polyI (l.take n) (hg.sub (List.take_sublist n l)).ok (by simp; omega)
  have hcl : c.length = n := by rw [hT.1]; simp; omega
  obtain ⟨b, g1, g2⟩ := fitI_l0 c hT.2.1 (by omega) ((l.drop n).length : Int) (l.drop n) [] rfl (fun x hx => hg.ok.1 x (List.mem_of_mem_drop hx)) (by simp; omega)
  refine ⟨b, ?_, by rw [g2, fits_iff hg (Nat.le_of_lt hn) hT, fits_drop hT]⟩
  unfold impl_FitTogether.f
  refine Ev.bind (vI l hg) (ev_pos rfl (ev_neg (by omega) ?_))
  rw [decide_eq_false (by omega)]
  refine Ev.step (fun k => by rw [impl_FitTogether.j0]) ?_
  rw [Int.toNat_natCast]
  exact ev_neg Bool.false_ne_true (ev_neg (by omega) (ev_pos (Int.natCast_nonneg _) (ev_pos (by omega) (Ev.bind hc (ev_bind0 rfl (by simpa using g1))))))
theorem fitS_l0 (c : List Int) (hc : Rs c) (hn : c.length ≤ 900) (B : List S72) : ∀ A : List S72, (∀ x ∈ A ++ B, okS x) → (A ++ B).length ≤ 900 → ∃ b, Ev (fun k => spec_fits.l0 k (A ++ B) c (A.length : Int)) b ∧ (b = true ↔ ∀ x ∈ B, ev c x.f0 % 251 = x.f1) := by
  induction B with
  | nil =>
    intro A _ _
    refine ⟨true, Ev.step (fun k => by rw [spec_fits.l0]) (ev_neg (by simp) (ev_some rfl)), by simp⟩
  | cons x B ih =>
    intro A hk hb
    have hb' : A.length + (B.length + 1) ≤ 900 := by simpa using hb
    have hx := hk x (by simp)
    have w1 : wrap64 ((A.length : Int) + 1) = (((A ++ [x]).length : Nat) : Int) := by rw [w_len (by omega)]; simp
    have r1 : rd_T72 (A ++ x :: B) (A.length : Int) = x := getD_app _ _ _ _ _ (by simp)
    have q1 : (A.length : Int) < ((A ++ x :: B).length : Nat) := lt_mid rfl
    have hP := polyS c x.f0 hc hx.1.1 hx.1.2 (by omega)
    by_cases he : ev c x.f0 % 251 = x.f1
    · obtain ⟨b, h1, h2⟩ := ih (A ++ [x]) (by simpa using hk) (by simpa using hb)
      refine ⟨b, Ev.step (fun k => by rw [spec_fits.l0]) ?_, by rw [h2]; simp [he]⟩
      rw [r1, w1]
      refine ev_pos q1 (ev_pos (Int.natCast_nonneg _) (Ev.bind hP (ev_pos he ?_)))
      simpa using h1
    · refine ⟨false, Ev.step (fun k => by rw [spec_fits.l0]) ?_, by simp [he]⟩
      rw [r1]
      exact ev_pos q1 (ev_pos (Int.natCast_nonneg _) (Ev.bind hP (ev_neg he (ev_some rfl))))
theorem fitS (l : List S72) (hg : good l) (n : Nat) (hn : n < l.length) : ∃ b, Ev (fun k => spec_fits.f k l (n : Int)) b ∧ (b = true ↔ Fits l n) := by
  have h12 := hg.1
  obtain ⟨c, hc, hT⟩ := polyS' (l.take n) (hg.sub (List.take_sublist n l)).ok (by simp; omega)
  have hcl : c.length = n := by rw [hT.1]; simp; omega
  obtain ⟨b, g1, g2⟩ := fitS_l0 c hT.2.1 (by omega) l [] hg.ok.1 (by simpa using Nat.le_trans h12 (by decide))
  refine ⟨b, ?_, by rw [g2, fits_iff hg (Nat.le_of_lt hn) hT]⟩
  have hm : mn (n : Int) (l.length : Int) = (n : Int) := by unfold mn; split <;> omega
  unfold spec_fits.f
  rw [hm, Int.toNat_natCast]
  exact ev_pos (Int.natCast_nonneg _) (ev_pos (by omega) (Ev.bind hc (by simpa using g1)))
/-! ### One share left out -/
theorem fits_two {l A M Q : List S72} {x y : S72} (hg : good l) (h : l = A ++ y :: (M ++ x :: Q)) {n : Nat} (hn : n + 2 ≤ l.length) (f1 : Fits (A ++ (M ++ x :: Q)) n) (f2 : Fits (A ++ y :: M ++ Q) n) : Fits l n := by
  obtain ⟨c, c1, c2, c3⟩ := f1
  obtain ⟨d, d1, d2, d3⟩ := f2
  have hs : List.Sublist (A ++ (M ++ Q)) l := by
    rw [h]
    exact List.Sublist.append (List.Sublist.refl A) (((List.Sublist.refl M).append (List.sublist_cons_self x Q)).trans (List.sublist_cons_self y _))
  have hk := (hg.sub hs).ok
  have hR : Rs ((A ++ (M ++ Q)).map (·.f0)) := fun c hc => by obtain ⟨x, hx, rfl⟩ := List.mem_map.1 hc; exact (hk.1 x hx).1
  have e : c = d := by
    refine unique (xs := (A ++ (M ++ Q)).map (·.f0)) (by rw [c1, d1]) c2 d2 (apart_of hR hk.2) ?_ fun z hz => ?_
    · rw [h] at hn
      simp only [List.length_map, List.length_append, List.length_cons] at hn ⊢
      omega
    · obtain ⟨w, hw, rfl⟩ := List.mem_map.1 hz
      have hw1 : w ∈ A ++ (M ++ x :: Q) := by simp only [List.mem_append, List.mem_cons] at hw ⊢; grind
      have hw2 : w ∈ A ++ y :: M ++ Q := by simp only [List.mem_append, List.mem_cons] at hw ⊢; grind
      rw [c3 w hw1, d3 w hw2]
  refine ⟨c, c1, c2, fun z hz => ?_⟩
  rw [h] at hz
  by_cases hy : z ∈ A ++ (M ++ x :: Q)
  · exact c3 z hy
  · have : z ∈ A ++ y :: M ++ Q := by
      simp only [List.mem_append, List.mem_cons] at hz hy ⊢
      grind
    rw [e]
    exact d3 z this
theorem fits_ne {l A B P Q : List S72} {x y : S72} (hg : good l) (h : l = A ++ y :: B) (g : l = P ++ x :: Q) (hne : A.length ≠ P.length) {n : Nat} (hn : n + 2 ≤ l.length) (f1 : Fits (A ++ B) n) (f2 : Fits (P ++ Q) n) : Fits l n := by
  have key : ∀ {A B P Q : List S72} {x y : S72}, l = A ++ y :: B → l = P ++ x :: Q → A.length < P.length → Fits (A ++ B) n → Fits (P ++ Q) n → Fits l n := by
    intro A B P Q x y h g hlt f1 f2
    rcases List.append_eq_append_iff.1 (h.symm.trans g) with ⟨M, h1, h2⟩ | ⟨M, h1, h2⟩
    · cases M with
      | nil => rw [h1] at hlt; simp at hlt
      | cons m M =>
        simp only [List.cons_append, List.cons.injEq] at h2
        obtain ⟨rfl, rfl⟩ := h2
        subst h1
        exact fits_two hg h hn f1 f2
    · rw [h1] at hlt; simp at hlt; omega
  rcases Nat.lt_or_gt_of_ne hne with h4 | h4
  · exact key h g h4 f1 f2
  · exact key g h h4 f2 f1
theorem drop_l (l : List S72) (n : Nat) (hn : n < l.length) (h : l.length ≤ 900) : laws_dropShare.f l (n : Int) = some (l.take n ++ l.drop (n + 1)) := by
  have w1 : wrap64 ((n : Int) + 1) = ((n + 1 : Nat) : Int) := w_len (by omega)
  have a1 : (n : Int) ≤ (l.length : Int) := by omega
  have a2 : ((n + 1 : Nat) : Int) ≤ (l.length : Int) := by omega
  have l1 : (l.take n).length ≤ 900 := by rw [List.length_take]; omega
  have l2 : (l.drop (n + 1)).length ≤ 900 := by rw [List.length_drop]; omega
  generalize hT : l.take n = T at *
  generalize hD : l.drop (n + 1) = D at *
  have c1 : ([] : List S72).length + T.length < 8796093022208 := by rw [List.length_nil]; omega
  have c2 : T.length + D.length < 8796093022208 := by omega
  unfold laws_dropShare.f
  rw [w1, Option.bind_some, if_pos (Int.natCast_nonneg n), if_pos a1, Int.toNat_natCast, Int.toNat_natCast, hT, hD, Option.bind_some, if_pos c1, Option.bind_some, List.nil_append, if_pos (Int.natCast_nonneg (n + 1)), if_pos a2, Option.bind_some, if_pos c2]
theorem drop_s (l : List S72) (n : Nat) (hn : n < l.length) (h : l.length ≤ 900) : spec_dropShare.f l (n : Int) = some (l.take n ++ l.drop (n + 1)) := by
  have w1 : wrap64 ((n : Int) + 1) = ((n + 1 : Nat) : Int) := w_len (by omega)
  have a1 : (n : Int) ≤ (l.length : Int) := by omega
  have a2 : ((n + 1 : Nat) : Int) ≤ (l.length : Int) := by omega
  have l1 : (l.take n).length ≤ 900 := by rw [List.length_take]; omega
  have l2 : (l.drop (n + 1)).length ≤ 900 := by rw [List.length_drop]; omega
  generalize hT : l.take n = T at *
  generalize hD : l.drop (n + 1) = D at *
  have c1 : ([] : List S72).length + T.length < 8796093022208 := by rw [List.length_nil]; omega
  have c2 : T.length + D.length < 8796093022208 := by omega
  unfold spec_dropShare.f
  rw [w1, Option.bind_some, if_pos (Int.natCast_nonneg n), if_pos a1, Int.toNat_natCast, Int.toNat_natCast, hT, hD, Option.bind_some, if_pos c1, Option.bind_some, List.nil_append, if_pos (Int.natCast_nonneg (n + 1)), if_pos a2, Option.bind_some, if_pos c2]
theorem dropL {A B : List S72} {x : S72} (h : (A ++ x :: B).length ≤ 900) : laws_dropShare.f (A ++ x :: B) (A.length : Int) = some (A ++ B) ∧ spec_dropShare.f (A ++ x :: B) (A.length : Int) = some (A ++ B) := by
  have hb : A.length + (B.length + 1) ≤ 900 := by simpa using h
  have q : A.length < (A ++ x :: B).length := by rw [List.length_append, List.length_cons]; omega
  have t1 : (A ++ x :: B).take A.length = A := by simp
  have t2 : (A ++ x :: B).drop (A.length + 1) = B := by rw [List.drop_append]; simp
  rw [drop_l _ _ q h, drop_s _ _ q h, t1, t2]
  exact ⟨rfl, rfl⟩
theorem erase_f (l : List S72) (a b : Int) (h0 : 0 ≤ a) (h1 : a < (l.length : Int)) (h2 : l.length ≤ 4611686018427387904) (h3 : b = wrap64 (a + 1)) : impl_Share_50.f l a b = some (l.eraseIdx a.toNat) := by
  unfold impl_Share_50.f
  rw [if_pos h0, if_pos h1, if_pos h2, if_pos h3]
theorem erase_mid {α} (A B : List α) (x : α) : (A ++ x :: B).eraseIdx A.length = A ++ B := by
  rw [List.eraseIdx_append_of_length_le (Nat.le_refl _), Nat.sub_self, List.eraseIdx_cons_zero]
theorem eraseI {A B : List S72} {x : S72} (h : (A ++ x :: B).length ≤ 900) : impl_Share_50.f (A ++ x :: B) (A.length : Int) ((A.length + 1 : Nat) : Int) = some (A ++ B) := by
  have hb : A.length + (B.length + 1) ≤ 900 := by simpa using h
  have w1 : wrap64 ((A.length : Int) + 1) = ((A.length + 1 : Nat) : Int) := w_len (by omega)
  rw [erase_f _ _ _ (Int.natCast_nonneg _) (lt_mid rfl) (Nat.le_trans h (by decide)) w1.symm, Int.toNat_natCast, erase_mid]
theorem cloneI (l : List S72) (h : l.length ≤ 900) : impl_Share_51.f l = some l := by
  unfold impl_Share_51.f
  simp only [Option.bind_some, List.nil_append]
  rw [if_pos (by simp; omega)]
/-- What is told: the first share without which the rest fits. -/
theorem wrong_l0 (l : List S72) (hg : good l) (n : Nat) (h1 : 1 ≤ n) (h8 : n ≤ 8) (hn : n + 2 ≤ l.length) (B : List S72) : ∀ A : List S72, l = A ++ B →
    ∃ r, Ev (fun k => impl_WrongShare.l0 k l (n : Int) (l.length : Int) (A.length : Int)) r ∧ Ev (fun k => spec_WrongShare.l0 k l (n : Int) (A.length : Int)) r ∧ (r = -1 ∨ ∃ P x Q, l = P ++ x :: Q ∧ r = (P.length : Int) ∧ Fits (P ++ Q) n) := by
  have h12 := hg.1
  induction B with
  | nil =>
    intro A h
    rw [List.append_nil] at h
    subst h
    exact ⟨-1, Ev.step (fun k => by rw [impl_WrongShare.l0]) (ev_neg (by omega) (ev_some rfl)), Ev.step (fun k => by rw [spec_WrongShare.l0]) (ev_neg (by omega) (ev_some rfl)), .inl rfl⟩
  | cons x B ih =>
    intro A h
    have hl : A.length + (B.length + 1) = l.length := by rw [h]; simp
    have hgd : good (A ++ B) := hg.sub (by rw [h]; exact (List.Sublist.refl A).append (List.sublist_cons_self x B))
    have w1 : wrap64 ((A.length : Int) + 1) = ((A.length + 1 : Nat) : Int) := w_len (by omega)
    have w2 : ((A.length + 1 : Nat) : Int) = (((A ++ [x]).length : Nat) : Int) := by simp
    have q1 : (A.length : Int) < (l.length : Nat) := by rw [h]; exact lt_mid rfl
    have h900 : (A ++ x :: B).length ≤ 900 := by rw [← h]; omega
    have d2 := (dropL (A := A) (B := B) (x := x) h900).2
    have d3 := eraseI (A := A) (B := B) (x := x) h900
    rw [← h] at d2 d3
    obtain ⟨b, e1, e2⟩ := fitI (A ++ B) hgd n h1 h8 (by simp; omega)
    obtain ⟨b', e3, e4⟩ := fitS (A ++ B) hgd n (by simp; omega)
    obtain rfl : b = b' := Bool.eq_iff_iff.2 (e2.trans e4.symm)
    cases b with
    | true =>
      refine ⟨(A.length : Int), Ev.step (fun k => by rw [impl_WrongShare.l0]) ?_, Ev.step (fun k => by rw [spec_WrongShare.l0]) ?_, .inr ⟨A, x, B, h, rfl, e2.1 rfl⟩⟩
      · rw [w1]
        exact ev_pos q1 (ev_bind0 (cloneI l (by omega)) (ev_bind0 d3 (Ev.bind e1 (ev_pos rfl (ev_some rfl)))))
      · exact ev_pos q1 (ev_bind0 d2 (Ev.bind e3 (ev_pos rfl (ev_some rfl))))
    | false =>
      obtain ⟨r, g1, g2, g3⟩ := ih (A ++ [x]) (by rw [h]; simp)
      rw [← w2] at g1 g2
      refine ⟨r, Ev.step (fun k => by rw [impl_WrongShare.l0]) ?_, Ev.step (fun k => by rw [spec_WrongShare.l0]) ?_, g3⟩
      · rw [w1]
        exact ev_pos q1 (ev_bind0 (cloneI l (by omega)) (ev_bind0 d3 (Ev.bind e1 (ev_neg Bool.false_ne_true g1))))
      · rw [w1]
        exact ev_pos q1 (ev_bind0 d2 (Ev.bind e3 (ev_neg Bool.false_ne_true g2)))
theorem wrong (l : List S72) (hg : good l) (need : Int) (hneed : -1000 ≤ need ∧ need ≤ 1000) : ∃ r, Ev (fun k => impl_WrongShare.f k l need) r ∧ Ev (fun k => spec_WrongShare.f k l need) r ∧ (r = -1 ∨ ∃ n : Nat, need = (n : Int) ∧ 1 ≤ n ∧ n ≤ 8 ∧ n + 2 ≤ l.length ∧ ¬ Fits l n ∧ ∃ P x Q, l = P ++ x :: Q ∧ r = (P.length : Int) ∧ Fits (P ++ Q) n) := by
  have h12 := hg.1
  have w : wrap64 (need + 2) = need + 2 := w_id (by omega) (by omega)
  unfold impl_WrongShare.f spec_WrongShare.f
  rw [w]
  by_cases h1 : need < 1
  · refine ⟨-1, Ev.bind (vI l hg) (ev_pos rfl (ev_pos h1 (Ev.step (fun k => by rw [impl_WrongShare.j0]) (ev_pos rfl (ev_some rfl))))), ?_, .inl rfl⟩
    exact Ev.bind (vS l hg) (ev_pos rfl (ev_bind0 (inR _ _ _) (ev_neg (by simp; omega) (Ev.step (fun k => by rw [spec_WrongShare.j0]) (ev_pos rfl (ev_some rfl))))))
  · by_cases h8 : need > 8
    · refine ⟨-1, Ev.bind (vI l hg) (ev_pos rfl (ev_neg h1 (ev_pos h8 (Ev.step (fun k => by rw [impl_WrongShare.j0]) (ev_pos rfl (ev_some rfl)))))), ?_, .inl rfl⟩
      exact Ev.bind (vS l hg) (ev_pos rfl (ev_bind0 (inR _ _ _) (ev_neg (by simp; omega) (Ev.step (fun k => by rw [spec_WrongShare.j0]) (ev_pos rfl (ev_some rfl))))))
    · have hr : decide (1 ≤ need ∧ need ≤ 8) = true := decide_eq_true (by omega)
      by_cases hl : (l.length : Int) < need + 2
      · refine ⟨-1, Ev.bind (vI l hg) (ev_pos rfl (ev_neg h1 (ev_neg h8 (ev_pos hl (Ev.step (fun k => by rw [impl_WrongShare.j0]) (ev_pos rfl (ev_some rfl))))))), ?_, .inl rfl⟩
        exact Ev.bind (vS l hg) (ev_pos rfl (ev_bind0 (inR _ _ _) (ev_pos hr (ev_pos hl (Ev.step (fun k => by rw [spec_WrongShare.j0]) (ev_pos rfl (ev_some rfl)))))))
      · obtain ⟨n, rfl⟩ := Int.eq_ofNat_of_zero_le (show 0 ≤ need by omega)
        obtain ⟨b, e1, e2⟩ := fitI l hg n (by omega) (by omega) (by omega)
        obtain ⟨b', e3, e4⟩ := fitS l hg n (by omega)
        obtain rfl : b = b' := Bool.eq_iff_iff.2 (e2.trans e4.symm)
        cases b with
        | true =>
          refine ⟨-1, Ev.bind (vI l hg) (ev_pos rfl (ev_neg h1 (ev_neg h8 (ev_neg hl (Ev.bind e1 (Ev.step (fun k => by rw [impl_WrongShare.j0]) (ev_pos rfl (ev_some rfl)))))))), ?_, .inl rfl⟩
          exact Ev.bind (vS l hg) (ev_pos rfl (ev_bind0 (inR _ _ _) (ev_pos hr (ev_neg hl (Ev.bind e3 (Ev.step (fun k => by rw [spec_WrongShare.j0]) (ev_pos rfl (ev_some rfl))))))))
        | false =>
          obtain ⟨r, g1, g2, g3⟩ := wrong_l0 l hg n (by omega) (by omega) (by omega) l [] rfl
          rw [show ((([] : List S72).length : Nat) : Int) = 0 from rfl] at g1 g2
          refine ⟨r, Ev.bind (vI l hg) (ev_pos rfl (ev_neg h1 (ev_neg h8 (ev_neg hl (Ev.bind e1 (Ev.step (fun k => by rw [impl_WrongShare.j0]) (ev_neg Bool.false_ne_true g1))))))), ?_, ?_⟩
          · exact Ev.bind (vS l hg) (ev_pos rfl (ev_bind0 (inR _ _ _) (ev_pos hr (ev_neg hl (Ev.bind e3 (Ev.step (fun k => by rw [spec_WrongShare.j0]) (ev_neg Bool.false_ne_true g2)))))))
          · rcases g3 with g3 | g3
            · exact .inl g3
            · exact .inr ⟨n, rfl, by omega, by omega, by omega, fun h => by simpa using e2.2 h, g3⟩
end Go.Proofs.Ytkommecfnfdapaa.Pure
