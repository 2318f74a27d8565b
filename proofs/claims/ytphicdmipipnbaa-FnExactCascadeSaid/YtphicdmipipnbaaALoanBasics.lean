/- Copies, comparisons, marks of numbers and of loans: what the laws' helpers come to. Numbers and lists alone. -/
import Derived.Test.YtphicdmipipnbaaATools
import Derived.Test.YtphicdmipipnbaaAEndsFnExactCascade
namespace Go.Proofs.Ytphicdmipipnbaa.Pure
open Go.RowKit Go.Proofs.Ytphicdmipipnbaa.P Go.Proofs.YtphicdmipipnbaaW.PrintWords Go.Proofs.YtphicdmipipnbaaW.PrintMore Go.Proofs.Ytphicdmipipnbaa.Tools
/-! ### []int -/
theorem toI_l0 (B : List Int) : ∀ (A D : List Int), D.length = B.length → A.length + B.length < 2000000 → Ev (fun k => laws_toIntS.l0 k (A ++ B) (A ++ D) (A.length : Int)) (A ++ B) := by
  induction B with
  | nil =>
    intro A D hd _
    obtain rfl : D = [] := List.eq_nil_of_length_eq_zero (by simpa using hd)
    refine Ev.step (fun k => by rw [laws_toIntS.l0]) ?_
    exact ev_neg (by simp) (ev_some rfl)
  | cons e B ih =>
    intro A D hd hb
    simp only [List.length_cons] at hd hb
    cases D with
    | nil => simp at hd
    | cons d D =>
      simp only [List.length_cons, Nat.succ.injEq] at hd
      have w1 : wrap64 ((A.length : Int) + 1) = (((A ++ [e]).length : Nat) : Int) := by simp only [List.length_append, List.length_cons, List.length_nil]; rw [w_id] <;> omega
      have r1 : rd (A ++ e :: B) (A.length : Int) = e := getD_app _ _ _ _ _ (by simp)
      refine Ev.step (fun k => by rw [laws_toIntS.l0]) ?_
      rw [w1, r1]
      refine ev_pos (by simp; omega) (ev_pos (by omega) (ev_pos (by simp; omega) ?_))
      rw [set_app _ _ _ _ _ (by simp)]
      have := ih (A ++ [e]) D hd (by simp; omega)
      simpa using this
theorem toI_f (l : List Int) (h : l.length < 2000000) : Ev (fun k => laws_toIntS.f k l) l := by
  unfold laws_toIntS.f
  refine ev_pos (by omega) (ev_pos (by simp; omega) ?_)
  have := toI_l0 l [] (List.replicate ((l.length : Int)).toNat 0) (by simp) (by simpa using h)
  simpa using this
theorem eqI_l0 (B : List Int) : ∀ A : List Int, A.length + B.length < 2000000 → Ev (fun k => laws_eqIntS.l0 k (A ++ B) (A ++ B) (A.length : Int)) true := by
  induction B with
  | nil =>
    intro A _
    refine Ev.step (fun k => by rw [laws_eqIntS.l0]) ?_
    exact ev_neg (by simp) (ev_some rfl)
  | cons e B ih =>
    intro A hb
    simp only [List.length_cons] at hb
    have w1 : wrap64 ((A.length : Int) + 1) = (((A ++ [e]).length : Nat) : Int) := by simp only [List.length_append, List.length_cons, List.length_nil]; rw [w_id] <;> omega
    refine Ev.step (fun k => by rw [laws_eqIntS.l0]) ?_
    rw [w1]
    refine ev_pos (by simp; omega) (ev_pos (by omega) (ev_pos (by simp; omega) (ev_pos rfl ?_)))
    have := ih (A ++ [e]) (by simp; omega)
    simpa using this
theorem eqI_f (l : List Int) (h : l.length < 2000000) : Ev (fun k => laws_eqIntS.f k l l) true := by
  unfold laws_eqIntS.f
  refine ev_pos rfl ?_
  have := eqI_l0 l [] (by simpa using h)
  simpa using this
def marksI : Nat → Int → List Int
  | 0, _ => []
  | n + 1, k => k :: marksI n (k + 1)
theorem marksI_len : ∀ n k, (marksI n k).length = n
  | 0, _ => rfl
  | n + 1, k => by simp [marksI, marksI_len n]
theorem markI_l0 (B : List Int) : ∀ (A : List Int) (k : Int), 0 ≤ k → k + B.length < 4000000000 → A.length + B.length < 2000000 → Ev (fun m => laws_markIntS.l0 m (A ++ B) k (A.length : Int)) (k + B.length, A ++ marksI B.length k) := by
  induction B with
  | nil =>
    intro A k _ _ _
    refine Ev.step (fun k => by rw [laws_markIntS.l0]) ?_
    exact ev_neg (by simp) (ev_some (by simp [marksI]))
  | cons e B ih =>
    intro A k h0 hk hb
    simp only [List.length_cons] at hb hk
    have w1 : wrap64 ((A.length : Int) + 1) = (((A ++ [k]).length : Nat) : Int) := by simp only [List.length_append, List.length_cons, List.length_nil]; rw [w_id] <;> omega
    have w2 : wrap64 (k + 1) = k + 1 := w_id (by omega) (by omega)
    refine Ev.step (fun k => by rw [laws_markIntS.l0]) ?_
    rw [w1, w2]
    refine ev_pos (by simp; omega) (ev_pos (by omega) ?_)
    rw [set_app _ _ _ _ _ (by simp)]
    have := ih (A ++ [k]) (k + 1) (by omega) (by omega) (by simp; omega)
    simp only [List.append_assoc, List.singleton_append] at this
    simp only [List.length_cons, marksI]
    have hh : k + 1 + (B.length : Int) = k + ((B.length + 1 : Nat) : Int) := by omega
    rw [hh] at this
    exact this
theorem markI_f (l : List Int) (k : Int) (h0 : 0 ≤ k) (hk : k < 3000000000) (h : l.length < 1500000) : Ev (fun m => laws_markIntS.f m l k) (k + l.length, marksI l.length k) := by
  unfold laws_markIntS.f
  have := markI_l0 l [] k h0 (by omega) (by simp; omega)
  simpa using this
theorem heldI_l0 (n : Nat) : ∀ (A : List Int) (k : Int), 0 ≤ k → k + n < 4000000000 → A.length + n < 2000000 → Ev (fun m => laws_heldIntS.l0 m (A ++ marksI n k) k (A.length : Int)) (k + n) := by
  induction n with
  | zero =>
    intro A k _ _ _
    refine Ev.step (fun k => by rw [laws_heldIntS.l0]) ?_
    exact ev_neg (by simp [marksI]) (ev_some (by simp))
  | succ n ih =>
    intro A k h0 hk hb
    have w1 : wrap64 ((A.length : Int) + 1) = (((A ++ [k]).length : Nat) : Int) := by simp only [List.length_append, List.length_cons, List.length_nil]; rw [w_id] <;> omega
    have w2 : wrap64 (k + 1) = k + 1 := w_id (by omega) (by omega)
    have rr : rd (A ++ marksI (n + 1) k) (A.length : Int) = k := getD_app _ _ _ _ _ (by simp)
    refine Ev.step (fun k => by rw [laws_heldIntS.l0]) ?_
    rw [w1, w2, rr]
    refine ev_pos (by simp [marksI_len]; omega) (ev_pos (by omega) (ev_pos rfl ?_))
    have := ih (A ++ [k]) (k + 1) (by omega) (by omega) (by simp; omega)
    simp only [List.append_assoc, List.singleton_append] at this
    have hh : k + 1 + (n : Int) = k + ((n + 1 : Nat) : Int) := by omega
    rw [hh] at this
    exact this
theorem heldI_f (n : Nat) (k : Int) (h0 : 0 ≤ k) (hk : k < 3000000000) (h : n < 1500000) : Ev (fun m => laws_heldIntS.f m (marksI n k) k) (k + n) := by
  unfold laws_heldIntS.f
  have := heldI_l0 n [] k h0 (by omega) (by simp; omega)
  simpa using this
/-! ### []Loan -/
def cvL (x : S48) : S50 := ⟨x.f0, x.f1, x.f2⟩
/-- What the copies of loans take: each loan's guards. -/
def wt : List S48 → Nat
  | [] => 0
  | x :: l => x.f2.length + wt l
def wtS : List S50 → Nat
  | [] => 0
  | x :: l => x.f2.length + wtS l
theorem wtS_cv : ∀ l : List S48, wtS (l.map cvL) = wt l
  | [] => rfl
  | x :: l => by simp [wtS, wt, cvL, wtS_cv l]
theorem sz_l0 (B : List S48) : ∀ (A : List S48) (L : Int), A.length + B.length < 2000000 → 0 ≤ L → L < 4000000 → (∀ x ∈ B, x.f2.length ≤ 9223372036854775807) → ∃ r, Ev (fun k => laws_szLoanS.l0 k (A ++ B) L (A.length : Int)) r ∧ (r < 0 ∨ (r = L - wt B ∧ (wt B : Int) ≤ L)) := by
  induction B with
  | nil =>
    intro A L _ _ _ _
    refine ⟨L, ?_, .inr (by simp [wt]; assumption)⟩
    refine Ev.step (fun k => by rw [laws_szLoanS.l0]) ?_
    exact ev_neg (by simp) (ev_some rfl)
  | cons e B ih =>
    intro A L hb h0 h1 hx
    simp only [List.length_cons] at hb
    have he := hx e (by simp)
    have w1 : wrap64 ((A.length : Int) + 1) = (((A ++ [e]).length : Nat) : Int) := by simp only [List.length_append, List.length_cons, List.length_nil]; rw [w_id] <;> omega
    have r1 : rd_T48 (A ++ e :: B) (A.length : Int) = e := getD_app _ _ _ _ _ (by simp)
    have w2 : wrap64 (L - (e.f2.length : Int)) = L - e.f2.length := w_id (by omega) (by omega)
    by_cases hf : (e.f2.length : Int) ≤ L
    · obtain ⟨r, hr, hq⟩ := ih (A ++ [e]) (L - e.f2.length) (by simp; omega) (by omega) (by omega) (fun x hx' => hx x (by simp [hx']))
      refine ⟨r, ?_, ?_⟩
      · refine Ev.step (fun k => by rw [laws_szLoanS.l0]) ?_
        rw [w1, r1]
        refine ev_pos (by simp; omega) (ev_pos (by omega) ?_)
        refine ev_bind0 (v := L - e.f2.length) ?_ (ev_neg (by omega) ?_)
        · unfold laws_szLoan.f laws_szIntS.f
          rw [w2, if_neg (by omega)]
          show (if _ then _ else _) = _
          rw [if_neg (by omega)]
        · simpa using hr
      · rcases hq with hq | ⟨hq, hq2⟩
        · exact .inl hq
        · exact .inr ⟨by rw [hq]; simp [wt]; omega, by simp [wt]; omega⟩
    · refine ⟨-1, ?_, .inl (by omega)⟩
      refine Ev.step (fun k => by rw [laws_szLoanS.l0]) ?_
      rw [w1, r1]
      refine ev_pos (by simp; omega) (ev_pos (by omega) ?_)
      refine ev_bind0 (v := -1) ?_ (ev_pos (by omega) (ev_some rfl))
      unfold laws_szLoan.f laws_szIntS.f
      rw [w2, if_pos (by omega)]
      rfl
theorem sz_f (l : List S48) (hl : l.length ≤ 9223372036854775807) (hx : ∀ x ∈ l, x.f2.length ≤ 9223372036854775807) : ∃ r, Ev (fun k => laws_szLoanS.f k l 1048576) r ∧ (r < 0 ∨ (l.length : Int) + wt l ≤ 1048576 ∧ 0 ≤ r) := by
  have w2 : wrap64 (1048576 - (l.length : Int)) = 1048576 - l.length := w_id (by omega) (by omega)
  by_cases hf : (l.length : Int) ≤ 1048576
  · obtain ⟨r, hr, hq⟩ := sz_l0 l [] (1048576 - l.length) (by simp; omega) (by omega) (by omega) hx
    refine ⟨r, ?_, hq.imp id fun h => ⟨by omega, by omega⟩⟩
    unfold laws_szLoanS.f
    rw [w2]
    exact ev_neg (by omega) (by simpa using hr)
  · refine ⟨-1, ?_, .inl (by omega)⟩
    unfold laws_szLoanS.f
    rw [w2]
    exact ev_pos (by omega) (ev_some rfl)
theorem wt_mem : ∀ {l : List S48} {x : S48}, x ∈ l → x.f2.length ≤ wt l
  | y :: l, x, h => by
    rcases List.mem_cons.1 h with rfl | h
    · simp [wt]
    · have := wt_mem h; simp [wt]; omega
theorem toL_l0 (B : List S48) : ∀ (A : List S48) (D : List S50), D.length = B.length → A.length + B.length < 2000000 → (∀ x ∈ B, x.f2.length < 2000000) → Ev (fun k => laws_toLoanS.l0 k (A ++ B) (A.map cvL ++ D) (A.length : Int)) ((A ++ B).map cvL) := by
  induction B with
  | nil =>
    intro A D hd _ _
    obtain rfl : D = [] := List.eq_nil_of_length_eq_zero (by simpa using hd)
    refine Ev.step (fun k => by rw [laws_toLoanS.l0]) ?_
    exact ev_neg (by simp) (ev_some (by simp))
  | cons e B ih =>
    intro A D hd hb hx
    simp only [List.length_cons] at hd hb
    cases D with
    | nil => simp at hd
    | cons d D =>
      simp only [List.length_cons, Nat.succ.injEq] at hd
      have w1 : wrap64 ((A.length : Int) + 1) = (((A ++ [e]).length : Nat) : Int) := by simp only [List.length_append, List.length_cons, List.length_nil]; rw [w_id] <;> omega
      have r1 : rd_T48 (A ++ e :: B) (A.length : Int) = e := getD_app _ _ _ _ _ (by simp)
      refine Ev.step (fun k => by rw [laws_toLoanS.l0]) ?_
      rw [w1, r1]
      refine ev_pos (by simp; omega) (ev_pos (by omega) ?_)
      have h1 : Ev (fun k => laws_toLoan.f k e.f0 e.f1 e.f2) (e.f0, e.f1, e.f2) := by
        unfold laws_toLoan.f
        exact (toI_f e.f2 (hx e (by simp))).bind (ev_some rfl)
      refine h1.bind (ev_pos (by simp; omega) ?_)
      rw [set_app _ _ _ _ _ (by simp)]
      have := ih (A ++ [e]) D hd (by simp; omega) (fun x hx' => hx x (by simp [hx']))
      simpa [cvL] using this
theorem toL_f (l : List S48) (h : l.length < 2000000) (hx : ∀ x ∈ l, x.f2.length < 2000000) : Ev (fun k => laws_toLoanS.f k l) (l.map cvL) := by
  unfold laws_toLoanS.f
  refine ev_pos (by omega) (ev_pos (by simp; omega) ?_)
  have := toL_l0 l [] (List.replicate ((l.length : Int)).toNat z50) (by simp) (by simpa using h) hx
  simpa using this
theorem eqL_l0 (B : List S50) : ∀ A : List S50, A.length + B.length < 2000000 → (∀ x ∈ B, x.f2.length < 2000000) → Ev (fun k => laws_eqLoanS.l0 k (A ++ B) (A ++ B) (A.length : Int)) true := by
  induction B with
  | nil =>
    intro A _ _
    refine Ev.step (fun k => by rw [laws_eqLoanS.l0]) ?_
    exact ev_neg (by simp) (ev_some rfl)
  | cons e B ih =>
    intro A hb hx
    simp only [List.length_cons] at hb
    have w1 : wrap64 ((A.length : Int) + 1) = (((A ++ [e]).length : Nat) : Int) := by simp only [List.length_append, List.length_cons, List.length_nil]; rw [w_id] <;> omega
    have r1 : rd_T50 (A ++ e :: B) (A.length : Int) = e := getD_app _ _ _ _ _ (by simp)
    refine Ev.step (fun k => by rw [laws_eqLoanS.l0]) ?_
    rw [w1, r1]
    refine ev_pos (by simp; omega) (ev_pos (by omega) (ev_pos (by simp; omega) ?_))
    have h1 : Ev (fun k => laws_eqLoan.f k e.f0 e.f1 e.f2 e.f0 e.f1 e.f2) true := by
      unfold laws_eqLoan.f
      exact ev_pos rfl (ev_pos rfl ((eqI_f e.f2 (hx e (by simp))).bind (ev_pos rfl (ev_some rfl))))
    refine h1.bind (ev_pos rfl ?_)
    have := ih (A ++ [e]) (by simp; omega) (fun x hx' => hx x (by simp [hx']))
    simpa using this
theorem eqL_f (l : List S50) (h : l.length < 2000000) (hx : ∀ x ∈ l, x.f2.length < 2000000) : Ev (fun k => laws_eqLoanS.f k l l) true := by
  unfold laws_eqLoanS.f
  refine ev_pos rfl ?_
  have := eqL_l0 l [] (by simpa using h) hx
  simpa using this
/-- The marks of loans. -/
def marksL : List S50 → Int → List S50
  | [], _ => []
  | x :: l, k => ⟨k, k + 1, marksI x.f2.length (k + 2)⟩ :: marksL l (k + 2 + x.f2.length)
theorem marksL_len : ∀ l k, (marksL l k).length = l.length
  | [], _ => rfl
  | x :: l, k => by simp [marksL, marksL_len l]
theorem markL_l0 (B : List S50) : ∀ (A : List S50) (k : Int), 0 ≤ k → k + 2 * B.length + wtS B < 2900000000 → A.length + B.length < 2000000 → wtS B < 1400000 → Ev (fun m => laws_markLoanS.l0 m (A ++ B) k (A.length : Int)) (k + 2 * B.length + wtS B, A ++ marksL B k) := by
  induction B with
  | nil =>
    intro A k _ _ _ _
    refine Ev.step (fun k => by rw [laws_markLoanS.l0]) ?_
    exact ev_neg (by simp) (ev_some (by simp [marksL, wtS]))
  | cons e B ih =>
    intro A k h0 hk hb hw
    simp only [List.length_cons, wtS] at hb hk hw
    have r1 : rd_T50 (A ++ e :: B) (A.length : Int) = e := getD_app _ _ _ _ _ (by simp)
    have w2 : wrap64 (k + 1) = k + 1 := w_id (by omega) (by omega)
    have w3 : wrap64 (k + 1 + 1) = k + 2 := by rw [w_id] <;> omega
    refine Ev.step (fun k => by rw [laws_markLoanS.l0]) ?_
    rw [r1, w2, w3]
    refine ev_pos (by simp; omega) (ev_pos (by omega) ?_)
    refine (markI_f e.f2 (k + 2) (by omega) (by omega) (by omega)).bind ?_
    simp only
    rw [set_app _ _ _ _ _ (by simp)]
    have w1 : wrap64 ((A.length : Int) + 1) = (((A ++ [(⟨k, k + 1, marksI e.f2.length (k + 2)⟩ : S50)]).length : Nat) : Int) := by simp only [List.length_append, List.length_cons, List.length_nil]; rw [w_id] <;> omega
    rw [w1]
    have := ih (A ++ [(⟨k, k + 1, marksI e.f2.length (k + 2)⟩ : S50)]) (k + 2 + e.f2.length) (by omega) (by omega) (by simp; omega) (by omega)
    simp only [List.append_assoc, List.singleton_append] at this
    simp only [List.length_cons, marksL, wtS]
    have hh : k + 2 + (e.f2.length : Int) + 2 * (B.length : Int) + (wtS B : Int) = k + 2 * ((B.length + 1 : Nat) : Int) + ((e.f2.length + wtS B : Nat) : Int) := by omega
    rw [hh] at this
    exact this
theorem markL_f (l : List S50) (k : Int) (h0 : 0 ≤ k) (hk : k < 2000000000) (h : l.length < 1500000) (hw : wtS l < 1400000) : Ev (fun m => laws_markLoanS.f m l k) (k + 2 * l.length + wtS l, marksL l k) := by
  unfold laws_markLoanS.f
  have := markL_l0 l [] k h0 (by omega) (by simp; omega) hw
  simpa using this
end Go.Proofs.Ytphicdmipipnbaa.Pure
