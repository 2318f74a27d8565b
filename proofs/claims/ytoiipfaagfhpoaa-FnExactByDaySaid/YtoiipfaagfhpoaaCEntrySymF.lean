/- symMerge whole, and the whole stable sort of at most 40 entries. Numbers and lists alone. -/
import Derived.Test.YtoiipfaagfhpoaaCEntrySym
namespace Go.Proofs.Ytoiipfaagfhpoaa.EntrySort
open Go.RowKit Go.Proofs.Ytoiipfaagfhpoaa.P Go.Proofs.YtoiipfaagfhpoaaW.PrintWords Go.Proofs.Ytoiipfaagfhpoaa.Tools

theorem last_rd (P A Q : List S40) (i : Int) (hi : i = ((P.length + A.length : Nat) : Int) - 1) (hA : A ≠ []) : ∃ A0 y, A = A0 ++ [y] ∧ rd_T40 (P ++ (A ++ Q)) i = y := by
  rcases List.eq_nil_or_concat A with h | ⟨A0, y, h⟩
  · exact absurd h hA
  · rw [List.concat_eq_append] at h
    subst h
    refine ⟨A0, y, rfl, ?_⟩
    rw [show P ++ (A0 ++ [y] ++ Q) = (P ++ A0) ++ y :: Q by simp]
    exact rd_app _ _ _ _ (by subst hi; simp; omega)
theorem head_rd (P A Q : List S40) (i : Int) (hi : i = (P.length : Int)) (hA : A ≠ []) : ∃ y A0, A = y :: A0 ∧ rd_T40 (P ++ (A ++ Q)) i = y := by
  cases A with
  | nil => exact absurd rfl hA
  | cons y A0 => exact ⟨y, A0, rfl, rd_app _ _ _ _ (by subst hi; simp)⟩
theorem le_all {A : List S40} {x : Int} (h : Srt kD A) (hl : ∀ A0 y, A = A0 ++ [y] → kD y ≤ x) : ∀ a ∈ A, kD a ≤ x := by
  rcases List.eq_nil_or_concat A with h1 | ⟨A0, y, h1⟩
  · subst h1; simp
  · rw [List.concat_eq_append] at h1
    subst h1
    intro a ha
    have := hl A0 y rfl
    rcases List.mem_append.1 ha with ha | ha
    · have := (srt_app.1 h).2.2 a ha y (by simp); omega
    · rw [List.mem_singleton.1 ha]; omega
theorem all_le {A : List S40} {x : Int} (h : Srt kD A) (hl : ∀ y A0, A = y :: A0 → x ≤ kD y) : ∀ a ∈ A, x ≤ kD a := by
  cases A with
  | nil => simp
  | cons y A0 =>
    intro a ha
    have := hl y A0 rfl
    rcases List.mem_cons.1 ha with rfl | ha
    · exact this
    · have := (srt_cons.1 h).1 a ha; omega

theorem sym_one (X R Z : List S40) (x : S40) (hR : Srt kD R) (hb : X.length + 1 + R.length + Z.length < 2305843009213693952) :
    ∃ M, Srt kD M ∧ Eqv kD M (x :: R) ∧ Ev (fun k => impl_Entry_59.l0 k (X ++ (x :: (R ++ Z))) (X.length : Int) ((X.length + 1 : Nat) : Int) ((X.length + 1 + R.length : Nat) : Int)) (X ++ (M ++ Z)) := by
  have hx : rd_T40 (X ++ (x :: (R ++ Z))) (X.length : Int) = x := rd_app _ _ _ _ (by simp)
  obtain ⟨s, h1, h2, h3, h4, h5⟩ := sym_l0 (X ++ (x :: (R ++ Z))) (by simp; omega) (X.length : Int) (by omega) (by simp; omega) _ ((X.length + 1 : Nat) : Int) ((X.length + 1 + R.length : Nat) : Int) rfl (by omega) (by omega) (by simp; omega)
  rw [hx] at h3 h4
  obtain ⟨R1, R2, rfl, hl⟩ := split_le R (s - (X.length + 1)).toNat (by omega)
  simp only [List.length_append] at *
  have hs : s = ((X.length + 1 + R1.length : Nat) : Int) := by omega
  obtain ⟨q1, q2, q3⟩ := srt_app.1 hR
  have k1 : ∀ a ∈ R1, kD a < kD x := by
    have : ∀ a ∈ R1, kD a ≤ kD x - 1 := by
      refine le_all q1 (fun A0 y e => ?_)
      rcases h3 with h3 | h3
      · subst e; simp at hl; omega
      · rw [show X ++ (x :: (R1 ++ R2 ++ Z)) = (X ++ [x]) ++ (R1 ++ (R2 ++ Z)) by simp] at h3
        obtain ⟨A1, y1, e1, e2⟩ := last_rd (X ++ [x]) R1 (R2 ++ Z) (s - 1) (by simp; omega) (by subst e; simp)
        rw [e2] at h3
        rw [e] at e1
        have := (List.append_inj' e1 rfl).2
        injection this with this
        subst this; omega
    intro a ha; have := this a ha; omega
  have k2 : ∀ a ∈ R2, kD x ≤ kD a := by
    refine all_le q2 (fun y A0 e => ?_)
    rcases h4 with h4 | h4
    · subst e; simp at h4 hb; omega
    · rw [show X ++ (x :: (R1 ++ R2 ++ Z)) = (X ++ x :: R1) ++ (R2 ++ Z) by simp] at h4
      obtain ⟨y1, A1, e1, e2⟩ := head_rd (X ++ x :: R1) R2 Z s (by simp; omega) (by subst e; simp)
      rw [e2] at h4
      rw [e] at e1
      injection e1 with e1
      subst e1; omega
  refine ⟨R1 ++ x :: R2, ?_, ?_, ?_⟩
  · refine srt_app.2 ⟨q1, srt_cons.2 ⟨k2, q2⟩, fun a ha b hb' => ?_⟩
    rcases List.mem_cons.1 hb' with rfl | hb'
    · exact Int.le_of_lt (k1 a ha)
    · exact q3 a ha b hb'
  · have := Eqv.app (Eqv.swap (key := kD) (l := [x]) (m := R1) (fun a ha b hb' => by rw [List.mem_singleton.1 ha]; exact k1 b hb')) (Eqv.refl R2)
    simpa using this.symm
  · refine h5 _ ?_
    have := sym_l1 X (R2 ++ Z) x R1 [] (by simp; omega)
    rw [hs]
    simp only [List.length_nil, Nat.add_zero, List.nil_append] at this
    rw [show X.length + R1.length + 1 = X.length + 1 + R1.length by omega] at this
    simpa using this
theorem sym_two (X L Z : List S40) (y : S40) (hL : Srt kD L) (hb : X.length + L.length + 1 + Z.length < 2305843009213693952) :
    ∃ M, Srt kD M ∧ Eqv kD M (L ++ [y]) ∧ Ev (fun k => impl_Entry_59.l2 k (X ++ (L ++ (y :: Z))) ((X.length + L.length : Nat) : Int) (X.length : Int) ((X.length + L.length : Nat) : Int)) (X ++ (M ++ Z)) := by
  have hy : rd_T40 (X ++ (L ++ (y :: Z))) ((X.length + L.length : Nat) : Int) = y := by rw [← List.append_assoc]; exact rd_app _ _ _ _ (by simp; omega)
  obtain ⟨s, h1, h2, h3, h4, h5⟩ := sym_l2 (X ++ (L ++ (y :: Z))) (by simp; omega) ((X.length + L.length : Nat) : Int) (by omega) (by simp; omega) _ (X.length : Int) ((X.length + L.length : Nat) : Int) rfl (by omega) (by omega) (by simp; omega)
  rw [hy] at h3 h4
  obtain ⟨L1, L2, rfl, hl⟩ := split_le L (s - X.length).toNat (by omega)
  simp only [List.length_append] at *
  have hs : s = ((X.length + L1.length : Nat) : Int) := by omega
  obtain ⟨q1, q2, q3⟩ := srt_app.1 hL
  have k1 : ∀ a ∈ L1, kD a ≤ kD y := by
    refine le_all q1 (fun A0 z e => ?_)
    rcases h3 with h3 | h3
    · subst e; simp at hl; omega
    · rw [show X ++ (L1 ++ L2 ++ (y :: Z)) = X ++ (L1 ++ (L2 ++ (y :: Z))) by simp] at h3
      obtain ⟨A1, y1, e1, e2⟩ := last_rd X L1 (L2 ++ (y :: Z)) (s - 1) (by omega) (by subst e; simp)
      rw [e2] at h3
      rw [e] at e1
      have := (List.append_inj' e1 rfl).2
      injection this with this
      subst this; omega
  have k2 : ∀ a ∈ L2, kD y < kD a := by
    have : ∀ a ∈ L2, kD y + 1 ≤ kD a := by
      refine all_le q2 (fun z A0 e => ?_)
      rcases h4 with h4 | h4
      · subst e; simp at h4 hb; omega
      · rw [show X ++ (L1 ++ L2 ++ (y :: Z)) = (X ++ L1) ++ (L2 ++ (y :: Z)) by simp] at h4
        obtain ⟨y1, A1, e1, e2⟩ := head_rd (X ++ L1) L2 (y :: Z) s (by simp; omega) (by subst e; simp)
        rw [e2] at h4
        rw [e] at e1
        injection e1 with e1
        subst e1; omega
    intro a ha; have := this a ha; omega
  refine ⟨L1 ++ y :: L2, srt_ins hL k1 k2, ?_, ?_⟩
  · have := Eqv.app (Eqv.refl (key := kD) L1) (Eqv.swap (key := kD) (l := L2) (m := [y]) (fun a ha b hb' => by rw [List.mem_singleton.1 hb']; exact k2 a ha))
    simpa using this.symm
  · refine h5 _ ?_
    have := sym_l3 (X ++ L1) Z y _ L2 [] rfl (by simp; omega)
    rw [hs]
    simp only [List.length_append, List.nil_append] at this
    rw [show X.length + L1.length + L2.length = X.length + (L1.length + L2.length) by omega] at this
    simpa using this

/-- What symMerge says of a row. -/
def Merges (n : Nat) : Prop := ∀ (X L R Z : List S40), L.length + R.length = n → 1 ≤ L.length → 1 ≤ R.length → Srt kD L → Srt kD R → X.length + L.length + R.length + Z.length < 2305843009213693952 →
    ∃ M, Srt kD M ∧ Eqv kD M (L ++ R) ∧ Ev (fun k => impl_Entry_59.f k (X ++ (L ++ (R ++ Z))) (X.length : Int) ((X.length + L.length : Nat) : Int) ((X.length + L.length + R.length : Nat) : Int)) (X ++ (M ++ Z))
theorem merges_or {n : Nat} (ih : ∀ m, m < n → Merges m) (L R : List S40) (hn : L.length + R.length < n) (hL : Srt kD L) (hR : Srt kD R) :
    ∃ M, Srt kD M ∧ Eqv kD M (L ++ R) ∧ ((L.length = 0 ∨ R.length = 0) → M = L ++ R) ∧ ∀ X Z : List S40, X.length + L.length + R.length + Z.length < 2305843009213693952 → 1 ≤ L.length → 1 ≤ R.length →
      Ev (fun k => impl_Entry_59.f k (X ++ (L ++ (R ++ Z))) (X.length : Int) ((X.length + L.length : Nat) : Int) ((X.length + L.length + R.length : Nat) : Int)) (X ++ (M ++ Z)) := by
  by_cases h : L.length = 0 ∨ R.length = 0
  · refine ⟨L ++ R, ?_, Eqv.refl _, fun _ => rfl, fun X Z _ h1 h2 => by omega⟩
    rcases h with h | h
    · rw [List.eq_nil_of_length_eq_zero h]; simpa using hR
    · rw [List.eq_nil_of_length_eq_zero h]; simpa using hL
  · by_cases hb : L.length + R.length < 2305843009213693952
    · obtain ⟨M, h1, h2, _⟩ := ih _ hn [] L R [] rfl (by omega) (by omega) hL hR (by simp; omega)
      refine ⟨M, h1, h2, fun hh => absurd hh h, fun X Z hbb h3 h4 => ?_⟩
      obtain ⟨M', h5, h6, h7⟩ := ih _ hn X L R Z rfl h3 h4 hL hR hbb
      rw [Eqv.eq h1 h5 (h2.trans h6.symm)]
      exact h7
    · obtain ⟨M, hM⟩ : ∃ M : List S40, Srt kD M ∧ Eqv kD M (L ++ R) := by
        clear ih hn h hb
        induction L with
        | nil => exact ⟨R, hR, Eqv.refl _⟩
        | cons x L ihL =>
          obtain ⟨M, m1, m2⟩ := ihL (srt_cons.1 hL).2
          -- insert x ahead of all that isn't less
          obtain ⟨A, B, rfl, hA, hB⟩ : ∃ A B, M = A ++ B ∧ (∀ a ∈ A, kD a < kD x) ∧ (∀ b ∈ B, kD x ≤ kD b) := by
            clear m2
            induction M with
            | nil => exact ⟨[], [], rfl, by simp, by simp⟩
            | cons z M ihM =>
              by_cases hz : kD z < kD x
              · obtain ⟨A, B, rfl, hA, hB⟩ := ihM (srt_cons.1 m1).2
                exact ⟨z :: A, B, rfl, fun a ha => by rcases List.mem_cons.1 ha with rfl | ha; exact hz; exact hA a ha, hB⟩
              · exact ⟨[], z :: M, rfl, by simp, all_le m1 (fun y A0 e => by injection e with e _; subst e; omega)⟩
          obtain ⟨a1, a2, a3⟩ := srt_app.1 m1
          refine ⟨A ++ x :: B, srt_app.2 ⟨a1, srt_cons.2 ⟨hB, a2⟩, fun a ha b hb => ?_⟩, ?_⟩
          · rcases List.mem_cons.1 hb with rfl | hb
            · exact Int.le_of_lt (hA a ha)
            · exact a3 a ha b hb
          · have e1 := Eqv.app (Eqv.swap (key := kD) (l := [x]) (m := A) (fun a ha b hb => by rw [List.mem_singleton.1 ha]; exact hA b hb)) (Eqv.refl B)
            have e2 := Eqv.cons (x := x) m2
            simpa using e1.symm.trans (by simpa using e2)
      exact ⟨M, hM.1, hM.2, fun hh => absurd hh h, fun X Z hbb => by omega⟩

/-- What follows the rotation. -/
theorem sym_j7 {n : Nat} (ih : ∀ m, m < n → Merges m) (X L1 R1 L2 R2 Z : List S40) (h1 : L1.length + R1.length < n) (h2 : L2.length + R2.length < n) 
    (q1 : Srt kD L1) (q2 : Srt kD R1) (q3 : Srt kD R2) (q4 : Srt kD L2) (hb : X.length + L1.length + R1.length + L2.length + R2.length + Z.length < 2305843009213693952) (a b mid s e : Int)
    (ha : a = (X.length : Int)) (hs : s = ((X.length + L1.length : Nat) : Int)) (hm : mid = ((X.length + L1.length + R1.length : Nat) : Int)) (he : e = ((X.length + L1.length + R1.length + L2.length : Nat) : Int)) (hbb : b = ((X.length + L1.length + R1.length + L2.length + R2.length : Nat) : Int)) :
    ∃ M1 M2, Srt kD M1 ∧ Srt kD M2 ∧ Eqv kD M1 (L1 ++ R1) ∧ Eqv kD M2 (L2 ++ R2) ∧ Ev (fun k => impl_Entry_59.j7 k (X ++ (L1 ++ (R1 ++ (L2 ++ (R2 ++ Z))))) a b mid s e) (X ++ (M1 ++ (M2 ++ Z))) := by
  obtain ⟨M1, a1, a2, a3, a4⟩ := merges_or ih L1 R1 h1 q1 q2
  obtain ⟨M2, b1, b2, b3, b4⟩ := merges_or ih L2 R2 h2 q4 q3
  have hl1 : M1.length = L1.length + R1.length := by rw [a2.length, List.length_append]
  refine ⟨M1, M2, a1, b1, a2, b2, ?_⟩
  -- what the second half answers, ahead of it M1
  have second : Ev (fun k => if mid < e then (if e < b then (impl_Entry_59.f k (X ++ (M1 ++ (L2 ++ (R2 ++ Z)))) mid e b).bind fun t => some t else some (X ++ (M1 ++ (L2 ++ (R2 ++ Z))))) else some (X ++ (M1 ++ (L2 ++ (R2 ++ Z))))) (X ++ (M1 ++ (M2 ++ Z))) := by
    by_cases h : 1 ≤ L2.length
    · refine ev_pos (by omega) ?_
      by_cases h' : 1 ≤ R2.length
      · refine ev_pos (by omega) ?_
        have := b4 (X ++ M1) Z (by simp; omega) h h'
        refine Ev.bind (a := X ++ (M1 ++ (M2 ++ Z))) ?_ (ev_some rfl)
        rw [show (((X ++ M1).length : Nat) : Int) = mid by simp; omega, show (((X ++ M1).length + L2.length : Nat) : Int) = e by simp; omega, show (((X ++ M1).length + L2.length + R2.length : Nat) : Int) = b by simp; omega] at this
        simpa using this
      · exact ev_neg (by omega) (ev_some (by rw [b3 (.inr (by omega))]; simp))
    · exact ev_neg (by omega) (ev_some (by rw [b3 (.inl (by omega))]; simp))
  have first : Ev (fun k => impl_Entry_59.j8 k (X ++ (L1 ++ (R1 ++ (L2 ++ (R2 ++ Z))))) a b mid s e (decide (1 ≤ L1.length ∧ 1 ≤ R1.length))) (X ++ (M1 ++ (M2 ++ Z))) := by
    refine Ev.step (fun k => by rw [impl_Entry_59.j8]) ?_
    by_cases h : 1 ≤ L1.length ∧ 1 ≤ R1.length
    · refine ev_pos (by simpa using h) (Ev.bind (a := X ++ (M1 ++ (L2 ++ (R2 ++ Z)))) ?_ second)
      have := a4 X (L2 ++ (R2 ++ Z)) (by simp; omega) h.1 h.2
      rw [← hs, ← ha, ← hm] at this
      exact this
    · refine ev_neg (by simpa using h) ?_
      have e1 := a3 (by omega)
      rw [e1] at second
      simpa [e1] using second
  refine Ev.step (fun k => by rw [impl_Entry_59.j7]) ?_
  by_cases h : 1 ≤ L1.length
  · refine ev_pos (by omega) ?_
    rw [show decide (s < mid) = decide (1 ≤ L1.length ∧ 1 ≤ R1.length) by rw [decide_eq_decide]; omega]
    exact first
  · refine ev_neg (by omega) ?_
    rw [show false = decide (1 ≤ L1.length ∧ 1 ≤ R1.length) by rw [eq_comm, decide_eq_false_iff_not]; omega]
    exact first

set_option maxHeartbeats 2000000 in
theorem merges : ∀ n, Merges n := by
  intro n
  induction n using Nat.strongRecOn with
  | _ n ih =>
    intro X L R Z hn hL1 hR1 hL hR hb
    have w1 : wrap64 (((X.length + L.length : Nat) : Int) - (X.length : Int)) = (L.length : Int) := by rw [w_id] <;> omega
    have w2 : wrap64 (((X.length + L.length + R.length : Nat) : Int) - ((X.length + L.length : Nat) : Int)) = (R.length : Int) := by rw [w_id] <;> omega
    by_cases cL : L.length = 1
    · obtain ⟨x, rfl⟩ := List.length_eq_one_iff.1 cL
      obtain ⟨M, m1, m2, m3⟩ := sym_one X R Z x hR (by simpa using hb)
      refine ⟨M, m1, by simpa using m2, ?_⟩
      refine Ev.step (fun k => by rw [impl_Entry_59.f]) ?_
      rw [w1]
      refine ev_pos (by simp) ?_
      simpa using m3
    by_cases cR : R.length = 1
    · obtain ⟨y, rfl⟩ := List.length_eq_one_iff.1 cR
      obtain ⟨M, m1, m2, m3⟩ := sym_two X L Z y hL (by simpa using hb)
      refine ⟨M, m1, m2, ?_⟩
      refine Ev.step (fun k => by rw [impl_Entry_59.f]) ?_
      rw [w1, w2]
      refine ev_neg (by omega) (ev_pos (by simp) ?_)
      simpa using m3
    -- the middle
    obtain ⟨a, ha⟩ : ∃ a : Int, (X.length : Int) = a := ⟨_, rfl⟩
    obtain ⟨m, hm⟩ : ∃ a : Int, ((X.length + L.length : Nat) : Int) = a := ⟨_, rfl⟩
    obtain ⟨b, hbb⟩ : ∃ a : Int, ((X.length + L.length + R.length : Nat) : Int) = a := ⟨_, rfl⟩
    have hmid := mid_w (x := a) (y := b) (by omega) (by omega) (by omega) (by omega)
    obtain ⟨mid, hmid2⟩ : ∃ q : Int, (a + b) / 2 = q := ⟨_, rfl⟩
    have w3 : wrap64 (mid + m) = mid + m := by rw [w_id] <;> omega
    have w4 : wrap64 (mid + m - b) = mid + m - b := by rw [w_id] <;> omega
    have w5 : wrap64 (mid + m - 1) = mid + m - 1 := by rw [w_id] <;> omega
    have hDl : (X ++ (L ++ (R ++ Z))).length = X.length + L.length + R.length + Z.length := by simp; omega
    -- where the search begins and ends
    obtain ⟨st, r0, hst, hr0, hcase⟩ : ∃ st r0 : Int, (a ≤ st ∧ st ≤ m) ∧ (st ≤ r0 ∧ r0 ≤ m) ∧ ((mid < m ∧ st = mid + m - b ∧ r0 = mid) ∨ (m ≤ mid ∧ st = a ∧ r0 = m)) := by
      by_cases h : mid < m
      · exact ⟨mid + m - b, mid, by omega, by omega, .inl ⟨h, rfl, rfl⟩⟩
      · exact ⟨a, m, by omega, by omega, .inr ⟨by omega, rfl, rfl⟩⟩
    obtain ⟨s, s1, s2, s3, s4, s5⟩ := sym_l4 (X ++ (L ++ (R ++ Z))) (by omega) a m b mid (mid + m) (mid + m - 1) _ st r0 rfl (by omega) (by omega) (by omega) (fun c h h' => by omega)
    -- the four parts
    obtain ⟨L1, L2, rfl, hl1⟩ := split_le L (s - a).toNat (by omega)
    obtain ⟨R1, R2, rfl, hl2⟩ := split_le R (mid - s).toNat (by omega)
    simp only [List.length_append] at *
    obtain ⟨y1, y2, y3⟩ := srt_app.1 hL
    obtain ⟨z1, z2, z3⟩ := srt_app.1 hR
    have k1 : ∀ x ∈ L1, ∀ y ∈ R2, kD x ≤ kD y := by
      rcases Nat.eq_zero_or_pos L1.length with h0 | h0
      · rw [List.eq_nil_of_length_eq_zero h0]; simp
      rcases Nat.eq_zero_or_pos R2.length with h0' | h0'
      · rw [List.eq_nil_of_length_eq_zero h0']; simp
      obtain ⟨A0, u, e1, e2⟩ := last_rd X L1 (L2 ++ (R1 ++ (R2 ++ Z))) (s - 1) (by omega) (by intro e; subst e; simp at h0)
      obtain ⟨v, B0, e3, e4⟩ := head_rd (X ++ L1 ++ L2 ++ R1) R2 Z (mid + m - 1 - (s - 1)) (by simp; omega) (by intro e; subst e; simp at h0')
      have t1 : rd_T40 (X ++ (L1 ++ L2 ++ (R1 ++ R2 ++ Z))) (s - 1) = u := by simpa using e2
      have t2 : rd_T40 (X ++ (L1 ++ L2 ++ (R1 ++ R2 ++ Z))) (mid + m - 1 - (s - 1)) = v := by simpa using e4
      have huv : kD u ≤ kD v := by
        rcases s3 with s3 | s3
        · omega
        · rw [t1, t2] at s3; omega
      intro x hx y hy
      have f1 := le_all y1 (x := kD u) (fun A y' e => by rw [e1] at e; have := (List.append_inj' e rfl).2; injection this with this; subst this; exact Int.le_refl _) x hx
      have f2 := all_le z2 (x := kD v) (fun y' A e => by rw [e3] at e; injection e with e; subst e; exact Int.le_refl _) y hy
      omega
    have k2 : ∀ x ∈ L2, ∀ y ∈ R1, kD y < kD x := by
      rcases Nat.eq_zero_or_pos L2.length with h0 | h0
      · rw [List.eq_nil_of_length_eq_zero h0]; simp
      rcases Nat.eq_zero_or_pos R1.length with h0' | h0'
      · rw [List.eq_nil_of_length_eq_zero h0']; simp
      obtain ⟨v, B0, e3, e4⟩ := head_rd (X ++ L1) L2 (R1 ++ (R2 ++ Z)) s (by simp; omega) (by intro e; subst e; simp at h0)
      obtain ⟨A0, u, e1, e2⟩ := last_rd (X ++ L1 ++ L2) R1 (R2 ++ Z) (mid + m - 1 - s) (by simp; omega) (by intro e; subst e; simp at h0')
      have t1 : rd_T40 (X ++ (L1 ++ L2 ++ (R1 ++ R2 ++ Z))) s = v := by simpa using e4
      have t2 : rd_T40 (X ++ (L1 ++ L2 ++ (R1 ++ R2 ++ Z))) (mid + m - 1 - s) = u := by simpa using e2
      have huv : kD u < kD v := by
        rcases s4 with s4 | s4
        · omega
        · rw [t1, t2] at s4; omega
      intro x hx y hy
      have f1 := le_all z1 (x := kD u) (fun A y' e => by rw [e1] at e; have := (List.append_inj' e rfl).2; injection this with this; subst this; exact Int.le_refl _) y hy
      have f2 := all_le y2 (x := kD v) (fun y' A e => by rw [e3] at e; injection e with e; subst e; exact Int.le_refl _) x hx
      omega
    have b1 : s ≤ mid := by omega
    have d1 : (L1.length : Int) = s - a := by omega
    have d2 : (R1.length : Int) = mid - s := by omega
    have d3 : (L2.length : Int) = m - s := by omega
    have d4 : (R2.length : Int) = b - m - (mid - s) := by omega
    have d5 : a < mid ∧ mid < b := by omega
    have d6 : (n : Int) = b - a := by omega
    have d7 : (X.length : Int) = a := ha
    have d8 : b + (Z.length : Int) < 2305843009213693952 := by omega
    have d9 : 0 ≤ a := by omega
    obtain ⟨M1, M2, m1, m2, m3, m4, m5⟩ : ∃ M1 M2, Srt kD M1 ∧ Srt kD M2 ∧ Eqv kD M1 (L1 ++ R1) ∧ Eqv kD M2 (L2 ++ R2) ∧ Ev (fun k => impl_Entry_59.j7 k (X ++ (L1 ++ (R1 ++ (L2 ++ (R2 ++ Z))))) a b mid s (mid + m - s)) (X ++ (M1 ++ (M2 ++ Z))) := by
      clear hcase s3 s4 s5 hmid hmid2 w1 w2 w3 w4 w5 hst hr0 s1 s2 cL cR hl1 hl2 hb hDl hbb hn hL1 hR1 hm k1 k2
      exact sym_j7 ih X L1 R1 L2 R2 Z (by omega) (by omega) y1 z1 z2 y2 (by omega) a b mid s (mid + m - s) (by omega) (by omega) (by omega) (by omega) (by omega)
    refine ⟨M1 ++ M2, srt_app.2 ⟨m1, m2, fun x hx y hy => ?_⟩, ?_, ?_⟩
    · rcases List.mem_append.1 ((m3.mem x).1 hx) with hx | hx <;> rcases List.mem_append.1 ((m4.mem y).1 hy) with hy | hy
      · exact y3 x hx y hy
      · exact k1 x hx y hy
      · exact Int.le_of_lt (k2 y hy x hx)
      · exact z3 x hx y hy
    · have e1 := Eqv.app m3 m4
      have e2 := Eqv.app (Eqv.refl (key := kD) L1) (Eqv.app (Eqv.swap (key := kD) (l := L2) (m := R1) k2).symm (Eqv.refl R2))
      simpa using e1.trans (by simpa using e2)
    · rw [ha, hm, hbb]
      refine Ev.step (fun k => by rw [impl_Entry_59.f]) ?_
      have w1' : wrap64 (m - a) = (L1.length + L2.length : Nat) := by rw [w_id] <;> omega
      have w2' : wrap64 (b - m) = (R1.length + R2.length : Nat) := by rw [w_id] <;> omega
      rw [w1', w2', hmid, hmid2, w3, w4]
      refine ev_neg (by omega) (ev_neg (by omega) ?_)
      have fin : Ev (fun k => impl_Entry_59.j4 k (X ++ (L1 ++ L2 ++ (R1 ++ R2 ++ Z))) a m b mid (mid + m) st r0) (X ++ (M1 ++ M2 ++ Z)) := by
        refine Ev.step (fun k => by rw [impl_Entry_59.j4]) ?_
        rw [w5]
        refine s5 _ ?_
        have w6 : wrap64 (mid + m - s) = mid + m - s := by rw [w_id] <;> omega
        rw [w6]
        have m5' : Ev (fun k => impl_Entry_59.j7 k (X ++ (L1 ++ (R1 ++ (L2 ++ (R2 ++ Z))))) a b mid s (mid + m - s)) (X ++ (M1 ++ M2 ++ Z)) := by simpa using m5
        by_cases hrot : 1 ≤ L2.length ∧ 1 ≤ R1.length
        · refine ev_pos (by omega) ?_
          rw [show decide (m < mid + m - s) = true by rw [decide_eq_true_eq]; omega]
          refine Ev.step (fun k => by rw [impl_Entry_59.j6]) ?_
          refine ev_pos rfl (Ev.bind (a := X ++ (L1 ++ (R1 ++ (L2 ++ (R2 ++ Z))))) ?_ m5')
          have := rot_f (X ++ L1) L2 R1 (R2 ++ Z) hrot.1 hrot.2 (by simp; omega) s m (mid + m - s) (by simp; omega) (by simp; omega) (by simp; omega)
          simpa using this
        · have same : X ++ (L1 ++ L2 ++ (R1 ++ R2 ++ Z)) = X ++ (L1 ++ (R1 ++ (L2 ++ (R2 ++ Z)))) := by
            rcases Nat.eq_zero_or_pos L2.length with h0 | h0
            · rw [List.eq_nil_of_length_eq_zero h0]; simp
            · rw [List.eq_nil_of_length_eq_zero (l := R1) (by omega)]; simp
          have j6f : Ev (fun k => impl_Entry_59.j6 k (X ++ (L1 ++ L2 ++ (R1 ++ R2 ++ Z))) a m b mid s (mid + m - s) false) (X ++ (M1 ++ M2 ++ Z)) := by
            rw [same]
            refine Ev.step (fun k => by rw [impl_Entry_59.j6]) ?_
            exact ev_neg (by simp) m5'
          refine ev_ite (fun h => ?_) (fun _ => j6f)
          rw [show decide (m < mid + m - s) = false by rw [decide_eq_false_iff_not]; omega]
          exact j6f
      rcases hcase with ⟨c1, c2, c3⟩ | ⟨c1, c2, c3⟩
      · rw [c2, c3] at fin
        exact ev_pos (by omega) fin
      · rw [c2, c3] at fin
        exact ev_neg (by omega) fin
end Go.Proofs.Ytoiipfaagfhpoaa.EntrySort
