/- The reference's polynomial through places. Numbers and lists alone. -/
import Derived.Test.YtkommecfnfdapaaAPolyInterp
namespace Go.Proofs.Ytkommecfnfdapaa.Pure
open Go.RowKit Go.Proofs.Ytkommecfnfdapaa.P Go.Proofs.YtkommecfnfdapaaW.PrintWords Go.Proofs.YtkommecfnfdapaaW.PrintMore Go.Proofs.Ytkommecfnfdapaa.Tools Go.Proofs.Ytkommecfnfdapaa.Poly
theorem mm {a b : Int} {m n : Nat} (ha : 0 ≤ a ∧ a ≤ m) (hb : 0 ≤ b ∧ b ≤ n) (h : m * n ≤ 1000000) : wrap64 (a * b) = a * b ∧ 0 ≤ a * b ∧ a * b ≤ 1000000 := by
  have hp := mul_rng ha hb
  have : ((m * n : Nat) : Int) ≤ 1000000 := by omega
  exact ⟨w_id (by omega) (by omega), by omega, by omega⟩
theorem addmul {c p : Int} (hc : 0 ≤ c ∧ c ≤ 250) (hp : 0 ≤ p ∧ p ≤ 1000000) : Int.tmod (wrap64 (c + p)) 251 = (c + p) % 251 := by
  rw [w_id (by omega) (by omega), tmod_nn (by omega)]
theorem w251 {X : Int} (h : 0 ≤ X ∧ X ≤ 250) : wrap64 (251 - X) = 251 - X ∧ 0 ≤ 251 - X ∧ 251 - X ≤ (251 : Nat) := ⟨w_id (by omega) (by omega), by omega, by omega⟩
theorem z_add {b : Int} (h : 0 ≤ b ∧ b ≤ 250) : Int.tmod (wrap64 (0 + b)) 251 = b := by rw [Int.zero_add, w_id (by omega) (by omega), tmod_nn h.1]; omega
theorem times_l0 (X : Int) (hX : 0 ≤ X ∧ X ≤ 250) (B : List Int) : ∀ (A N1 : List Int) (t : Int), (A ++ B).length ≤ 1000 → Rs B → N1.length = A.length → 0 ≤ t ∧ t ≤ 250 →
    Ev (fun k => spec_times.l0 k (A ++ B) X (N1 ++ t :: List.replicate B.length 0) (A.length : Int)) (N1 ++ tp X t B) := by
  induction B with
  | nil =>
    intro A N1 t _ _ _ _
    refine Ev.step (fun k => by rw [spec_times.l0]) ?_
    exact ev_neg (by simp) (ev_some (by simp [tp]))
  | cons b B ih =>
    intro A N1 t hM hB h3 ht
    have hM' : A.length + (B.length + 1) ≤ 1000 := by simpa using hM
    obtain ⟨b1, b2⟩ := Rs.cons.1 hB
    have w1 : wrap64 ((A.length : Int) + 1) = ((A.length + 1 : Nat) : Int) := w_len (by omega)
    have q1 : (A.length : Int) < ((A ++ b :: B).length : Nat) := lt_mid rfl
    have q2 : ((A.length + 1 : Nat) : Int) < ((N1 ++ [t] ++ 0 :: List.replicate B.length (0 : Int)).length : Nat) := lt_mid (by simp [h3])
    have q3 : (A.length : Int) < ((N1 ++ [t] ++ 0 :: List.replicate B.length (0 : Int)).length : Nat) := by rw [List.append_assoc]; exact lt_mid h3
    have r1 : rd (A ++ b :: B) (A.length : Int) = b := getD_app _ _ _ _ _ (by simp)
    have e1 : N1 ++ t :: List.replicate (b :: B).length (0 : Int) = (N1 ++ [t]) ++ 0 :: List.replicate B.length 0 := by simp [List.replicate_succ]
    have r3 : rd ((N1 ++ [t]) ++ 0 :: List.replicate B.length (0 : Int)) ((A.length + 1 : Nat) : Int) = 0 := getD_app _ _ _ _ _ (by simp [h3])
    have s1 : ∀ v : Int, ((N1 ++ [t]) ++ 0 :: List.replicate B.length (0 : Int)).set (((A.length + 1 : Nat) : Int)).toNat v = N1 ++ t :: v :: List.replicate B.length 0 := fun v => by rw [set_app _ _ _ _ _ (by simp [h3])]; simp
    have r4 : ∀ v : Int, rd (N1 ++ t :: v :: List.replicate B.length (0 : Int)) (A.length : Int) = t := fun v => getD_app _ _ _ _ _ (by simp [h3])
    have s2 : ∀ u v : Int, (N1 ++ t :: v :: List.replicate B.length (0 : Int)).set ((A.length : Int)).toNat u = N1 ++ u :: v :: List.replicate B.length 0 := fun u v => set_app _ _ _ _ _ (by simp [h3])
    obtain ⟨v1, v2⟩ := w251 hX
    obtain ⟨p1, p2⟩ := mm (m := 250) (n := 251) b1 v2 (by decide)
    refine Ev.step (fun k => by rw [spec_times.l0]) ?_
    rw [w1, r1, e1, r3, s1, z_add b1]
    simp only [Option.bind_some, r4, s2]
    rw [v1, p1, addmul ht p2, Int.mul_comm b]
    refine ev_pos q1 (ev_pos (Int.natCast_nonneg _) (ev_pos q2 (ev_pos (Int.natCast_nonneg _) (ev_pos q3 ?_))))
    have := ih (A ++ [b]) (N1 ++ [(t + (251 - X) * b) % 251]) b (by simpa using hM) b2 (by simp [h3]) b1
    simpa [tp] using this
theorem times (X : Int) (hX : 0 ≤ X ∧ X ≤ 250) (l : List Int) (hl : Rs l) (hn : l.length ≤ 900) : Ev (fun k => spec_times.f k l X) (tp X 0 l) := by
  unfold spec_times.f
  rw [w_len (by omega)]
  refine ev_pos (Int.natCast_nonneg _) (ev_pos (le_d (by omega)) ?_)
  rw [Int.toNat_natCast]
  have := times_l0 X hX l [] [] 0 (by simpa using Nat.le_trans hn (by decide)) hl rfl (by decide)
  simpa [List.replicate_succ] using this
/-! ### The sum -/
theorem through_l2 (l : List S72) (at' : Int) (f : Int) (hf : 0 ≤ f ∧ f ≤ 250) (B : List Int) : ∀ (A C1 C2 : List Int), (A ++ B).length ≤ 1000 → Rs B → C1.length = A.length → C2.length = B.length → Rs C2 →
    ∀ r, Ev (fun k => spec_through.l0 k l (C1 ++ addc f C2 B) (wrap64 (at' + 1))) r → Ev (fun k => spec_through.l2 k l (C1 ++ C2) at' (A ++ B) f (A.length : Int)) r := by
  induction B with
  | nil =>
    intro A C1 C2 _ _ h1 h2 _ r hr
    obtain rfl : C2 = [] := List.length_eq_zero_iff.1 (by simpa using h2)
    refine Ev.step (fun k => by rw [spec_through.l2]) ?_
    exact ev_neg (by simp) (by simpa [addc] using hr)
  | cons b B ih =>
    intro A C1 C2 hM hB h1 h2 hC r hr
    have hM' : A.length + (B.length + 1) ≤ 1000 := by simpa using hM
    cases C2 with
    | nil => simp at h2
    | cons c C2 =>
      obtain ⟨b1, b2⟩ := Rs.cons.1 hB
      obtain ⟨c1, c2⟩ := Rs.cons.1 hC
      have w1 : wrap64 ((A.length : Int) + 1) = ((A.length + 1 : Nat) : Int) := w_len (by omega)
      have q1 : (A.length : Int) < ((A ++ b :: B).length : Nat) := lt_mid rfl
      have q2 : (A.length : Int) < ((C1 ++ c :: C2).length : Nat) := lt_mid h1
      have r1 : rd (A ++ b :: B) (A.length : Int) = b := getD_app _ _ _ _ _ (by simp)
      have r2 : rd (C1 ++ c :: C2) (A.length : Int) = c := getD_app _ _ _ _ _ (by simp [h1])
      have s3 : ∀ u : Int, (C1 ++ c :: C2).set ((A.length : Int)).toNat u = C1 ++ u :: C2 := fun u => set_app _ _ _ _ _ (by simp [h1])
      obtain ⟨p1, p2⟩ := mm (m := 250) (n := 250) hf b1 (by decide)
      refine Ev.step (fun k => by rw [spec_through.l2]) ?_
      rw [w1, r1, r2, s3, p1, addmul c1 p2]
      refine ev_pos q1 (ev_pos (Int.natCast_nonneg _) (ev_pos q2 ?_))
      have := ih (A ++ [b]) (C1 ++ [(c + f * b) % 251]) C2 (by simpa using hM) b2 (by simp [h1]) (by simpa using h2) c2 r (by simpa [addc] using hr)
      simpa using this
/-! ### Little laws of divisors -/
theorem d_three {A u v e : Int} (h1 : (251 : Int) ∣ A - u) (h2 : (251 : Int) ∣ u - v) (h3 : (251 : Int) ∣ v - e) : (251 : Int) ∣ A - e := by omega
theorem d_sub0 {A c d : Int} (h1 : (251 : Int) ∣ A - (c + d)) (h2 : (251 : Int) ∣ c) : (251 : Int) ∣ A - d := by omega
theorem d_last {A c Y inv D down : Int} (h1 : (251 : Int) ∣ A - (c + Y * inv % 251 * D)) (h2 : (251 : Int) ∣ c) (h3 : (251 : Int) ∣ D - down) (h4 : inv * down % 251 = 1) : (251 : Int) ∣ A - Y := by
  have a1 : (251 : Int) ∣ (Y * inv % 251 - Y * inv) * D := Int.dvd_mul_of_dvd_left (by omega)
  have a2 : (251 : Int) ∣ Y * inv * (D - down) := Int.dvd_mul_of_dvd_right h3
  have a3 : (251 : Int) ∣ Y * (inv * down - 1) := Int.dvd_mul_of_dvd_right (by omega)
  rw [Int.sub_mul] at a1
  rw [Int.mul_sub] at a2
  rw [Int.mul_sub, Int.mul_one, ← Int.mul_assoc] at a3
  generalize Y * inv % 251 * D = p at *
  generalize Y * inv * D = q at *
  generalize Y * inv * down = s at *
  omega
theorem len_step {a p : Nat} (h : a ≠ p) : a + (if a ≤ p then 1 else 0) + 1 = a + 1 + (if a + 1 ≤ p then 1 else 0) := by
  by_cases h1 : a ≤ p
  · rw [if_pos h1, if_pos (by omega)]
  · rw [if_neg h1, if_neg (by omega)]
/-! ### One place's row -/
/-- The row of numbers of a place: zero at every other place, 'down' at its own. -/
def RowAt (l : List S72) (x : S72) (row : List Int) (down : Int) : Prop := Rs row ∧ (1 ≤ down ∧ down ≤ 250) ∧ (251 : Int) ∣ ev row x.f0 - down ∧ ∀ y ∈ l, y.f0 ≠ x.f0 → (251 : Int) ∣ ev row y.f0
theorem ne_place {l : List S72} (hl : okSs l) {A B P Q : List S72} {x y : S72} (h : l = A ++ y :: B) (g : l = P ++ x :: Q) (hne : A.length ≠ P.length) : y.f0 ≠ x.f0 := by
  intro e
  have h1 : (l.map (·.f0))[A.length]? = some y.f0 := by rw [h]; simp
  have h2 : (l.map (·.f0))[P.length]? = some x.f0 := by rw [g]; simp
  have hA : A.length < (l.map (·.f0)).length := by rw [h]; simp
  have hP : P.length < (l.map (·.f0)).length := by rw [g]; simp
  rw [List.getElem?_eq_getElem hA] at h1
  rw [List.getElem?_eq_getElem hP] at h2
  have h3 : (l.map (·.f0))[A.length] = (l.map (·.f0))[P.length] := by
    have a := Option.some.inj h1
    have b := Option.some.inj h2
    rw [a, b, e]
  have hp := List.pairwise_iff_getElem.1 hl.2
  rcases Nat.lt_or_gt_of_ne hne with h4 | h4
  · exact hp _ _ hA hP h4 h3
  · exact hp _ _ hP hA h4 h3.symm
theorem down_ok {d X Y : Int} (hX : 0 ≤ X ∧ X ≤ 250) (hY : 0 ≤ Y ∧ Y ≤ 250) (hd : 1 ≤ d ∧ d ≤ 250) (hne : Y ≠ X) : ∃ e, Int.tmod (wrap64 (d * wrap64 (wrap64 (X - Y) + 251))) 251 = e ∧ (1 ≤ e ∧ e ≤ 250) ∧ (251 : Int) ∣ (X - Y) * d - e := by
  obtain ⟨u, hu⟩ : ∃ u, u = X - Y + 251 := ⟨_, rfl⟩
  have hu1 : 0 ≤ u ∧ u ≤ (501 : Nat) := by omega
  obtain ⟨p1, p2⟩ := mm (a := d) (b := u) (m := 250) (n := 501) (by omega) hu1 (by decide)
  have hw : wrap64 (wrap64 (X - Y) + 251) = u := by rw [w_id (x := X - Y) (by omega) (by omega), w_id (by omega) (by omega), hu]
  refine ⟨d * u % 251, by rw [hw, p1, tmod_nn p2.1], ?_, ?_⟩
  · have hm := mod_rng (d * u)
    have : d * u % 251 ≠ 0 := fun e => by
      have h1 := prime (Int.dvd_of_emod_eq_zero e) (by omega)
      omega
    exact ⟨one_le hm this, hm.2⟩
  · have e1 : (X - Y) * d = d * u - 251 * d := by rw [hu, Int.mul_add, Int.mul_comm d 251, Int.mul_comm d]; omega
    rw [e1]
    generalize d * u = w
    omega
theorem through_l1 (l : List S72) (hl : okSs l) (hn : l.length ≤ 800) (S : List Int) (x : S72) (P Q : List S72) (g : l = P ++ x :: Q) (B : List S72) : ∀ (A : List S72) (row : List Int) (down : Int), l = A ++ B → RowAt A x row down → row.length = A.length + (if A.length ≤ P.length then 1 else 0) →
    ∃ row' down', RowAt l x row' down' ∧ row'.length = l.length ∧ ∀ r, Ev (fun k => (spec_inverse.f k down').bind fun t => spec_through.l2 k l S (P.length : Int) row' (Int.tmod (wrap64 (x.f1 * t)) 251) 0) r → Ev (fun k => spec_through.l1 k l S (P.length : Int) row down (A.length : Int)) r := by
  have rx : rd_T72 l (P.length : Int) = x := by rw [g]; exact getD_app _ _ _ _ _ (by simp)
  have qx : (P.length : Int) < (l.length : Nat) := by rw [g]; exact lt_mid rfl
  have hx := hl.1 x (by rw [g]; simp)
  have hPl : P.length + 1 ≤ l.length := by rw [g]; simp
  induction B with
  | nil =>
    intro A row down h hr hlen
    rw [List.append_nil] at h
    subst h
    refine ⟨row, down, hr, by rw [hlen, if_neg (by omega)]; rfl, fun r hr' => Ev.step (fun k => by rw [spec_through.l1]) ?_⟩
    refine ev_neg (by omega) (ev_pos (Int.natCast_nonneg _) (ev_pos qx ?_))
    rw [rx]
    exact hr'
  | cons y B ih =>
    intro A row down h hr hlen
    have hM' : A.length + (B.length + 1) ≤ 800 := by rw [h] at hn; simpa using hn
    have hq : (A.length : Int) < (l.length : Nat) := by rw [h]; exact lt_mid rfl
    have w1 : wrap64 ((A.length : Int) + 1) = (((A ++ [y]).length : Nat) : Int) := by rw [w_len (by omega)]; simp
    have ry : rd_T72 l (A.length : Int) = y := by rw [h]; exact getD_app _ _ _ _ _ (by simp)
    have hy := hl.1 y (by rw [h]; simp)
    obtain ⟨r1, r2, r3, r4⟩ := hr
    by_cases he : A.length = P.length
    · obtain ⟨row', down', g1, g2, g3⟩ := ih (A ++ [y]) row down (by rw [h]; simp) ⟨r1, r2, r3, fun z hz hne => by
        rcases List.mem_append.1 hz with hz | hz
        · exact r4 z hz hne
        · obtain rfl := List.mem_singleton.1 hz
          rw [he, rx] at ry
          exact absurd (by rw [ry]) hne⟩ (by rw [hlen, if_pos (by omega), if_neg (by simp; omega)]; simp)
      refine ⟨row', down', g1, g2, fun r hr' => Ev.step (fun k => by rw [spec_through.l1]) ?_⟩
      refine ev_pos hq (ev_pos (by omega) ?_)
      rw [w1]
      exact g3 r hr'
    · have hne := ne_place hl h g he
      obtain ⟨e, e1, e2, e3⟩ := down_ok hx.1 hy.1 r2 hne
      have hev : ∀ z : Int, (251 : Int) ∣ ev (tp y.f0 0 row) z - (z - y.f0) * ev row z := fun z => by
        have := tp_ev y.f0 z 0 row
        rwa [Int.zero_add] at this
      have hrl : row.length ≤ 900 := by rw [hlen]; split <;> omega
      obtain ⟨row', down', g1, g2, g3⟩ := ih (A ++ [y]) (tp y.f0 0 row) e (by rw [h]; simp) ⟨tp_rs _ 0 row (by decide) r1, e2, by
          have h1 := hev x.f0
          have h2 : (251 : Int) ∣ (x.f0 - y.f0) * (ev row x.f0 - down) := Int.dvd_mul_of_dvd_right r3
          rw [Int.mul_sub] at h2
          exact d_three h1 h2 e3, fun z hz hzx => by
          rcases List.mem_append.1 hz with hz | hz
          · exact d_sub (hev z.f0) (Int.dvd_mul_of_dvd_right (r4 z hz hzx))
          · obtain rfl := List.mem_singleton.1 hz
            have := hev z.f0
            rw [Int.sub_self, Int.zero_mul] at this
            exact d_sub this (Int.dvd_zero _)⟩ (by rw [tp_len, hlen, List.length_append, List.length_singleton]; exact len_step he)
      refine ⟨row', down', g1, g2, fun r hr' => Ev.step (fun k => by rw [spec_through.l1]) ?_⟩
      refine ev_pos hq (ev_neg (by omega) (ev_pos (Int.natCast_nonneg _) ?_))
      rw [ry, rx, w1, e1]
      exact Ev.bind (times y.f0 hy.1 row r1 hrl) (ev_pos (Int.natCast_nonneg _) (ev_pos qx (g3 r hr')))
theorem through_l0 (l : List S72) (hl : okSs l) (hn : l.length ≤ 800) (Q : List S72) : ∀ (P : List S72) (S : List Int), l = P ++ Q → S.length = l.length → Rs S → (∀ x ∈ P, (251 : Int) ∣ ev S x.f0 - x.f1) → (∀ x ∈ Q, (251 : Int) ∣ ev S x.f0) →
    ∃ c, Ev (fun k => spec_through.l0 k l S (P.length : Int)) c ∧ Thru c l := by
  induction Q with
  | nil =>
    intro P S h hS hR h5 _
    refine ⟨S, Ev.step (fun k => by rw [spec_through.l0]) (ev_neg (by rw [h]; simp) (ev_some rfl)), hS, hR, ?_⟩
    intro x hx
    exact mod_of_dvd (h5 x (by rw [h] at hx; simpa using hx)) (hl.1 x hx).2
  | cons x Q ih =>
    intro P S h hS hR h5 h6
    have hx := hl.1 x (by rw [h]; simp)
    have hM' : P.length + (Q.length + 1) ≤ 800 := by rw [h] at hn; simpa using hn
    have qx : (P.length : Int) < (l.length : Nat) := by rw [h]; exact lt_mid rfl
    obtain ⟨row, down, ⟨r1, r2, r3, r4⟩, g2, g3⟩ := through_l1 l hl hn S x P Q h l [] [1] 1 rfl ⟨Rs.cons.2 ⟨by decide, Rs.nil⟩, by decide, by simp [ev], by simp⟩ (by simp)
    obtain ⟨inv, i1, i2, i3, hE⟩ := invS down r2.1 r2.2
    obtain ⟨p1, p2⟩ := mm (a := x.f1) (b := inv) (m := 250) (n := 250) hx.2 ⟨i1, i2⟩ (by decide)
    have hf := mod_rng (x.f1 * inv)
    have w1 : wrap64 ((P.length : Int) + 1) = (((P ++ [x]).length : Nat) : Int) := by rw [w_len (by omega)]; simp
    have hevA : ∀ y : Int, (251 : Int) ∣ ev (addc (x.f1 * inv % 251) S row) y - (ev S y + x.f1 * inv % 251 * ev row y) := fun y => addc_ev _ y S row (by rw [hS, g2])
    obtain ⟨c, hc, hT⟩ := ih (P ++ [x]) (addc (x.f1 * inv % 251) S row) (by rw [h]; simp) (by rw [addc_len, hS]) (addc_rs _ _ _ hR)
      (fun y hy => by
        rcases List.mem_append.1 hy with hy | hy
        · have hne : y.f0 ≠ x.f0 := by
            obtain ⟨A, B, rfl⟩ := List.append_of_mem hy
            exact ne_place hl (A := A) (B := B ++ x :: Q) (by rw [h]; simp) h (by simp)
          exact d_add' (hevA y.f0) (h5 y hy) (Int.dvd_mul_of_dvd_right (r4 y (by rw [h]; simp [hy]) hne))
        · obtain rfl := List.mem_singleton.1 hy
          exact d_last (hevA y.f0) (h6 y (by simp)) r3 i3)
      (fun y hy => by
        have hne : y.f0 ≠ x.f0 := by
          obtain ⟨A, B, rfl⟩ := List.append_of_mem hy
          exact ne_place hl (A := P ++ x :: A) (B := B) (by rw [h]; simp) h (by simp)
        exact d_sub (d_sub0 (hevA y.f0) (h6 y (by simp [hy]))) (Int.dvd_mul_of_dvd_right (r4 y (by rw [h]; simp [hy]) hne)))
    refine ⟨c, Ev.step (fun k => by rw [spec_through.l0]) (ev_pos qx ?_), hT⟩
    refine g3 c ?_
    refine Ev.bind hE ?_
    rw [p1, tmod_nn p2.1]
    have := through_l2 l (P.length : Int) (x.f1 * inv % 251) hf row [] [] S (by simp; omega) r1 rfl (by rw [hS, g2]) hR c (by rw [w1]; exact hc)
    simpa using this
theorem ev_zeros : ∀ (n : Nat) (x : Int), ev (List.replicate n 0) x = 0
  | 0, _ => rfl
  | n + 1, x => by simp [List.replicate_succ, ev, ev_zeros n x]
theorem polyS' (l : List S72) (hl : okSs l) (hn : l.length ≤ 800) : ∃ c, Ev (fun k => spec_through.f k l) c ∧ Thru c l := by
  obtain ⟨c, hc, hT⟩ := through_l0 l hl hn l [] (List.replicate l.length 0) rfl (by simp) (fun c hc => by rw [List.eq_of_mem_replicate hc]; decide) (by simp) (fun x _ => by rw [ev_zeros]; exact Int.dvd_zero _)
  refine ⟨c, ?_, hT⟩
  unfold spec_through.f
  rw [Int.toNat_natCast]
  exact ev_pos (Int.natCast_nonneg _) (ev_pos (by omega) hc)
end Go.Proofs.Ytkommecfnfdapaa.Pure
