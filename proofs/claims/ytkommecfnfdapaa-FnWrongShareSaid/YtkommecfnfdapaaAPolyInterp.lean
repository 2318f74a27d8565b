/- The program's polynomial and the reference's through places are one. Numbers and lists alone. -/
import Derived.Test.YtkommecfnfdapaaAPolyFun
namespace Go.Proofs.Ytkommecfnfdapaa.Pure
open Go.RowKit Go.Proofs.Ytkommecfnfdapaa.P Go.Proofs.YtkommecfnfdapaaW.PrintWords Go.Proofs.YtkommecfnfdapaaW.PrintMore Go.Proofs.Ytkommecfnfdapaa.Tools Go.Proofs.Ytkommecfnfdapaa.Poly
/-- Shares: places told as rests, no two alike; values told as rests. -/
def okS (x : S72) : Prop := (0 ≤ x.f0 ∧ x.f0 ≤ 250) ∧ (0 ≤ x.f1 ∧ x.f1 ≤ 250)
def okSs (l : List S72) : Prop := (∀ x ∈ l, okS x) ∧ (l.map (·.f0)).Nodup
theorem apart_of {l : List Int} (h : Rs l) (hd : l.Nodup) : Apart l := by
  refine List.Pairwise.imp_of_mem ?_ hd
  intro a b ha hb hne hdv
  have := h a ha
  have := h b hb
  omega
/-- A polynomial with the values. -/
def Thru (c : List Int) (l : List S72) : Prop := c.length = l.length ∧ Rs c ∧ ∀ x ∈ l, ev c x.f0 % 251 = x.f1
theorem Thru.uniq {c d : List Int} {l : List S72} (hl : okSs l) (h1 : Thru c l) (h2 : Thru d l) : c = d := by
  have hR : Rs (l.map (·.f0)) := fun c hc => by obtain ⟨x, hx, rfl⟩ := List.mem_map.1 hc; exact (hl.1 x hx).1
  refine unique (xs := l.map (·.f0)) (by rw [h1.1, h2.1]) h1.2.1 h2.2.1 (apart_of hR hl.2) (by simp [h1.1]) fun x hx => ?_
  obtain ⟨y, hy, rfl⟩ := List.mem_map.1 hx
  rw [h1.2.2 y hy, h2.2.2 y hy]
/-! ### x less a place, times -/
/-- What is at t, and behind it what (x - X) times the numbers S brings. -/
def tp (X : Int) : Int → List Int → List Int
  | t, [] => [t]
  | t, c :: S => ((t + (251 - X) * c) % 251) :: tp X c S
theorem tp_len (X : Int) : ∀ t S, (tp X t S).length = S.length + 1
  | _, [] => rfl
  | t, c :: S => by simp [tp, tp_len X c S]
theorem tp_rs (X : Int) : ∀ t S, 0 ≤ t ∧ t ≤ 250 → Rs S → Rs (tp X t S)
  | t, [], h, _ => by simp [tp, Rs]; exact h
  | t, c :: S, h, hS => by
    obtain ⟨c1, c2⟩ := Rs.cons.1 hS
    exact Rs.cons.2 ⟨mod_rng _, tp_rs X c S c1 c2⟩
theorem tp_ev (X x : Int) : ∀ t S, (251 : Int) ∣ ev (tp X t S) x - (t + (x - X) * ev S x)
  | t, [] => by simp [tp, ev]
  | t, c :: S => by
    have ih := tp_ev X x c S
    obtain ⟨E, hE⟩ : ∃ E, ev (tp X c S) x = E := ⟨_, rfl⟩
    obtain ⟨G, hG⟩ : ∃ G, ev S x = G := ⟨_, rfl⟩
    rw [hE, hG] at ih
    show (251 : Int) ∣ ((t + (251 - X) * c) % 251 + x * ev (tp X c S) x) - (t + (x - X) * (c + x * ev S x))
    rw [hE, hG]
    have h1 : (251 : Int) ∣ (t + (251 - X) * c) % 251 - (t + (251 - X) * c) := by omega
    have h2 : (251 : Int) ∣ x * (E - (c + (x - X) * G)) := Int.dvd_mul_of_dvd_right ih
    have h3 : (251 : Int) ∣ 251 * c := Int.dvd_mul_right _ _
    have e : ((t + (251 - X) * c) % 251 + x * E) - (t + (x - X) * (c + x * G)) = ((t + (251 - X) * c) % 251 - (t + (251 - X) * c)) + x * (E - (c + (x - X) * G)) + 251 * c := by
      have a1 : (x - X) * (c + x * G) = (x - X) * c + x * ((x - X) * G) := by rw [Int.mul_add, ← Int.mul_assoc, ← Int.mul_assoc, Int.mul_comm (x - X) x]
      have a2 : x * (E - (c + (x - X) * G)) = x * E - x * c - x * ((x - X) * G) := by rw [Int.mul_sub, Int.mul_add]; omega
      have a3 : (251 - X) * c = 251 * c - X * c := Int.sub_mul _ _ _
      have a4 : (x - X) * c = x * c - X * c := Int.sub_mul _ _ _
      rw [a1, a2, a4]
      omega
    rw [e]
    exact Int.dvd_add (Int.dvd_add h1 h2) h3
/-! ### The program's -/
/-- coefs' numbers, each with factor times base's added. -/
def addc (f : Int) : List Int → List Int → List Int
  | a :: A, b :: B => ((a + f * b) % 251) :: addc f A B
  | A, _ => A
theorem addc_len (f : Int) : ∀ A B : List Int, (addc f A B).length = A.length
  | [], [] => rfl
  | [], _ :: _ => rfl
  | _ :: _, [] => rfl
  | a :: A, b :: B => by simp [addc, addc_len f A B]
theorem addc_rs (f : Int) : ∀ A B : List Int, Rs A → Rs (addc f A B)
  | [], [], h => h
  | [], _ :: _, h => h
  | _ :: _, [], h => h
  | _ :: A, _ :: B, h => Rs.cons.2 ⟨mod_rng _, addc_rs f A B (Rs.cons.1 h).2⟩
theorem addc_ev (f x : Int) : ∀ A B : List Int, A.length = B.length → (251 : Int) ∣ ev (addc f A B) x - (ev A x + f * ev B x)
  | [], [], _ => by simp [addc, ev]
  | a :: A, b :: B, h => by
    have ih := addc_ev f x A B (by simpa using h)
    obtain ⟨E, hE⟩ : ∃ E, ev (addc f A B) x = E := ⟨_, rfl⟩
    obtain ⟨G, hG⟩ : ∃ G, ev A x = G := ⟨_, rfl⟩
    obtain ⟨K, hK⟩ : ∃ K, ev B x = K := ⟨_, rfl⟩
    rw [hE, hG, hK] at ih
    show (251 : Int) ∣ ((a + f * b) % 251 + x * ev (addc f A B) x) - ((a + x * ev A x) + f * (b + x * ev B x))
    rw [hE, hG, hK]
    have h1 : (251 : Int) ∣ (a + f * b) % 251 - (a + f * b) := by omega
    have h2 : (251 : Int) ∣ x * (E - (G + f * K)) := Int.dvd_mul_of_dvd_right ih
    have e : ((a + f * b) % 251 + x * E) - ((a + x * G) + f * (b + x * K)) = ((a + f * b) % 251 - (a + f * b)) + x * (E - (G + f * K)) := by
      have a1 : f * (b + x * K) = f * b + x * (f * K) := by rw [Int.mul_add, ← Int.mul_assoc, ← Int.mul_assoc, Int.mul_comm f x]
      have a2 : x * (E - (G + f * K)) = x * E - x * G - x * (f * K) := by rw [Int.mul_sub, Int.mul_add]; omega
      rw [a1, a2]
      omega
    rw [e]
    exact Int.dvd_add h1 h2
theorem lt_mid {α} {A B : List α} {b : α} {n : Nat} (h : A.length = n) : (n : Int) < ((A ++ b :: B).length : Nat) := by
  rw [List.length_append, List.length_cons]; omega
theorem poly_l1 (f : Int) (hf : 0 ≤ f ∧ f ≤ 250) (ls : List S72) (x19 x20 X Y : Int) (hX : 0 ≤ X ∧ X ≤ 250) (V : Int) (B : List Int) : ∀ (A C1 C2 N1 : List Int) (t : Int), V = ((A ++ B).length : Nat) → (A ++ B).length ≤ 1000 → Rs B → C1.length = A.length → C2.length = B.length → Rs C2 → N1.length = A.length → 0 ≤ t ∧ t ≤ 250 →
    ∀ r, Ev (fun k => impl_polyOf.l0 k (C1 ++ addc f C2 B) (N1 ++ tp X t B) ls x19 (wrap64 (x20 + 1))) r → Ev (fun k => impl_polyOf.l1 k (C1 ++ C2) f (N1 ++ t :: List.replicate B.length 0) ls x19 x20 (A ++ B) V (A.length : Int) X Y) r := by
  induction B with
  | nil =>
    intro A C1 C2 N1 t hV _ _ h1 h2 _ h3 _ r hr
    obtain rfl : C2 = [] := List.length_eq_zero_iff.1 (by simpa using h2)
    refine Ev.step (fun k => by rw [impl_polyOf.l1]) ?_
    exact ev_neg (by rw [hV]; simp) (by simpa [addc, tp] using hr)
  | cons b B ih =>
    intro A C1 C2 N1 t hV hM hB h1 h2 hC h3 ht r hr
    have hM' := hM
    simp only [List.length_append, List.length_cons] at hM'
    cases C2 with
    | nil => simp at h2
    | cons c C2 =>
      have h2' : C2.length = B.length := by simpa using h2
      have q0 : (A.length : Int) < V := hV ▸ lt_mid rfl
      have q1 : (0 : Int) ≤ A.length := Int.natCast_nonneg _
      have q2 : (A.length : Int) < ((A ++ b :: B).length : Nat) := lt_mid rfl
      have q3 : (A.length : Int) < ((C1 ++ c :: C2).length : Nat) := lt_mid h1
      have q4 : (0 : Int) ≤ ((A.length + 1 : Nat) : Int) := Int.natCast_nonneg _
      have q5 : ((A.length + 1 : Nat) : Int) < ((N1 ++ [t] ++ 0 :: List.replicate B.length (0 : Int)).length : Nat) := lt_mid (by simp [h3])
      have q6 : (A.length : Int) < ((N1 ++ [t] ++ 0 :: List.replicate B.length (0 : Int)).length : Nat) := by rw [List.append_assoc]; exact lt_mid h3
      obtain ⟨b1, b2⟩ := Rs.cons.1 hB
      obtain ⟨c1, c2⟩ := Rs.cons.1 hC
      have p1 := mul_rng (m := 250) (n := 250) hf b1
      have p2 := mul_rng (m := 251) (n := 250) (a := 251 - X) (b := b) ⟨by omega, by omega⟩ b1
      have w1 : wrap64 ((A.length : Int) + 1) = ((A.length + 1 : Nat) : Int) := by rw [w_id] <;> omega
      have r1 : rd (A ++ b :: B) (A.length : Int) = b := getD_app _ _ _ _ _ (by simp)
      have r2 : rd (C1 ++ c :: C2) (A.length : Int) = c := getD_app _ _ _ _ _ (by simp [h1])
      have e1 : N1 ++ t :: List.replicate (b :: B).length (0 : Int) = (N1 ++ [t]) ++ 0 :: List.replicate B.length 0 := by simp [List.replicate_succ]
      have r3 : rd ((N1 ++ [t]) ++ 0 :: List.replicate B.length (0 : Int)) ((A.length + 1 : Nat) : Int) = 0 := getD_app _ _ _ _ _ (by simp [h3])
      have s1 : ∀ v : Int, ((N1 ++ [t]) ++ 0 :: List.replicate B.length (0 : Int)).set (((A.length + 1 : Nat) : Int)).toNat v = N1 ++ t :: v :: List.replicate B.length 0 := fun v => by rw [set_app _ _ _ _ _ (by simp [h3])]; simp
      have r4 : ∀ v : Int, rd (N1 ++ t :: v :: List.replicate B.length (0 : Int)) (A.length : Int) = t := fun v => getD_app _ _ _ _ _ (by simp [h3])
      have s2 : ∀ u v : Int, (N1 ++ t :: v :: List.replicate B.length (0 : Int)).set ((A.length : Int)).toNat u = N1 ++ u :: v :: List.replicate B.length 0 := fun u v => set_app _ _ _ _ _ (by simp [h3])
      have s3 : ∀ u : Int, (C1 ++ c :: C2).set ((A.length : Int)).toNat u = C1 ++ u :: C2 := fun u => set_app _ _ _ _ _ (by simp [h1])
      have tb : Int.tmod (wrap64 (0 + b)) 251 = b := by rw [Int.zero_add, w_id (by omega) (by omega), tmod_nn b1.1, Int.emod_eq_of_lt b1.1 (by omega)]
      refine Ev.step (fun k => by rw [impl_polyOf.l1]) ?_
      rw [w1, r1, r2, e1, r3, s1, s3, tb]
      simp only [Option.bind_some, r4, s2]
      rw [w_id (x := f * b) (by omega) (by omega), w_id (x := c + f * b) (by omega) (by omega), tmod_nn (a := c + f * b) (by omega), w_id (x := 251 - X) (by omega) (by omega), w_id (x := (251 - X) * b) (by omega) (by omega), w_id (x := t + (251 - X) * b) (by omega) (by omega), tmod_nn (a := t + (251 - X) * b) (by omega)]
      refine ev_pos q0 (ev_pos q1 (ev_pos q2 (ev_pos q3 (ev_pos q4 (ev_pos q5 (ev_pos q6 ?_))))))
      have := ih (A ++ [b]) (C1 ++ [(c + f * b) % 251]) C2 (N1 ++ [(t + (251 - X) * b) % 251]) b (by simpa using hV) (by simpa using hM) b2 (by simp [h1]) (by simpa using h2) c2 (by simp [h3]) b1 r (by simpa [addc, tp] using hr)
      simpa using this
/-! ### Rests -/
theorem dvd_of_mod {a b : Int} (h : a % 251 = b) : (251 : Int) ∣ a - b := by omega
theorem mod_of_dvd {a b : Int} (h : (251 : Int) ∣ a - b) (hb : 0 ≤ b ∧ b ≤ 250) : a % 251 = b := by omega
theorem ev_zero_last : ∀ (C : List Int) (x : Int), ev (C ++ [0]) x = ev C x
  | [], x => by simp [ev]
  | c :: C, x => by simp [ev, ev_zero_last C x]
/-- Far from a place: x - X is no multiple. -/
theorem far {l : List S72} (hl : okSs l) {P Q : List S72} {x : S72} (h : l = P ++ x :: Q) : ∀ y ∈ Q, ¬ (251 : Int) ∣ y.f0 - x.f0 := by
  subst h
  intro y hy hd
  have h1 := (hl.1 x (by simp)).1
  have h2 := (hl.1 y (by simp [hy])).1
  have h3 : x.f0 = y.f0 := by omega
  have h4 := hl.2
  rw [List.map_append, List.map_cons] at h4
  have h5 := (List.nodup_append.1 h4).2.1
  rw [List.nodup_cons] at h5
  exact h5.1 (by rw [h3]; exact List.mem_map_of_mem hy)
/-- The factor makes the value at the new place right. -/
theorem factor_ok {Y C D inv : Int} (h : inv * (D % 251) % 251 = 1) : (251 : Int) ∣ C + ((Y - C % 251 + 251) * inv) % 251 * D - Y := by
  have h1 : (251 : Int) ∣ inv * D - 1 := by
    have : inv * D % 251 = 1 := by rw [Int.mul_emod, ← Int.emod_emod_of_dvd D (Int.dvd_refl 251), ← Int.mul_emod]; exact h
    omega
  have h2 : (251 : Int) ∣ (Y - C % 251 + 251) * (inv * D - 1) := Int.dvd_mul_of_dvd_right h1
  have h3 : (251 : Int) ∣ (((Y - C % 251 + 251) * inv) % 251 - (Y - C % 251 + 251) * inv) * D := Int.dvd_mul_of_dvd_left (by omega)
  have e : C + ((Y - C % 251 + 251) * inv) % 251 * D - Y = (((Y - C % 251 + 251) * inv) % 251 - (Y - C % 251 + 251) * inv) * D + (Y - C % 251 + 251) * (inv * D - 1) + (C - C % 251 + 251) := by
    have a1 : (Y - C % 251 + 251) * (inv * D - 1) = (Y - C % 251 + 251) * inv * D - (Y - C % 251 + 251) := by rw [Int.mul_sub, Int.mul_one, Int.mul_assoc]
    rw [a1, Int.sub_mul]
    omega
  rw [e]
  exact Int.dvd_add (Int.dvd_add h3 h2) (by omega)
theorem d_add {A c d y : Int} (h8 : (251 : Int) ∣ A - (c + d)) (h9 : (251 : Int) ∣ c + d - y) : (251 : Int) ∣ A - y := by omega
theorem d_add' {A c d y : Int} (h8 : (251 : Int) ∣ A - (c + d)) (h9 : (251 : Int) ∣ c - y) (h10 : (251 : Int) ∣ d) : (251 : Int) ∣ A - y := by omega
theorem d_sub {A d : Int} (h8 : (251 : Int) ∣ A - d) (h10 : (251 : Int) ∣ d) : (251 : Int) ∣ A := by omega
theorem d_sub' {A d : Int} (h8 : (251 : Int) ∣ A - d) (h10 : (251 : Int) ∣ A) : (251 : Int) ∣ d := by omega
theorem newF {Y E inv : Int} (hY : 0 ≤ Y ∧ Y ≤ 250) (hE : 0 ≤ E ∧ E ≤ 250) (hi : 0 ≤ inv ∧ inv ≤ 250) : Int.tmod (wrap64 (wrap64 (wrap64 (Y - E) + 251) * inv)) 251 = ((Y - E + 251) * inv) % 251 := by
  have hp := mul_rng (m := 501) (n := 250) (a := Y - E + 251) (b := inv) ⟨by omega, by omega⟩ hi
  rw [w_id (x := Y - E) (by omega) (by omega), w_id (x := Y - E + 251) (by omega) (by omega), w_id (x := (Y - E + 251) * inv) (by omega) (by omega), tmod_nn hp.1]
theorem w_len {n : Nat} (h : n ≤ 1000) : wrap64 ((n : Int) + 1) = ((n + 1 : Nat) : Int) := w_succ (by omega)
theorem le_a {p q : Nat} (h : p + (q + 1) ≤ 900) : p ≤ 900 := by omega
theorem le_b {p q : Nat} (h : p + (q + 1) ≤ 900) : p + 1 ≤ 1000 := by omega
theorem le_c {p q : Nat} (h : p + (q + 1) ≤ 900) : p < 17592186044416 := by omega
theorem le_d {p : Nat} (h : p ≤ 1000) : (((p + 1 : Nat) : Int)).toNat ≤ 35184372088832 := by omega
theorem one_le {a : Int} (h : 0 ≤ a ∧ a ≤ 250) (h1 : a ≠ 0) : 1 ≤ a := by omega
theorem poly_l0 (l : List S72) (hl : okSs l) (hn : l.length ≤ 900) (Q : List S72) : ∀ (P : List S72) (C D : List Int), l = P ++ Q → C.length = P.length → D.length = P.length + 1 → Rs C → Rs D → (∀ x ∈ P, (251 : Int) ∣ ev C x.f0 - x.f1) → (∀ x ∈ P, (251 : Int) ∣ ev D x.f0) → (∀ x ∈ Q, ¬ (251 : Int) ∣ ev D x.f0) →
    ∃ c, Ev (fun k => impl_polyOf.l0 k C D l (l.length : Int) (P.length : Int)) c ∧ Thru c l := by
  induction Q with
  | nil =>
    intro P C D h h1 _ hC _ h5 _ _
    refine ⟨C, Ev.step (fun k => by rw [impl_polyOf.l0]) (ev_neg (by rw [h]; simp) (ev_some rfl)), by rw [h, h1]; simp, hC, ?_⟩
    intro x hx
    exact mod_of_dvd (h5 x (by rw [h] at hx; simpa using hx)) (hl.1 x hx).2
  | cons x Q ih =>
    intro P C D h h1 h2 hC hD h5 h6 h7
    have hx := hl.1 x (by rw [h]; simp)
    have hn' : P.length + (Q.length + 1) ≤ 900 := by rw [h] at hn; simpa using hn
    have r1 : rd_T72 l (P.length : Int) = x := by rw [h]; exact getD_app _ _ _ _ _ (by simp)
    have q0 : (P.length : Int) < (l.length : Nat) := by rw [h]; exact lt_mid rfl
    have hd0 := mod_rng (ev D x.f0)
    have hd1 : ev D x.f0 % 251 ≠ 0 := fun e => h7 x (by simp) (Int.dvd_of_emod_eq_zero e)
    obtain ⟨inv, i1, i2, i3, hE⟩ := invI (ev D x.f0 % 251) (one_le hd0 hd1) hd0.2
    have hc0 := mod_rng (ev C x.f0)
    obtain ⟨F, hF⟩ : ∃ F, F = ((x.f1 - ev C x.f0 % 251 + 251) * inv) % 251 := ⟨_, rfl⟩
    have hFr : 0 ≤ F ∧ F ≤ 250 := hF ▸ mod_rng _
    have e1 : Int.tmod (wrap64 (wrap64 (wrap64 (x.f1 - ev C x.f0 % 251) + 251) * inv)) 251 = F := by
      rw [hF]; exact newF hx.2 hc0 ⟨Int.le_trans (by decide) i1, i2⟩
    have hP9 : P.length ≤ 900 := le_a hn'
    have hD9 : D.length ≤ 1000 := h2 ▸ le_b hn'
    have hC9 : C.length < 17592186044416 := h1 ▸ le_c hn'
    have e2 : wrap64 ((D.length : Int) + 1) = ((D.length + 1 : Nat) : Int) := w_len hD9
    have e3 : wrap64 ((P.length : Int) + 1) = ((P.length + 1 : Nat) : Int) := w_len (Nat.le_trans hP9 (by decide))
    have hlenA : (addc F (C ++ [0]) D).length = P.length + 1 := by rw [addc_len]; simp [h1]
    have hevA : ∀ y : Int, (251 : Int) ∣ ev (addc F (C ++ [0]) D) y - (ev C y + F * ev D y) := fun y => by
      have := addc_ev F y (C ++ [0]) D (by simp [h1, h2])
      rwa [ev_zero_last] at this
    have hevT : ∀ y : Int, (251 : Int) ∣ ev (tp x.f0 0 D) y - (y - x.f0) * ev D y := fun y => by
      have := tp_ev x.f0 y 0 D
      rwa [Int.zero_add] at this
    have hRC0 : Rs (C ++ [0]) := Rs.app.2 ⟨hC, Rs.cons.2 ⟨by decide, Rs.nil⟩⟩
    obtain ⟨c, hc, hT⟩ := ih (P ++ [x]) (addc F (C ++ [0]) D) (tp x.f0 0 D) (by rw [h]; simp) (by rw [hlenA]; simp) (by rw [tp_len]; simp [h2]) (addc_rs F _ _ hRC0) (tp_rs _ 0 D (by decide) hD)
      (fun y hy => by
        have h8 := hevA y.f0
        rcases List.mem_append.1 hy with hy | hy
        · exact d_add' h8 (h5 y hy) (Int.dvd_mul_of_dvd_right (h6 y hy))
        · obtain rfl := List.mem_singleton.1 hy
          have h9 := factor_ok (Y := y.f1) (C := ev C y.f0) (D := ev D y.f0) i3
          rw [← hF] at h9
          exact d_add h8 h9)
      (fun y hy => by
        have h8 := hevT y.f0
        rcases List.mem_append.1 hy with hy | hy
        · exact d_sub h8 (Int.dvd_mul_of_dvd_right (h6 y hy))
        · obtain rfl := List.mem_singleton.1 hy
          rw [Int.sub_self, Int.zero_mul] at h8
          exact d_sub h8 (Int.dvd_zero _))
      (fun y hy hd => h7 y (by simp [hy]) (prime (d_sub' (hevT y.f0) hd) (far hl h y hy)))
    have hlen : (((P ++ [x]).length : Nat) : Int) = ((P.length + 1 : Nat) : Int) := by simp
    rw [hlen] at hc
    refine ⟨c, Ev.step (fun k => by rw [impl_polyOf.l0]) ?_, hT⟩
    rw [r1, hornerB_eq C x.f0 hC hx.1.1 hx.1.2, hornerB_eq D x.f0 hD hx.1.1 hx.1.2, e2]
    refine ev_pos q0 (ev_pos (Int.natCast_nonneg _) (ev_pos q0 ?_))
    simp only [Option.bind_some]
    refine Ev.bind hE ?_
    rw [e1]
    refine ev_pos hC9 (ev_pos (Int.natCast_nonneg _) (ev_pos (le_d hD9) ?_))
    have hlast := poly_l1 F hFr l (l.length : Int) (P.length : Int) x.f0 x.f1 hx.1 (D.length : Int) D [] [] (C ++ [0]) [] 0 (by simp) (by simpa using hD9) hD rfl (by simp [h1, h2]) hRC0 rfl (by decide) c (by rw [e3]; exact hc)
    have e4 : (((D.length + 1 : Nat) : Int)).toNat = D.length + 1 := Int.toNat_natCast _
    rw [e4]
    simpa [List.replicate_succ] using hlast
theorem polyI (l : List S72) (hl : okSs l) (hn : l.length ≤ 900) : ∃ c, Ev (fun k => impl_polyOf.f k l) c ∧ Thru c l :=
  poly_l0 l hl hn l [] [] [1] rfl rfl rfl Rs.nil (Rs.cons.2 ⟨by decide, Rs.nil⟩) (by simp) (by simp) (by intro x _ h; simp [ev] at h)
end Go.Proofs.Ytkommecfnfdapaa.Pure
