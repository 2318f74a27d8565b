/- The program's polynomial and the reference's through places: each is the one polynomial with the values that are told. Numbers and lists alone. -/
import Derived.Test.YtkommecfnfdapaaARanges
import Derived.Test.YtkommecfnfdapaaAPoly
import Derived.Test.YtkommecfnfdapaaAPx11
import Derived.Test.YtkommecfnfdapaaAPx15
import Derived.Test.YtkommecfnfdapaaAPx7
namespace Go.Proofs.Ytkommecfnfdapaa.Pure
open Go.RowKit Go.Proofs.Ytkommecfnfdapaa.P Go.Proofs.YtkommecfnfdapaaW.PrintWords Go.Proofs.YtkommecfnfdapaaW.PrintMore Go.Proofs.Ytkommecfnfdapaa.Tools Go.Proofs.Ytkommecfnfdapaa.Poly
theorem tmod_nn {a : Int} (h : 0 ≤ a) : Int.tmod a 251 = a % 251 := Int.tmod_eq_emod_of_nonneg h
theorem mod_rng (a : Int) : 0 ≤ a % 251 ∧ a % 251 ≤ 250 := ⟨Int.emod_nonneg _ (by decide), by have := Int.emod_lt_of_pos a (show (0 : Int) < 251 by decide); omega⟩
theorem mul_rng {a b : Int} {m n : Nat} (ha : 0 ≤ a ∧ a ≤ m) (hb : 0 ≤ b ∧ b ≤ n) : 0 ≤ a * b ∧ a * b ≤ ((m * n : Nat) : Int) := by
  refine ⟨Int.mul_nonneg ha.1 hb.1, ?_⟩
  have h := Int.mul_le_mul ha.2 hb.2 hb.1 (by omega)
  simpa using h
/-! ### Values -/
theorem hornerB_eq : ∀ (l : List Int) (x : Int), Rs l → 0 ≤ x → x ≤ 250 → hornerB l x = ev l x % 251
  | [], x, _, _, _ => by simp [hornerB, ev]
  | c :: l, x, h, h0, h1 => by
    obtain ⟨c1, c2⟩ := Rs.cons.1 h
    have ih := hornerB_eq l x c2 h0 h1
    have hm := mod_rng (ev l x)
    have hp := mul_rng (m := 250) (n := 250) hm ⟨h0, h1⟩
    show Int.tmod (wrap64 (wrap64 (hornerB l x * x) + c)) 251 = (c + x * ev l x) % 251
    rw [ih, w_id (x := ev l x % 251 * x) (by omega) (by omega), w_id (by omega) (by omega), tmod_nn (by omega)]
    rw [Int.add_comm c, Int.add_emod, Int.add_emod (x * ev l x), Int.mul_comm x, Int.mul_emod, Int.mul_emod (ev l x) x, Int.emod_emod_of_dvd _ (Int.dvd_refl 251)]
theorem polyS_l0 (x : Int) (h0 : 0 ≤ x) (h1 : x ≤ 250) (n : Nat) : ∀ (A B : List Int) (v : Int), A.length = n → Rs (A ++ B) → (A ++ B).length < 4000000 → v = ev B x % 251 → Ev (fun k => spec_polyAt.l0 k (A ++ B) x v ((A.length : Int) - 1)) (ev (A ++ B) x % 251) := by
  induction n with
  | zero =>
    intro A B v hn _ _ hv
    obtain rfl := List.length_eq_zero_iff.1 hn
    refine Ev.step (fun k => by rw [spec_polyAt.l0]) ?_
    exact ev_neg (by simp) (ev_some (by simpa using hv))
  | succ n ih =>
    intro A' B v hn hR hb hv
    have hne : A' ≠ [] := by rintro rfl; simp at hn
    obtain ⟨A, c, rfl⟩ : ∃ A c, A' = A ++ [c] := ⟨A'.dropLast, A'.getLast hne, (List.dropLast_concat_getLast hne).symm⟩
    have hnA : A.length = n := by simpa using hn
    simp only [List.append_assoc, List.singleton_append] at hR hb ⊢
    have hb' := hb
    simp only [List.length_append, List.length_cons] at hb'
    have hc := hR c (by simp)
    have hm := mod_rng (ev B x)
    have hp := mul_rng (m := 250) (n := 250) hm ⟨h0, h1⟩
    have e1 : (((A ++ [c]).length : Nat) : Int) - 1 = (A.length : Int) := by simp
    have r1 : rd (A ++ c :: B) (A.length : Int) = c := getD_app _ _ _ _ _ (by simp)
    refine Ev.step (fun k => by rw [spec_polyAt.l0]) ?_
    rw [e1, r1, w_id (x := (A.length : Int) - 1) (by omega) (by omega), hv, w_id (x := ev B x % 251 * x) (by omega) (by omega), w_id (by omega) (by omega), tmod_nn (by omega)]
    refine ev_pos (by omega) (ev_pos (by omega) (ev_pos (by simp; omega) ?_))
    refine ih A (c :: B) _ hnA hR hb ?_
    show _ = (c + x * ev B x) % 251
    rw [Int.add_comm c, Int.add_emod, Int.add_emod (x * ev B x), Int.mul_comm x, Int.mul_emod, Int.mul_emod (ev B x) x, Int.emod_emod_of_dvd _ (Int.dvd_refl 251)]
theorem polyS (l : List Int) (x : Int) (hR : Rs l) (h0 : 0 ≤ x) (h1 : x ≤ 250) (hb : l.length < 4000000) : Ev (fun k => spec_polyAt.f k l x) (ev l x % 251) := by
  unfold spec_polyAt.f
  rw [w_id (by omega) (by omega)]
  have := polyS_l0 x h0 h1 l.length l [] 0 rfl (by simpa using hR) (by simpa using hb) (by simp [ev])
  simpa using this
/-! ### Inverses -/
theorem invI_l0 (a : Int) (h0 : 1 ≤ a) (h1 : a ≤ 250) : ∀ (d : Nat) (i : Int), 1 ≤ i → i ≤ 250 → i + d = 250 → (∃ b : Int, i ≤ b ∧ b ≤ 250 ∧ b * a % 251 = 1) → ∃ b : Int, 1 ≤ b ∧ b ≤ 250 ∧ b * a % 251 = 1 ∧ Ev (fun k => impl_InverseOf.l0 k a i) b := by
  intro d
  induction d with
  | zero =>
    intro i hi1 hi2 hd ⟨b, q1, q2, q3⟩
    obtain rfl : i = b := by omega
    have hp := mul_rng (m := 250) (n := 250) (a := i) (b := a) ⟨by omega, by omega⟩ ⟨by omega, by omega⟩
    refine ⟨i, hi1, hi2, q3, Ev.step (fun k => by rw [impl_InverseOf.l0]) ?_⟩
    rw [w_id (by omega) (by omega), tmod_nn hp.1]
    exact ev_pos q3 (ev_some rfl)
  | succ d ih =>
    intro i hi1 hi2 hd ⟨b, q1, q2, q3⟩
    have hp := mul_rng (m := 250) (n := 250) (a := i) (b := a) ⟨by omega, by omega⟩ ⟨by omega, by omega⟩
    by_cases hi : i * a % 251 = 1
    · refine ⟨i, hi1, hi2, hi, Ev.step (fun k => by rw [impl_InverseOf.l0]) ?_⟩
      rw [w_id (by omega) (by omega), tmod_nn hp.1]
      exact ev_pos hi (ev_some rfl)
    · have hne : i ≠ b := by rintro rfl; exact hi q3
      obtain ⟨c, c1, c2, c3, c4⟩ := ih (i + 1) (by omega) (by omega) (by omega) ⟨b, by omega, q2, q3⟩
      refine ⟨c, c1, c2, c3, Ev.step (fun k => by rw [impl_InverseOf.l0]) ?_⟩
      rw [w_id (by omega) (by omega), tmod_nn hp.1, w_id (x := i + 1) (by omega) (by omega)]
      exact ev_neg hi c4
theorem has_inv (a : Int) (h0 : 1 ≤ a) (h1 : a ≤ 250) : ∃ b : Int, 1 ≤ b ∧ b ≤ 250 ∧ b * a % 251 = 1 := by
  obtain ⟨i, hi⟩ := inv_all ⟨a.toNat, by omega⟩ (by show a.toNat ≠ 0; omega)
  have hi' : a.toNat * i.val % 251 = 1 := hi
  have h7 : ((a.toNat * i.val % 251 : Nat) : Int) = 1 := by rw [hi']; rfl
  rw [Int.natCast_emod, Int.natCast_mul, Int.toNat_of_nonneg (by omega)] at h7
  have hlt := i.isLt
  refine ⟨(i.val : Int), ?_, by omega, by rw [Int.mul_comm]; exact h7⟩
  rcases Nat.eq_zero_or_pos i.val with h | h
  · rw [h] at h7; simp at h7
  · omega
theorem invI (a : Int) (h0 : 1 ≤ a) (h1 : a ≤ 250) : ∃ b : Int, 1 ≤ b ∧ b ≤ 250 ∧ b * a % 251 = 1 ∧ Ev (fun k => impl_InverseOf.f k a) b := by
  obtain ⟨b, q1, q2, q3⟩ := has_inv a h0 h1
  obtain ⟨c, c1, c2, c3, c4⟩ := invI_l0 a h0 h1 249 1 (by omega) (by omega) (by omega) ⟨b, q1, q2, q3⟩
  refine ⟨c, c1, c2, c3, ?_⟩
  unfold impl_InverseOf.f
  refine ev_neg (by omega) ?_
  rw [decide_eq_false (by omega)]
  exact Ev.step (fun k => by rw [impl_InverseOf.j0]) (ev_neg Bool.false_ne_true c4)
/-- The reference's: a power. -/
def powm (a : Nat) : Nat → Nat → Nat
  | v, 0 => v
  | v, n + 1 => powm a (v * a % 251) n
theorem pow_all : ∀ a : Fin 251, a.val ≠ 0 → powm a.val 1 249 * a.val % 251 = 1 ∧ powm a.val 1 249 < 251 := by decide +kernel
theorem invS_l0 (a : Nat) (ha : a ≤ 250) : ∀ (n : Nat) (v : Nat) (i : Int), v ≤ 250 → 0 ≤ i → i + n = 249 → Ev (fun k => spec_inverse.l0 k (a : Int) (v : Int) i) ((powm a v n : Nat) : Int) := by
  intro n
  induction n with
  | zero =>
    intro v i _ _ hi
    refine Ev.step (fun k => by rw [spec_inverse.l0]) ?_
    exact ev_neg (by omega) (ev_some rfl)
  | succ n ih =>
    intro v i hv h0 hi
    have hp : v * a ≤ 250 * 250 := Nat.mul_le_mul hv ha
    have e : (v : Int) * (a : Int) = ((v * a : Nat) : Int) := by simp
    refine Ev.step (fun k => by rw [spec_inverse.l0]) ?_
    rw [e, w_id (x := ((v * a : Nat) : Int)) (by omega) (by omega), tmod_nn (by omega), w_id (x := i + 1) (by omega) (by omega)]
    refine ev_pos (by omega) ?_
    have e2 : ((v * a : Nat) : Int) % 251 = ((v * a % 251 : Nat) : Int) := by simp
    rw [e2]
    exact ih (v * a % 251) (i + 1) (by have := Nat.mod_lt (v * a) (show 0 < 251 by decide); omega) (by omega) (by omega)
theorem invS (a : Int) (h0 : 1 ≤ a) (h1 : a ≤ 250) : ∃ b : Int, 0 ≤ b ∧ b ≤ 250 ∧ b * a % 251 = 1 ∧ Ev (fun k => spec_inverse.f k a) b := by
  obtain ⟨n, rfl⟩ := Int.eq_ofNat_of_zero_le (show 0 ≤ a by omega)
  obtain ⟨p1, p2⟩ := pow_all ⟨n, by omega⟩ (by show n ≠ 0; omega)
  have p1' : powm n 1 249 * n % 251 = 1 := p1
  have p2' : powm n 1 249 < 251 := p2
  refine ⟨((powm n 1 249 : Nat) : Int), by omega, by omega, ?_, ?_⟩
  · have h7 : ((powm n 1 249 * n % 251 : Nat) : Int) = 1 := by rw [p1']; rfl
    rw [Int.natCast_emod, Int.natCast_mul] at h7
    exact h7
  · unfold spec_inverse.f
    exact invS_l0 n (by omega) 249 1 0 (by omega) (by omega) (by omega)
end Go.Proofs.Ytkommecfnfdapaa.Pure
