/- Polynomials by rests of 251: there is one and only one through as many places as it has coefficients. Numbers and lists alone. -/
import Derived.Test.YtkommecfnfdapaaATools
namespace Go.Proofs.Ytkommecfnfdapaa.Poly
open Go.RowKit Go.Proofs.YtkommecfnfdapaaW.PrintWords Go.Proofs.Ytkommecfnfdapaa.Tools
/-- The value at x. -/
def ev : List Int → Int → Int
  | [], _ => 0
  | c :: cs, x => c + x * ev cs x
/-- Rests. -/
def Rs (l : List Int) : Prop := ∀ c ∈ l, 0 ≤ c ∧ c ≤ 250
theorem Rs.cons {c : Int} {l : List Int} : Rs (c :: l) ↔ (0 ≤ c ∧ c ≤ 250) ∧ Rs l := by simp [Rs]
theorem Rs.nil : Rs [] := by simp [Rs]
theorem Rs.app {l m : List Int} : Rs (l ++ m) ↔ Rs l ∧ Rs m := by
  simp only [Rs, List.mem_append]
  exact ⟨fun h => ⟨fun c hc => h c (.inl hc), fun c hc => h c (.inr hc)⟩, fun h c hc => hc.elim (h.1 c) (h.2 c)⟩

/-! ### 251 is a prime -/
theorem inv_all : ∀ a : Fin 251, a.val ≠ 0 → ∃ b : Fin 251, a.val * b.val % 251 = 1 := by decide +kernel
theorem emod_dvd {a b : Int} (h : a % 251 = b % 251) : (251 : Int) ∣ a - b := by omega
theorem prime {a b : Int} (h : (251 : Int) ∣ a * b) (ha : ¬ (251 : Int) ∣ a) : (251 : Int) ∣ b := by
  have h0 : 0 ≤ a % 251 := Int.emod_nonneg _ (by decide)
  have h1 : a % 251 < 251 := Int.emod_lt_of_pos _ (by decide)
  have h2 : a % 251 ≠ 0 := fun e => ha (Int.dvd_of_emod_eq_zero e)
  obtain ⟨i, hi⟩ := inv_all ⟨(a % 251).toNat, by omega⟩ (by show (a % 251).toNat ≠ 0; omega)
  have hi' : (a % 251).toNat * i.val % 251 = 1 := hi
  have e1 : ((a % 251).toNat : Int) = a % 251 := by omega
  have e2 : ((a % 251) * (i.val : Int)) % 251 = 1 := by
    rw [← e1]
    have h7 : (((a % 251).toNat * i.val % 251 : Nat) : Int) = 1 := by rw [hi']; rfl
    rw [Int.natCast_emod, Int.natCast_mul] at h7
    exact h7
  have e3 : (251 : Int) ∣ (a * b) * i.val := Int.dvd_mul_of_dvd_left h
  have e4 : (251 : Int) ∣ a * i.val - 1 := by
    have : (a * i.val) % 251 = 1 := by
      rw [Int.mul_emod] at e2 ⊢
      rw [Int.emod_emod_of_dvd a (Int.dvd_refl 251)] at e2
      exact e2
    omega
  have e5 : b = (a * b) * i.val - (a * i.val - 1) * b := by
    have : a * b * (i.val : Int) = a * i.val * b := by rw [Int.mul_assoc, Int.mul_comm b, ← Int.mul_assoc]
    rw [Int.sub_mul, Int.one_mul, this]
    omega
  rw [e5]
  exact Int.dvd_sub e3 (Int.dvd_mul_of_dvd_left e4)

/-! ### There is at most one -/
def quo : List Int → Int → List Int
  | [], _ => []
  | [_], _ => []
  | _ :: d :: cs, r => ev (d :: cs) r :: quo (d :: cs) r
theorem quo_len : ∀ (l : List Int) (r : Int), (quo l r).length = l.length - 1
  | [], _ => rfl
  | [_], _ => rfl
  | _ :: d :: cs, r => by simp [quo, quo_len (d :: cs) r]
theorem quo_ev : ∀ (l : List Int) (r x : Int), ev l x = ev l r + (x - r) * ev (quo l r) x
  | [], r, x => by simp [ev, quo]
  | [c], r, x => by simp [ev, quo]
  | c :: d :: cs, r, x => by
    have ih := quo_ev (d :: cs) r x
    rw [show ev (c :: d :: cs) x = c + x * ev (d :: cs) x from rfl, show ev (c :: d :: cs) r = c + r * ev (d :: cs) r from rfl, show ev (quo (c :: d :: cs) r) x = ev (d :: cs) r + x * ev (quo (d :: cs) r) x from rfl]
    obtain ⟨A, hA⟩ : ∃ A, ev (d :: cs) x = A := ⟨_, rfl⟩
    obtain ⟨B, hB⟩ : ∃ B, ev (d :: cs) r = B := ⟨_, rfl⟩
    obtain ⟨Q, hQ⟩ : ∃ Q, ev (quo (d :: cs) r) x = Q := ⟨_, rfl⟩
    rw [hA, hB, hQ] at ih
    rw [hA, hB, hQ, ih]
    rw [Int.mul_add, Int.mul_add, Int.sub_mul, Int.sub_mul, Int.sub_mul]
    have : x * (x * Q - r * Q) = x * (x * Q) - r * (x * Q) := by rw [Int.mul_sub]; congr 1; rw [← Int.mul_assoc, Int.mul_comm x r, Int.mul_assoc]
    rw [this]
    omega
theorem quo_dvd : ∀ (l : List Int) (r : Int), (251 : Int) ∣ ev l r → (∀ q ∈ quo l r, (251 : Int) ∣ q) → ∀ c ∈ l, (251 : Int) ∣ c
  | [], _, _, _ => by simp
  | [c], r, h, _ => by simpa [ev] using h
  | c :: d :: cs, r, h, hq => by
    have h1 : (251 : Int) ∣ ev (d :: cs) r := hq _ (by simp [quo])
    have h2 := quo_dvd (d :: cs) r h1 (fun q hq' => hq q (by simp [quo, hq']))
    intro x hx
    rcases List.mem_cons.1 hx with rfl | hx
    · have e : x = ev (x :: d :: cs) r - r * ev (d :: cs) r := by rw [show ev (x :: d :: cs) r = x + r * ev (d :: cs) r from rfl]; omega
      rw [e]
      exact Int.dvd_sub h (Int.dvd_mul_of_dvd_right h1)
    · exact h2 x hx
/-- Places: no two alike by 251. -/
def Apart (xs : List Int) : Prop := xs.Pairwise fun a b => ¬ (251 : Int) ∣ a - b
theorem zero_of : ∀ (n : Nat) (l xs : List Int), l.length = n → Apart xs → n ≤ xs.length → (∀ x ∈ xs, (251 : Int) ∣ ev l x) → ∀ c ∈ l, (251 : Int) ∣ c := by
  intro n
  induction n with
  | zero => intro l xs hl _ _ _ c hc; rw [List.length_eq_zero_iff.1 hl] at hc; simp at hc
  | succ n ih =>
    intro l xs hl ha hn hr
    cases xs with
    | nil => simp at hn
    | cons r xs =>
      obtain ⟨h1, h2⟩ := List.pairwise_cons.1 ha
      refine quo_dvd l r (hr r (by simp)) (ih (quo l r) xs (by rw [quo_len]; omega) h2 (by simpa using hn) fun x hx => ?_)
      have e1 := hr x (by simp [hx])
      rw [quo_ev l r x] at e1
      have e2 : (251 : Int) ∣ (x - r) * ev (quo l r) x := by
        have := Int.dvd_sub e1 (hr r (by simp))
        have e3 : ev l r + (x - r) * ev (quo l r) x - ev l r = (x - r) * ev (quo l r) x := by omega
        rwa [e3] at this
      refine prime e2 fun hd => h1 x hx ?_
      have : r - x = -(x - r) := by omega
      rw [this]
      exact Int.dvd_neg.2 hd
theorem ev_sub : ∀ (A B : List Int) (x : Int), A.length = B.length → ev (List.zipWith (· - ·) A B) x = ev A x - ev B x
  | [], [], _, _ => by simp [ev]
  | a :: A, b :: B, x, h => by
    have ih := ev_sub A B x (by simpa using h)
    simp only [List.zipWith_cons_cons, ev]
    rw [ih, Int.mul_sub]
    omega
theorem eq_of_dvd : ∀ {A B : List Int}, A.length = B.length → Rs A → Rs B → (∀ d ∈ List.zipWith (· - ·) A B, (251 : Int) ∣ d) → A = B
  | [], [], _, _, _, _ => rfl
  | a :: A, b :: B, h, ha, hb, hd => by
    obtain ⟨a1, a2⟩ := Rs.cons.1 ha
    obtain ⟨b1, b2⟩ := Rs.cons.1 hb
    have e : (251 : Int) ∣ a - b := hd _ (by simp)
    have : a = b := by omega
    rw [this, eq_of_dvd (by simpa using h) a2 b2 (fun d hd' => hd d (by simp [hd']))]
/-- At most one polynomial has given values at as many places as it has coefficients. -/
theorem unique {A B xs : List Int} (hl : A.length = B.length) (ha : Rs A) (hb : Rs B) (hx : Apart xs) (hn : A.length ≤ xs.length) (h : ∀ x ∈ xs, ev A x % 251 = ev B x % 251) : A = B := by
  refine eq_of_dvd hl ha hb (zero_of A.length _ xs (by simp [hl]) hx hn fun x hx' => ?_)
  rw [ev_sub _ _ _ hl]
  have := h x hx'
  omega
end Go.Proofs.Ytkommecfnfdapaa.Poly
