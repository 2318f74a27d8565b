/- FnSaldoAt: for every code, SaldoAt of the drawn book is the reference's; and of a valid book, on the last day it is SaldiOf's, before the first day 0, and it does not hang on the entries' order. No condition. -/
import Derived.Test.YtoiipfaagfhpoaaAEntryByDay
import Derived.Test.YtoiipfaagfhpoaaAEntryDraw
import Derived.Test.YtoiipfaagfhpoaaAPx13
namespace Go.Proofs.Ytoiipfaagfhpoaa.Pure
open Go.RowKit Go.Proofs.Ytoiipfaagfhpoaa.P Go.Proofs.YtoiipfaagfhpoaaW.PrintWords Go.Proofs.Ytoiipfaagfhpoaa.Tools Go.Proofs.Ytoiipfaagfhpoaa.EntrySort Go.Proofs.Ytoiipfaagfhpoaa.Reader

/-- What an entry brings to an account. -/
def chg (e : S40) (a : Int) : Int := if a = e.f2 then e.f3 else if a = e.f1 then -e.f3 else 0
def saldo (a d : Int) : List S40 → Int
  | [] => 0
  | e :: l => (if e.f0 ≤ d then chg e a else 0) + saldo a d l
theorem saldo_app (a d : Int) (l m : List S40) : saldo a d (l ++ m) = saldo a d l + saldo a d m := by
  induction l with
  | nil => simp [saldo]
  | cons e l ih => simp only [List.cons_append, saldo, ih]; omega
theorem saldo_perm {a d : Int} {l m : List S40} (h : l.Perm m) : saldo a d l = saldo a d m := by
  induction h with
  | nil => rfl
  | cons x _ ih => simp only [saldo, ih]
  | swap x y l => simp only [saldo]; omega
  | trans _ _ ih1 ih2 => exact ih1.trans ih2
theorem chg_bd {e : S40} (h : vE e = true) (a : Int) : -1000000 ≤ chg e a ∧ chg e a ≤ 1000000 := by
  simp [vE] at h
  unfold chg
  split
  · omega
  · split <;> omega
theorem change_f (e : S40) (h : vE e = true) (a : Int) : impl_changeOf.f e.f0 e.f1 e.f2 e.f3 a = some (chg e a) := by
  simp [vE] at h
  unfold impl_changeOf.f chg
  by_cases h1 : a = e.f2
  · simp [h1]
  · by_cases h2 : a = e.f1
    · rw [if_neg h1, if_pos h2, if_neg h1, if_pos h2, w_id] <;> omega
    · rw [if_neg h1, if_neg h2, if_neg h1, if_neg h2]
theorem all_cons {e : S40} {B : List S40} (h : (e :: B).all vE = true) : vE e = true ∧ B.all vE = true := by simpa using h

theorem impl_l0 (a d : Int) (B : List S40) : ∀ (A : List S40) (s : Int), B.all vE = true → A.length + B.length ≤ 40 → -1000000 * (A.length : Int) ≤ s → s ≤ 1000000 * (A.length : Int) →
    Ev (fun k => impl_SaldoAt.l0 k a d s (A ++ B) (((A ++ B).length : Nat) : Int) (A.length : Int)) (s + saldo a d B) := by
  induction B with
  | nil =>
    intro A s _ _ _ _
    refine Ev.step (fun k => by rw [impl_SaldoAt.l0]) ?_
    exact ev_neg (by simp) (ev_some (by simp [saldo]))
  | cons e B ih =>
    intro A s h hl h1 h2
    obtain ⟨he, hB⟩ := all_cons h
    simp only [List.length_cons] at hl
    have hc := chg_bd he a
    have w1 : wrap64 ((A.length : Int) + 1) = (((A ++ [e]).length : Nat) : Int) := by simp only [List.length_append, List.length_cons, List.length_nil]; rw [w_id] <;> omega
    refine Ev.step (fun k => by rw [impl_SaldoAt.l0]) ?_
    rw [rd_app A B e _ (by simp), w1]
    refine ev_pos (by simp; omega) (ev_pos (by omega) (ev_pos (by simp; omega) (ev_ite (fun hd => ?_) (fun hd => ?_))))
    · have w2 : wrap64 (s + chg e a) = s + chg e a := by rw [w_id] <;> omega
      have := ih (A ++ [e]) (s + chg e a) hB (by simp; omega) (by simp; omega) (by simp; omega)
      refine ev_bind0 (change_f e he a) ?_
      rw [w2]
      simp only [saldo, if_pos hd]
      rw [show s + (chg e a + saldo a d B) = s + chg e a + saldo a d B by omega]
      simpa using this
    · have := ih (A ++ [e]) s hB (by simp; omega) (by simp; omega) (by simp; omega)
      simp only [saldo, if_neg hd, Int.zero_add]
      simpa using this
theorem spec_l0' (a d : Int) (B : List S40) : ∀ (A : List S40) (s : Int), B.all vE = true → A.length + B.length ≤ 40 → -1000000 * (A.length : Int) ≤ s → s ≤ 1000000 * (A.length : Int) →
    Ev (fun k => spec_SaldoAt.l0 k (A ++ B) a d s (A.length : Int)) (s + saldo a d B) := by
  induction B with
  | nil =>
    intro A s _ _ _ _
    refine Ev.step (fun k => by rw [spec_SaldoAt.l0]) ?_
    exact ev_neg (by simp) (ev_some (by simp [saldo]))
  | cons e B ih =>
    intro A s h hl h1 h2
    obtain ⟨he, hB⟩ := all_cons h
    simp only [List.length_cons] at hl
    have hc := chg_bd he a
    have hv := he
    simp [vE] at hv
    have w1 : wrap64 ((A.length : Int) + 1) = (((A ++ [e]).length : Nat) : Int) := by simp only [List.length_append, List.length_cons, List.length_nil]; rw [w_id] <;> omega
    refine Ev.step (fun k => by rw [spec_SaldoAt.l0]) ?_
    rw [rd_app A B e _ (by simp), w1]
    refine ev_pos (by simp; omega) (ev_pos (by omega) ?_)
    by_cases hd : e.f0 > d
    · refine ev_pos hd ?_
      have := ih (A ++ [e]) s hB (by simp; omega) (by simp; omega) (by simp; omega)
      simp only [saldo, if_neg (show ¬ e.f0 ≤ d by omega), Int.zero_add]
      simpa using this
    · refine ev_neg hd ?_
      have hs : saldo a d (e :: B) = chg e a + saldo a d B := by simp only [saldo, if_pos (show e.f0 ≤ d by omega)]
      rw [hs, show s + (chg e a + saldo a d B) = s + chg e a + saldo a d B by omega]
      have := ih (A ++ [e]) (s + chg e a) hB (by simp; omega) (by simp; omega) (by simp; omega)
      by_cases g2 : e.f2 = a
      · have c1 : chg e a = e.f3 := by simp [chg, g2]
        refine ev_pos g2 (ev_neg (by omega) ?_)
        rw [w_id (x := s + e.f3) (by omega) (by omega), ← c1]
        simpa using this
      · by_cases g1 : e.f1 = a
        · have c1 : chg e a = -e.f3 := by unfold chg; rw [if_neg (by omega), if_pos g1.symm]
          refine ev_neg g2 (ev_pos g1 ?_)
          rw [w_id (x := s - e.f3) (by omega) (by omega), show s - e.f3 = s + chg e a by omega]
          simpa using this
        · have c1 : chg e a = 0 := by unfold chg; rw [if_neg (by omega), if_neg (by omega)]
          refine ev_neg g2 (ev_neg g1 ?_)
          rw [c1, Int.add_zero] at this
          rw [c1, Int.add_zero]
          simpa using this
def sal (l : List S40) (a d : Int) : Int := if vEs l = true ∧ 0 ≤ a ∧ a < 8 then saldo a d l else 0
theorem vEs_len {l : List S40} (h : vEs l = true) : l.length ≤ 40 ∧ l.all vE = true := by
  unfold vEs at h
  rw [Bool.and_eq_true] at h
  exact ⟨by simpa using h.1, h.2⟩
theorem impl_sal (l : List S40) (a d : Int) : Ev (fun k => impl_SaldoAt.f k l a d) (sal l a d) := by
  unfold impl_SaldoAt.f
  have j : ∀ c : Bool, (c = false → vEs l = true ∧ 0 ≤ a ∧ a < 8) → (c = true → ¬ (vEs l = true ∧ 0 ≤ a ∧ a < 8)) → Ev (fun k => impl_SaldoAt.j0 k l a d c) (sal l a d) := by
    intro c h0 h1
    refine Ev.step (fun k => by rw [impl_SaldoAt.j0]) ?_
    cases c with
    | true => exact ev_pos rfl (ev_some (by unfold sal; rw [if_neg (h1 rfl)]))
    | false =>
      have hh := h0 rfl
      have hl := vEs_len hh.1
      refine ev_neg (by simp) ?_
      have := impl_l0 a d l [] 0 hl.2 (by simpa using hl.1) (by simp) (by simp)
      unfold sal
      rw [if_pos hh]
      simpa using this
  refine Ev.bind (impl_valid l) ?_
  by_cases hv : vEs l = true
  · rw [hv]
    refine ev_pos rfl ?_
    by_cases ha : 0 ≤ a
    · by_cases ha' : a < 8
      · exact ev_bind0 (v := true) (by unfold impl_validAccount.f; rw [if_pos ha]; simp [ha']) (j false (fun _ => ⟨hv, ha, ha'⟩) (fun h => by cases h))
      · exact ev_bind0 (v := false) (by unfold impl_validAccount.f; rw [if_pos ha]; simp; omega) (j true (fun h => by cases h) (fun _ h => ha' h.2.2))
    · exact ev_bind0 (v := false) (by unfold impl_validAccount.f; rw [if_neg (by omega)]) (j true (fun h => by cases h) (fun _ h => ha h.2.1))
  · exact ev_neg (by simpa using hv) (j true (fun h => by cases h) (fun _ h => hv h.1))
theorem spec_sal (l : List S40) (hlen : l.length < 1000000) (a d : Int) : Ev (fun k => spec_SaldoAt.f k l a d) (sal l a d) := by
  unfold spec_SaldoAt.f
  have j : ∀ c : Bool, (c = false → vEs l = true ∧ 0 ≤ a ∧ a < 8) → (c = true → ¬ (vEs l = true ∧ 0 ≤ a ∧ a < 8)) → Ev (fun k => spec_SaldoAt.j0 k l a d c) (sal l a d) := by
    intro c h0 h1
    refine Ev.step (fun k => by rw [spec_SaldoAt.j0]) ?_
    cases c with
    | true => exact ev_pos rfl (ev_some (by unfold sal; rw [if_neg (h1 rfl)]))
    | false =>
      have hh := h0 rfl
      have hl := vEs_len hh.1
      refine ev_neg (by simp) ?_
      have := spec_l0' a d l [] 0 hl.2 (by simpa using hl.1) (by simp) (by simp)
      unfold sal
      rw [if_pos hh]
      simpa using this
  refine Ev.bind (spec_valid l (by omega)) ?_
  by_cases hv : vEs l = true
  · rw [hv]
    refine ev_pos rfl ?_
    by_cases ha : 0 ≤ a
    · by_cases ha' : a < 8
      · exact ev_bind0 (v := true) (by unfold spec_inRange.f; rw [if_pos ha]; simp; omega) (j false (fun _ => ⟨hv, ha, ha'⟩) (fun h => by cases h))
      · exact ev_bind0 (v := false) (by unfold spec_inRange.f; rw [if_pos ha]; simp; omega) (j true (fun h => by cases h) (fun _ h => ha' h.2.2))
    · exact ev_bind0 (v := false) (by unfold spec_inRange.f; rw [if_neg (by omega)]) (j true (fun h => by cases h) (fun _ h => ha h.2.1))
  · exact ev_neg (by simpa using hv) (j true (fun h => by cases h) (fun _ h => hv h.1))

/-! ### SaldiOf -/
theorem rd_set {x : List Int} {i : Nat} {v : Int} (j : Int) (hj : 0 ≤ j) (hl : j < x.length) : rd (x.set i v) j = if i = j.toNat then v else rd x j := by
  unfold rd
  rw [List.getD_eq_getElem?_getD, List.getElem?_set, List.getD_eq_getElem?_getD]
  by_cases h : i = j.toNat
  · rw [if_pos h, if_pos h, if_pos (by omega)]; rfl
  · rw [if_neg h, if_neg h]
theorem saldi_l0 (B : List S40) : ∀ (A : List S40) (x : List Int), B.all vE = true → A.length + B.length ≤ 40 → x.length = 8 → (∀ j : Int, 0 ≤ j → j < 8 → -1000000 * (A.length : Int) ≤ rd x j ∧ rd x j ≤ 1000000 * (A.length : Int)) →
    ∃ y, y.length = 8 ∧ (∀ j : Int, 0 ≤ j → j < 8 → rd y j = rd x j + saldo j 999 B) ∧ Ev (fun k => impl_SaldiOf.l0 k x (A ++ B) (((A ++ B).length : Nat) : Int) (A.length : Int)) y := by
  induction B with
  | nil =>
    intro A x _ _ h8 _
    refine ⟨x, h8, fun j _ _ => by simp [saldo], ?_⟩
    refine Ev.step (fun k => by rw [impl_SaldiOf.l0]) ?_
    exact ev_neg (by simp) (ev_some rfl)
  | cons e B ih =>
    intro A x h hl h8 hx
    obtain ⟨he, hB⟩ := all_cons h
    have hv := he
    simp [vE] at hv
    simp only [List.length_cons] at hl
    have w1 : wrap64 ((A.length : Int) + 1) = (((A ++ [e]).length : Nat) : Int) := by simp only [List.length_append, List.length_cons, List.length_nil]; rw [w_id] <;> omega
    have b2 := hx e.f2 (by omega) (by omega)
    have b1 := hx e.f1 (by omega) (by omega)
    have w2 : wrap64 (rd x e.f2 + e.f3) = rd x e.f2 + e.f3 := by rw [w_id] <;> omega
    obtain ⟨y, hy⟩ : ∃ y, y = x.set (e.f2 : Int).toNat (rd x e.f2 + e.f3) := ⟨_, rfl⟩
    have y8 : y.length = 8 := by rw [hy]; simpa using h8
    have yr : ∀ j : Int, 0 ≤ j → j < 8 → rd y j = if e.f2 = j then rd x j + e.f3 else rd x j := by
      intro j h0 h1
      rw [hy, rd_set j h0 (by omega)]
      by_cases g : e.f2 = j
      · rw [if_pos (by omega), if_pos g, g]
      · rw [if_neg (by omega), if_neg g]
    have w3 : wrap64 (rd y e.f1 - e.f3) = rd x e.f1 - e.f3 := by
      rw [yr _ (by omega) (by omega), if_neg (by omega), w_id] <;> omega
    obtain ⟨z, hz⟩ : ∃ z, z = y.set (e.f1 : Int).toNat (rd x e.f1 - e.f3) := ⟨_, rfl⟩
    have z8 : z.length = 8 := by rw [hz]; simpa using y8
    have zr : ∀ j : Int, 0 ≤ j → j < 8 → rd z j = rd x j + chg e j := by
      intro j h0 h1
      rw [hz, rd_set j h0 (by omega), yr j h0 h1]
      unfold chg
      by_cases g1 : e.f1 = j
      · rw [if_pos (by omega), if_neg (by omega), if_pos g1.symm, g1]; omega
      · rw [if_neg (by omega)]
        by_cases g2 : e.f2 = j
        · rw [if_pos g2, if_pos g2.symm]
        · rw [if_neg g2, if_neg (by omega), if_neg (by omega)]; omega
    obtain ⟨r, r8, rr, re⟩ := ih (A ++ [e]) z hB (by simp; omega) z8 (fun j h0 h1 => by
      have c := chg_bd he j
      have := hx j h0 h1
      rw [zr j h0 h1]
      simp
      omega)
    refine ⟨r, r8, fun j h0 h1 => ?_, ?_⟩
    · rw [rr j h0 h1, zr j h0 h1]
      simp only [saldo, if_pos (show e.f0 ≤ 999 by omega)]
      omega
    · refine Ev.step (fun k => by rw [impl_SaldiOf.l0]) ?_
      rw [rd_app A B e _ (by simp), w1, w2]
      refine ev_pos (by simp; omega) (ev_pos (by omega) (ev_pos (by simp; omega) (ev_pos (by omega) (ev_pos (by omega) (ev_bind0 (v := y) (by rw [hy]) (ev_pos (by omega) (ev_pos (by omega) ?_)))))))
      rw [w3, ← hz]
      simpa using re
theorem saldi_f (l : List S40) (h : vEs l = true) : ∃ y, y.length = 8 ∧ (∀ j : Int, 0 ≤ j → j < 8 → rd y j = saldo j 999 l) ∧ Ev (fun k => impl_SaldiOf.f k l) y := by
  have hl := vEs_len h
  have h0 : ∀ j : Int, 0 ≤ j → j < 8 → rd (List.replicate 8 (0 : Int)) j = 0 := by
    intro j h0 h1
    unfold rd
    rw [List.getD_eq_getElem?_getD, List.getElem?_replicate]
    split <;> rfl
  obtain ⟨y, y8, yr, ye⟩ := saldi_l0 l [] (List.replicate 8 0) hl.2 (by simpa using hl.1) (by simp) (fun j h1 h2 => by rw [h0 j h1 h2]; simp)
  refine ⟨y, y8, fun j h1 h2 => by rw [yr j h1 h2, h0 j h1 h2]; omega, ?_⟩
  unfold impl_SaldiOf.f
  have hv := impl_valid l
  rw [h] at hv
  refine Ev.bind hv (ev_pos rfl (ev_pos (by omega) ?_))
  simpa using ye

theorem saldo_before {a : Int} {l : List S40} (h : l.all vE = true) : saldo a (-1) l = 0 := by
  induction l with
  | nil => rfl
  | cons e l ih =>
    obtain ⟨he, hB⟩ := all_cons h
    simp [vE] at he
    simp only [saldo, if_neg (show ¬ e.f0 ≤ -1 by omega), ih hB, Int.add_zero]
theorem vEs_perm {l m : List S40} (h : IsByDay l m) (hv : vEs l = true) : vEs m = true := by
  have hl := vEs_len hv
  unfold vEs
  rw [Bool.and_eq_true]
  refine ⟨by rw [h.2.length]; simpa using hl.1, ?_⟩
  rw [List.all_eq_true]
  intro x hx
  exact (List.all_eq_true.1 hl.2) x ((h.2.mem x).1 hx)

theorem draw_saldo {b : List Int} (l0 : List Int) (hc : Reader.Code b) (hn : spec_newReader.f l0 = some (b, 0)) : ∃ l a d, l.length ≤ 20 ∧ Ev (fun k => spec_DrawSaldoAt.f k l0) (l, a, d) := by
  obtain ⟨l, p, h1, h2, h3, h4⟩ := anyEntries_ok hc (p := 0) (by omega) (by omega)
  obtain ⟨v, _, e1⟩ := one_ok hc (p := p) (by omega) (by omega) ([0, 1, 2, 4, (-1), 8] : List Int) (by simp)
  obtain ⟨w, _, e2⟩ := one_ok hc (p := p + 1) (by omega) (by omega) ([3, 0, 5, 999, (-1), 2000] : List Int) (by simp)
  refine ⟨l, v, w, h1, ?_⟩
  unfold spec_DrawSaldoAt.f
  exact ev_bind0 hn (Ev.bind h4 (Ev.bind e1 (Ev.bind e2 (ev_some rfl))))

theorem FnSaldoAt : laws_FnSaldoAt.Pure := by
  intro l0 _ _ hw
  obtain ⟨b, hc, hn⟩ := newReader_ok l0 hw
  obtain ⟨l, a, d, hl, hd⟩ := draw_saldo l0 hc hn
  refine Ev.rounds ?_
  unfold laws_FnSaldoAt.f
  refine ev_ite (fun _ => ev_some rfl) (fun _ => ?_)
  refine Ev.bind hd (Ev.bind (impl_sal l a d) (Ev.bind (spec_sal l (by omega) a d) (ev_pos rfl (Ev.bind (impl_valid l) ?_))))
  have jt : Ev (fun k => laws_FnSaldoAt.j0 k l a d (sal l a d) true) true := by
    refine Ev.step (fun k => by rw [laws_FnSaldoAt.j0]) ?_
    exact ev_pos rfl (Ev.bind (spec_sal l (by omega) a d) (ev_some (by simp)))
  refine ev_ite (fun hv => ?_) (fun _ => jt)
  refine ev_ite (fun _ => jt) (fun ha0 => ?_)
  have ha : ¬ a < 0 := ha0
  by_cases ha8 : a ≥ 8
  · rw [show decide (a ≥ 8) = true by simpa using ha8]; exact jt
  · rw [show decide (a ≥ 8) = false by simpa using ha8]
    obtain ⟨y, y8, yr, ye⟩ := saldi_f l hv
    obtain ⟨M, hM, hMe⟩ := impl_byDay l hv
    refine Ev.step (fun k => by rw [laws_FnSaldoAt.j0]) ?_
    have s1 : sal l a 999 = rd y a := by unfold sal; rw [if_pos ⟨hv, by omega, by omega⟩, yr a (by omega) (by omega)]
    have s2 : sal l a (-1) = 0 := by
      unfold sal
      rw [if_pos ⟨hv, by omega, by omega⟩]
      exact saldo_before (vEs_len hv).2
    have s3 : sal M a d = sal l a d := by
      unfold sal
      rw [if_pos ⟨vEs_perm hM hv, by omega, by omega⟩, if_pos ⟨hv, by omega, by omega⟩]
      exact saldo_perm hM.2.perm
    refine ev_neg (by simp) (Ev.bind (impl_sal l a 999) (Ev.bind ye (ev_pos (show 0 ≤ a by omega) (ev_pos (show a < (y.length : Int) by omega) (ev_pos s1 (Ev.bind (impl_sal l a (-1)) (ev_pos s2 (Ev.bind hMe (Ev.bind (impl_sal M a d) (ev_some (by rw [s3]; simp)))))))))))
end Go.Proofs.Ytoiipfaagfhpoaa.Pure
