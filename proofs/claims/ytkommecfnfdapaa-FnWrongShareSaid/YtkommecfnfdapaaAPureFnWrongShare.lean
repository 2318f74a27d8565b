import Derived.Test.YtkommecfnfdapaaAPx17
import Derived.Test.YtkommecfnfdapaaADeal
namespace Go.Proofs.Ytkommecfnfdapaa.Pure
open Go.RowKit Go.Proofs.Ytkommecfnfdapaa.P Go.Proofs.YtkommecfnfdapaaW.PrintWords Go.Proofs.YtkommecfnfdapaaW.PrintMore Go.Proofs.YtkommecfnfdapaaW.PrintLast Go.Proofs.Ytkommecfnfdapaa.Tools Go.Proofs.Ytkommecfnfdapaa.Poly
theorem law_l0 (l : List S72) (hg : good l) (n : Nat) (h1 : 1 ≤ n) (h8 : n ≤ 8) (hn : n + 2 ≤ l.length) (hF : ¬ Fits l n) (P Q : List S72) (x : S72) (g : l = P ++ x :: Q) (f2 : Fits (P ++ Q) n) (B : List S72) : ∀ A : List S72, l = A ++ B → Ev (fun k => laws_FnWrongShare.l0 k l (n : Int) (P.length : Int) (A.length : Int)) true := by
  have h12 := hg.1
  induction B with
  | nil =>
    intro A h
    rw [List.append_nil] at h
    rw [← h]
    obtain ⟨b, e1, e2⟩ := fitI l hg n h1 h8 (by omega)
    obtain rfl : b = false := Bool.eq_false_iff.2 fun e => hF (e2.1 e)
    refine Ev.step (fun k => by rw [laws_FnWrongShare.l0]) ?_
    refine ev_neg (Int.lt_irrefl _) (Ev.bind e1 ?_)
    exact ev_some rfl
  | cons y B ih =>
    intro A h
    have hl : A.length + (B.length + 1) = l.length := by rw [h]; simp
    have hgd : good (A ++ B) := hg.sub (by rw [h]; exact (List.Sublist.refl A).append (List.sublist_cons_self y B))
    have w1 : wrap64 ((A.length : Int) + 1) = (((A ++ [y]).length : Nat) : Int) := by rw [w_len (by omega)]; simp
    have q1 : (A.length : Int) < (l.length : Nat) := by rw [h]; exact lt_mid rfl
    have d1 := (dropL (A := A) (B := B) (x := y) (by rw [← h]; omega)).1
    rw [← h] at d1
    obtain ⟨b, e1, e2⟩ := fitI (A ++ B) hgd n h1 h8 (by simp; omega)
    have hb : b = ((A.length : Int) == (P.length : Int)) := by
      rw [Bool.eq_iff_iff, beq_iff_eq, e2]
      constructor
      · intro f1
        refine Decidable.byContradiction fun hne => hF (fits_ne hg h g (fun e => hne (by rw [e])) hn f1 f2)
      · intro e
        have e' : A.length = P.length := by omega
        obtain ⟨i1, i2⟩ := List.append_inj (h.symm.trans g) e'
        simp only [List.cons.injEq] at i2
        rw [i1, i2.2]
        exact f2
    have := ih (A ++ [y]) (by rw [h]; simp)
    refine Ev.step (fun k => by rw [laws_FnWrongShare.l0]) ?_
    rw [w1]
    exact ev_pos q1 (ev_bind0 d1 (Ev.bind e1 (ev_neg (by rw [hb]; simp) this)))
theorem FnWrongShare : laws_FnWrongShare.Pure := by
  intro l0 hlen _ hwf
  obtain ⟨s, need, hg, hn, hd⟩ := draw_ok l0 hwf
  obtain ⟨r, e1, e2, e3⟩ := wrong s hg need hn
  have key : Ev (fun k => laws_FnWrongShare.f k l0) true := by
    unfold laws_FnWrongShare.f
    by_cases h : (l0.length : Int) > 1048576
    · exact ev_pos h (ev_some rfl)
    · refine ev_neg h (Ev.bind hd (Ev.bind e1 (Ev.bind e2 (ev_pos rfl ?_))))
      show Ev (fun k => laws_FnWrongShare.j0 k s need r (decide (r < 0))) true
      by_cases hr : r < 0
      · rw [decide_eq_true hr]
        exact Ev.step (fun k => by rw [laws_FnWrongShare.j0]) (ev_pos rfl (Ev.bind e2 (ev_some (beq_self_eq_true r))))
      · rw [decide_eq_false hr]
        rcases e3 with rfl | ⟨n, rfl, h1, h8, h2, hF, P, x, Q, g, rfl, hf⟩
        · omega
        · refine Ev.step (fun k => by rw [laws_FnWrongShare.j0]) (ev_neg Bool.false_ne_true ?_)
          exact law_l0 s hg n h1 h8 h2 hF P Q x g hf s [] rfl
  obtain ⟨k, hk⟩ := key
  exact ⟨k, hk k (Nat.le_refl k)⟩
end Go.Proofs.Ytkommecfnfdapaa.Pure
