/- FnByDay: for every code, ByDay of the drawn book is the reference's, its days don't fall, each entry is there as often as before, and ByDay of it is it. No condition. -/
import Derived.Test.YtoiipfaagfhpoaaBEntryByDay
import Derived.Test.YtoiipfaagfhpoaaBEntryDraw
import Derived.Test.YtoiipfaagfhpoaaBPx11
namespace Go.Proofs.Ytoiipfaagfhpoaa.Pure
open Go.RowKit Go.Proofs.Ytoiipfaagfhpoaa.P Go.Proofs.YtoiipfaagfhpoaaW.PrintWords Go.Proofs.Ytoiipfaagfhpoaa.Tools Go.Proofs.Ytoiipfaagfhpoaa.EntrySort Go.Proofs.Ytoiipfaagfhpoaa.Reader

/-! ### Equal books -/
theorem eqE_l0 (B : List S40) : ∀ A : List S40, A.length + B.length < 1000000 → Ev (fun k => laws_equalEntries.l0 k (A ++ B) (A ++ B) (A.length : Int)) true := by
  induction B with
  | nil =>
    intro A _
    refine Ev.step (fun k => by rw [laws_equalEntries.l0]) ?_
    exact ev_neg (by simp) (ev_some rfl)
  | cons e B ih =>
    intro A hb
    simp only [List.length_cons] at hb
    have w1 : wrap64 ((A.length : Int) + 1) = (((A ++ [e]).length : Nat) : Int) := by simp only [List.length_append, List.length_cons, List.length_nil]; rw [w_id] <;> omega
    refine Ev.step (fun k => by rw [laws_equalEntries.l0]) ?_
    rw [w1]
    refine ev_pos (by simp; omega) (ev_pos (by omega) (ev_pos (by simp; omega) (ev_neg (by simp) ?_)))
    have := ih (A ++ [e]) (by simp; omega)
    simpa using this
theorem eqE_same (l : List S40) (h : l.length < 1000000) : Ev (fun k => laws_equalEntries.f k l l) true := by
  unfold laws_equalEntries.f
  refine ev_pos rfl ?_
  have := eqE_l0 l [] (by simpa using h)
  simpa using this

theorem s_ext (a b : S40) : (a.f0 = b.f0 ∧ a.f1 = b.f1 ∧ a.f2 = b.f2 ∧ a.f3 = b.f3) ↔ a = b := by
  cases a; cases b; simp
instance decS (a b : S40) : Decidable (a = b) := decidable_of_iff _ (s_ext a b)

/-! ### MatchBooks of a book and its order by day: each entry finds one -/
/-- How many free places of b hold e. -/
def avail (e : S40) : List S40 → List Bool → Nat
  | x :: b, m :: ms => (if x = e ∧ m = false then 1 else 0) + avail e b ms
  | _, _ => 0
/-- A free place of e is found, and taken. -/
theorem find_l1 (b : List S40) (e : S40) (A : List S40) (C : List S40) (out : List Int) (hout : out.length < 1000000) (hA : A.length < 1000000) :
    ∀ (P : List S40) (Q : List S40) (mp mq : List Bool), b = P ++ Q → mp.length = P.length → mq.length = Q.length → P.length + Q.length < 1000000 → 1 ≤ avail e Q mq →
    ∃ mq' v, mq'.length = mq.length ∧ 0 ≤ v ∧ (∀ x, avail x Q mq' + (if x = e then 1 else 0) = avail x Q mq) ∧
      ∀ r, Ev (fun k => impl_MatchBooks.l0 k b (mp ++ mq') (out ++ [v]) C (C.length : Int) (((A.length + 1 : Nat) : Int))) r →
        Ev (fun k => impl_MatchBooks.l1 k b (mp ++ mq) out (-1) C (C.length : Int) (A.length : Int) b (b.length : Int) (P.length : Int) e.f0 e.f1 e.f2 e.f3) r := by
  intro P Q
  induction Q generalizing P with
  | nil =>
    intro mp mq _ _ hq _ h
    obtain rfl : mq = [] := List.eq_nil_of_length_eq_zero (by simpa using hq)
    simp [avail] at h
  | cons x Q ih =>
    intro mp mq hb hp hq hl h
    cases mq with
    | nil => simp at hq
    | cons m ms =>
      simp only [List.length_cons, Nat.succ.injEq] at hq hl
      have w1 : wrap64 ((P.length : Int) + 1) = (((P ++ [x]).length : Nat) : Int) := by simp only [List.length_append, List.length_cons, List.length_nil]; rw [w_id] <;> omega
      have wA : wrap64 ((A.length : Int) + 1) = ((A.length + 1 : Nat) : Int) := by rw [w_id] <;> omega
      have hbl : (b.length : Int) = ((P.length + Q.length + 1 : Nat) : Int) := by rw [hb]; simp; omega
      have r1 : rd_T40 b (P.length : Int) = x := by rw [hb]; exact rd_app _ _ _ _ (by simp)
      have r2 : rdOf false (mp ++ m :: ms) (P.length : Int) = m := by unfold rdOf; exact getD_app _ _ _ _ _ (by simp; omega)
      by_cases hit : x = e ∧ m = false
      · obtain ⟨rfl, rfl⟩ := hit
        refine ⟨true :: ms, (P.length : Int), by simp, by omega, fun y => ?_, fun r hr => ?_⟩
        · simp only [avail]
          by_cases hy : x = y
          · subst hy; simp; omega
          · rw [if_neg (by intro h; exact hy h.1), if_neg (by intro h; exact hy h.symm), if_neg (by intro h; exact hy h.1)]; omega
        · refine Ev.step (fun k => by rw [impl_MatchBooks.l1]) ?_
          rw [r1, r2, wA, set_app mp ms false true _ (by simp; omega)]
          refine ev_pos (by omega) (ev_pos (by omega) (ev_pos (by omega) (ev_pos (by simp; omega) (ev_neg (by simp) (ev_pos (by simp) (ev_pos (by omega) ?_))))))
          exact hr
      · have h' : 1 ≤ avail e Q ms := by
          simp only [avail, if_neg hit] at h; omega
        obtain ⟨mq', v, h1, h2, h3, h4⟩ := ih (P ++ [x]) (mp ++ [m]) ms (by rw [hb]; simp) (by simp; omega) hq (by simp; omega) h'
        refine ⟨m :: mq', v, by simp [h1], h2, fun y => ?_, fun r hr => ?_⟩
        · simp only [avail]
          have := h3 y
          omega
        · have := h4 r (by simpa using hr)
          refine Ev.step (fun k => by rw [impl_MatchBooks.l1]) ?_
          rw [r1, r2, w1]
          refine ev_pos (by omega) (ev_pos (by omega) (ev_pos (by omega) (ev_pos (by simp; omega) (ev_ite (fun _ => ?_) (fun hm => ev_neg ?_ ?_)))))
          · simpa using this
          · intro hx
            refine hit ⟨?_, by simpa using hm⟩
            simp at hx
            obtain ⟨a1, a2, a3, a4⟩ := hx
            cases x; cases e
            simp at a1 a2 a3 a4
            subst a1 a2 a3 a4
            rfl
          · simpa using this
/-- How often e stands in a list. -/
def cnt (e : S40) : List S40 → Nat
  | [] => 0
  | x :: l => (if x = e then 1 else 0) + cnt e l
theorem cnt_perm {e : S40} {l m : List S40} (h : l.Perm m) : cnt e l = cnt e m := by
  induction h with
  | nil => rfl
  | cons x _ ih => simp only [cnt, ih]
  | swap x y l => simp only [cnt]; omega
  | trans _ _ ih1 ih2 => exact ih1.trans ih2
theorem avail_all (e : S40) : ∀ b : List S40, avail e b (List.replicate b.length false) = cnt e b := by
  intro b
  induction b with
  | nil => rfl
  | cons x b ih =>
    simp only [List.length_cons, List.replicate_succ, avail, cnt, ih]
    simp
theorem match_l0 (b : List S40) (C : List S40) (hb : b.length < 1000000) (hC : C.length < 100000) : ∀ (R A : List S40) (m : List Bool) (out : List Int), C = A ++ R → m.length = b.length → out.length = A.length → (∀ v ∈ out, 0 ≤ v) → (∀ e, cnt e R ≤ avail e b m) →
    ∃ o : List Int, o.length = C.length ∧ (∀ v ∈ o, 0 ≤ v) ∧ Ev (fun k => impl_MatchBooks.l0 k b m out C (C.length : Int) (A.length : Int)) o := by
  intro R
  induction R with
  | nil =>
    intro A m out hc hm ho hv ha
    refine ⟨out, by rw [hc, ho]; simp, hv, ?_⟩
    refine Ev.step (fun k => by rw [impl_MatchBooks.l0]) ?_
    exact ev_neg (by rw [hc]; simp) (ev_some rfl)
  | cons e R ih =>
    intro A m out hc hm ho hv ha
    have hl : C.length = A.length + R.length + 1 := by rw [hc]; simp; omega
    have h1 : 1 ≤ avail e b m := by have := ha e; simp [cnt] at this; omega
    obtain ⟨m', v, q1, q2, q3, q4⟩ := find_l1 b e A C out (by omega) (by omega) [] b [] m rfl rfl hm (by simpa using hb) h1
    obtain ⟨o, o1, o2, o3⟩ := ih (A ++ [e]) m' (out ++ [v]) (by rw [hc]; simp) (by omega) (by simp; omega) (fun x hx => by
      rcases List.mem_append.1 hx with hx | hx
      · exact hv x hx
      · rw [List.mem_singleton.1 hx]; exact q2) (fun x => by
        have h2 := ha x
        have h3 := q3 x
        simp only [cnt] at h2
        by_cases hx : e = x
        · subst hx; simp at h2 h3; omega
        · rw [if_neg hx] at h2
          rw [if_neg (fun h => hx h.symm)] at h3
          omega)
    refine ⟨o, o1, o2, ?_⟩
    have h5 := q4 o (by simpa using o3)
    have r1 : rd_T40 C (A.length : Int) = e := by rw [hc]; exact rd_app _ _ _ _ (by simp)
    refine Ev.step (fun k => by rw [impl_MatchBooks.l0]) ?_
    rw [r1]
    refine ev_pos (by omega) (ev_pos (by omega) (ev_pos (by omega) ?_))
    simpa using h5
theorem only_l0 (a : List S40) (o : List Int) (ho : o.length < 1000000) (hv : ∀ v ∈ o, 0 ≤ v) : ∀ (R A : List Int), o = A ++ R → Ev (fun k => impl_OnlyIn.l0 k a [] o (o.length : Int) (A.length : Int)) [] := by
  intro R
  induction R with
  | nil =>
    intro A h
    refine Ev.step (fun k => by rw [impl_OnlyIn.l0]) ?_
    exact ev_neg (by rw [h]; simp) (ev_some rfl)
  | cons v R ih =>
    intro A h
    have hl : o.length = A.length + R.length + 1 := by rw [h]; simp; omega
    have w1 : wrap64 ((A.length : Int) + 1) = (((A ++ [v]).length : Nat) : Int) := by simp only [List.length_append, List.length_cons, List.length_nil]; rw [w_id] <;> omega
    have r1 : rd o (A.length : Int) = v := by rw [h]; unfold rd; exact getD_app _ _ _ _ _ (by simp)
    have := hv v (by rw [h]; simp)
    refine Ev.step (fun k => by rw [impl_OnlyIn.l0]) ?_
    rw [r1, w1]
    exact ev_pos (by omega) (ev_pos (by omega) (ev_pos (by omega) (ev_neg (by omega) (ih (A ++ [v]) (by rw [h]; simp)))))
theorem only_nil (a b : List S40) (ha : vEs a = true) (hb : vEs b = true) (hp : a.Perm b) : Ev (fun k => impl_OnlyIn.f k a b) [] := by
  have la : a.length ≤ 40 := by simp [vEs] at ha; exact ha.1
  have lb : b.length ≤ 40 := by simp [vEs] at hb; exact hb.1
  obtain ⟨o, o1, o2, o3⟩ := match_l0 b a (by omega) (by omega) a [] (List.replicate b.length false) [] rfl (by simp) rfl (by simp) (fun e => by rw [avail_all, cnt_perm hp]; exact Nat.le_refl _)
  unfold impl_OnlyIn.f impl_MatchBooks.f
  have h1 := impl_valid a
  have h2 := impl_valid b
  rw [ha] at h1
  rw [hb] at h2
  refine Ev.bind (a := o) (Ev.bind h1 (ev_pos rfl (Ev.bind h2 ?_))) ?_
  · refine Ev.step (fun k => by rw [impl_MatchBooks.j0]) ?_
    refine ev_neg (by simp) (ev_pos (by omega) (ev_pos (by omega) ?_))
    simpa using o3
  · have := only_l0 a o (by omega) o2 o [] rfl
    simpa using this

theorem draw_byDay {b : List Int} (l0 : List Int) (hc : Reader.Code b) (hn : spec_newReader.f l0 = some (b, 0)) : ∃ l, l.length ≤ 20 ∧ Ev (fun k => spec_DrawByDay.f k l0) l := by
  obtain ⟨l, p, h1, h2, h3, h4⟩ := anyEntries_ok hc (p := 0) (by omega) (by omega)
  refine ⟨l, h1, ?_⟩
  unfold spec_DrawByDay.f
  exact ev_bind0 hn (Ev.bind h4 (ev_some rfl))

theorem days_l0 (l M : List S40) (hM : IsByDay l M) (hl : l.length < 1000000) (fin : Ev (fun k => (impl_OnlyIn.f k l M).bind fun t339 => (if (t339.length : Int) = 0 then (if (M.length : Int) = (l.length : Int) then ((impl_ByDay.f k M).bind fun t342 => ((laws_equalEntries.f k t342 M).bind fun t345 => (some t345))) else (some false)) else (some false))) true) :
    ∀ (n : Nat) (i : Nat), M.length - i = n → 1 ≤ i → Ev (fun k => laws_FnByDay.l0 k l M (i : Int)) true := by
  have hml : M.length = l.length := hM.2.length
  intro n
  induction n with
  | zero =>
    intro i hn hi
    refine Ev.step (fun k => by rw [laws_FnByDay.l0]) ?_
    exact ev_neg (by omega) fin
  | succ n ih =>
    intro i hn hi
    have w1 : wrap64 ((i : Int) - 1) = ((i - 1 : Nat) : Int) := by rw [w_id] <;> omega
    have w2 : wrap64 ((i : Int) + 1) = ((i + 1 : Nat) : Int) := by rw [w_id] <;> omega
    obtain ⟨A, x, B, h1, h2⟩ := split_at M (i - 1) (by omega)
    cases B with
    | nil => rw [h1] at hn; simp at hn; omega
    | cons y B =>
      have r1 : rd_T40 M ((i - 1 : Nat) : Int) = x := by rw [h1]; exact rd_app _ _ _ _ (by simp; omega)
      have r2 : rd_T40 M (i : Int) = y := by
        rw [h1, show A ++ x :: y :: B = (A ++ [x]) ++ y :: B by simp]; exact rd_app _ _ _ _ (by simp; omega)
      have hxy : x.f0 ≤ y.f0 := by
        have := hM.1
        rw [h1] at this
        exact (srt_cons.1 (srt_app.1 this).2.1).1 y (by simp)
      refine Ev.step (fun k => by rw [laws_FnByDay.l0]) ?_
      rw [w1, w2, r1, r2]
      refine ev_pos (by omega) (ev_pos (by omega) (ev_pos (by omega) (ev_pos (by omega) (ev_neg (by omega) (ih (i + 1) (by omega) (by omega))))))

theorem FnByDay : laws_FnByDay.Pure := by
  intro l0 _ _ hw
  obtain ⟨b, hc, hn⟩ := newReader_ok l0 hw
  obtain ⟨l, hl, hd⟩ := draw_byDay l0 hc hn
  refine Ev.rounds ?_
  unfold laws_FnByDay.f
  refine ev_ite (fun _ => ev_some rfl) (fun _ => Ev.bind hd ?_)
  by_cases hv : vEs l = true
  · obtain ⟨M, hM, e1⟩ := impl_byDay l hv
    obtain ⟨M', hM', e2⟩ := spec_byDay_ev l hv
    obtain rfl := hM.uniq hM'
    have hml : M.length = l.length := hM.2.length
    have hvM : vEs M = true := by
      unfold vEs at hv ⊢
      rw [Bool.and_eq_true] at hv ⊢
      refine ⟨by rw [hml]; exact hv.1, ?_⟩
      rw [List.all_eq_true]
      intro x hx
      exact (List.all_eq_true.1 hv.2) x ((hM.2.mem x).1 hx)
    refine Ev.bind e1 (Ev.bind e2 (Ev.bind (eqE_same M (by omega)) (ev_pos rfl ?_)))
    refine Ev.step (fun k => by rw [laws_FnByDay.j0]) ?_
    refine ev_ite (fun _ => ?_) (fun _ => ?_)
    · exact Ev.bind e2 (Ev.bind (eqE_same M (by omega)) (ev_some rfl))
    · refine days_l0 l M hM (by omega) ?_ _ 1 rfl (by omega)
      obtain ⟨M2, hM2, e3⟩ := impl_byDay M hvM
      have : M2 = M := Eqv.eq hM2.1 hM.1 hM2.2
      subst this
      refine Ev.bind (only_nil l M2 hv hvM hM.2.perm.symm) (ev_pos (by simp) (ev_pos (by omega) (Ev.bind e3 (Ev.bind (eqE_same M2 (by omega)) (ev_some rfl)))))
  · have hv' : vEs l = false := by simpa using hv
    refine Ev.bind (impl_byDay_not l hv') (Ev.bind (spec_byDay_not l (by omega) hv') (Ev.bind (eqE_same [] (by simp)) (ev_pos rfl ?_)))
    refine Ev.step (fun k => by rw [laws_FnByDay.j0]) ?_
    exact ev_pos (by simp) (Ev.bind (spec_byDay_not l (by omega) hv') (Ev.bind (eqE_same [] (by simp)) (ev_some rfl)))
end Go.Proofs.Ytoiipfaagfhpoaa.Pure
