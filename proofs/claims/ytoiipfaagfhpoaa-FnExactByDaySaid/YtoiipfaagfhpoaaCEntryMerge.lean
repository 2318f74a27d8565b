/- The library's stable merge (symMerge), rotate and swapRange, at entries by their days; and from them the whole stable sort of at most 40 entries. Numbers and lists alone. -/
import Derived.Test.YtoiipfaagfhpoaaCEntrySort
namespace Go.Proofs.Ytoiipfaagfhpoaa.EntrySort
open Go.RowKit Go.Proofs.Ytoiipfaagfhpoaa.P Go.Proofs.YtoiipfaagfhpoaaW.PrintWords Go.Proofs.Ytoiipfaagfhpoaa.Tools

theorem mid_w {x y : Int} (hx : 0 ≤ x) (hy : 0 ≤ y) (hx1 : x < 4611686018427387904) (hy1 : y < 4611686018427387904) : wrap64 (IntKind.u64.wrap (wrap64 (x + y)) / 2) = (x + y) / 2 := by
  rw [w_id (x := x + y) (by omega) (by omega), IntKind.wrap_u64, Int.emod_eq_of_lt (by omega) (by omega), w_id] <;> omega

/-! ### swapRange -/
theorem swr_l0 (X Y Z : List S40) : ∀ (U2 V2 U1 V1 : List S40), U1.length = V1.length → U2.length = V2.length → X.length + U1.length + U2.length + Y.length + V1.length + V2.length + Z.length < 4611686018427387904 →
    Ev (fun k => impl_Entry_68.l0 k (X ++ (V1 ++ (U2 ++ (Y ++ (U1 ++ (V2 ++ Z)))))) (X.length : Int) ((X.length + U1.length + U2.length + Y.length : Nat) : Int) ((U1.length + U2.length : Nat) : Int) (U1.length : Int)) (X ++ (V1 ++ (V2 ++ (Y ++ (U1 ++ (U2 ++ Z)))))) := by
  intro U2
  induction U2 with
  | nil =>
    intro V2 U1 V1 h1 h2 hb
    obtain rfl : V2 = [] := List.eq_nil_of_length_eq_zero (by simpa using h2.symm)
    exact Ev.step (fun k => by rw [impl_Entry_68.l0]) (ev_neg (by simp) (ev_some rfl))
  | cons u U2 ih =>
    intro V2 U1 V1 h1 h2 hb
    cases V2 with
    | nil => simp at h2
    | cons v V2 =>
      simp only [List.length_cons] at h2 hb
      have i1 : wrap64 (((X.length + U1.length + (u :: U2).length + Y.length : Nat) : Int) + (U1.length : Int)) = ((X.length + U1.length + U2.length + 1 + Y.length + U1.length : Nat) : Int) := by simp only [List.length_cons]; rw [w_id] <;> omega
      have i2 : wrap64 ((X.length : Int) + (U1.length : Int)) = ((X.length + U1.length : Nat) : Int) := by rw [w_id] <;> omega
      have r1 : rd_T40 (X ++ (V1 ++ (u :: U2 ++ (Y ++ (U1 ++ (v :: V2 ++ Z)))))) ((X.length + U1.length + U2.length + 1 + Y.length + U1.length : Nat) : Int) = v := by
        rw [show X ++ (V1 ++ (u :: U2 ++ (Y ++ (U1 ++ (v :: V2 ++ Z))))) = (X ++ (V1 ++ (u :: U2 ++ (Y ++ U1)))) ++ v :: (V2 ++ Z) by simp]
        exact rd_app _ _ _ _ (by simp; omega)
      have r2 : rd_T40 (X ++ (V1 ++ (u :: U2 ++ (Y ++ (U1 ++ (v :: V2 ++ Z)))))) ((X.length + U1.length : Nat) : Int) = u := by
        rw [show X ++ (V1 ++ (u :: U2 ++ (Y ++ (U1 ++ (v :: V2 ++ Z))))) = (X ++ V1) ++ u :: (U2 ++ (Y ++ (U1 ++ (v :: V2 ++ Z)))) by simp]
        exact rd_app _ _ _ _ (by simp; omega)
      refine Ev.step (fun k => by rw [impl_Entry_68.l0]) ?_
      rw [i1, i2, r1, r2]
      refine ev_pos (by simp only [List.length_cons]; omega) (ev_pos (by omega) (ev_pos (by simp; omega) (ev_pos (by omega) (ev_pos (by simp; omega) ?_))))
      have s1 : ((X ++ (V1 ++ (u :: U2 ++ (Y ++ (U1 ++ (v :: V2 ++ Z)))))).set (((X.length + U1.length : Nat) : Int)).toNat v).set (((X.length + U1.length + U2.length + 1 + Y.length + U1.length : Nat) : Int)).toNat u = X ++ ((V1 ++ [v]) ++ (U2 ++ (Y ++ ((U1 ++ [u]) ++ (V2 ++ Z))))) := by
        rw [show X ++ (V1 ++ (u :: U2 ++ (Y ++ (U1 ++ (v :: V2 ++ Z))))) = (X ++ V1) ++ u :: (U2 ++ (Y ++ (U1 ++ (v :: V2 ++ Z)))) by simp, set_app _ _ _ _ _ (by simp; omega)]
        rw [show X ++ V1 ++ v :: (U2 ++ (Y ++ (U1 ++ (v :: V2 ++ Z)))) = (X ++ (V1 ++ (v :: U2 ++ (Y ++ U1)))) ++ v :: (V2 ++ Z) by simp, set_app _ _ _ _ _ (by simp; omega)]
        simp
      have h3 := ih V2 (U1 ++ [u]) (V1 ++ [v]) (by simp; omega) (by omega) (by simp; omega)
      have e1 : ((X.length + (U1 ++ [u]).length + U2.length + Y.length : Nat) : Int) = ((X.length + U1.length + (u :: U2).length + Y.length : Nat) : Int) := by simp; omega
      have e2 : (((U1 ++ [u]).length + U2.length : Nat) : Int) = ((U1.length + (u :: U2).length : Nat) : Int) := by simp; omega
      have e3 : (((U1 ++ [u]).length : Nat) : Int) = wrap64 ((U1.length : Int) + 1) := by simp; rw [w_id] <;> omega
      rw [e1, e2, e3] at h3
      have e4 : X ++ ((V1 ++ [v]) ++ (V2 ++ (Y ++ ((U1 ++ [u]) ++ (U2 ++ Z))))) = X ++ (V1 ++ (v :: V2 ++ (Y ++ (U1 ++ (u :: U2 ++ Z))))) := by simp
      rw [e4] at h3
      show Ev (fun k => impl_Entry_68.l0 k (((X ++ (V1 ++ (u :: U2 ++ (Y ++ (U1 ++ (v :: V2 ++ Z)))))).set (((X.length + U1.length : Nat) : Int)).toNat v).set (((X.length + U1.length + U2.length + 1 + Y.length + U1.length : Nat) : Int)).toNat u) _ _ _ _) _
      rw [s1]
      exact h3
theorem swr_f (X U Y V Z : List S40) (h : U.length = V.length) (hb : X.length + U.length + Y.length + V.length + Z.length < 4611686018427387904) (a b n : Int) (ha : a = X.length) (hbb : b = ((X.length + U.length + Y.length : Nat) : Int)) (hn : n = U.length) :
    Ev (fun k => impl_Entry_68.f k (X ++ (U ++ (Y ++ (V ++ Z)))) a b n) (X ++ (V ++ (Y ++ (U ++ Z)))) := by
  subst ha hbb hn
  unfold impl_Entry_68.f
  have := swr_l0 X Y Z U V [] [] rfl h (by simpa using hb)
  simpa using this

/-! ### rotate -/
theorem rot_l0 : ∀ (n : Nat) (X L R Z : List S40), L.length + R.length = n → 1 ≤ L.length → 1 ≤ R.length → X.length + L.length + R.length + Z.length < 4611686018427387904 →
    Ev (fun k => impl_Entry_64.l0 k (X ++ (L ++ (R ++ Z))) ((X.length + L.length : Nat) : Int) (L.length : Int) (R.length : Int)) (X ++ (R ++ (L ++ Z))) := by
  intro n
  induction n using Nat.strongRecOn with
  | _ n ih =>
    intro X L R Z hn hL hR hb
    have i1 : wrap64 (((X.length + L.length : Nat) : Int) - (L.length : Int)) = (X.length : Int) := by rw [w_id] <;> omega
    refine Ev.step (fun k => by rw [impl_Entry_64.l0]) ?_
    rw [i1]
    by_cases he : L.length = R.length
    · refine ev_pos (by omega) (Ev.bind (a := X ++ (R ++ (L ++ Z))) ?_ (ev_some rfl))
      have := swr_f X L [] R Z he (by simp; omega) (X.length : Int) ((X.length + L.length : Nat) : Int) (L.length : Int) rfl (by simp) rfl
      simpa using this
    · refine ev_neg (by omega) ?_
      by_cases hg : R.length < L.length
      · refine ev_pos (by omega) ?_
        obtain ⟨L1, L2, rfl, h1⟩ := split_le L R.length (by omega)
        simp only [List.length_append] at *
        refine Ev.bind (a := X ++ (R ++ (L2 ++ (L1 ++ Z)))) ?_ ?_
        · have := swr_f X L1 L2 R Z h1 (by omega) (X.length : Int) ((X.length + (L1.length + L2.length) : Nat) : Int) (R.length : Int) rfl (by omega) (by omega)
          simpa using this
        · have h3 := ih (L2.length + L1.length) (by omega) (X ++ R) L2 L1 Z rfl (by omega) (by omega) (by simp; omega)
          have e1 : (((X ++ R).length + L2.length : Nat) : Int) = ((X.length + (L1.length + L2.length) : Nat) : Int) := by simp; omega
          have e2 : wrap64 (((L1.length + L2.length : Nat) : Int) - (R.length : Int)) = (L2.length : Int) := by rw [w_id] <;> omega
          rw [e1] at h3
          show Ev (fun k => impl_Entry_64.l0 k _ _ (wrap64 (((L1.length + L2.length : Nat) : Int) - (R.length : Int))) _) _
          rw [e2, show (R.length : Int) = (L1.length : Int) by omega]
          simpa using h3
      · refine ev_neg (by omega) ?_
        obtain ⟨R1, R2, rfl, h1⟩ := split_le R (R.length - L.length) (by omega)
        simp only [List.length_append] at *
        have e0 : wrap64 (wrap64 (((X.length + L.length : Nat) : Int) + ((R1.length + R2.length : Nat) : Int)) - (L.length : Int)) = ((X.length + L.length + R1.length : Nat) : Int) := by
          rw [w_id (x := ((X.length + L.length : Nat) : Int) + ((R1.length + R2.length : Nat) : Int)), w_id] <;> omega
        refine Ev.bind (a := X ++ (R2 ++ (R1 ++ (L ++ Z)))) ?_ ?_
        · have := swr_f X L R1 R2 Z (by omega) (by omega) (X.length : Int) ((X.length + L.length + R1.length : Nat) : Int) (L.length : Int) rfl rfl rfl
          show Ev (fun k => impl_Entry_68.f k _ _ (wrap64 (wrap64 (((X.length + L.length : Nat) : Int) + ((R1.length + R2.length : Nat) : Int)) - (L.length : Int))) _) _
          rw [e0]
          simpa using this
        · have h3 := ih (R2.length + R1.length) (by omega) X R2 R1 (L ++ Z) rfl (by omega) (by omega) (by simp; omega)
          have e2 : wrap64 (((R1.length + R2.length : Nat) : Int) - (L.length : Int)) = (R1.length : Int) := by rw [w_id] <;> omega
          show Ev (fun k => impl_Entry_64.l0 k _ _ _ (wrap64 (((R1.length + R2.length : Nat) : Int) - (L.length : Int)))) _
          rw [e2, show ((X.length + L.length : Nat) : Int) = ((X.length + R2.length : Nat) : Int) by omega, show (L.length : Int) = (R2.length : Int) by omega]
          simpa using h3
theorem rot_f (X L R Z : List S40) (hL : 1 ≤ L.length) (hR : 1 ≤ R.length) (hb : X.length + L.length + R.length + Z.length < 4611686018427387904) (a m b : Int) (ha : a = X.length) (hm : m = ((X.length + L.length : Nat) : Int)) (hbb : b = ((X.length + L.length + R.length : Nat) : Int)) :
    Ev (fun k => impl_Entry_64.f k (X ++ (L ++ (R ++ Z))) a m b) (X ++ (R ++ (L ++ Z))) := by
  subst ha hm hbb
  unfold impl_Entry_64.f
  have e1 : wrap64 (((X.length + L.length : Nat) : Int) - (X.length : Int)) = (L.length : Int) := by rw [w_id] <;> omega
  have e2 : wrap64 (((X.length + L.length + R.length : Nat) : Int) - ((X.length + L.length : Nat) : Int)) = (R.length : Int) := by rw [w_id] <;> omega
  rw [e1, e2]
  exact rot_l0 _ X L R Z rfl hL hR hb
end Go.Proofs.Ytoiipfaagfhpoaa.EntrySort
