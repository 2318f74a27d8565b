/- Tools for the pure statements: rounds that suffice (Ev), lists that are read and set by an index, wrapped sums, and stable sorting. Nothing of the program. -/
import Derived.Test.YtkommecfnfdapaaAV1
namespace Go.Proofs.Ytkommecfnfdapaa.Tools
open Go.RowKit Go.Proofs.YtkommecfnfdapaaW.PrintWords

theorem w_id {x : Int} (h0 : -9223372036854775808 ≤ x) (h1 : x ≤ 9223372036854775807) : wrap64 x = x := by unfold wrap64; omega
theorem w_succ {n : Nat} (h : n < 9223372036854775807) : wrap64 ((n : Int) + 1) = ((n + 1 : Nat) : Int) := by unfold wrap64; omega

/-! ### Rounds -/
theorem ev_some {α : Type} {r s : α} (h : r = s) : Ev (fun _ => some r) s := ⟨0, fun _ _ => by rw [h]⟩
theorem ev_pos {α : Type} {c : Prop} [Decidable c] {a b : Nat → Option α} {r : α} (h : c) (k : Ev a r) : Ev (fun n => if c then a n else b n) r :=
  Ev.congr (fun n => by rw [if_pos h]) k
theorem ev_neg {α : Type} {c : Prop} [Decidable c] {a b : Nat → Option α} {r : α} (h : ¬ c) (k : Ev b r) : Ev (fun n => if c then a n else b n) r :=
  Ev.congr (fun n => by rw [if_neg h]) k
theorem ev_ite {α : Type} {c : Prop} [Decidable c] {a b : Nat → Option α} {r : α} (h1 : c → Ev a r) (h2 : ¬ c → Ev b r) : Ev (fun n => if c then a n else b n) r := by
  by_cases h : c
  · exact ev_pos h (h1 h)
  · exact ev_neg h (h2 h)
theorem ev_bind0 {α β : Type} {a : Option α} {v : α} {f : Nat → α → Option β} {r : β} (h : a = some v) (k : Ev (fun n => f n v) r) : Ev (fun n => a.bind (f n)) r :=
  Ev.congr (fun n => by rw [h]; rfl) k
theorem ev_unique {α : Type} {g : Nat → Option α} {r s : α} (h : Ev g r) (k : Ev g s) : r = s := by
  obtain ⟨K, h⟩ := h
  obtain ⟨K', k⟩ := k
  have h1 := h (max K K') (by omega)
  have h2 := k (max K K') (by omega)
  rw [h1] at h2
  exact Option.some.inj h2

/-! ### Lists by index -/
theorem getD_app {α : Type} (A B : List α) (x d : α) (n : Nat) (h : n = A.length) : (A ++ x :: B).getD n d = x := by
  subst h
  simp
theorem set_app {α : Type} (A B : List α) (x y : α) (n : Nat) (h : n = A.length) : (A ++ x :: B).set n y = A ++ y :: B := by
  subst h
  simp
theorem split_at {α : Type} (l : List α) (n : Nat) (h : n < l.length) : ∃ A x B, l = A ++ x :: B ∧ A.length = n :=
  ⟨l.take n, l[n], l.drop (n + 1), by rw [List.getElem_cons_drop, List.take_append_drop], by simp; omega⟩
theorem split_le {α : Type} (l : List α) (n : Nat) (h : n ≤ l.length) : ∃ A B, l = A ++ B ∧ A.length = n :=
  ⟨l.take n, l.drop n, by rw [List.take_append_drop], by simp; omega⟩

/-! ### Stable sorting by a key -/
section
variable {α : Type} (key : α → Int)
/-- The elements of each key stand in the same order. -/
def Eqv (l m : List α) : Prop := ∀ d, l.filter (fun x => key x == d) = m.filter (fun x => key x == d)
def Srt (l : List α) : Prop := l.Pairwise (fun a b => key a ≤ key b)
variable {key}
theorem Eqv.refl (l : List α) : Eqv key l l := fun _ => rfl
theorem Eqv.symm {l m : List α} (h : Eqv key l m) : Eqv key m l := fun d => (h d).symm
theorem Eqv.trans {l m n : List α} (h : Eqv key l m) (k : Eqv key m n) : Eqv key l n := fun d => (h d).trans (k d)
theorem Eqv.app {l l' m m' : List α} (h : Eqv key l l') (k : Eqv key m m') : Eqv key (l ++ m) (l' ++ m') := fun d => by
  rw [List.filter_append, List.filter_append, h d, k d]
theorem Eqv.cons {x : α} {l l' : List α} (h : Eqv key l l') : Eqv key (x :: l) (x :: l') := Eqv.app (l := [x]) (l' := [x]) (Eqv.refl _) h
/-- What stands ahead of what is less may stand behind it. -/
theorem Eqv.swap {l m : List α} (h : ∀ a ∈ l, ∀ b ∈ m, key b < key a) : Eqv key (l ++ m) (m ++ l) := fun d => by
  rw [List.filter_append, List.filter_append]
  by_cases hl : ∃ a ∈ l, key a = d
  · obtain ⟨a, ha, he⟩ := hl
    have : m.filter (fun x => key x == d) = [] := by
      rw [List.filter_eq_nil_iff]
      intro b hb
      have := h a ha b hb
      simp
      omega
    rw [this, List.append_nil, List.nil_append]
  · have : l.filter (fun x => key x == d) = [] := by
      rw [List.filter_eq_nil_iff]
      intro a ha
      simp
      intro he
      exact hl ⟨a, ha, he⟩
    rw [this, List.append_nil, List.nil_append]
theorem Eqv.mem {l m : List α} (h : Eqv key l m) (x : α) : x ∈ l ↔ x ∈ m := by
  have := h (key x)
  constructor
  · intro hx
    have : x ∈ m.filter (fun y => key y == key x) := by rw [← this]; simp [hx]
    exact (List.mem_filter.1 this).1
  · intro hx
    have : x ∈ l.filter (fun y => key y == key x) := by rw [this]; simp [hx]
    exact (List.mem_filter.1 this).1
/-- Two sorted lists that are alike are equal. -/
theorem Eqv.eq {l m : List α} (hl : Srt key l) (hm : Srt key m) (h : Eqv key l m) : l = m := by
  induction l generalizing m with
  | nil =>
    cases m with
    | nil => rfl
    | cons b m => exact absurd ((h.mem b).2 List.mem_cons_self) (by simp)
  | cons a l ih =>
    cases m with
    | nil => exact absurd ((h.mem a).1 List.mem_cons_self) (by simp)
    | cons b m =>
      obtain ⟨ha, hl'⟩ := List.pairwise_cons.1 hl
      obtain ⟨hb, hm'⟩ := List.pairwise_cons.1 hm
      have h1 : key b ≤ key a := by
        rcases List.mem_cons.1 ((h.mem a).1 List.mem_cons_self) with e | e
        · rw [e]; exact Int.le_refl _
        · exact hb _ e
      have h2 : key a ≤ key b := by
        rcases List.mem_cons.1 ((h.mem b).2 List.mem_cons_self) with e | e
        · rw [e]; exact Int.le_refl _
        · exact ha _ e
      have he : key a = key b := Int.le_antisymm h2 h1
      have h3 := h (key a)
      rw [List.filter_cons, List.filter_cons, if_pos (by simp), if_pos (by simp [he])] at h3
      injection h3 with hab _
      subst hab
      refine congrArg _ (ih hl' hm' (fun d => ?_))
      have h4 := h d
      by_cases hd : key a = d
      · rw [List.filter_cons, List.filter_cons, if_pos (by simp [hd]), if_pos (by simp [hd])] at h4
        exact (List.cons.inj h4).2
      · rw [List.filter_cons, List.filter_cons, if_neg (by simp [hd]), if_neg (by simp [hd])] at h4
        exact h4
theorem Eqv.perm {l m : List α} (h : Eqv key l m) : l.Perm m := by
  induction l generalizing m with
  | nil =>
    cases m with
    | nil => exact List.Perm.refl _
    | cons b m => exact absurd ((h.mem b).2 List.mem_cons_self) (by simp)
  | cons a l ih =>
    have ham : a ∈ m := (h.mem a).1 List.mem_cons_self
    -- the first element of a's key in m is a
    have h3 := h (key a)
    rw [List.filter_cons, if_pos (by simp)] at h3
    obtain ⟨A, B, hm, hA⟩ : ∃ A B, m = A ++ a :: B ∧ ∀ x ∈ A, key x ≠ key a := by
      clear ih h ham
      induction m with
      | nil => simp at h3
      | cons b m ihm =>
        by_cases hb : key b = key a
        · rw [List.filter_cons, if_pos (by simp [hb])] at h3
          obtain ⟨rfl, _⟩ := List.cons.inj h3
          exact ⟨[], m, rfl, by simp⟩
        · rw [List.filter_cons, if_neg (by simp [hb])] at h3
          obtain ⟨A, B, rfl, hA⟩ := ihm h3
          exact ⟨b :: A, B, rfl, fun x hx => by
            rcases List.mem_cons.1 hx with rfl | hx
            · exact hb
            · exact hA x hx⟩
    subst hm
    refine List.Perm.trans (List.Perm.cons a (ih (m := A ++ B) (fun d => ?_))) (List.perm_middle).symm
    have h4 := h d
    by_cases hd : key a = d
    · subst hd
      have hA0 : A.filter (fun x => key x == key a) = [] := by
        rw [List.filter_eq_nil_iff]
        intro x hx
        simpa using hA x hx
      rw [List.filter_cons, if_pos (by simp), List.filter_append, List.filter_cons, if_pos (by simp), hA0, List.nil_append] at h4
      rw [List.filter_append, hA0, List.nil_append]
      exact (List.cons.inj h4).2
    · rw [List.filter_cons, if_neg (by simp [hd]), List.filter_append, List.filter_cons, if_neg (by simp [hd])] at h4
      rw [List.filter_append]
      exact h4
theorem Eqv.length {l m : List α} (h : Eqv key l m) : l.length = m.length := h.perm.length_eq

theorem srt_app {l m : List α} : Srt key (l ++ m) ↔ Srt key l ∧ Srt key m ∧ ∀ a ∈ l, ∀ b ∈ m, key a ≤ key b := List.pairwise_append
theorem srt_cons {x : α} {l : List α} : Srt key (x :: l) ↔ (∀ b ∈ l, key x ≤ key b) ∧ Srt key l := List.pairwise_cons
/-- One more element, behind those that aren't greater. -/
theorem srt_ins {A B : List α} {x : α} (h : Srt key (A ++ B)) (ha : ∀ a ∈ A, key a ≤ key x) (hb : ∀ b ∈ B, key x < key b) : Srt key (A ++ x :: B) := by
  obtain ⟨h1, h2, h3⟩ := srt_app.1 h
  refine srt_app.2 ⟨h1, srt_cons.2 ⟨fun b h => Int.le_of_lt (hb b h), h2⟩, fun a h b hh => ?_⟩
  rcases List.mem_cons.1 hh with rfl | hh
  · exact ha a h
  · exact h3 a h b hh
/-- In a sorted list, whose last element isn't greater than x, no element is. -/
theorem srt_last {A : List α} {y x : α} (h : Srt key (A ++ [y])) (hy : key y ≤ key x) : ∀ a ∈ A ++ [y], key a ≤ key x := by
  intro a ha
  rcases List.mem_append.1 ha with ha | ha
  · exact Int.le_trans ((srt_app.1 h).2.2 a ha y (by simp)) hy
  · rw [List.mem_singleton.1 ha]; exact hy
theorem srt_head {A : List α} {y x : α} (h : Srt key (y :: A)) (hy : key x < key y) : ∀ a ∈ y :: A, key x < key a := by
  intro a ha
  rcases List.mem_cons.1 ha with rfl | ha
  · exact hy
  · exact Int.lt_of_lt_of_le hy ((srt_cons.1 h).1 a ha)
end
end Go.Proofs.Ytkommecfnfdapaa.Tools
