/- What comes in, as data, is read as the values of the functions' texts: slices, structs, slices of structs, for every program. -/
import Derived.Test.YtphicdmipipnbaaAV1
import Derived.Deep.Slices
namespace Go.Proofs.Ytphicdmipipnbaa.Opens
open Go.RowKit Go.Proofs.YtphicdmipipnbaaW.PrintWords Go.Deep Go.ChangeShapes Go.WideShapes

/-- Whatever reads as data of type t is a value of kind d that meets ok. -/
def Opens {α : Type} (P : Program) (t : TypeId) (d : Kd α) (ok : α → Prop) : Prop :=
  ∀ (H : Type) (enc : TypeId × Value → H) (w : World) (base : Nat) (spare : Nat → Bool) (held : Bool) (fuel : Nat) (cs : List Value) (x : DataW H × List MemPlace), DataW.trod enc P w base spare held fuel t cs = some x → ∃ v, d.K w v cs ∧ ok v
/-- Fields from off on. -/
def OpensF {α : Type} (P : Program) (fs : List Field) (off : Nat) (d : Kd α) (ok : α → Prop) : Prop :=
  ∀ (H : Type) (enc : TypeId × Value → H) (w : World) (base : Nat) (spare : Nat → Bool) (held : Bool) (fuel : Nat) (cs : List Value), cs.length = off + d.sz →
    (∀ f, f ∈ fs → ∃ x, DataW.trod enc P w base spare held fuel f.type ((cs.drop f.offset).take (P.cellsOf f.type)) = some x) → ∃ v, d.K w v (cs.drop off) ∧ ok v
section
variable {α β : Type} {P : Program} {t e : TypeId}
theorem opens_int {k : IntKind} (ht : P.underlying t = some (.int k)) : Opens P t (Kd.int k) (fun n => (Lit.int k n).wf = true) := by
  intro H enc w base spare held fuel cs x h
  obtain ⟨n, rfl, _, hw⟩ := DataW.trod_int ht h
  exact ⟨n, rfl, hw⟩
theorem opens_bool (ht : P.underlying t = some .bool) : Opens P t Kd.bool (fun _ => True) := by
  intro H enc w base spare held fuel cs x h
  obtain ⟨b, rfl, _⟩ := DataW.trod_bool ht h
  exact ⟨b, rfl, trivial⟩
theorem opens_string (ht : P.underlying t = some .string) : Opens P t Kd.string (fun s => s.size ≤ maxLen) := by
  intro H enc w base spare held fuel cs x h
  obtain ⟨s, rfl, _, hs⟩ := DataW.trod_string ht h
  exact ⟨s, rfl, hs⟩
theorem mapM_each {γ δ : Type} {f : γ → Option δ} : ∀ {l : List γ} {r : List δ}, l.mapM f = some r → r.length = l.length ∧ ∀ (i : Nat) (x : γ), l[i]? = some x → f x = r[i]? := by
  intro l
  induction l with
  | nil =>
    intro r h
    simp at h
    subst h
    exact ⟨rfl, fun i x h => by simp at h⟩
  | cons a l ih =>
    intro r h
    rw [List.mapM_cons] at h
    cases ha : f a with
    | none => rw [ha] at h; cases h
    | some b =>
      rw [ha] at h
      cases hl : l.mapM f with
      | none => rw [hl] at h; cases h
      | some bs =>
        rw [hl] at h
        obtain rfl : b :: bs = r := Option.some.inj h
        obtain ⟨h1, h2⟩ := ih hl
        refine ⟨by simp [h1], fun i x hx => ?_⟩
        cases i with
        | zero => simp at hx; subst hx; simpa using ha
        | succ i => simp at hx; simpa using h2 i x hx
theorem cells_at {w : World} {base n : Nat} {a : Addr} {cs : List Value} (h : w.cells? base a n = some cs) : cs.length = n ∧ ∀ i u, cs[i]? = some u → w.cell? (a.add i) = some u := by
  unfold World.cells? at h
  by_cases hb : base ≤ a.block
  · rw [if_pos hb] at h
    obtain ⟨h1, h2⟩ := mapM_each h
    rw [List.length_range] at h1
    refine ⟨h1, fun i u hu => ?_⟩
    have hi : i < n := by rw [← h1]; exact (List.getElem?_eq_some_iff.1 hu).1
    rw [h2 i i (by simp [hi]), hu]
  · rw [if_neg hb] at h; cases h
theorem opens_slice {d : Kd α} {ok : α → Prop} (ht : P.underlying t = some (.slice e)) (he : Opens P e d ok) (hs : P.cellsOf e = d.sz) (q : Nat) : Opens P t (Kd.slice q d) (fun l => (∀ x ∈ l, ok x) ∧ l.length ≤ maxLen) := by
  intro H enc w base spare held fuel cs x h
  rcases open_slice ht h with ⟨rfl, _⟩ | ⟨a, len, cap, m, n, D, Pl, rfl, _, hl, hm, hmm, _, hel⟩
  · exact ⟨[], ⟨none, 0, rfl, Nat.le_refl _, Kd.C_nil _ _⟩, by simp⟩
  · have hle : len ≤ m := by rw [hmm]; split <;> omega
    obtain ⟨l, h1, h2⟩ : ∃ l : List α, l.length = len ∧ ∀ j p, l[j]? = some p → ok p ∧ ∃ c, c.length = d.sz ∧ d.K w p c ∧ ∀ i u, c[i]? = some u → w.cell? (a.add (j * d.sz + i)) = some u := by
      have key : ∀ k, k ≤ len → ∃ l : List α, l.length = k ∧ ∀ j p, l[j]? = some p → ok p ∧ ∃ c, c.length = d.sz ∧ d.K w p c ∧ ∀ i u, c[i]? = some u → w.cell? (a.add (j * d.sz + i)) = some u := by
        intro k
        induction k with
        | zero => intro _; exact ⟨[], rfl, fun j p h => by simp at h⟩
        | succ k ih =>
          intro hk
          obtain ⟨l, q1, q2⟩ := ih (by omega)
          obtain ⟨cs', e1, e2⟩ := hel k (by omega)
          obtain ⟨v, v1, v2⟩ := he H enc w base spare held n cs' _ e2
          rw [hs] at e1
          obtain ⟨c1, c2⟩ := cells_at e1
          refine ⟨l ++ [v], by simp [q1], fun j p hj => ?_⟩
          rcases Nat.lt_or_ge j l.length with hjl | hjl
          · rw [List.getElem?_append_left hjl] at hj
            exact q2 j p hj
          · have hje : j = l.length := by
              have := (List.getElem?_eq_some_iff.1 hj).1
              simp at this
              omega
            subst hje
            simp at hj
            subst hj
            refine ⟨v2, cs', c1, v1, fun i u hu => ?_⟩
            rw [← Go.Deep.add_add, q1]
            exact c2 i u hu
      exact key len (Nat.le_refl _)
    refine ⟨l, ⟨some a, cap, by rw [h1], by omega, by rw [h1]; exact ⟨h1, by unfold maxLen at hm; omega, fun _ => ⟨a, rfl, fun j p hj => (h2 j p hj).2⟩⟩⟩, fun x hx => ?_, by omega⟩
    obtain ⟨j, hj⟩ := List.getElem?_of_mem hx
    exact (h2 j x hj).1
theorem opensF_one {d : Kd α} {ok : α → Prop} {f : Field} {off : Nat} (hf : f.offset = off) (hs : P.cellsOf f.type = d.sz) (h : Opens P f.type d ok) : OpensF P [f] off d ok := by
  intro H enc w base spare held fuel cs hl hx
  obtain ⟨x, hx⟩ := hx f (by simp)
  rw [hf, hs, List.take_of_length_le (by rw [List.length_drop]; omega)] at hx
  exact h H enc w base spare held fuel _ x hx
theorem opensF_cons {d0 : Kd α} {d1 : Kd β} {ok0 : α → Prop} {ok1 : β → Prop} {f : Field} {fs : List Field} {off : Nat} (hf : f.offset = off) (hs : P.cellsOf f.type = d0.sz) (h0 : Opens P f.type d0 ok0) (h1 : OpensF P fs (off + d0.sz) d1 ok1) :
    OpensF P (f :: fs) off (Kd.pair d0 d1) (fun v => ok0 v.1 ∧ ok1 v.2) := by
  intro H enc w base spare held fuel cs hl hx
  have hsz : (Kd.pair d0 d1).sz = d0.sz + d1.sz := rfl
  rw [hsz] at hl
  obtain ⟨x, hx0⟩ := hx f (by simp)
  rw [hf, hs] at hx0
  obtain ⟨v0, a0, b0⟩ := h0 H enc w base spare held fuel _ x hx0
  obtain ⟨v1, a1, b1⟩ := h1 H enc w base spare held fuel cs (by omega) (fun g hg => hx g (by simp [hg]))
  refine ⟨(v0, v1), ⟨_, _, ?_, a0, a1⟩, b0, b1⟩
  rw [← List.drop_drop]
  exact (List.take_append_drop _ _).symm
theorem opens_struct {d : Kd α} {ok : α → Prop} {fs : Array Field} (f : β → α) (g : α → β) (hfg : ∀ v, f (g v) = v) (ht : P.underlying t = some (.struct fs)) (hs : P.cellsOf t = d.sz) (h : OpensF P fs.toList 0 d ok) : Opens P t (Kd.iso d f) (fun v => ok (f v)) := by
  intro H enc w base spare held fuel cs x hx
  obtain ⟨xs, n, _, _, hl, hlx, hel⟩ := DataW.trod_struct ht hx
  obtain ⟨v, a, b⟩ := h H enc w base spare held n cs (by omega) (fun q hq => by
    obtain ⟨i, hi⟩ := List.getElem?_of_mem hq
    have hi' : fs[i]? = some q := by simpa using hi
    have hlt : i < fs.size := (Array.getElem?_eq_some_iff.1 hi').1
    rw [hel i q hi']
    exact ⟨xs[i], List.getElem?_eq_getElem (by omega)⟩)
  refine ⟨g v, ?_, ?_⟩
  · show d.K w (f (g v)) cs
    rw [hfg]
    simpa using a
  · show ok (f (g v))
    rw [hfg]; exact b
theorem opens_mono {d : Kd α} {ok ok' : α → Prop} (h : Opens P t d ok) (hk : ∀ v, ok v → ok' v) : Opens P t d ok' := by
  intro H enc w base spare held fuel cs x hx
  obtain ⟨v, a, b⟩ := h H enc w base spare held fuel cs x hx
  exact ⟨v, a, hk v b⟩
/-- A slice that came in. -/
theorem trod_slice_C {H : Type} {enc : TypeId × Value → H} {w : World} {base : Nat} {spare : Nat → Bool} {held : Bool} {q : Nat} {d : Kd α} {ok : List α → Prop} {a : Option Addr} {len cap : Nat} {x : DataW H} {ps : List MemPlace} (h : Opens P t (Kd.slice q d) ok)
    (hT : DataW.Trod enc P w base spare held t (.slice a len cap) x ps) : ∃ l : List α, l.length = len ∧ len ≤ cap ∧ d.C w a len l ∧ ok l := by
  obtain ⟨fuel, hf⟩ := hT
  obtain ⟨l, ⟨A, c, h1, h2, h3⟩, hk⟩ := h H enc w base spare held fuel _ _ hf
  simp [Value.cells] at h1
  obtain ⟨rfl, rfl, rfl⟩ := h1
  exact ⟨l, rfl, h2, h3, hk⟩
end
end Go.Proofs.Ytphicdmipipnbaa.Opens
