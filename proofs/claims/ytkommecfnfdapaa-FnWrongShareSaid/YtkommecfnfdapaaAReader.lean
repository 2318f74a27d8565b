/- The reader that draws the arguments: it always answers, within its bounds. Numbers and lists alone. -/
import Derived.Test.YtkommecfnfdapaaATools
import Derived.Test.YtkommecfnfdapaaAPx6
import Derived.Test.YtkommecfnfdapaaAPx8
namespace Go.Proofs.Ytkommecfnfdapaa.Reader
open Go.RowKit Go.Proofs.Ytkommecfnfdapaa.P Go.Proofs.YtkommecfnfdapaaW.PrintWords Go.Proofs.Ytkommecfnfdapaa.Tools

/-- The bytes of a code. -/
def Code (b : List Int) : Prop := b.length ≤ 2000 ∧ ∀ x ∈ b, 0 ≤ x ∧ x ≤ 255
theorem code_rd {b : List Int} (h : Code b) (i : Int) : 0 ≤ rd b i ∧ rd b i ≤ 255 := by
  unfold rd
  by_cases hi : i.toNat < b.length
  · rw [List.getD_eq_getElem?_getD, List.getElem?_eq_getElem hi]
    exact h.2 _ (List.getElem_mem _)
  · rw [List.getD_eq_getElem?_getD, List.getElem?_eq_none (by omega)]
    simp
theorem xor_nonneg {a b : Int} (ha : 0 ≤ a) (ha1 : a < 9223372036854775808) (hb : 0 ≤ b) (hb1 : b < 9223372036854775808) : 0 ≤ Go.bits .xor .i64 a b := by
  obtain ⟨x, rfl⟩ := Int.eq_ofNat_of_zero_le ha
  obtain ⟨y, rfl⟩ := Int.eq_ofNat_of_zero_le hb
  have hx : x % 2 ^ IntKind.i64.bits = x := Nat.mod_eq_of_lt (by simp [IntKind.bits]; omega)
  have hy : y % 2 ^ IntKind.i64.bits = y := Nat.mod_eq_of_lt (by simp [IntKind.bits]; omega)
  have hlt : x ^^^ y < 2 ^ 63 := Nat.xor_lt_two_pow (by omega) (by omega)
  have e : Go.bits .xor .i64 (x : Int) (y : Int) = IntKind.i64.wrap ((x ^^^ y : Nat) : Int) := by
    simp only [bits, BitVec.ofInt_natCast, BitVec.toNat_xor, BitVec.toNat_ofNat, hx, hy]
  rw [e, IntKind.wrap_i64]
  omega
theorem tmod_range {x n : Int} (hx : 0 ≤ x) (hn : 1 ≤ n) : 0 ≤ Int.tmod x n ∧ Int.tmod x n < n := by
  rw [Int.tmod_eq_emod_of_nonneg hx]
  exact ⟨Int.emod_nonneg _ (by omega), Int.emod_lt_of_pos _ (by omega)⟩

/-- A pick below n. -/
theorem pick_ok {b : List Int} (hc : Code b) {p n : Int} (hp : 0 ≤ p) (hp1 : p < 1000000000000) (hn : 1 ≤ n) :
    ∃ v, 0 ≤ v ∧ v < n ∧ Ev (fun k => spec_reader_pick.f k b p n) (v, p + 1) := by
  have w1 : wrap64 (p + 1) = p + 1 := w_id (by omega) (by omega)
  have w2 : wrap64 (p + 1 - 1) = p := by rw [w_id] <;> omega
  unfold spec_reader_pick.f
  rw [w1]
  by_cases h0 : b.length = 0
  · refine ⟨0, by omega, by omega, ?_⟩
    refine ev_neg (by omega) ?_
    refine Ev.step (fun k => by rw [spec_reader_pick.j0]) ?_
    exact ev_pos (by rw [beq_iff_eq]; omega) (ev_some rfl)
  · have hb : (b.length : Int) ≤ 2000 := by have := hc.1; omega
    by_cases h1 : p < b.length
    · have r := code_rd hc p
      have t := tmod_range (x := rd b p) r.1 hn
      refine ⟨Int.tmod (rd b p) n, t.1, t.2, ?_⟩
      refine ev_neg (by omega) ?_
      refine Ev.step (fun k => by rw [spec_reader_pick.j0]) ?_
      rw [w2, w_id (x := rd b p) (by omega) (by omega)]
      exact ev_neg (by rw [beq_iff_eq]; omega) (ev_pos h1 (ev_pos hp (ev_neg (by omega) (ev_some rfl))))
    · have q1 := tmod_range (x := p) (n := (b.length : Int)) hp (by omega)
      have w3 : wrap64 (wrap64 (p * 7) + 3) = p * 7 + 3 := by rw [w_id (x := p * 7), w_id] <;> omega
      have q2 := tmod_range (x := p * 7 + 3) (n := (b.length : Int)) (by omega) (by omega)
      obtain ⟨u, hu⟩ : ∃ u, Int.tmod p (b.length : Int) = u := ⟨_, rfl⟩
      obtain ⟨v, hv⟩ : ∃ v, Int.tmod (p * 7 + 3) (b.length : Int) = v := ⟨_, rfl⟩
      have r1 := code_rd hc u
      have r2 := code_rd hc v
      have hd : 0 ≤ Int.tdiv p (b.length : Int) ∧ Int.tdiv p (b.length : Int) ≤ p := by
        rw [Int.tdiv_eq_ediv_of_nonneg hp]
        exact ⟨Int.ediv_nonneg hp (by omega), Int.ediv_le_self _ hp⟩
      obtain ⟨d, hdd⟩ : ∃ d, Int.tdiv p (b.length : Int) = d := ⟨_, rfl⟩
      rw [hdd] at hd
      have e1 : wrap64 (wrap64 (rd b u) * 131) = rd b u * 131 := by rw [w_id (x := rd b u), w_id] <;> omega
      have e2 : wrap64 (wrap64 (rd b v) * 1117) = rd b v * 1117 := by rw [w_id (x := rd b v), w_id] <;> omega
      have e3 : wrap64 (rd b u * 131 + rd b v * 1117) = rd b u * 131 + rd b v * 1117 := by rw [w_id] <;> omega
      have e4 : wrap64 (p * 29) = p * 29 := by rw [w_id] <;> omega
      have e5 : wrap64 (rd b u * 131 + rd b v * 1117 + p * 29) = rd b u * 131 + rd b v * 1117 + p * 29 := by rw [w_id] <;> omega
      have e6 : wrap64 (wrap64 d * 53) = d * 53 := by rw [w_id (x := d), w_id] <;> omega
      have e7 : wrap64 (rd b u * 131 + rd b v * 1117 + p * 29 + d * 53) = rd b u * 131 + rd b v * 1117 + p * 29 + d * 53 := by rw [w_id] <;> omega
      obtain ⟨x, hx⟩ : ∃ x, rd b u * 131 + rd b v * 1117 + p * 29 + d * 53 = x := ⟨_, rfl⟩
      have hx0 : 0 ≤ x ∧ x < 100000000000000000 := by omega
      have hx2 : Int.tdiv x 64 = x / 64 := Int.tdiv_eq_ediv_of_nonneg hx0.1
      have e8 : wrap64 (Int.tdiv x 64) = x / 64 := by rw [hx2, w_id] <;> omega
      have hz := xor_nonneg (a := x) (b := x / 64) (by omega) (by omega) (by omega) (by omega)
      have t := tmod_range (x := Go.bits .xor .i64 x (x / 64)) hz hn
      refine ⟨Int.tmod (Go.bits .xor .i64 x (x / 64)) n, t.1, t.2, ?_⟩
      refine ev_neg (by omega) ?_
      refine Ev.step (fun k => by rw [spec_reader_pick.j0]) ?_
      rw [w2, w3, hu, hv, hdd, e1, e2, e3, e4, e5, e6, e7, hx, e8]
      exact ev_neg (by rw [beq_iff_eq]; omega) (ev_neg h1 (ev_neg (by omega) (ev_pos (by omega) (ev_pos (by omega) (ev_pos (by omega) (ev_pos (by omega) (ev_neg (by omega) (ev_some rfl))))))))
/-- One of a list. -/
theorem one_ok {b : List Int} (hc : Code b) {p : Int} (hp : 0 ≤ p) (hp1 : p < 1000000000000) (l : List Int) (hl : 1 ≤ l.length) :
    ∃ v, v ∈ l ∧ Ev (fun k => spec_reader_one.f k b p l) (v, p + 1) := by
  obtain ⟨i, h0, h1, h2⟩ := pick_ok hc hp hp1 (n := (l.length : Int)) (by omega)
  refine ⟨rd l i, ?_, ?_⟩
  · unfold rd
    rw [List.getD_eq_getElem?_getD, List.getElem?_eq_getElem (by omega)]
    exact List.getElem_mem _
  · unfold spec_reader_one.f
    exact Ev.bind h2 (ev_pos h0 (ev_pos h1 (ev_some rfl)))
theorem newReader_ok (l : List Int) (h : ∀ x ∈ l, (Lit.int .u8 x).wf = true) : ∃ b, Code b ∧ spec_newReader.f l = some (b, 0) := by
  have hw : ∀ x ∈ l, 0 ≤ x ∧ x ≤ 255 := fun x hx => by
    have := h x hx
    simp [Lit.wf, IntKind.min, IntKind.max, IntKind.bits, IntKind.signed] at this
    omega
  unfold spec_newReader.f
  by_cases h1 : (l.length : Int) > 2000
  · rw [if_pos h1, if_pos (by omega)]
    exact ⟨_, ⟨by simp; omega, fun x hx => hw x (List.mem_of_mem_take hx)⟩, rfl⟩
  · rw [if_neg h1]
    exact ⟨l, ⟨by omega, hw⟩, rfl⟩
end Go.Proofs.Ytkommecfnfdapaa.Reader
