/- This text proves, about numbers and lists alone, what the law ClockFirst asks: of a row of at most 300 numbers the place of the first least one is told. -/
import Derived.Test.YtnbjogebdjjepaaOClockFirstx2
namespace Go.Proofs.Ytnbjogebdjjepaa.Pure
open Go.RowKit Go.Proofs.Ytnbjogebdjjepaa.OClockFirst Go.Proofs.YtnbjogebdjjepaaW.PrintWords Go.Proofs.YtnbjogebdjjepaaW.PrintLast Go.Proofs.YtnbjogebdjjepaaW.PrintMore

theorem wf64 {n : Int} (h : (Lit.int .i64 n).wf = true) : -9223372036854775808 ≤ n ∧ n ≤ 9223372036854775807 := by
  rw [Lit.wf, Bool.and_eq_true, decide_eq_true_eq, decide_eq_true_eq] at h
  exact h
theorem wfu32 {n : Int} (h : (Lit.int .u32 n).wf = true) : 0 ≤ n ∧ n ≤ 4294967295 := by
  rw [Lit.wf, Bool.and_eq_true, decide_eq_true_eq, decide_eq_true_eq] at h
  exact h
theorem w64 {n : Int} (h : -9223372036854775808 ≤ n) (h' : n ≤ 9223372036854775807) : wrap64 n = n := by
  unfold wrap64
  omega

theorem lives_true : nameplatelaw12_lives.f = some true := by decide +kernel

theorem past_eq (a b : Int) : clock_Past.f a b = some (decide (b ≥ a)) := rfl

/-- The program's loop: from round i on, x being the first least place so far. -/
theorem first_loop (l : List Int) (hl : l.length ≤ 300) (d : Nat) : ∀ (k : Nat) (x i : Int), 0 ≤ x → x < l.length → x ≤ i → i ≤ l.length → (l.length : Int) - i = d → d < k →
    (∀ j : Int, 0 ≤ j → j < i → rd l x ≤ rd l j ∧ (j < x → rd l x < rd l j)) →
    ∃ r, clock_First.l0 k l x l (l.length : Int) i = some (r, true) ∧ 0 ≤ r ∧ r < l.length ∧ ∀ j : Int, 0 ≤ j → j < l.length → rd l r ≤ rd l j ∧ (j < r → rd l r < rd l j) := by
  induction d with
  | zero =>
    intro k x i h0 h1 h2 h3 hd hk hx
    obtain ⟨k, rfl⟩ : ∃ m, k = m + 1 := ⟨k - 1, by omega⟩
    refine ⟨x, ?_, h0, h1, fun j a b => hx j a (by omega)⟩
    simp only [clock_First.l0]; rw [if_neg (by omega), decide_eq_true (by omega)]
  | succ d ih =>
    intro k x i h0 h1 h2 h3 hd hk hx
    obtain ⟨k, rfl⟩ : ∃ m, k = m + 1 := ⟨k - 1, by omega⟩
    have hw : wrap64 (i + 1) = i + 1 := w64 (by omega) (by omega)
    by_cases hlt : rd l i < rd l x
    · obtain ⟨r, p, q⟩ := ih k i (i + 1) (by omega) (by omega) (by omega) (by omega) (by omega) (by omega) (by
        intro j a b
        by_cases e : j = i
        · subst e; exact ⟨Int.le_refl _, fun h => absurd h (Int.lt_irrefl _)⟩
        · have := hx j a (by omega); exact ⟨by omega, fun _ => by omega⟩)
      refine ⟨r, ?_, q⟩
      simp only [clock_First.l0]
      rw [if_pos (by omega), if_pos (by omega), if_pos (by omega), if_pos h0, if_pos h1, if_pos (by unfold mn; split <;> omega), hw]; exact p
    · obtain ⟨r, p, q⟩ := ih k x (i + 1) h0 h1 (by omega) (by omega) (by omega) (by omega) (by
        intro j a b
        by_cases e : j = i
        · subst e; exact ⟨by omega, fun h => by omega⟩
        · exact hx j a (by omega))
      refine ⟨r, ?_, q⟩
      simp only [clock_First.l0]
      rw [if_pos (by omega), if_pos (by omega), if_pos (by omega), if_pos h0, if_pos h1, if_neg (by unfold mn; split <;> omega), hw]; exact p

/-- The law's loop. -/
theorem law_loop (l : List Int) (hl : l.length ≤ 300) (x : Int) (h0 : 0 ≤ x) (h1 : x < l.length)
    (hx : ∀ j : Int, 0 ≤ j → j < l.length → rd l x ≤ rd l j ∧ (j < x → rd l x < rd l j)) (d : Nat) : ∀ (k : Nat) (i : Int), 0 ≤ i → i ≤ l.length → (l.length : Int) - i = d → d < k →
    nameplatelaw12_ClockFirst.l0 k l x i = some true := by
  induction d with
  | zero =>
    intro k i h2 h3 hd hk
    obtain ⟨k, rfl⟩ : ∃ m, k = m + 1 := ⟨k - 1, by omega⟩
    simp only [nameplatelaw12_ClockFirst.l0]; rw [if_neg (by omega)]
  | succ d ih =>
    intro k i h2 h3 hd hk
    obtain ⟨k, rfl⟩ : ∃ m, k = m + 1 := ⟨k - 1, by omega⟩
    have hw : wrap64 (i + 1) = i + 1 := w64 (by omega) (by omega)
    have h := ih k (i + 1) (by omega) (by omega) (by omega) (by omega)
    obtain ⟨g1, g2⟩ := hx i h2 (by omega)
    simp only [nameplatelaw12_ClockFirst.l0]
    rw [if_pos (by omega), if_pos h2, if_pos h0, if_pos h1, if_neg (by omega), hw, h, past_eq]
    simp only [Option.bind_some]
    have hp : (decide (rd l x ≥ rd l i) != (rd l i == rd l x)) = false := by
      by_cases e : rd l i = rd l x
      · rw [e]; simp
      · rw [beq_eq_false_iff_ne.2 e, decide_eq_false (by omega)]; rfl
    rw [hp]
    by_cases hlt : i < x
    · have := g2 hlt
      rw [if_pos hlt, if_neg (by omega)]; rfl
    · rw [if_neg hlt]; rfl

theorem ClockFirst : nameplatelaw12_ClockFirst.Pure := by
  intro l _ _ _
  refine ⟨400, ?_⟩
  unfold nameplatelaw12_ClockFirst.f
  rw [lives_true]
  simp only [Option.bind_some, if_true]
  by_cases h : (l.length : Int) > 300
  · rw [if_pos h]
  rw [if_neg h]
  by_cases hz : (l.length : Int) = 0
  · have hn : l = [] := List.eq_nil_of_length_eq_zero (by omega)
    subst hn
    have e : clock_First.f 400 [] = some (0, false) := by unfold clock_First.f; rw [show (400 : Nat) = 399 + 1 from rfl, clock_First.l0]; rfl
    rw [e]; rfl
  · obtain ⟨r, p, q0, q1, q2⟩ := first_loop l (by omega) l.length 400 0 0 (by omega) (by omega) (by omega) (by omega) (by omega) (by omega) (by intro j a b; omega)
    have e : clock_First.f 400 l = some (r, true) := p
    rw [e]
    simp only [Option.bind_some, if_true]
    rw [if_neg hz, if_neg (by omega), decide_eq_false (by omega), show (400 : Nat) = 399 + 1 from rfl, nameplatelaw12_ClockFirst.j0, if_neg (by decide)]
    exact law_loop l (by omega) r q0 q1 q2 l.length 399 0 (by omega) (by omega) (by omega) (by omega)

end Go.Proofs.Ytnbjogebdjjepaa.Pure
