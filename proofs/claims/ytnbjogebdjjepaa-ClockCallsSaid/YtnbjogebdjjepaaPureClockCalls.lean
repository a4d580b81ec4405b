/- This text proves, about numbers and lists alone, what the law ClockCalls asks: the program counts ticks and TTLs as the reference does, for every numbers and every row of at most 300. -/
import Derived.Test.YtnbjogebdjjepaaPClockCallsx2
import Derived.Test.YtnbjogebdjjepaaWSized
namespace Go.Proofs.Ytnbjogebdjjepaa.PrintWords
abbrev sized_ints := @Go.Proofs.YtnbjogebdjjepaaW.PrintWords.sized_ints   -- the printed row names it so
end Go.Proofs.Ytnbjogebdjjepaa.PrintWords
namespace Go.Proofs.Ytnbjogebdjjepaa.Pure
open Go.RowKit Go.Proofs.Ytnbjogebdjjepaa.PClockCalls Go.Proofs.YtnbjogebdjjepaaW.PrintWords Go.Proofs.YtnbjogebdjjepaaW.PrintLast Go.Proofs.YtnbjogebdjjepaaW.PrintMore

theorem wf64 {n : Int} (h : (Lit.int .i64 n).wf = true) : -9223372036854775808 ≤ n ∧ n ≤ 9223372036854775807 := by
  rw [Lit.wf, Bool.and_eq_true, decide_eq_true_eq, decide_eq_true_eq] at h
  exact h
theorem wfu32 {n : Int} (h : (Lit.int .u32 n).wf = true) : 0 ≤ n ∧ n ≤ 4294967295 := by
  rw [Lit.wf, Bool.and_eq_true, decide_eq_true_eq, decide_eq_true_eq] at h
  exact h
theorem w64 {n : Int} (h : -9223372036854775808 ≤ n) (h' : n ≤ 9223372036854775807) : wrap64 n = n := by
  unfold wrap64
  omega

def tick (t : Int) : Prop := 0 ≤ t ∧ t ≤ 1099511627776

theorem check_eq (t : Int) : clock_Check.f t = some (if 0 ≤ t ∧ t ≤ 1099511627776 then 0 else 2) := by
  unfold clock_Check.f clock_within_int64.f
  by_cases h : 0 ≤ t
  · rw [if_pos h]
    simp only [Option.bind_some]
    by_cases h' : t ≤ 1099511627776
    · rw [decide_eq_true h']; simp [h, h']
    · rw [decide_eq_false h']; simp [h']
  · rw [if_neg h]; simp [h]

theorem check_ok {t : Int} (h : 0 ≤ t) (h' : t ≤ 1099511627776) : clock_Check.f t = some 0 := by rw [check_eq, if_pos ⟨h, h'⟩]
theorem check_no {t : Int} (h : ¬ (0 ≤ t ∧ t ≤ 1099511627776)) : clock_Check.f t = some 2 := by rw [check_eq, if_neg h]

theorem age_ok {a b : Int} (h : 0 ≤ a) (h' : b ≤ 1099511627776) (hab : a ≤ b) : clock_Age.f a b = some (b - a, 0) := by
  unfold clock_Age.f
  rw [check_ok h (by omega), check_ok (by omega) h']
  simp only [Option.bind_some, if_true]
  rw [if_neg (by omega), w64 (by omega) (by omega)]

theorem left_ok {ttl a b : Int} (h0 : 0 ≤ ttl) (h1 : ttl ≤ 4294967295) (h : 0 ≤ a) (h' : b ≤ 1099511627776) (hab : a ≤ b) :
    clock_Left.f ttl a b = some (if b - a < ttl then (ttl - (b - a), true) else (0, false)) := by
  unfold clock_Left.f
  rw [age_ok h h' hab]
  simp only [Option.bind_some, if_true]
  rw [w64 (n := ttl) (by omega) (by omega)]
  by_cases hb : b - a < ttl
  · rw [if_neg (by omega), if_pos hb]
    have e : (ttl - (b - a) % 4294967296) % 4294967296 = ttl - (b - a) := by omega
    rw [e]
  · rw [if_pos (by omega), if_neg hb]

theorem add_ok {k : Nat} {t n : Int} (h : 0 ≤ t) (hn : 0 ≤ n) (h' : t + n ≤ 1099511627776) : clock_Add.f (k + 1) t n = some (t + n, 0) := by
  unfold clock_Add.f
  rw [check_ok h (by omega)]
  simp only [Option.bind_some, if_true]
  rw [decide_eq_false (by omega)]
  simp only [clock_Add.j0]
  rw [w64 (n := 1099511627776 - t) (by omega) (by omega), w64 (n := t + n) (by omega) (by omega), if_neg (by simp), if_neg (by omega)]
theorem add_long {k : Nat} {t n : Int} (h : 0 ≤ t) (ht : t ≤ 1099511627776) (hn : 0 ≤ n) (h' : 1099511627776 < t + n) : clock_Add.f (k + 1) t n = some (0, 3) := by
  unfold clock_Add.f
  rw [check_ok h (by omega)]
  simp only [Option.bind_some, if_true]
  rw [decide_eq_false (by omega)]
  simp only [clock_Add.j0]
  rw [w64 (n := 1099511627776 - t) (by omega) (by omega), if_neg (by simp), if_pos (by omega)]
theorem add_arg {k : Nat} {t n : Int} (h : ¬ (0 ≤ t ∧ t ≤ 1099511627776) ∨ n < 0) : clock_Add.f (k + 1) t n = some (0, 2) := by
  unfold clock_Add.f
  rw [check_eq]
  simp only [Option.bind_some, clock_Add.j0]
  by_cases hc : 0 ≤ t ∧ t ≤ 1099511627776
  · rw [if_pos hc, if_pos rfl]
    rw [decide_eq_true (by omega), if_pos rfl]
  · rw [if_neg hc, if_neg (by decide), if_pos trivial]

theorem lives_true : nameplatelaw12_lives.f = some true := by decide +kernel

theorem rcheck_eq (t : Int) : nameplateref12_Check.f t = clock_Check.f t := by
  rw [check_eq]
  unfold nameplateref12_Check.f
  by_cases h : t < 0
  · rw [if_pos h, if_neg (by omega)]
  · rw [if_neg h]
    by_cases h' : t > 1099511627776
    · rw [if_pos h', if_neg (by omega)]
    · rw [if_neg h', if_pos (by omega)]
theorem rage_eq (a b : Int) : nameplateref12_Age.f a b = clock_Age.f a b := by
  unfold nameplateref12_Age.f clock_Age.f
  rw [rcheck_eq, rcheck_eq]
theorem rleft_eq (a b c : Int) : nameplateref12_Left.f a b c = clock_Left.f a b c := by
  unfold nameplateref12_Left.f clock_Left.f
  rw [rage_eq]
theorem radd_eq (k : Nat) (t n : Int) : nameplateref12_Add.f (k + 1) t n = clock_Add.f (k + 1) t n := by
  unfold nameplateref12_Add.f clock_Add.f
  rw [rcheck_eq]
  simp only [nameplateref12_Add.j0, clock_Add.j0]
theorem add_some (k : Nat) (t n : Int) : ∃ r, clock_Add.f (k + 1) t n = some r := by
  by_cases h : (0 ≤ t ∧ t ≤ 1099511627776) ∧ 0 ≤ n
  · by_cases h' : t + n ≤ 1099511627776
    · exact ⟨_, add_ok h.1.1 h.2 h'⟩
    · exact ⟨_, add_long h.1.1 h.1.2 h.2 (by omega)⟩
  · exact ⟨_, add_arg (by omega)⟩
theorem age_some (a b : Int) : ∃ r, clock_Age.f a b = some r := by
  unfold clock_Age.f
  rw [check_eq, check_eq]
  simp only [Option.bind_some]
  repeat' split
  all_goals exact ⟨_, rfl⟩
theorem left_some (t a b : Int) : ∃ r, clock_Left.f t a b = some r := by
  unfold clock_Left.f
  obtain ⟨r, hr⟩ := age_some a b
  rw [hr]
  simp only [Option.bind_some]
  repeat' split
  all_goals exact ⟨_, rfl⟩

theorem first_loops (l : List Int) (hl : l.length ≤ 300) (d : Nat) : ∀ (k : Nat) (x i : Int), 0 ≤ x → x < l.length → 0 ≤ i → i ≤ l.length → (l.length : Int) - i = d → d < k →
    ∃ r, clock_First.l0 k l x l (l.length : Int) i = some r ∧ nameplateref12_First.l0 k l x i = some r := by
  induction d with
  | zero =>
    intro k x i h0 h1 h2 h3 hd hk
    obtain ⟨k, rfl⟩ : ∃ m, k = m + 1 := ⟨k - 1, by omega⟩
    refine ⟨(x, decide ((l.length : Int) > 0)), ?_, ?_⟩
    · simp only [clock_First.l0]; rw [if_neg (by omega)]
    · simp only [nameplateref12_First.l0]; rw [if_neg (by omega)]
  | succ d ih =>
    intro k x i h0 h1 h2 h3 hd hk
    obtain ⟨k, rfl⟩ : ∃ m, k = m + 1 := ⟨k - 1, by omega⟩
    have hw : wrap64 (i + 1) = i + 1 := w64 (by omega) (by omega)
    by_cases hlt : rd l i < rd l x
    · obtain ⟨r, p, q⟩ := ih k i (i + 1) h2 (by omega) (by omega) (by omega) (by omega) (by omega)
      refine ⟨r, ?_, ?_⟩
      · simp only [clock_First.l0]
        rw [if_pos (by omega), if_pos h2, if_pos (by omega), if_pos h0, if_pos h1, if_pos (by unfold mn; split <;> omega), hw]; exact p
      · simp only [nameplateref12_First.l0]
        rw [if_pos (by omega), if_pos h2, if_pos h0, if_pos h1, if_pos hlt, hw]; exact q
    · obtain ⟨r, p, q⟩ := ih k x (i + 1) h0 h1 (by omega) (by omega) (by omega) (by omega)
      refine ⟨r, ?_, ?_⟩
      · simp only [clock_First.l0]
        rw [if_pos (by omega), if_pos h2, if_pos (by omega), if_pos h0, if_pos h1, if_neg (by unfold mn; split <;> omega), hw]; exact p
      · simp only [nameplateref12_First.l0]
        rw [if_pos (by omega), if_pos h2, if_pos h0, if_pos h1, if_neg hlt, hw]; exact q

theorem first_both (l : List Int) (hl : l.length ≤ 300) : ∃ r, clock_First.f 400 l = some r ∧ nameplateref12_First.f 400 l = some r := by
  unfold clock_First.f nameplateref12_First.f
  cases l with
  | nil => exact ⟨(0, false), by rw [show (400 : Nat) = 399 + 1 from rfl, clock_First.l0]; rfl, by rw [show (400 : Nat) = 399 + 1 from rfl, nameplateref12_First.l0]; rfl⟩
  | cons x t =>
    have hp : 0 < ((x :: t).length : Int) := by simp only [List.length_cons]; omega
    obtain ⟨r, p, q⟩ := first_loops (x :: t) hl ((x :: t).length - 1) 399 0 1 (by omega) hp (by omega) (by omega) (by omega) (by omega)
    refine ⟨r, ?_, ?_⟩
    · rw [show (400 : Nat) = 399 + 1 from rfl]
      rw [clock_First.l0]
      rw [if_pos hp, if_pos (by omega), if_pos hp, if_pos (by omega), if_pos hp, if_neg (by unfold mn; split <;> omega)]
      rw [show wrap64 (0 + 1) = 1 from by decide +kernel]
      exact p
    · have := nameplateref12_First.mono_l 399 (x :: t) 0 1
      exact this r q

theorem ClockCalls : nameplatelaw12_ClockCalls.Pure := by
  intro a0 a1 a2 a3 a4 l5 w0 w1 w2 w3 w4 _ _ _
  refine ⟨400, ?_⟩
  unfold nameplatelaw12_ClockCalls.f
  rw [lives_true]
  simp only [Option.bind_some, if_true]
  by_cases h : (l5.length : Int) > 300
  · rw [if_pos h]
  rw [if_neg h]
  obtain ⟨r1, e1⟩ := add_some 399 a0 a1
  obtain ⟨r2, e2⟩ := age_some a0 a1
  obtain ⟨r3, e3⟩ := left_some a2 a0 a1
  obtain ⟨r4, e4, e5⟩ := first_both l5 (by omega)
  rw [radd_eq 399, e1, rage_eq, e2, rleft_eq, e3, e4, e5]
  simp only [Option.bind_some, if_true, beq_self_eq_true]
  rw [rcheck_eq, check_eq]
  simp only [Option.bind_some, if_true]
  have hc : clock_Clamp.f a2 a3 a4 = some (mn (mx a2 a3) a4) := rfl
  have hc' : nameplateref12_Clamp.f a2 a3 a4 = some (mn (mx a2 a3) a4) := rfl
  have hp : clock_Past.f a0 a1 = some (decide (a1 ≥ a0)) := rfl
  have hp' : nameplateref12_Past.f a0 a1 = some (decide (a1 ≥ a0)) := rfl
  rw [hc, hc', hp, hp']
  simp only [Option.bind_some, if_true, beq_self_eq_true]

end Go.Proofs.Ytnbjogebdjjepaa.Pure
