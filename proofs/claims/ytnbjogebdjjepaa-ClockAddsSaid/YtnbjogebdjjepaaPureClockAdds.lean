/- This text proves, about numbers alone, what the law ClockAdds asks of ticks that are added: for every tick and two numbers the law's printed function answers true. -/
import Derived.Test.YtnbjogebdjjepaaPClockAddsx1
namespace Go.Proofs.Ytnbjogebdjjepaa.Pure
open Go.RowKit Go.Proofs.Ytnbjogebdjjepaa.PClockAdds Go.Proofs.YtnbjogebdjjepaaW.PrintWords Go.Proofs.YtnbjogebdjjepaaW.PrintLast Go.Proofs.YtnbjogebdjjepaaW.PrintMore

theorem wf64 {n : Int} (h : (Lit.int .i64 n).wf = true) : -9223372036854775808 ≤ n ∧ n ≤ 9223372036854775807 := by
  rw [Lit.wf, Bool.and_eq_true, decide_eq_true_eq, decide_eq_true_eq] at h
  exact h
theorem wfu32 {n : Int} (h : (Lit.int .u32 n).wf = true) : 0 ≤ n ∧ n ≤ 4294967295 := by
  rw [Lit.wf, Bool.and_eq_true, decide_eq_true_eq, decide_eq_true_eq] at h
  exact h
theorem w64 {n : Int} (h : -9223372036854775808 ≤ n) (h' : n ≤ 9223372036854775807) : wrap64 n = n := by
  unfold wrap64
  omega

def tick (t : Int) : Prop := 0 ≤ t ∧ t ≤ 1099511627776

theorem check_eq (t : Int) : clock_Check.f t = some (if 0 ≤ t ∧ t ≤ 1099511627776 then 0 else 2) := by
  unfold clock_Check.f clock_within_int64.f
  by_cases h : 0 ≤ t
  · rw [if_pos h]
    simp only [Option.bind_some]
    by_cases h' : t ≤ 1099511627776
    · rw [decide_eq_true h']; simp [h, h']
    · rw [decide_eq_false h']; simp [h']
  · rw [if_neg h]; simp [h]

theorem check_ok {t : Int} (h : 0 ≤ t) (h' : t ≤ 1099511627776) : clock_Check.f t = some 0 := by rw [check_eq, if_pos ⟨h, h'⟩]
theorem check_no {t : Int} (h : ¬ (0 ≤ t ∧ t ≤ 1099511627776)) : clock_Check.f t = some 2 := by rw [check_eq, if_neg h]

theorem age_ok {a b : Int} (h : 0 ≤ a) (h' : b ≤ 1099511627776) (hab : a ≤ b) : clock_Age.f a b = some (b - a, 0) := by
  unfold clock_Age.f
  rw [check_ok h (by omega), check_ok (by omega) h']
  simp only [Option.bind_some, if_true]
  rw [if_neg (by omega), w64 (by omega) (by omega)]

theorem left_ok {ttl a b : Int} (h0 : 0 ≤ ttl) (h1 : ttl ≤ 4294967295) (h : 0 ≤ a) (h' : b ≤ 1099511627776) (hab : a ≤ b) :
    clock_Left.f ttl a b = some (if b - a < ttl then (ttl - (b - a), true) else (0, false)) := by
  unfold clock_Left.f
  rw [age_ok h h' hab]
  simp only [Option.bind_some, if_true]
  rw [w64 (n := ttl) (by omega) (by omega)]
  by_cases hb : b - a < ttl
  · rw [if_neg (by omega), if_pos hb]
    have e : (ttl - (b - a) % 4294967296) % 4294967296 = ttl - (b - a) := by omega
    rw [e]
  · rw [if_pos (by omega), if_neg hb]

theorem add_ok {k : Nat} {t n : Int} (h : 0 ≤ t) (hn : 0 ≤ n) (h' : t + n ≤ 1099511627776) : clock_Add.f (k + 1) t n = some (t + n, 0) := by
  unfold clock_Add.f
  rw [check_ok h (by omega)]
  simp only [Option.bind_some, if_true]
  rw [decide_eq_false (by omega)]
  simp only [clock_Add.j0]
  rw [w64 (n := 1099511627776 - t) (by omega) (by omega), w64 (n := t + n) (by omega) (by omega), if_neg (by simp), if_neg (by omega)]
theorem add_long {k : Nat} {t n : Int} (h : 0 ≤ t) (ht : t ≤ 1099511627776) (hn : 0 ≤ n) (h' : 1099511627776 < t + n) : clock_Add.f (k + 1) t n = some (0, 3) := by
  unfold clock_Add.f
  rw [check_ok h (by omega)]
  simp only [Option.bind_some, if_true]
  rw [decide_eq_false (by omega)]
  simp only [clock_Add.j0]
  rw [w64 (n := 1099511627776 - t) (by omega) (by omega), if_neg (by simp), if_pos (by omega)]
theorem add_arg {k : Nat} {t n : Int} (h : ¬ (0 ≤ t ∧ t ≤ 1099511627776) ∨ n < 0) : clock_Add.f (k + 1) t n = some (0, 2) := by
  unfold clock_Add.f
  rw [check_eq]
  simp only [Option.bind_some, clock_Add.j0]
  by_cases hc : 0 ≤ t ∧ t ≤ 1099511627776
  · rw [if_pos hc, if_pos rfl]
    rw [decide_eq_true (by omega), if_pos rfl]
  · rw [if_neg hc, if_neg (by decide), if_pos trivial]

theorem lives_true : nameplatelaw12_lives.f = some true := by decide +kernel

theorem ClockAdds : nameplatelaw12_ClockAdds.Pure := by
  intro a0 a1 a2 w0 w1 w2
  have b0 := wf64 w0
  refine ⟨2, ?_⟩
  unfold nameplatelaw12_ClockAdds.f
  rw [lives_true]
  simp only [Option.bind_some, if_true]
  by_cases h1 : a1 < 0
  · rw [if_pos h1]; rfl
  rw [if_neg h1]
  by_cases h2 : a2 < 0
  · rw [if_pos h2]; rfl
  rw [if_neg h2]
  by_cases h3 : a1 > 1099511627776
  · rw [if_pos h3]; rfl
  rw [if_neg h3]
  by_cases h4 : a2 > 1099511627776
  · rw [decide_eq_true h4]; rfl
  rw [decide_eq_false h4]
  simp only [nameplatelaw12_ClockAdds.j0]
  rw [if_neg (by decide), w64 (n := a1 + a2) (by omega) (by omega)]
  by_cases ht : 0 ≤ a0 ∧ a0 ≤ 1099511627776
  · by_cases hs : a0 + a1 ≤ 1099511627776
    · rw [add_ok (k := 0) ht.1 (show 0 ≤ a1 by omega) hs]
      by_cases hl : a0 + a1 + a2 ≤ 1099511627776
      · rw [add_ok (k := 0) ht.1 (show 0 ≤ a1 + a2 by omega) (by omega)]
        simp only [Option.bind_some, if_true]
        rw [add_ok (k := 0) (t := a0 + a1) (by omega) (show 0 ≤ a2 by omega) (by omega)]
        simp only [Option.bind_some, if_true]
        rw [age_ok ht.1 (b := a0 + a1 + a2) (by omega) (by omega)]
        simp only [Option.bind_some, if_true]
        rw [if_pos (by omega), if_pos (by omega)]
        have p1 : clock_Past.f a0 (a0 + a1 + a2) = some true := by unfold clock_Past.f; rw [decide_eq_true (by omega)]
        have p2 : clock_Past.f (a0 + a1) (a0 + a1 + a2) = some true := by unfold clock_Past.f; rw [decide_eq_true (by omega)]
        rw [p1, p2]
        simp only [Option.bind_some, if_true]
        unfold clock_Past.f
        simp only [Option.bind_some]
        by_cases hz : a2 = 0
        · subst hz; simp
        · rw [decide_eq_false (by omega), beq_eq_false_iff_ne.2 hz]; rfl
      · rw [add_long (k := 0) ht.1 ht.2 (show 0 ≤ a1 + a2 by omega) (by omega)]
        simp only [Option.bind_some, if_true]
        rw [add_long (k := 0) (t := a0 + a1) (by omega) (by omega) (show 0 ≤ a2 by omega) (by omega)]
        simp
    · rw [add_long (k := 0) ht.1 ht.2 (show 0 ≤ a1 by omega) (by omega), add_long (k := 0) ht.1 ht.2 (show 0 ≤ a1 + a2 by omega) (by omega)]
      simp
  · rw [add_arg (k := 0) (n := a1 + a2) (Or.inl ht), add_arg (k := 0) (n := a1) (Or.inl ht)]
    simp

end Go.Proofs.Ytnbjogebdjjepaa.Pure
