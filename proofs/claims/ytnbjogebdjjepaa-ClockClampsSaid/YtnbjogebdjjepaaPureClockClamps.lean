/- This text proves, about numbers alone, what the law ClockClamps asks of a clamped TTL: for every three numbers of 32 bits the law's printed function answers true. -/
import Derived.Test.YtnbjogebdjjepaaPClockClampsx1
namespace Go.Proofs.Ytnbjogebdjjepaa.Pure
open Go.RowKit Go.Proofs.Ytnbjogebdjjepaa.PClockClamps Go.Proofs.YtnbjogebdjjepaaW.PrintWords Go.Proofs.YtnbjogebdjjepaaW.PrintLast Go.Proofs.YtnbjogebdjjepaaW.PrintMore

theorem lives_true : nameplatelaw12_lives.f = some true := by decide +kernel

theorem ClockClamps : nameplatelaw12_ClockClamps.Pure := by
  intro a0 a1 a2 _ _ _
  unfold nameplatelaw12_ClockClamps.f clock_Clamp.f clock_bound_uint32.f
  rw [lives_true]
  simp only [Option.bind_some, if_true]
  obtain ⟨x, hx⟩ : ∃ x, mn (mx a0 a1) a2 = x := ⟨_, rfl⟩
  obtain ⟨y, hy⟩ : ∃ y, mn (mx x a1) a2 = y := ⟨_, rfl⟩
  rw [hx, hy]
  have hx' : (a1 ≤ a0 ∧ a0 ≤ a2 ∧ x = a0) ∨ (a0 < a1 ∧ a1 ≤ a2 ∧ x = a1) ∨ (a2 < a0 ∧ x = a2) ∨ (a2 < a1 ∧ x = a2) := by
    rw [← hx]; unfold mn mx; repeat' split
    all_goals omega
  have hy' : (a1 ≤ x ∧ x ≤ a2 ∧ y = x) ∨ (x < a1 ∧ a1 ≤ a2 ∧ y = a1) ∨ (a2 < x ∧ y = a2) ∨ (a2 < a1 ∧ y = a2) := by
    rw [← hy]; unfold mn mx; repeat' split
    all_goals omega
  clear hx hy
  repeat' split
  all_goals first | rfl | (exfalso; omega) | (rw [beq_iff_eq.2 (by omega)])

end Go.Proofs.Ytnbjogebdjjepaa.Pure
