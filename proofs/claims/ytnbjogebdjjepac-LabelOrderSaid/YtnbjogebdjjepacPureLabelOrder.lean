/- This text proves, about strings of bytes alone, what the law LabelOrder asks: comparing labels, folded, is an order that folding does not change; for all texts of at most 300 octets. -/
import Derived.Test.YtnbjogebdjjepacLabelFns
import Derived.Test.YtnbjogebdjjepacOAllx6
namespace Go.Proofs.Ytnbjogebdjjepac.Pure
open Go.RowKit Go.Proofs.Ytnbjogebdjjepac.OAll Go.Proofs.YtnbjogebdjjepacW.PrintWords Go.Proofs.YtnbjogebdjjepacW.PrintLast Go.Proofs.YtnbjogebdjjepacW.PrintMore

theorem lives_true : nameplatelaw01_lives.f 300 = some true := by decide +kernel
def fcmp (a b : ByteArray) : Int := cmpI ((bytesOf a).map foldI) ((bytesOf b).map foldI)
theorem fold_eq {a : ByteArray} (h : a.size ≤ 300) : label_Fold.f a = some (foldS a) := by unfold label_Fold.f; rw [if_pos (by omega)]
theorem compare_eq {a b : ByteArray} (h : a.size ≤ 300) (h' : b.size ≤ 300) : label_Compare.f a b = some (fcmp a b) := by
  unfold label_Compare.f strings_Compare.f fcmp
  rw [fold_eq h, fold_eq h']
  simp only [Option.bind_some]
  rw [cmp_bytes, bytesOf_foldS, bytesOf_foldS]
theorem same_eq {a b : ByteArray} (h : a.size ≤ 300) (h' : b.size ≤ 300) : label_Same.f a b = some (fcmp a b == 0) := by
  unfold label_Same.f
  rw [compare_eq h h']
  rfl

theorem LabelOrder : nameplatelaw01_LabelOrder.Pure := by
  intro a b c _ _ _
  refine ⟨300, ?_⟩
  unfold nameplatelaw01_LabelOrder.f
  rw [lives_true]
  simp only [Option.bind_some, if_true]
  by_cases ha : (a.size : Int) > 300
  · rw [if_pos ha]; rfl
  rw [if_neg ha]
  by_cases hb : (b.size : Int) > 300
  · rw [if_pos hb]; rfl
  rw [if_neg hb]
  by_cases hc : (c.size : Int) > 300
  · rw [decide_eq_true hc]; rfl
  rw [decide_eq_false hc, show (300 : Nat) = 298 + 1 + 1 from rfl, nameplatelaw01_LabelOrder.j0, if_neg (by decide)]
  have na : a.size ≤ 300 := by omega
  have nb : b.size ≤ 300 := by omega
  have nc : c.size ≤ 300 := by omega
  rw [compare_eq na nb, compare_eq nb nc, compare_eq na nc, compare_eq nb na, same_eq na nb]
  simp only [Option.bind_some]
  have r1 : fcmp a b = -1 ∨ fcmp a b = 0 ∨ fcmp a b = 1 := cmpI_range _ _
  have r2 : fcmp b a = - fcmp a b := cmpI_neg _ _
  have r3 : fcmp a b ≤ 0 → fcmp b c ≤ 0 → fcmp a c ≤ 0 ∧ (fcmp a b < 0 → fcmp a c < 0) := fun h1 h2 => cmpI_trans h1 h2
  have hend : nameplatelaw01_LabelOrder.j1 (298 + 1) a b (fcmp a b) false = some true := by
    rw [nameplatelaw01_LabelOrder.j1, if_neg (by decide), fold_eq na]
    simp only [Option.bind_some]
    have nf : (foldS a).size ≤ 300 := by rw [foldS_size]; exact na
    have e1 : fcmp (foldS a) b = fcmp a b := by
      unfold fcmp
      rw [bytesOf_foldS, List.map_map]
      congr 1
      apply List.map_congr_left
      intro x _
      exact foldI_foldI x
    have e2 : fcmp (foldS a) a = 0 := by
      unfold fcmp
      rw [bytesOf_foldS, List.map_map, cmpI_zero]
      apply List.map_congr_left
      intro x _
      exact foldI_foldI x
    rw [compare_eq nf nb, e1, fold_eq nf, foldS_foldS, same_eq nf na, e2]
    simp only [Option.bind_some, if_true]
    rw [if_pos (by rw [foldS_size])]
    rfl
  rw [if_neg (by omega), if_neg (by omega), if_pos (by rw [r2, Int.neg_neg, wrap_id (by omega) (by omega)])]
  rw [if_neg (by simp)]
  by_cases h1 : fcmp a b ≤ 0
  · rw [if_pos h1]
    by_cases h2 : fcmp b c ≤ 0
    · obtain ⟨h3, h4⟩ := r3 h1 h2
      rw [if_pos h2, if_neg (by omega)]
      by_cases h5 : fcmp a b < 0
      · have := h4 h5
        rw [if_pos h5, beq_eq_false_iff_ne.2 (by omega)]
        exact hend
      · rw [if_neg h5]
        exact hend
    · rw [if_neg h2]
      split <;> exact hend
  · rw [if_neg h1, if_neg (by omega)]
    exact hend

end Go.Proofs.Ytnbjogebdjjepac.Pure
