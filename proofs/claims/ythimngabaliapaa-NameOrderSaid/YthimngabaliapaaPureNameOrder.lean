/- This text proves, about names alone, what the law NameOrder asks: comparing is an order that folding does not change; for all names. -/
import Derived.Test.YthimngabaliapaaNameFnsB
import Derived.Test.YthimngabaliapaaOSevenx11
namespace Go.Proofs.Ythimngabaliapaa.Pure
open Go.RowKit Go.Proofs.Ythimngabaliapaa.OSeven Go.Proofs.YthimngabaliapaaW.PrintWords Go.Proofs.YthimngabaliapaaW.PrintLast Go.Proofs.Ythimngabaliapaa.NameFns

theorem lives_true : nameplatelaw02_lives.f 300 = some true := by decide +kernel
theorem lives_at (k : Nat) (h : 300 ≤ k) : nameplatelaw02_lives.f k = some true := at_rounds nameplatelaw02_lives.mono h lives_true
theorem under_fold {A B : List ByteArray} : underL (A.map foldS) B ↔ underL A B := by
  unfold underL
  rw [List.map_map, show (foldS ∘ foldS) = foldS from funext foldS_foldS]
theorem order_j1 {A B C : List ByteArray} (hA : okL A) (lA : (joinI A).length ≤ 254) (hB : okL B) (lB : (joinI B).length ≤ 254) (hC : okL C) (lC : (joinI C).length ≤ 254) (k : Nat) (hk : 400 ≤ k) :
    nameplatelaw02_NameOrder.j1 k (joinS A) (joinS B) (joinS C) (cmpL (keyL A) (keyL B)) false = some true := by
  obtain ⟨k, rfl⟩ : ∃ m, k = m + 1 := ⟨k - 1, by omega⟩
  have hK : 300 ≤ k := by omega
  have hF := okL_fold hA
  have lF : (joinI (A.map foldS)).length ≤ 254 := by rw [joinI_fold_len]; exact lA
  have ff : (A.map foldS).map foldS = A.map foldS := by rw [List.map_map, show (foldS ∘ foldS) = foldS from funext foldS_foldS]
  haveI d1 : Decidable (underL (A.map foldS) B) := Classical.propDecidable _
  haveI d2 : Decidable (underL A B) := Classical.propDecidable _
  haveI d3 : Decidable (underL B C) := Classical.propDecidable _
  haveI d4 : Decidable (underL A C) := Classical.propDecidable _
  simp only [nameplatelaw02_NameOrder.j1]
  rw [if_neg (by decide), fold_join hA lA k hK, Option.bind_some, compare_join hF lF hB lB k hK, Option.bind_some, if_pos (by rw [keyL_fold]), same_join hF lF hA lA k hK, Option.bind_some, if_pos (decide_eq_true ff), fold_join hF lF k hK, Option.bind_some, if_pos (by rw [ff]),
    under_join hF lF hB lB k hK d1, Option.bind_some, under_join hA lA hB lB k hK d2, Option.bind_some, if_pos (by rw [beq_iff_eq]; exact decide_eq_decide.2 under_fold), Option.bind_some]
  by_cases c1 : underL A B
  · rw [if_pos (decide_eq_true c1), under_join hB lB hC lC k hK d3, Option.bind_some]
    by_cases c2 : underL B C
    · rw [if_pos (decide_eq_true c2), under_join hA lA hC lC k hK d4, Option.bind_some, decide_eq_true (underL_trans c1 c2)]
    · rw [if_neg (by rw [decide_eq_false c2]; decide)]
  · rw [if_neg (by rw [decide_eq_false c1]; decide)]
theorem order_j0 (a b c : ByteArray) (x : Bool) (hx : x = false → chkS a = 0 ∧ chkS b = 0 ∧ chkS c = 0) (k : Nat) (hk : 3000 ≤ k) : nameplatelaw02_NameOrder.j0 k a b c x = some true := by
  obtain ⟨k, rfl⟩ : ∃ m, k = m + 1 := ⟨k - 1, by omega⟩
  have hK : 300 ≤ k := by omega
  simp only [nameplatelaw02_NameOrder.j0]
  cases x with
  | true => rw [if_pos rfl]
  | false =>
    rw [if_neg (by decide)]
    obtain ⟨ha, hb, hc⟩ := hx rfl
    obtain ⟨A, hA, rfl, lA⟩ := chkS_zero.1 ha
    obtain ⟨B, hB, rfl, lB⟩ := chkS_zero.1 hb
    obtain ⟨C, hC, rfl, lC⟩ := chkS_zero.1 hc
    have hj := order_j1 hA lA hB lB hC lC k (by omega)
    have r := cmpL_range (keyL A) (keyL B)
    have ng := cmpL_neg (keyL A) (keyL B)
    have tr := @cmpL_trans (keyL A) (keyL B) (keyL C)
    have z := @cmpL_zero (keyL A) (keyL B)
    have un := @underL_cmp A B
    haveI d : Decidable (underL A B) := Classical.propDecidable _
    rw [compare_join hA lA hB lB k hK, Option.bind_some, compare_join hB lB hC lC k hK, Option.bind_some, compare_join hA lA hC lC k hK, Option.bind_some, compare_join hB lB hA lA k hK]
    rw [ng]
    generalize cmpL (keyL A) (keyL B) = p at *
    generalize cmpL (keyL B) (keyL C) = q at *
    generalize cmpL (keyL A) (keyL C) = s at *
    rw [if_neg (by omega), if_neg (by omega), Option.bind_some, wrap_id (by omega) (by omega), if_pos (by omega), same_join hA lA hB lB k hK, Option.bind_some, if_neg (by
      rw [bne_iff_ne, ne_eq, Classical.not_not]
      by_cases e : A.map foldS = B.map foldS
      · rw [decide_eq_true e, beq_iff_eq]
        exact z.2 (keyL_inj.2 e)
      · rw [decide_eq_false e, beq_eq_false_iff_ne]
        exact fun h => e (keyL_inj.1 (z.1 h))), under_join hA lA hB lB k hK d]
    have fin : ((some (decide (underL A B))).bind fun t => if t = true then nameplatelaw02_NameOrder.j1 k (joinS A) (joinS B) (joinS C) p (decide (p < 0)) else nameplatelaw02_NameOrder.j1 k (joinS A) (joinS B) (joinS C) p false) = some true := by
      rw [Option.bind_some]
      by_cases e : underL A B
      · have hp : decide (p < 0) = false := by
          apply decide_eq_false
          have := un e
          have n2 := cmpL_neg (keyL B) (keyL A)
          omega
        rw [if_pos (decide_eq_true e), hp]
        exact hj
      · rw [if_neg (by rw [decide_eq_false e]; decide)]
        exact hj
    by_cases e1 : p ≤ 0
    · rw [if_pos e1]
      by_cases e2 : q ≤ 0
      · rw [if_pos e2, if_neg (by have := (tr e1 e2).1; omega)]
        exact fin
      · rw [if_neg e2]
        exact fin
    · rw [if_neg e1]
      exact fin
theorem NameOrder : nameplatelaw02_NameOrder.Pure := by
  intro a b c _ _ _
  refine ⟨4000, ?_⟩
  generalize hK : (4000 : Nat) = K
  have hk : 3000 ≤ K := by omega
  unfold nameplatelaw02_NameOrder.f
  rw [lives_at K (by omega), Option.bind_some, if_pos rfl]
  have j := fun (x : Bool) hx => order_j0 a b c x hx K hk
  have jt := j true (fun h => by cases h)
  by_cases h1 : (a.size : Int) > 400
  · rw [if_pos h1]; exact jt
  rw [if_neg h1]
  by_cases h2 : (b.size : Int) > 400
  · rw [if_pos h2]; exact jt
  rw [if_neg h2]
  by_cases h3 : (c.size : Int) > 400
  · rw [if_pos h3]; exact jt
  rw [if_neg h3, check_eq a K (by omega), Option.bind_some]
  by_cases c1 : chkS a = 0
  · rw [if_pos c1, check_eq b K (by omega), Option.bind_some]
    by_cases c2 : chkS b = 0
    · rw [if_pos c2, check_eq c K (by omega), Option.bind_some]
      exact j _ (fun h => ⟨c1, c2, bne_eq_false_iff_eq.1 h⟩)
    · rw [if_neg c2]; exact jt
  · rw [if_neg c1]; exact jt
end Go.Proofs.Ythimngabaliapaa.Pure
