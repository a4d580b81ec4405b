/- This text proves, about names alone, what the law NameJoins asks: joined in whatever brackets three names are the same; for all names. -/
import Derived.Test.YthimngabaliapaaNameFnsA
namespace Go.Proofs.Ythimngabaliapaa.Pure
open Go.RowKit Go.Proofs.Ythimngabaliapaa.OSeven Go.Proofs.YthimngabaliapaaW.PrintWords Go.Proofs.YthimngabaliapaaW.PrintLast Go.Proofs.Ythimngabaliapaa.NameFns

theorem lives_true : nameplatelaw02_lives.f 300 = some true := by decide +kernel
theorem lives_at (k : Nat) (h : 300 ≤ k) : nameplatelaw02_lives.f k = some true := at_rounds nameplatelaw02_lives.mono h lives_true
theorem joins_j0 (a b c : ByteArray) (x : Bool) (hx : x = false → chkS a = 0 ∧ chkS b = 0 ∧ chkS c = 0) (k : Nat) (hk : 3000 ≤ k) : nameplatelaw02_NameJoins.j0 k a b c x = some true := by
  obtain ⟨k, rfl⟩ : ∃ m, k = m + 1 := ⟨k - 1, by omega⟩
  have hK : 300 ≤ k := by omega
  simp only [nameplatelaw02_NameJoins.j0]
  cases x with
  | true => rw [if_pos rfl]
  | false =>
    rw [if_neg (by decide)]
    obtain ⟨ha, hb, hc⟩ := hx rfl
    obtain ⟨L, hL, rfl, lL⟩ := chkS_zero.1 ha
    obtain ⟨M, hM, rfl, lM⟩ := chkS_zero.1 hb
    obtain ⟨N, hN, rfl, lN⟩ := chkS_zero.1 hc
    have sL := joinS_size hL
    have sM := joinS_size hM
    have sN := joinS_size hN
    have nL := joinI_len L
    have nM := joinI_len M
    have nN := joinI_len N
    rw [join_join hL lL hM lM k hK, join_join hM lM hN lN k hK, Option.bind_some, Option.bind_some, wrap_id (n := ((joinS L).size : Int) + ((joinS M).size : Int)) (by omega) (by omega), wrap_id (by omega) (by omega)]
    by_cases t : ((joinS L).size : Int) + ((joinS M).size : Int) + ((joinS N).size : Int) > 254
    · rw [if_pos t]
      by_cases t1 : (joinI L).length + (joinI M).length > 254
      · rw [if_pos t1]
        obtain ⟨c1, hc1⟩ : ∃ c1, name_Join.f k ((⟨#[]⟩ : ByteArray), (3 : Int)).1 (joinS N) = some c1 := ⟨_, join_join (L := []) okL_nil (by decide) hN lN k hK⟩
        rw [hc1, Option.bind_some, if_pos rfl]
      · rw [if_neg t1]
        have h1 : okL (L ++ M) := join_okL hL hM
        have z3 : ∀ s : ByteArray, ¬ ((s, (0 : Int)).2 = 3) := fun _ => (by decide : ¬ ((0 : Int) = 3))
        rw [show (joinS (L ++ M), (0 : Int)).1 = joinS (L ++ M) from rfl, join_join h1 (by rw [joinI_app_len]; omega) hN lN k hK, Option.bind_some, if_neg (z3 _)]
        by_cases t2 : (joinI M).length + (joinI N).length > 254
        · rw [if_pos t2, if_pos rfl]
        · rw [if_neg t2, if_neg (z3 _), if_pos (by rw [joinI_app_len]; omega)]
          rfl
    · rw [if_neg t, if_neg (by omega), if_neg (by omega)]
      have h1 : okL (L ++ M) := join_okL hL hM
      have h2 : okL (M ++ N) := join_okL hM hN
      have h3 : okL (L ++ M ++ N) := join_okL h1 hN
      have e3 : L ++ (M ++ N) = L ++ M ++ N := (List.append_assoc _ _ _).symm
      have l1 : (joinI (L ++ M)).length ≤ 254 := by rw [joinI_app_len]; omega
      have l2 : (joinI (M ++ N)).length ≤ 254 := by rw [joinI_app_len]; omega
      have l3 : (joinI (L ++ M ++ N)).length ≤ 254 := by rw [joinI_app_len, joinI_app_len]; omega
      haveI d1 : Decidable (underL (L ++ M ++ N) N) := Classical.propDecidable _
      haveI d2 : Decidable (underL (L ++ M ++ N) (M ++ N)) := Classical.propDecidable _
      have j1 : name_Join.f k (joinS (L ++ M)) (joinS N) = some (joinS (L ++ M ++ N), 0) := by rw [join_join h1 l1 hN lN k hK, if_neg (by rw [joinI_app_len]; omega)]
      have j2 : name_Join.f k (joinS L) (joinS (M ++ N)) = some (joinS (L ++ M ++ N), 0) := by rw [join_join hL lL h2 l2 k hK, if_neg (by rw [joinI_app_len]; omega), e3]
      dsimp only
      rw [j1, j2, Option.bind_some, Option.bind_some]
      dsimp only
      rw [if_pos rfl, if_pos rfl, if_pos rfl, if_pos rfl, if_pos rfl,
        if_pos (by rw [joinS_size h3, sL, sM, sN, joinI_app_len, joinI_app_len]; omega), under_join h3 l3 hN lN k hK d1, Option.bind_some, if_pos (decide_eq_true (underL_append _ _)), under_join h3 l3 h2 l2 k hK d2, Option.bind_some, if_pos (decide_eq_true (by rw [← e3]; exact underL_append _ _)),
        labels_join h3 l3 k hK, labels_join hL lL k hK, labels_join hM lM k hK, labels_join hN lN k hK, Option.bind_some, Option.bind_some, Option.bind_some, Option.bind_some]
      congr 1
      rw [beq_iff_eq, wrap_id (n := (L.length : Int) + (M.length : Int)) (by omega) (by omega), wrap_id (by omega) (by omega), List.length_append, List.length_append]
      omega
theorem NameJoins : nameplatelaw02_NameJoins.Pure := by
  intro a b c _ _ _
  refine ⟨4000, ?_⟩
  generalize hK : (4000 : Nat) = K
  have hk : 3000 ≤ K := by omega
  unfold nameplatelaw02_NameJoins.f
  rw [lives_at K (by omega), Option.bind_some, if_pos rfl]
  have j := fun (x : Bool) hx => joins_j0 a b c x hx K hk
  have jt := j true (fun h => by cases h)
  by_cases h1 : (a.size : Int) > 400
  · rw [if_pos h1]; exact jt
  rw [if_neg h1]
  by_cases h2 : (b.size : Int) > 400
  · rw [if_pos h2]; exact jt
  rw [if_neg h2]
  by_cases h3 : (c.size : Int) > 400
  · rw [if_pos h3]; exact jt
  rw [if_neg h3, check_eq a K (by omega), Option.bind_some]
  by_cases c1 : chkS a = 0
  · rw [if_pos c1, check_eq b K (by omega), Option.bind_some]
    by_cases c2 : chkS b = 0
    · rw [if_pos c2, check_eq c K (by omega), Option.bind_some]
      exact j _ (fun h => ⟨c1, c2, bne_eq_false_iff_eq.1 h⟩)
    · rw [if_neg c2]; exact jt
  · rw [if_neg c1]; exact jt
end Go.Proofs.Ythimngabaliapaa.Pure
