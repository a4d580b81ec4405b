/- This text proves, about names alone, what the law NameFolds asks: folding turns letters alone; for all names. -/
import Derived.Test.YthimngabaliapaaNameFnsA
import Derived.Test.YthimngabaliapaaOSevenx5
namespace Go.Proofs.Ythimngabaliapaa.Pure
open Go.RowKit Go.Proofs.Ythimngabaliapaa.OSeven Go.Proofs.YthimngabaliapaaW.PrintWords Go.Proofs.YthimngabaliapaaW.PrintLast Go.Proofs.Ythimngabaliapaa.NameFns

theorem lives_true : nameplatelaw02_lives.f 300 = some true := by decide +kernel
theorem lives_at (k : Nat) (h : 300 ≤ k) : nameplatelaw02_lives.f k = some true := at_rounds nameplatelaw02_lives.mono h lives_true
theorem foldI_cases (c : Int) : (foldI c = c) ∨ (65 ≤ c ∧ c ≤ 90 ∧ foldI c = c + 32) := by
  unfold foldI
  by_cases h1 : 65 ≤ c
  · by_cases h2 : c ≤ 90
    · rw [if_pos h1, if_pos h2]
      exact Or.inr ⟨h1, h2, rfl⟩
    · rw [if_pos h1, if_neg h2]
      exact Or.inl rfl
  · rw [if_neg h1]
    exact Or.inl rfl
theorem foldI_no (c : Int) : ¬ (65 ≤ foldI c ∧ foldI c ≤ 90) := by
  unfold foldI
  by_cases h1 : 65 ≤ c
  · by_cases h2 : c ≤ 90
    · rw [if_pos h1, if_pos h2]; omega
    · rw [if_pos h1, if_neg h2]; omega
  · rw [if_neg h1]; omega
theorem folded_at (L : List ByteArray) : ∀ i : Nat, rd (joinI (L.map foldS)) (i : Int) = rd (joinI L) (i : Int) ∨ rd (joinI (L.map foldS)) (i : Int) = foldI (rd (joinI L) (i : Int)) := by
  intro i
  rw [rd_getD, rd_getD]
  induction L generalizing i with
  | nil => exact Or.inl rfl
  | cons x t ih =>
    rw [List.map_cons, joinI_cons, joinI_cons, foldS_size, bytesOf_foldS]
    cases i with
    | zero => exact Or.inl rfl
    | succ i =>
      rw [List.getD_cons_succ, List.getD_cons_succ]
      simp only [List.getD_eq_getElem?_getD] at ih ⊢
      by_cases h : i < (bytesOf x).length
      · right
        rw [List.getElem?_append_left (by rw [List.length_map]; exact h), List.getElem?_append_left h]
        simp [h]
      · rw [List.getElem?_append_right (by rw [List.length_map]; omega), List.getElem?_append_right (by omega), List.length_map]
        exact ih _
/-- The last loops: no upper letter is left in a label. -/
theorem folds_l2 {L : List ByteArray} (hL : okL L) (hn : L.length ≤ 1000) (i : Nat) (hi : i < L.length) (N : Nat) (hnext : ∀ K, N ≤ K → nameplatelaw02_NameFolds.l1 K L (L.map foldS) ((i + 1 : Nat) : Int) = some true) :
    ∀ (d j : Nat), j + d = L[i].size → ∀ K, N + d + 1 ≤ K → nameplatelaw02_NameFolds.l2 K L (L.map foldS) (i : Int) (j : Int) = some true := by
  have hx := hL L[i] (List.getElem_mem hi)
  have e1 : rdOf ByteArray.empty L (i : Int) = L[i] := rdOf_at hi
  have e2 : rdOf ByteArray.empty (L.map foldS) (i : Int) = foldS L[i] := by rw [rdOf_at (by rw [List.length_map]; exact hi), List.getElem_map]
  intro d
  induction d with
  | zero =>
    intro j hj K hK
    obtain ⟨K, rfl⟩ : ∃ m, K = m + 1 := ⟨K - 1, by omega⟩
    simp only [nameplatelaw02_NameFolds.l2]
    rw [if_pos (by omega), if_pos (by omega), e1, if_neg (by omega), wrap_id (n := (i : Int) + 1) (by omega) (by omega)]
    exact hnext K (by omega)
  | succ d ih =>
    intro j hj K hK
    obtain ⟨K, rfl⟩ : ∃ m, K = m + 1 := ⟨K - 1, by omega⟩
    simp only [nameplatelaw02_NameFolds.l2]
    rw [if_pos (by omega), if_pos (by omega), e1, e2, if_pos (by omega), if_pos (by rw [List.length_map]; omega), if_pos (by omega), if_pos (by rw [foldS_size]; omega), wrap_id (n := (j : Int) + 1) (by omega) (by omega)]
    have hb : ¬ (65 ≤ bt (foldS L[i]) (j : Int) ∧ bt (foldS L[i]) (j : Int) ≤ 90) := by
      rw [bt_rd, bytesOf_foldS, rd_getD]
      have hj' : j < (bytesOf L[i]).length := by rw [bytesOf_length]; omega
      rw [show ((bytesOf L[i]).map foldI).getD j 0 = foldI ((bytesOf L[i])[j]) by simp [List.getD, hj']]
      exact foldI_no _
    have hr := ih (j + 1) (by omega) K (by omega)
    by_cases c1 : bt (foldS L[i]) (j : Int) ≥ 65
    · rw [if_pos c1, if_neg (fun e => hb ⟨c1, e⟩)]
      exact hr
    · rw [if_neg c1]
      exact hr
theorem folds_l1 {L : List ByteArray} (hL : okL L) (hn : L.length ≤ 1000) : ∀ (d i : Nat), i + d = L.length → ∀ K, 70 * d + 1 ≤ K → nameplatelaw02_NameFolds.l1 K L (L.map foldS) (i : Int) = some true := by
  intro d
  induction d with
  | zero =>
    intro i hi K hK
    obtain ⟨K, rfl⟩ : ∃ m, K = m + 1 := ⟨K - 1, by omega⟩
    simp only [nameplatelaw02_NameFolds.l1]
    rw [if_neg (by omega), List.length_map]
    simp
  | succ d ih =>
    intro i hi K hK
    obtain ⟨K, rfl⟩ : ∃ m, K = m + 1 := ⟨K - 1, by omega⟩
    simp only [nameplatelaw02_NameFolds.l1]
    have hi' : i < L.length := by omega
    have hx := hL L[i] (List.getElem_mem hi')
    rw [if_pos (by omega)]
    exact folds_l2 hL hn i hi' (70 * d + 1) (fun K hK => ih (i + 1) (by omega) K hK) L[i].size 0 (by omega) K (by omega)
theorem folds_l0 {L : List ByteArray} (hL : okL L) (hl : (joinI L).length ≤ 254) : ∀ (d i : Nat), i + d = (joinI L).length → ∀ K, 20000 + d + 1 ≤ K → nameplatelaw02_NameFolds.l0 K (joinS L) (joinS (L.map foldS)) (i : Int) = some true := by
  have s1 := joinS_size hL
  have s2 := joinS_size (okL_fold hL)
  rw [joinI_fold_len] at s2
  have nL := joinI_len L
  intro d
  induction d with
  | zero =>
    intro i hi K hK
    obtain ⟨K, rfl⟩ : ∃ m, K = m + 1 := ⟨K - 1, by omega⟩
    simp only [nameplatelaw02_NameFolds.l0]
    rw [if_neg (by omega), labels_join hL hl K (by omega), labels_join (okL_fold hL) (by rw [joinI_fold_len]; exact hl) K (by omega), Option.bind_some, Option.bind_some]
    exact folds_l1 hL (by omega) L.length 0 (by omega) K (by omega)
  | succ d ih =>
    intro i hi K hK
    obtain ⟨K, rfl⟩ : ∃ m, K = m + 1 := ⟨K - 1, by omega⟩
    simp only [nameplatelaw02_NameFolds.l0]
    rw [if_pos (by omega), if_pos (by omega), if_pos (by omega), bt_rd, bt_rd, bytesOf_join hL, bytesOf_join (okL_fold hL), wrap_id (n := (i : Int) + 1) (by omega) (by omega)]
    have hr := ih (i + 1) (by omega) K (by omega)
    have hb := rd_byt (joinI_byt hL) (i : Int)
    have hf := folded_at L i
    generalize rd (joinI (L.map foldS)) (i : Int) = p at hf ⊢
    generalize rd (joinI L) (i : Int) = c at hf hb ⊢
    by_cases e : p = c
    · rw [if_pos e]
      exact hr
    · rw [if_neg e]
      have hp : p = foldI c := hf.resolve_left e
      rcases foldI_cases c with h | ⟨h1, h2, h3⟩
      · rw [h] at hp
        exact absurd hp e
      · rw [if_neg (by omega), if_neg (by omega), if_pos (by rw [hp, h3]; omega)]
        exact hr
theorem folds_j0 (a : ByteArray) (x : Bool) (hx : x = false → chkS a = 0) (hy : x = true → a.size > 400 ∨ chkS a ≠ 0) (k : Nat) (hk : 25000 ≤ k) : nameplatelaw02_NameFolds.j0 k a x = some true := by
  obtain ⟨k, rfl⟩ : ∃ m, k = m + 2 := ⟨k - 2, by omega⟩
  have hK : 300 ≤ k + 1 := by omega
  simp only [nameplatelaw02_NameFolds.j0]
  cases x with
  | true =>
    rw [if_pos rfl]
    by_cases h : (a.size : Int) > 400
    · rw [if_pos h]
    · rw [if_neg h, fold_bad ((hy rfl).resolve_left (by omega)) _ hK, Option.bind_some]
      show some ((⟨#[]⟩ : ByteArray).toList == []) = some true
      rw [ByteArray.toList_eq]
      rfl
  | false =>
    rw [if_neg (by decide)]
    obtain ⟨L, hL, rfl, lL⟩ := chkS_zero.1 (hx rfl)
    have hf := okL_fold hL
    have lf : (joinI (L.map foldS)).length ≤ 254 := by rw [joinI_fold_len]; exact lL
    rw [fold_join hL lL _ hK, Option.bind_some, if_pos (by rw [joinS_size hL, joinS_size hf, joinI_fold_len]), check_eq _ _ hK, chkS_join hf lf, Option.bind_some]
    show nameplatelaw02_NameFolds.j1 (k + 1) _ _ false = _
    simp only [nameplatelaw02_NameFolds.j1]
    rw [if_neg (by decide)]
    exact folds_l0 hL lL (joinI L).length 0 (by omega) k (by omega)
theorem NameFolds : nameplatelaw02_NameFolds.Pure := by
  intro a _
  refine ⟨30000, ?_⟩
  generalize hK : (30000 : Nat) = K
  have hk : 25000 ≤ K := by omega
  unfold nameplatelaw02_NameFolds.f
  rw [lives_at K (by omega), Option.bind_some, if_pos rfl]
  by_cases h1 : (a.size : Int) > 400
  · rw [if_pos h1]
    exact folds_j0 a true (fun h => by cases h) (fun _ => Or.inl (by omega)) K hk
  rw [if_neg h1, check_eq a K (by omega), Option.bind_some]
  exact folds_j0 a _ (fun h => bne_eq_false_iff_eq.1 h) (fun h => Or.inr (bne_iff_ne.1 h)) K hk
end Go.Proofs.Ythimngabaliapaa.Pure
