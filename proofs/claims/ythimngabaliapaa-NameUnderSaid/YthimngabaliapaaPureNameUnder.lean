/- This text proves, about names alone, what the law NameUnder asks: each name is under each of its parents, and behind them in order; joined from its labels it is itself; for all names. -/
import Derived.Test.YthimngabaliapaaNameFnsB
namespace Go.Proofs.Ythimngabaliapaa.Pure
open Go.RowKit Go.Proofs.Ythimngabaliapaa.OSeven Go.Proofs.YthimngabaliapaaW.PrintWords Go.Proofs.YthimngabaliapaaW.PrintLast Go.Proofs.Ythimngabaliapaa.NameFns

theorem lives_true : nameplatelaw02_lives.f 300 = some true := by decide +kernel
theorem lives_at (k : Nat) (h : 300 ≤ k) : nameplatelaw02_lives.f k = some true := at_rounds nameplatelaw02_lives.mono h lives_true
theorem join_take {L : List ByteArray} {i : Nat} (hi : i < L.length) : L.drop i = L[i] :: L.drop (i + 1) := List.drop_eq_getElem_cons hi
theorem joinI_drop_len (L : List ByteArray) (i : Nat) : (joinI (L.drop i)).length ≤ (joinI L).length := by
  have := joinI_app_len (L.take i) (L.drop i)
  rw [List.take_append_drop] at this
  omega
theorem one_label {L : List ByteArray} {i : Nat} (hi : i < L.length) : (L.take (i + 1)).drop i = [L[i]] := by
  rw [List.take_succ_eq_append_getElem hi, List.drop_append_of_le_length (by rw [List.length_take]; omega), List.drop_eq_nil_of_le (by rw [List.length_take]; omega), List.nil_append]
theorem under_l0 {L : List ByteArray} (hL : okL L) (hl : (joinI L).length ≤ 254) : ∀ (i : Nat), i ≤ L.length → ∀ k, 2 * i + 400 ≤ k →
    nameplatelaw02_NameUnder.l0 k (joinS L) L (joinS (L.drop i)) ((i : Int) - 1) = some true := by
  intro i
  have nL := joinI_len L
  have hz := joinI_len2 hL
  haveI dd : ∀ A B : List ByteArray, Decidable (underL A B) := fun _ _ => Classical.propDecidable _
  induction i with
  | zero =>
    intro _ k hk
    obtain ⟨k, rfl⟩ : ∃ m, k = m + 1 := ⟨k - 1, by omega⟩
    have hK : 300 ≤ k := by omega
    simp only [nameplatelaw02_NameUnder.l0]
    rw [if_neg (by omega), parent_nil k hK, Option.bind_some, List.drop_zero, if_pos rfl, under_join hL hl hL hl k hK (dd _ _), Option.bind_some, if_pos (decide_eq_true (underL_refl L)), if_neg (by decide), decide_eq_true (by omega)]
  | succ i ih =>
    intro hi k hk
    obtain ⟨k, rfl⟩ : ∃ m, k = m + 2 := ⟨k - 2, by omega⟩
    have hK : 300 ≤ k + 1 := by omega
    have hD := okL_drop hL (i + 1)
    have lD : (joinI (L.drop (i + 1))).length ≤ 254 := Nat.le_trans (joinI_drop_len L _) hl
    have hE := okL_drop hL i
    have lE : (joinI (L.drop i)).length ≤ 254 := Nat.le_trans (joinI_drop_len L _) hl
    have hil : i < L.length := by omega
    have hO : okL [L[i]] := okL_cons.2 ⟨hL _ (List.getElem_mem hil), okL_nil⟩
    have de := join_take hil
    have lO : (joinI [L[i]]).length + (joinI (L.drop (i + 1))).length ≤ 254 := by
      rw [← joinI_app_len, List.singleton_append, ← de]
      exact lE
    simp only [nameplatelaw02_NameUnder.l0]
    rw [show ((i + 1 : Nat) : Int) - 1 = (i : Int) by omega, wrap_id (n := (i : Int) + 1) (by omega) (by omega), if_pos (by omega), if_pos (by omega), if_pos (by omega), if_pos (by omega), show ((i : Int) + 1).toNat = i + 1 by omega, Int.toNat_natCast, one_label hil,
      make_join hO (by omega), Option.bind_some, join_join hO (by omega) hD lD _ hK, if_neg (by omega), Option.bind_some, if_pos rfl, if_pos rfl]
    dsimp only
    rw [List.singleton_append, ← de]
    have u1 : underL (L.drop i) (L.drop (i + 1)) := by
      rw [de]
      exact underL_append [L[i]] _
    have u2 : ¬ underL (L.drop (i + 1)) (L.drop i) := by
      intro h
      have := underL_length h
      rw [List.length_drop, List.length_drop] at this
      omega
    have u3 : underL L (L.drop i) := by
      have := underL_append (L.take i) (L.drop i)
      rw [List.take_append_drop] at this
      exact this
    have c1 : cmpL (keyL (L.drop (i + 1))) (keyL (L.drop i)) = -1 := cmpL_prefix (underL_key u1) (by rw [keyL_length, keyL_length, List.length_drop, List.length_drop]; omega)
    rw [under_join hE lE hD lD _ hK (dd _ _), Option.bind_some, if_pos (decide_eq_true u1), compare_join hD lD hE lE _ hK, Option.bind_some, if_pos c1, under_join hD lD hE lE _ hK (dd _ _), Option.bind_some, if_neg (by rw [decide_eq_false u2]; decide), under_join hL hl hE lE _ hK (dd _ _), Option.bind_some, decide_eq_true u3]
    show nameplatelaw02_NameUnder.j2 (k + 1) _ _ _ _ _ false = _
    simp only [nameplatelaw02_NameUnder.j2]
    have pc : name_Parent.f k (joinS (L.drop i)) = some (joinS (L.drop (i + 1)), true) := by
      have hE' := hE
      have lE' := lE
      rw [de] at hE' lE' ⊢
      exact parent_cons hE' lE' k (by omega)
    rw [if_neg (by decide), pc, Option.bind_some, if_pos rfl, if_pos rfl, wrap_id (n := (i : Int) - 1) (by omega) (by omega)]
    exact ih (by omega) k (by omega)
theorem under_j0 (a : ByteArray) (x : Bool) (hx : x = false → chkS a = 0) (k : Nat) (hk : 3000 ≤ k) : nameplatelaw02_NameUnder.j0 k a x = some true := by
  obtain ⟨k, rfl⟩ : ∃ m, k = m + 1 := ⟨k - 1, by omega⟩
  have hK : 300 ≤ k := by omega
  simp only [nameplatelaw02_NameUnder.j0]
  cases x with
  | true => rw [if_pos rfl]
  | false =>
    rw [if_neg (by decide)]
    obtain ⟨A, hA, rfl, lA⟩ := chkS_zero.1 (hx rfl)
    have nA := joinI_len A
    rw [labels_join hA lA k hK, Option.bind_some, wrap_id (by omega) (by omega)]
    have := under_l0 hA lA A.length (Nat.le_refl _) k (by omega)
    rw [List.drop_length] at this
    exact this
theorem NameUnder : nameplatelaw02_NameUnder.Pure := by
  intro a _
  refine ⟨4000, ?_⟩
  generalize hK : (4000 : Nat) = K
  have hk : 3000 ≤ K := by omega
  unfold nameplatelaw02_NameUnder.f
  rw [lives_at K (by omega), Option.bind_some, if_pos rfl]
  have j := fun (x : Bool) hx => under_j0 a x hx K hk
  by_cases h1 : (a.size : Int) > 400
  · rw [if_pos h1]
    exact j true (fun h => by cases h)
  rw [if_neg h1, check_eq a K (by omega), Option.bind_some]
  exact j _ (fun h => bne_eq_false_iff_eq.1 h)
end Go.Proofs.Ythimngabaliapaa.Pure
