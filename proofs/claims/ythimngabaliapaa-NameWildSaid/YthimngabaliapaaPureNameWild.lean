/- This text proves, about names alone, what the law NameWild asks: a wildcard matches just what is under its parent, and longer; for all names and labels. -/
import Derived.Test.YthimngabaliapaaNameFnsA
import Derived.Test.YthimngabaliapaaOSevenx7
namespace Go.Proofs.Ythimngabaliapaa.Pure
open Go.RowKit Go.Proofs.Ythimngabaliapaa.OSeven Go.Proofs.YthimngabaliapaaW.PrintWords Go.Proofs.YthimngabaliapaaW.PrintLast Go.Proofs.Ythimngabaliapaa.NameFns

theorem lives_true : nameplatelaw02_lives.f 300 = some true := by decide +kernel
theorem lives_at (k : Nat) (h : 300 ≤ k) : nameplatelaw02_lives.f k = some true := at_rounds nameplatelaw02_lives.mono h lives_true
theorem under_len {N P : List ByteArray} (h : underL N P) : P.length < N.length ↔ ¬ (N.map foldS = P.map foldS) := by
  constructor
  · intro hl e
    have := congrArg List.length e
    rw [List.length_map, List.length_map] at this
    omega
  · intro hn
    refine Nat.lt_of_le_of_ne (underL_length h) fun e => hn ?_
    exact (h.eq_of_length (by rw [List.length_map, List.length_map, e])).symm
theorem under_cons {x : ByteArray} {N P : List ByteArray} (h : underL (x :: N) P) (hl : P.length ≤ N.length) : underL N P := by
  unfold underL at h ⊢
  rw [List.map_cons, List.suffix_cons_iff] at h
  rcases h with h | h
  · have := congrArg List.length h
    simp only [List.length_map, List.length_cons] at this
    omega
  · exact h
theorem wild_j1 {P N : List ByteArray} (hP : okL P) (lP : (joinI (starS :: P)).length ≤ 254) (hN : okL N) (lN : (joinI N).length ≤ 254) (l : ByteArray) (hl : l.size ≤ 63) (is : Bool) (his : is = true ↔ (underL N P ∧ P.length < N.length)) (k : Nat) (hk : 400 ≤ k) :
    nameplatelaw02_NameWild.j1 k (joinS P) (joinS N) l (joinS (starS :: P)) is false = some true := by
  obtain ⟨k, rfl⟩ : ∃ m, k = m + 1 := ⟨k - 1, by omega⟩
  have hK : 300 ≤ k := by omega
  simp only [nameplatelaw02_NameWild.j1]
  rw [if_neg (by decide)]
  have pP : (joinI P).length ≤ 254 := by rw [joinI_len_cons] at lP; omega
  by_cases c0 : chkL [l] = 0
  · have h1 : okL [l] := by
      refine okL_cons.2 ⟨?_, okL_nil⟩
      by_cases z : l.size = 0
      · exfalso
        unfold chkL at c0
        rw [z] at c0
        exact absurd c0 (by decide)
      · omega
    have l1 : (joinI [l]).length ≤ 254 := by
      rw [joinI_len_cons]
      show 1 + l.size + 0 ≤ 254
      omega
    rw [make_join h1 l1, Option.bind_some, if_pos rfl, join_join h1 l1 hN lN k hK, Option.bind_some]
    by_cases c1 : (joinI [l]).length + (joinI N).length > 254
    · rw [if_pos c1, if_neg (by decide)]
    rw [if_neg c1, if_pos rfl]
    have h2 : okL ([l] ++ N) := join_okL h1 hN
    have l2 : (joinI ([l] ++ N)).length ≤ 254 := by rw [joinI_app_len]; omega
    haveI d2 : Decidable (underL ([l] ++ N) P ∧ P.length < ([l] ++ N).length) := Classical.propDecidable _
    rw [matches_star hP lP h2 l2 k hK d2, Option.bind_some]
    cases is with
    | true =>
      have hh := his.1 rfl
      rw [if_pos rfl, decide_eq_true (show underL ([l] ++ N) P ∧ P.length < ([l] ++ N).length from ⟨underL_trans (underL_append [l] N) hh.1, by rw [List.length_append]; omega⟩)]
      rfl
    | false =>
      have hh : ¬ (underL N P ∧ P.length < N.length) := fun h => by have := his.2 h; cases this
      rw [if_neg (by decide), same_join hN lN hP pP k hK, Option.bind_some]
      congr 1
      rw [beq_iff_eq]
      apply decide_eq_decide.2
      constructor
      · rintro ⟨hu, hlen⟩
        have hu' : underL N P := under_cons hu (by rw [List.length_append] at hlen; simp at hlen; omega)
        apply Classical.byContradiction
        intro hn
        exact hh ⟨hu', (under_len hu').2 hn⟩
      · intro e
        have hu : underL N P := by
          unfold underL
          rw [e]
          exact List.suffix_refl _
        refine ⟨underL_trans (underL_append [l] N) hu, ?_⟩
        have := underL_length hu
        rw [List.length_append]
        simp
        omega
  · have hb : (⟨#[]⟩ : ByteArray) = ⟨#[]⟩ := rfl
    rw [make_bad c0 (by simp), Option.bind_some, if_neg c0]
theorem star_join : (⟨#[1, 42]⟩ : ByteArray) = joinS [starS] := by decide +kernel
theorem star_okL : okL [starS] := okL_cons.2 ⟨by decide, okL_nil⟩
theorem wild_p {P N : List ByteArray} (hP : okL P) (lP : (joinI P).length ≤ 254) (hN : okL N) (lN : (joinI N).length ≤ 254) (k : Nat) (hk : 300 ≤ k) :
    ∃ t u, name_Matches.f k (joinS P) (joinS N) = some t ∧ name_Wild.f k (joinS P) = some u ∧ (t = true → u = true) := by
  refine ⟨(name_Matches.f k (joinS P) (joinS N)).getD false, _, ?_, wild_join hP lP k hk, ?_⟩
  · by_cases hs : P.head? = some starS
    · cases P with
      | nil => cases hs
      | cons x t =>
        have hx : x = starS := by injection hs
        subst hx
        have h1 := okL_cons.1 hP
        haveI d : Decidable (underL N t ∧ t.length < N.length) := Classical.propDecidable _
        rw [matches_star h1.2 lP hN lN k hk d]
        rfl
    · rw [matches_plain hP lP hs k hk]
      rfl
  · intro h
    apply decide_eq_true
    apply Classical.byContradiction
    intro hs
    rw [matches_plain hP lP hs k hk] at h
    cases h
theorem wild_j0 (p n l : ByteArray) (x : Bool) (hx : x = false → chkS p = 0 ∧ chkS n = 0 ∧ l.size ≤ 63) (k : Nat) (hk : 3000 ≤ k) : nameplatelaw02_NameWild.j0 k p n l x = some true := by
  obtain ⟨k, rfl⟩ : ∃ m, k = m + 1 := ⟨k - 1, by omega⟩
  have hK : 300 ≤ k := by omega
  simp only [nameplatelaw02_NameWild.j0]
  cases x with
  | true => rw [if_pos rfl]
  | false =>
    rw [if_neg (by decide)]
    obtain ⟨hp, hn, hl⟩ := hx rfl
    obtain ⟨P, hP, rfl, lP⟩ := chkS_zero.1 hp
    obtain ⟨N, hN, rfl, lN⟩ := chkS_zero.1 hn
    rw [star_join, join_join star_okL (by decide) hP lP k hK, Option.bind_some]
    by_cases c1 : (joinI [starS]).length + (joinI P).length > 254
    · rw [if_pos c1, if_neg (by decide)]
    rw [if_neg c1, if_pos rfl]
    dsimp only
    rw [show [starS] ++ P = starS :: P from rfl]
    have hS : okL (starS :: P) := okL_cons.2 ⟨by decide, hP⟩
    have lS : (joinI (starS :: P)).length ≤ 254 := by
      rw [show starS :: P = [starS] ++ P from rfl, joinI_app_len]
      omega
    haveI d1 : Decidable (underL N P ∧ P.length < N.length) := Classical.propDecidable _
    haveI d2 : Decidable (underL N P) := Classical.propDecidable _
    haveI d3 : Decidable (underL (starS :: P) P ∧ P.length < (starS :: P).length) := Classical.propDecidable _
    haveI d4 : Decidable (underL P P ∧ P.length < P.length) := Classical.propDecidable _
    obtain ⟨t, u, ht, hu, htu⟩ := wild_p hP lP hN lN k hK
    have hww := matches_star hP lS hS lS k hK d3
    rw [decide_eq_true (show underL (starS :: P) P ∧ P.length < (starS :: P).length from ⟨underL_append [starS] P, by simp⟩)] at hww
    have hwp := matches_star hP lS hP lP k hK d4
    rw [decide_eq_false (show ¬ (underL P P ∧ P.length < P.length) from fun h => Nat.lt_irrefl _ h.2)] at hwp
    have hj := wild_j1 hP lS hN lN l hl (decide (underL N P ∧ P.length < N.length)) (by simp) k (by omega)
    rw [matches_star hP lS hN lN k hK d1, Option.bind_some, wild_join hS lS k hK, Option.bind_some, if_pos (show decide ((starS :: P).head? = some starS) = true from decide_eq_true rfl),
      under_join hN lN hP lP k hK d2, Option.bind_some]
    generalize hA : decide (underL N P ∧ P.length < N.length) = A at hj ⊢
    rw [ht, hu, hww, hwp]
    simp only [Option.bind_some]
    have fin : (if t = true then (if u = true then (if (true : Bool) = true then nameplatelaw02_NameWild.j1 k (joinS P) (joinS N) l (joinS (starS :: P)) A false else nameplatelaw02_NameWild.j1 k (joinS P) (joinS N) l (joinS (starS :: P)) A true) else nameplatelaw02_NameWild.j1 k (joinS P) (joinS N) l (joinS (starS :: P)) A true) else (if (true : Bool) = true then nameplatelaw02_NameWild.j1 k (joinS P) (joinS N) l (joinS (starS :: P)) A false else nameplatelaw02_NameWild.j1 k (joinS P) (joinS N) l (joinS (starS :: P)) A true)) = some true := by
      by_cases c : t = true
      · rw [if_pos c, if_pos (htu c), if_pos rfl]
        exact hj
      · rw [if_neg c, if_pos rfl]
        exact hj
    by_cases cu : underL N P
    · rw [if_pos (decide_eq_true cu), same_join hN lN hP lP k hK, Option.bind_some, if_neg (by
        rw [← hA, bne_iff_ne, ne_eq, Classical.not_not]
        by_cases e : N.map foldS = P.map foldS
        · rw [decide_eq_true e, decide_eq_false (fun q => ((under_len cu).1 q.2) e)]
          rfl
        · rw [decide_eq_false e, decide_eq_true ⟨cu, (under_len cu).2 e⟩]
          rfl)]
      exact fin
    · rw [if_neg (by rw [decide_eq_false cu]; decide), if_neg (by
        rw [← hA, decide_eq_false (fun q => cu q.1)]
        decide)]
      exact fin
theorem NameWild : nameplatelaw02_NameWild.Pure := by
  intro a b c _ _ _
  refine ⟨4000, ?_⟩
  generalize hK : (4000 : Nat) = K
  have hk : 3000 ≤ K := by omega
  unfold nameplatelaw02_NameWild.f
  rw [lives_at K (by omega), Option.bind_some, if_pos rfl]
  have j := fun (x : Bool) hx => wild_j0 a b c x hx K hk
  have jt := j true (fun h => by cases h)
  by_cases h1 : (a.size : Int) > 400
  · rw [if_pos h1]; exact jt
  rw [if_neg h1]
  by_cases h2 : (b.size : Int) > 400
  · rw [if_pos h2]; exact jt
  rw [if_neg h2]
  by_cases h3 : (c.size : Int) > 63
  · rw [if_pos h3]; exact jt
  rw [if_neg h3, check_eq a K (by omega), Option.bind_some]
  by_cases c1 : chkS a = 0
  · rw [if_pos c1, check_eq b K (by omega), Option.bind_some]
    exact j _ (fun h => ⟨c1, bne_eq_false_iff_eq.1 h, by omega⟩)
  · rw [if_neg c1]; exact jt
end Go.Proofs.Ythimngabaliapaa.Pure
