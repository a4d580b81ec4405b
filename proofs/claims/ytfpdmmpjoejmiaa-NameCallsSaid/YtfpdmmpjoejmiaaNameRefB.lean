/- What the reference's reading, folding, comparing of names tells, and that it is what the program's functions tell; for all octets and texts that are no longer than the law lets in. -/
import Derived.Test.YtfpdmmpjoejmiaaNameRef
namespace Go.Proofs.Ytfpdmmpjoejmiaa.NameFns
open Go.RowKit Go.Proofs.Ytfpdmmpjoejmiaa.OCalls Go.Proofs.YtfpdmmpjoejmiaaW.PrintWords Go.Proofs.YtfpdmmpjoejmiaaW.PrintLast Go.Proofs.YtfpdmmpjoejmiaaW.PrintMore

/-! ### Read -/
theorem readTo_place : ∀ (n : Nat) (t : List Int) (a : Int) (out : List Int), (readTo n t a out).2.2 = 0 → a ≤ (readTo n t a out).2.1 ∧ (readTo n t a out).2.1 ≤ a + t.length := by
  intro n
  induction n with
  | zero =>
    intro t a out h
    unfold readTo at h ⊢
    by_cases c : out.length = 0
    · rw [if_pos c] at h; exact absurd h (by decide)
    · rw [if_neg c]
      show a ≤ a ∧ a ≤ a + t.length
      omega
  | succ n ih =>
    intro t a out h
    cases t with
    | nil =>
      unfold readTo at h ⊢
      by_cases c : out.length = 0
      · rw [if_pos c] at h; exact absurd h (by decide)
      · rw [if_neg c]
        show a ≤ a ∧ a ≤ a + 0
        omega
    | cons c t =>
      rw [List.length_cons]
      unfold readTo at h ⊢
      by_cases c1 : c = 46
      · rw [if_pos c1] at h ⊢
        by_cases c : out.length = 0
        · rw [if_pos c] at h; exact absurd h (by decide)
        · rw [if_neg c]
          show a ≤ a ∧ a ≤ a + ((t.length + 1 : Nat) : Int)
          omega
      rw [if_neg c1] at h ⊢
      by_cases c2 : c = 92
      · rw [if_pos c2] at h ⊢
        by_cases c3 : (unescI t).2 = 0
        · rw [if_pos c3] at h; exact absurd h (by decide)
        rw [if_neg c3] at h ⊢
        by_cases c4 : out.length = 63
        · rw [if_pos c4] at h; exact absurd h (by decide)
        rw [if_neg c4] at h ⊢
        have hu := unescI_some t
        have := ih _ _ _ h
        rw [List.length_drop] at this
        omega
      rw [if_neg c2] at h ⊢
      by_cases c3 : 32 < c ∧ c < 127
      · rw [if_pos c3] at h ⊢
        by_cases c4 : out.length = 63
        · rw [if_pos c4] at h; exact absurd h (by decide)
        rw [if_neg c4] at h ⊢
        have := ih _ _ _ h
        omega
      · rw [if_neg c3] at h; exact absurd h (by decide)
theorem rread_l0 (s : ByteArray) (hs : s.size ≤ 2000) : ∀ (d k i : Nat) (M : List ByteArray), s.size + 1 - i ≤ d → M.length ≤ i → i ≤ s.size + 1 → d + 20000 < k →
    ∃ r, name_Read.l0 k s M (i : Int) = some r ∧ nameplateref02_Read.l0 k s M (i : Int) = some r := by
  intro d
  have stop : ∀ (k i : Nat) (M : List ByteArray), ¬ i < s.size → M.length ≤ i → i ≤ s.size + 1 → 10000 ≤ k → ∃ r, name_Read.l0 (k + 1) s M (i : Int) = some r ∧ nameplateref02_Read.l0 (k + 1) s M (i : Int) = some r := by
    intro k i M h hM hi hk
    refine ⟨makeP M, ?_, ?_⟩
    · simp only [name_Read.l0]
      rw [if_neg (by omega), make_eq M (by omega)]
      rfl
    · simp only [nameplateref02_Read.l0]
      rw [if_neg (by omega), rmake_eq M (by omega) k (by omega)]
      rfl
  induction d with
  | zero =>
    intro k i M h1 hM h2 hk
    obtain ⟨k, rfl⟩ : ∃ m, k = m + 1 := ⟨k - 1, by omega⟩
    exact stop k i M (by omega) hM h2 (by omega)
  | succ d ih =>
    intro k i M h1 hM h2 hk
    obtain ⟨k, rfl⟩ : ∃ m, k = m + 1 := ⟨k - 1, by omega⟩
    by_cases c : i < s.size
    · obtain ⟨r, e1, e2⟩ := ref01_Read_eq s (by omega) (i : Int) k (by omega)
      have e3 := label_Read_in s (by omega) i (by omega) k (by omega)
      rw [e1] at e3
      have e3 := Option.some.inj e3
      simp only [name_Read.l0, nameplateref02_Read.l0]
      rw [if_pos (by omega), if_pos (by omega), e1, e2, Option.bind_some, Option.bind_some]
      by_cases c1 : r.2.2 = 0
      · have hp := readTo_place (s.size - i + 1) ((bytesOf s).drop i) (i : Int) [] (by rw [← e3]; exact c1)
        rw [← e3, List.length_drop, bytesOf_length] at hp
        rw [if_pos c1, if_pos c1, if_pos (by omega), if_pos (by omega), wrap_id (n := r.2.1 + 1) (by omega) (by omega)]
        have := ih k (r.2.1 + 1).toNat (M ++ [r.1]) (by omega) (by rw [List.length_append, List.length_singleton]; omega) (by omega) (by omega)
        rw [show (((r.2.1 + 1).toNat : Nat) : Int) = r.2.1 + 1 by omega] at this
        exact this
      · rw [if_neg c1, if_neg c1]
        exact ⟨_, rfl, rfl⟩
    · exact stop k i M c hM h2 (by omega)
theorem rread_eq (s : ByteArray) (hs : s.size ≤ 2000) (k : Nat) (hk : 30000 ≤ k) : ∃ r, name_Read.f k s = some r ∧ nameplateref02_Read.f k s = some r := by
  unfold name_Read.f nameplateref02_Read.f
  by_cases c1 : s.toList = ([] : List UInt8)
  · rw [if_pos c1, if_pos c1]; exact ⟨_, rfl, rfl⟩
  rw [if_neg c1, if_neg c1]
  by_cases c2 : s.toList = ([46] : List UInt8)
  · rw [if_pos c2, if_pos c2]; exact ⟨_, rfl, rfl⟩
  rw [if_neg c2, if_neg c2]
  exact rread_l0 s hs (s.size + 1) k 0 [] (by omega) (Nat.le_refl _) (by omega) (by omega)

/-! ### Parent, Join -/
theorem rparent_eq (s : ByteArray) (k : Nat) (hk : 300 ≤ k) : ∃ r, name_Parent.f k s = some r ∧ nameplateref02_Parent.f k s = some r := by
  by_cases h : chkS s = 0
  · obtain ⟨L, h1, rfl, h2⟩ := chkS_zero.1 h
    have hz := joinS_size h1
    cases L with
    | nil =>
      refine ⟨_, parent_nil k hk, ?_⟩
      unfold nameplateref02_Parent.f
      rw [joinS_nil, rcheck_eq _ k hk, Option.bind_some, show chkS (⟨#[]⟩ : ByteArray) = 0 from h, if_pos rfl, if_pos (size_nil.2 rfl)]
    | cons x t =>
      refine ⟨_, parent_cons h1 h2 k hk, ?_⟩
      unfold nameplateref02_Parent.f
      rw [joinI_len_cons] at hz h2
      have hc := cutS_join h1
      have hc2 := hc
      unfold cutS at hc
      by_cases c : 0 < (joinS (x :: t)).size ∧ 1 ≤ bt (joinS (x :: t)) 0 ∧ bt (joinS (x :: t)) 0 ≤ 63 ∧ bt (joinS (x :: t)) 0 < (joinS (x :: t)).size
      · rw [if_pos c] at hc
        have hc := Option.some.inj hc
        simp only [Prod.mk.injEq] at hc
        rw [rcheck_eq _ k hk, Option.bind_some, if_pos h, if_neg (fun e => by have := size_nil.1 e; omega), if_pos (by omega), wrap_id (n := bt (joinS (x :: t)) 0) (by omega) (by omega), wrap_id (n := 1 + bt (joinS (x :: t)) 0) (by omega) (by omega), if_pos (by omega), if_pos (by omega), hc.2]
      · rw [if_neg c] at hc; cases hc
  · refine ⟨_, parent_bad h k hk, ?_⟩
    unfold nameplateref02_Parent.f
    rw [rcheck_eq s k hk, Option.bind_some, if_neg h]
theorem rjoin_eq (a b : ByteArray) (ha : a.size ≤ 400) (hb : b.size ≤ 400) (k : Nat) (hk : 400 ≤ k) : ∃ r, name_Join.f k a b = some r ∧ nameplateref02_Join.f k a b = some r := by
  obtain ⟨k, rfl⟩ : ∃ m, k = m + 2 := ⟨k - 2, by omega⟩
  unfold name_Join.f nameplateref02_Join.f
  rw [check_eq _ _ (by omega), check_eq _ _ (by omega), rcheck_eq _ _ (by omega), rcheck_eq _ _ (by omega), Option.bind_some, Option.bind_some, or_two _ _ _ (by omega), Option.bind_some, Option.bind_some, wrap_id (n := (a.size : Int) + b.size) (by omega) (by omega)]
  have ready : ∀ e : Int, ∃ r, (if e = 0 then (if (a.size : Int) + b.size > 254 then some ((⟨#[]⟩ : ByteArray), (3 : Int)) else if a.size + b.size ≤ 9223372036854775807 then some (a ++ b, 0) else none) else some (⟨#[]⟩, e)) = some r ∧ nameplateref02_Join.j0 (k + 2) a b e = some r := by
    intro e
    simp only [nameplateref02_Join.j0, nameplateref02_Join.j1]
    rw [wrap_id (n := (a.size : Int) + b.size) (by omega) (by omega), if_pos (show a.size + b.size ≤ 9223372036854775807 by omega)]
    by_cases c : e = 0
    · rw [if_pos c, if_pos c]
      by_cases c1 : (a.size : Int) + b.size > 254
      · rw [if_pos c1, decide_eq_true c1]
        exact ⟨_, rfl, by rw [if_pos rfl, if_neg (by decide)]⟩
      · rw [if_neg c1, decide_eq_false c1]
        exact ⟨_, rfl, by rw [if_neg (by decide), if_pos c]⟩
    · rw [if_neg c, if_neg c]
      exact ⟨_, rfl, by rw [if_neg (by decide), if_neg c]⟩
  by_cases c : chkS a = 0
  · rw [if_pos c, if_pos c, Option.bind_some]
    exact ready _
  · obtain ⟨r, r1, r2⟩ := ready (chkS a)
    refine ⟨r, ?_, by rw [if_neg c]; exact r2⟩
    rw [show (if chkS a = 0 then chkS b else chkS a) = chkS a from if_neg c]
    exact r1

/-! ### Fold, Same -/
theorem rfold_l0 {L : List ByteArray} (h : okL L) (hL : L.length ≤ 254) : ∀ (d k i : Nat), L.length - i ≤ d → i ≤ L.length → d + 1000 < k → nameplateref02_Fold.l0 k (midF L i) (i : Int) = some (makeP (L.map foldS)).1 := by
  intro d
  have stop : ∀ (k i : Nat), ¬ i < L.length → i ≤ L.length → 900 ≤ k → nameplateref02_Fold.l0 (k + 1) (midF L i) (i : Int) = some (makeP (L.map foldS)).1 := by
    intro k i h1 h2 hk
    simp only [nameplateref02_Fold.l0]
    rw [midF_length, if_neg (by omega), show i = L.length by omega, midF_all, rmake_eq _ (by rw [List.length_map]; omega) k (by rw [List.length_map]; omega)]
    rfl
  induction d with
  | zero =>
    intro k i h1 h2 hk
    obtain ⟨k, rfl⟩ : ∃ m, k = m + 1 := ⟨k - 1, by omega⟩
    exact stop k i (by omega) h2 (by omega)
  | succ d ih =>
    intro k i h1 h2 hk
    obtain ⟨k, rfl⟩ : ∃ m, k = m + 1 := ⟨k - 1, by omega⟩
    by_cases c : i < L.length
    · have hz := h _ (List.getElem_mem c)
      simp only [nameplateref02_Fold.l0]
      rw [midF_length, if_pos (by omega), if_pos (by omega), midF_at c, ref01_Fold_eq (by omega), Option.bind_some, Int.toNat_natCast, midF_set c, wrap_id (n := (i : Int) + 1) (by omega) (by omega)]
      exact ih k (i + 1) (by omega) (by omega) (by omega)
    · exact stop k i c h2 (by omega)
theorem okL_small {L : List ByteArray} (h : okL L) : (L.all fun x => decide (x.size ≤ 1000)) = true := by
  rw [List.all_eq_true]
  intro x hx
  exact decide_eq_true (by have := h x hx; omega)
def foldN (s : ByteArray) : ByteArray := (makeP ((lab s).map foldS)).1
theorem fold_eq (s : ByteArray) (k : Nat) (hk : 300 ≤ k) : name_Fold.f k s = some (foldN s) := by
  have := lab_len s
  unfold name_Fold.f
  rw [labels_eq s k hk, Option.bind_some, if_pos (okL_small (lab_ok s).1), make_eq _ (by rw [List.length_map]; omega)]
  rfl
theorem rfold_eq (s : ByteArray) (k : Nat) (hk : 2000 ≤ k) : nameplateref02_Fold.f k s = some (foldN s) := by
  have := lab_len s
  unfold nameplateref02_Fold.f
  rw [rlabels_eq s k (by omega), Option.bind_some]
  have := rfold_l0 (lab_ok s).1 (lab_len s) (lab s).length k 0 (by omega) (by omega) (by omega)
  exact this
theorem foldN_join {L : List ByteArray} (h : okL L) (hl : (joinI L).length ≤ 254) : foldN (joinS L) = joinS (L.map foldS) := by
  unfold foldN
  rw [lab_join h hl, makeP_ok (okL_fold h), if_pos (by rw [joinI_fold_len]; exact hl)]
theorem rsame_eq (a b : ByteArray) (k : Nat) (hk : 2000 ≤ k) : ∃ r, name_Same.f k a b = some r ∧ nameplateref02_Same.f k a b = some r := by
  by_cases h : chkS a ≠ 0 ∨ chkS b ≠ 0
  · refine ⟨_, same_bad h k (by omega), ?_⟩
    unfold nameplateref02_Same.f
    rw [rcheck_eq a k (by omega), rcheck_eq b k (by omega), Option.bind_some, Option.bind_some]
    by_cases c : chkS a = 0
    · rw [if_pos c, if_neg (by omega)]
    · rw [if_neg c]
  · obtain ⟨L, h1, rfl, h2⟩ := chkS_zero.1 (show chkS a = 0 by omega)
    obtain ⟨M, g1, rfl, g2⟩ := chkS_zero.1 (show chkS b = 0 by omega)
    refine ⟨_, same_join h1 h2 g1 g2 k (by omega), ?_⟩
    unfold nameplateref02_Same.f
    rw [rcheck_eq _ k (by omega), rcheck_eq _ k (by omega), Option.bind_some, Option.bind_some, chkS_join h1 h2, chkS_join g1 g2, if_pos rfl, if_pos rfl, rfold_eq _ k hk, rfold_eq _ k hk, Option.bind_some, Option.bind_some, foldN_join h1 h2, foldN_join g1 g2]
    congr 1
    rw [Bool.eq_iff_iff, beq_iff_eq, decide_eq_true_iff, toList_inj]
    exact ⟨fun e => joinS_inj (okL_fold h1) (okL_fold g1) e, fun e => by rw [e]⟩

/-! ### Compare, Under -/
theorem keyL_get {L : List ByteArray} {j : Nat} (h : j < L.length) : (keyL L)[j]? = some (bytesOf (foldS (rdOf ByteArray.empty L ((L.length - 1 - j : Nat) : Int)))) := by
  unfold keyL
  rw [List.getElem?_reverse (by rw [List.length_map]; exact h), List.length_map, List.getElem?_map, rdOf_get (by omega), List.getElem?_eq_getElem (by omega)]
  rfl
theorem keyL_drop {L : List ByteArray} {j : Nat} (h : j < L.length) : (keyL L).drop j = bytesOf (foldS (rdOf ByteArray.empty L ((L.length - 1 - j : Nat) : Int))) :: (keyL L).drop (j + 1) := by
  have e := keyL_get h
  rw [List.getElem?_eq_some_iff] at e
  obtain ⟨h1, h2⟩ := e
  rw [List.drop_eq_getElem_cons h1, h2]
theorem fcmp_eq (a b : ByteArray) : fcmp a b = cmpI (bytesOf (foldS a)) (bytesOf (foldS b)) := by unfold fcmp; rw [bytesOf_foldS, bytesOf_foldS]
theorem rcompare_l0 {L M : List ByteArray} (h : okL L) (g : okL M) (hL : L.length ≤ 254) (hM : M.length ≤ 254) : ∀ (d k j : Nat), L.length + 1 - j ≤ d → j ≤ L.length → j ≤ M.length → 2 * d + 3000 < k →
    nameplateref02_Compare.l0 k L M ((j + 1 : Nat) : Int) = some (cmpL ((keyL L).drop j) ((keyL M).drop j)) := by
  intro d
  induction d with
  | zero => intro k j h1 h2; omega
  | succ d ih =>
    intro k j h1 h2 h3 hk
    obtain ⟨k, rfl⟩ : ∃ m, k = m + 2 := ⟨k - 2, by omega⟩
    simp only [nameplateref02_Compare.l0, nameplateref02_Compare.j1]
    have kl := keyL_length L
    have km := keyL_length M
    by_cases c1 : j < L.length
    · rw [if_pos (by omega)]
      by_cases c2 : j < M.length
      · rw [decide_eq_true (show ((j + 1 : Nat) : Int) ≤ (M.length : Int) by omega), if_pos rfl, wrap_id (n := (L.length : Int) - ((j + 1 : Nat) : Int)) (by omega) (by omega), wrap_id (n := (M.length : Int) - ((j + 1 : Nat) : Int)) (by omega) (by omega)]
        rw [if_pos (by omega), if_pos (by omega), if_pos (by omega), if_pos (by omega), show (L.length : Int) - ((j + 1 : Nat) : Int) = ((L.length - 1 - j : Nat) : Int) by omega, show (M.length : Int) - ((j + 1 : Nat) : Int) = ((M.length - 1 - j : Nat) : Int) by omega]
        have hx := h _ (show rdOf ByteArray.empty L ((L.length - 1 - j : Nat) : Int) ∈ L by rw [rdOf_get (by omega)]; exact List.getElem_mem _)
        have hy := g _ (show rdOf ByteArray.empty M ((M.length - 1 - j : Nat) : Int) ∈ M by rw [rdOf_get (by omega)]; exact List.getElem_mem _)
        rw [ref01_Compare_eq (by omega) (by omega) k (by omega), Option.bind_some, fcmp_eq, keyL_drop c1, keyL_drop c2]
        unfold cmpL
        by_cases c3 : cmpI (bytesOf (foldS (rdOf ByteArray.empty L ((L.length - 1 - j : Nat) : Int)))) (bytesOf (foldS (rdOf ByteArray.empty M ((M.length - 1 - j : Nat) : Int)))) = 0
        · rw [if_pos c3, if_pos c3, wrap_id (n := ((j + 1 : Nat) : Int) + 1) (by omega) (by omega), show ((j + 1 : Nat) : Int) + 1 = ((j + 1 + 1 : Nat) : Int) by omega]
          exact ih k (j + 1) (by omega) (by omega) (by omega) (by omega)
        · rw [if_neg c3, if_neg c3]
      · rw [decide_eq_false (show ¬ ((j + 1 : Nat) : Int) ≤ (M.length : Int) by omega), if_neg (by decide), if_neg (by omega), if_pos (by omega), keyL_drop c1, List.drop_eq_nil_of_le (show (keyL M).length ≤ j by omega)]
        rfl
    · rw [if_neg (by omega), if_neg (by decide), List.drop_eq_nil_of_le (show (keyL L).length ≤ j by omega)]
      by_cases c2 : j < M.length
      · rw [if_pos (by omega), keyL_drop c2]; rfl
      · rw [if_neg (by omega), if_neg (by omega), List.drop_eq_nil_of_le (show (keyL M).length ≤ j by omega)]; rfl
theorem rcompare_eq (a b : ByteArray) (k : Nat) (hk : 4000 ≤ k) : ∃ r, name_Compare.f k a b = some r ∧ nameplateref02_Compare.f k a b = some r := by
  have la := lab_len a
  have lb := lab_len b
  refine ⟨cmpL (keyL (lab a)) (keyL (lab b)), ?_, ?_⟩
  · unfold name_Compare.f
    rw [labels_eq a k (by omega), labels_eq b k (by omega), Option.bind_some, Option.bind_some, reverse_eq (by omega) k (by omega), reverse_eq (by omega) k (by omega), Option.bind_some, Option.bind_some, cmpN_eq (okL_reverse (lab_ok a).1) (okL_reverse (lab_ok b).1)]
    unfold keyL
    rw [List.map_reverse, List.map_reverse]
  · unfold nameplateref02_Compare.f
    rw [rlabels_eq a k (by omega), rlabels_eq b k (by omega), Option.bind_some, Option.bind_some]
    have := rcompare_l0 (lab_ok a).1 (lab_ok b).1 la lb ((lab a).length + 1) k 0 (by omega) (by omega) (by omega) (by omega)
    exact this
theorem fcmp_zero (a b : ByteArray) : (fcmp a b == 0) = decide (foldS a = foldS b) := by
  rw [Bool.eq_iff_iff, beq_iff_eq, decide_eq_true_iff, fcmp_eq, cmpI_zero]
  exact ⟨fun e => bytesOf_inj e, fun e => by rw [e]⟩
theorem runder_l0 {L M : List ByteArray} (h : okL L) (g : okL M) (hl : M.length ≤ L.length) (hL : L.length ≤ 254) : ∀ (d k j : Nat), M.length - j ≤ d → j ≤ M.length → d < k →
    nameplateref02_Under.l0 k L M ((j + 1 : Nat) : Int) = some (decide ((keyL M).drop j <+: (keyL L).drop j)) := by
  intro d
  have kl := keyL_length L
  have km := keyL_length M
  have stop : ∀ (k j : Nat), ¬ j < M.length → nameplateref02_Under.l0 (k + 1) L M ((j + 1 : Nat) : Int) = some (decide ((keyL M).drop j <+: (keyL L).drop j)) := by
    intro k j hj
    simp only [nameplateref02_Under.l0]
    rw [if_neg (by omega), List.drop_eq_nil_of_le (show (keyL M).length ≤ j by omega), decide_eq_true (List.nil_prefix)]
  induction d with
  | zero =>
    intro k j h1 h2 hk
    obtain ⟨k, rfl⟩ : ∃ m, k = m + 1 := ⟨k - 1, by omega⟩
    exact stop k j (by omega)
  | succ d ih =>
    intro k j h1 h2 hk
    obtain ⟨k, rfl⟩ : ∃ m, k = m + 1 := ⟨k - 1, by omega⟩
    by_cases c : j < M.length
    · simp only [nameplateref02_Under.l0]
      rw [if_pos (by omega), wrap_id (n := (L.length : Int) - ((j + 1 : Nat) : Int)) (by omega) (by omega), wrap_id (n := (M.length : Int) - ((j + 1 : Nat) : Int)) (by omega) (by omega)]
      rw [if_pos (by omega), if_pos (by omega), if_pos (by omega), if_pos (by omega), show (L.length : Int) - ((j + 1 : Nat) : Int) = ((L.length - 1 - j : Nat) : Int) by omega, show (M.length : Int) - ((j + 1 : Nat) : Int) = ((M.length - 1 - j : Nat) : Int) by omega]
      have hx := h _ (show rdOf ByteArray.empty L ((L.length - 1 - j : Nat) : Int) ∈ L by rw [rdOf_get (by omega)]; exact List.getElem_mem _)
      have hy := g _ (show rdOf ByteArray.empty M ((M.length - 1 - j : Nat) : Int) ∈ M by rw [rdOf_get (by omega)]; exact List.getElem_mem _)
      rw [ref01_Same_eq (by omega) (by omega), Option.bind_some, fcmp_zero, keyL_drop c, keyL_drop (show j < L.length by omega)]
      by_cases e : foldS (rdOf ByteArray.empty L ((L.length - 1 - j : Nat) : Int)) = foldS (rdOf ByteArray.empty M ((M.length - 1 - j : Nat) : Int))
      · rw [decide_eq_true e, if_pos rfl, e, wrap_id (n := ((j + 1 : Nat) : Int) + 1) (by omega) (by omega), show ((j + 1 : Nat) : Int) + 1 = ((j + 1 + 1 : Nat) : Int) by omega, ih k (j + 1) (by omega) (by omega) (by omega)]
        congr 1
        rw [Bool.eq_iff_iff, decide_eq_true_iff, decide_eq_true_iff, List.cons_prefix_cons]
        exact ⟨fun x => ⟨rfl, x⟩, fun x => x.2⟩
      · rw [decide_eq_false e, if_neg (by decide), decide_eq_false]
        rw [List.cons_prefix_cons]
        exact fun x => e (bytesOf_inj x.1.symm)
    · exact stop k j c
theorem underL_iff (L M : List ByteArray) : underL L M ↔ keyL M <+: keyL L := by
  constructor
  · exact underL_key
  · intro h
    unfold keyL at h
    rw [List.reverse_prefix] at h
    obtain ⟨t, ht⟩ := h
    unfold underL
    have hlen := congrArg List.length ht
    rw [List.length_append, List.length_map, List.length_map] at hlen
    refine ⟨(L.map foldS).take t.length, ?_⟩
    have e : (L.map foldS).drop t.length = M.map foldS := by
      have e1 : (L.map fun x => bytesOf (foldS x)).drop t.length = M.map fun x => bytesOf (foldS x) := by rw [← ht, List.drop_left]
      rw [← List.map_drop] at e1 ⊢
      apply List.ext_getElem?
      intro i
      have := congrArg (fun l => l[i]?) e1
      simp only [List.getElem?_map] at this ⊢
      cases hx : (L.drop t.length)[i]? with
      | none =>
        rw [hx] at this
        cases hy : M[i]? with
        | none => rfl
        | some y => rw [hy] at this; cases this
      | some x =>
        rw [hx] at this
        cases hy : M[i]? with
        | none => rw [hy] at this; cases this
        | some y =>
          rw [hy] at this
          simp only [Option.map_some, Option.some.injEq] at this ⊢
          exact bytesOf_inj this
    rw [← e, List.take_append_drop]
theorem runder_eq (a b : ByteArray) (k : Nat) (hk : 1000 ≤ k) : ∃ r, name_Under.f k a b = some r ∧ nameplateref02_Under.f k a b = some r := by
  obtain ⟨k, rfl⟩ : ∃ m, k = m + 1 := ⟨k - 1, by omega⟩
  by_cases h : chkS a ≠ 0 ∨ chkS b ≠ 0
  · refine ⟨_, under_bad h _ (by omega), ?_⟩
    unfold nameplateref02_Under.f
    rw [rlabels_eq _ _ (by omega), rlabels_eq _ _ (by omega), rcheck_eq a _ (by omega), rcheck_eq b _ (by omega), Option.bind_some, Option.bind_some, Option.bind_some, Option.bind_some]
    simp only [nameplateref02_Under.j0]
    by_cases c : chkS a = 0
    · rw [if_pos c, if_neg (by omega), if_pos trivial]
    · rw [if_neg c, if_pos trivial]
  · obtain ⟨L, h1, rfl, h2⟩ := chkS_zero.1 (show chkS a = 0 by omega)
    obtain ⟨M, g1, rfl, g2⟩ := chkS_zero.1 (show chkS b = 0 by omega)
    haveI d : Decidable (underL L M) := Classical.propDecidable _
    refine ⟨_, under_join h1 h2 g1 g2 _ (by omega) d, ?_⟩
    have lL := joinI_len L
    have lM := joinI_len M
    unfold nameplateref02_Under.f
    rw [rlabels_eq _ _ (by omega), rlabels_eq _ _ (by omega), rcheck_eq _ _ (by omega), rcheck_eq _ _ (by omega), Option.bind_some, Option.bind_some, Option.bind_some, Option.bind_some, lab_join h1 h2, lab_join g1 g2, chkS_join h1 h2, chkS_join g1 g2, if_pos rfl, if_pos rfl]
    simp only [nameplateref02_Under.j0]
    by_cases c : L.length < M.length
    · rw [decide_eq_true (show (L.length : Int) < (M.length : Int) by omega), if_pos rfl, decide_eq_false]
      intro e
      have := underL_length e
      omega
    · rw [decide_eq_false (show ¬ (L.length : Int) < (M.length : Int) by omega), if_neg (by decide)]
      have := runder_l0 h1 g1 (by omega) (by omega) M.length k 0 (by omega) (by omega) (by omega)
      rw [List.drop_zero, List.drop_zero] at this
      refine this.trans ?_
      congr 1
      rw [Bool.eq_iff_iff, decide_eq_true_iff, decide_eq_true_iff]
      exact (underL_iff L M).symm

/-! ### Wild, Matches -/
theorem two_bytes (s : ByteArray) (h : 2 ≤ s.size) : (s.extract 0 2).toList = ([1, 42] : List UInt8) ↔ bt s 0 = 1 ∧ bt s 1 = 42 := by
  rw [bytes_ext2, bt_rd, bt_rd]
  have hl : (bytesOf s).length = s.size := bytesOf_length s
  generalize bytesOf s = l at *
  match l, hl with
  | [], e => exact absurd e (by rw [List.length_nil]; omega)
  | [a], e => exact absurd e (by rw [List.length_singleton]; omega)
  | a :: b :: t, _ =>
    show [a, b] = [1, 42] ↔ a = 1 ∧ b = 42
    simp
theorem rwild_eq (s : ByteArray) (k : Nat) (hk : 300 ≤ k) : ∃ r, name_Wild.f k s = some r ∧ nameplateref02_Wild.f k s = some r := by
  unfold name_Wild.f strings_HasPrefix.f stringslite_HasPrefix.f nameplateref02_Wild.f
  rw [check_eq s k hk, rcheck_eq s k hk, Option.bind_some, Option.bind_some, show (((⟨#[1, 42]⟩ : ByteArray).size : Nat) : Int) = 2 from rfl, show (⟨#[1, 42]⟩ : ByteArray).toList = [1, 42] by rw [ByteArray.toList_eq]]
  by_cases c : chkS s = 0
  · rw [if_pos c, if_pos c]
    by_cases h : s.size > 1
    · rw [if_pos (by omega), if_pos (by omega), if_pos (by omega), if_pos (show (s.size : Int) > 1 by omega), if_pos (show (0 : Int) < s.size by omega), if_pos (show (1 : Int) < s.size by omega)]
      refine ⟨_, rfl, ?_⟩
      have := two_bytes s (by omega)
      by_cases e : bt s 0 = 1
      · rw [if_pos e]
        congr 1
        rw [Bool.eq_iff_iff, beq_iff_eq, beq_iff_eq]
        show _ ↔ (s.extract 0 2).toList = [1, 42]
        rw [this]
        exact ⟨fun x => ⟨e, x⟩, fun x => x.2⟩
      · rw [if_neg e]
        congr 1
        rw [Bool.eq_iff_iff, beq_iff_eq]
        show false = true ↔ (s.extract 0 2).toList = [1, 42]
        rw [this]
        exact ⟨fun x => (by cases x), fun x => absurd x.1 e⟩
    · rw [if_neg (by omega), if_neg (show ¬ (s.size : Int) > 1 by omega)]
      exact ⟨_, rfl, rfl⟩
  · rw [if_neg c, if_neg c]
    exact ⟨_, rfl, rfl⟩
theorem rmatches_eq (a n : ByteArray) (k : Nat) (hk : 2000 ≤ k) : ∃ r, name_Matches.f k a n = some r ∧ nameplateref02_Matches.f k a n = some r := by
  obtain ⟨k, rfl⟩ : ∃ m, k = m + 1 := ⟨k - 1, by omega⟩
  obtain ⟨v, v1, v2⟩ := rwild_eq a (k + 1) (by omega)
  obtain ⟨p, p1, p2⟩ := rparent_eq a (k + 1) (by omega)
  obtain ⟨q, q1, q2⟩ := rparent_eq a k (by omega)
  have eqp : p = q := Option.some.inj (p1.symm.trans (at_rounds (fun k => name_Parent.mono a k) (Nat.le_succ k) q1))
  subst eqp
  obtain ⟨u, u1, u2⟩ := runder_eq n p.1 (k + 1) (by omega)
  obtain ⟨t, t1, t2⟩ := runder_eq n p.1 k (by omega)
  have equ : u = t := Option.some.inj (u1.symm.trans (at_rounds (fun k => name_Under.mono n p.1 k) (Nat.le_succ k) t1))
  subst equ
  unfold name_Matches.f nameplateref02_Matches.f
  rw [p1, Option.bind_some, v1, Option.bind_some, v2, Option.bind_some, u1, Option.bind_some]
  simp only [nameplateref02_Matches.j0]
  rw [rcheck_eq n _ (by omega), Option.bind_some, q2, Option.bind_some, t2, Option.bind_some]
  cases v with
  | false => exact ⟨_, rfl, rfl⟩
  | true =>
    rw [if_pos rfl, if_pos rfl, labels_eq _ _ (by omega), labels_eq _ _ (by omega), rlabels_eq _ _ (by omega), rlabels_eq _ _ (by omega)]
    by_cases c : chkS n = 0
    · rw [c, if_neg (show ¬ ((0 : Int) != 0) = true by decide)]
      cases u with
      | false => exact ⟨_, rfl, rfl⟩
      | true => exact ⟨_, rfl, rfl⟩
    · rw [if_pos (show (chkS n != 0) = true by rw [bne_iff_ne]; exact c)]
      have := under_bad (b := p.1) (.inl c) (k + 1) (by omega)
      rw [u1] at this
      obtain rfl := Option.some.inj this
      exact ⟨_, rfl, rfl⟩
end Go.Proofs.Ytfpdmmpjoejmiaa.NameFns
