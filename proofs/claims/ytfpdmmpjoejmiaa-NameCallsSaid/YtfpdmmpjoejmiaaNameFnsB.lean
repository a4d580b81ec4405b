/- What slices.Reverse of strings and name.Compare tell, in plain words: the comparing of the folded labels, the last one first. -/
import Derived.Test.YtfpdmmpjoejmiaaNameFnsA
import Derived.Test.YtfpdmmpjoejmiaaOCallsx13
namespace Go.Proofs.Ytfpdmmpjoejmiaa.NameFns
open Go.RowKit Go.Proofs.Ytfpdmmpjoejmiaa.OCalls Go.Proofs.YtfpdmmpjoejmiaaW.PrintWords Go.Proofs.YtfpdmmpjoejmiaaW.PrintLast Go.Proofs.YtfpdmmpjoejmiaaW.PrintMore

theorem rdOf_get {xs : List ByteArray} {i : Nat} (h : i < xs.length) : rdOf ByteArray.empty xs (i : Int) = xs[i] := by
  unfold rdOf
  rw [Int.toNat_natCast, List.getD_eq_getElem?_getD, List.getElem?_eq_getElem h]
  rfl
theorem reverse_stop {L : List ByteArray} (i : Nat) (xs : List ByteArray) (c : ¬ (i : Int) < (L.length : Int) - 1 - i) (h2 : 2 * i ≤ L.length + 1) (h3 : xs.length = L.length)
    (h4 : ∀ m, m < L.length → xs[m]? = if m < i ∨ L.length - i ≤ m then L[L.length - 1 - m]? else L[m]?) (k : Nat) :
    slices_Reverse_string_string.l0 (k + 1) xs (i : Int) ((L.length : Int) - 1 - i) = some L.reverse := by
  simp only [slices_Reverse_string_string.l0]
  rw [if_neg c]
  congr 1
  apply List.ext_getElem?
  intro m
  by_cases hm : m < L.length
  · rw [h4 m hm, List.getElem?_reverse hm]
    by_cases c : m < i ∨ L.length - i ≤ m
    · rw [if_pos c]
    · rw [if_neg c]
      congr 1
      omega
  · rw [List.getElem?_eq_none (by omega), List.getElem?_eq_none (by rw [List.length_reverse]; omega)]
theorem reverse_l0 {L : List ByteArray} (hL : L.length ≤ 1000000) : ∀ (d i : Nat) (xs : List ByteArray), L.length - 2 * i ≤ d → 2 * i ≤ L.length + 1 → xs.length = L.length →
    (∀ m, m < L.length → xs[m]? = if m < i ∨ L.length - i ≤ m then L[L.length - 1 - m]? else L[m]?) → ∀ k, d + 1 ≤ k →
    slices_Reverse_string_string.l0 k xs (i : Int) ((L.length : Int) - 1 - i) = some L.reverse := by
  intro d
  induction d with
  | zero =>
    intro i xs h1 h2 h3 h4 k hk
    obtain ⟨k, rfl⟩ : ∃ m, k = m + 1 := ⟨k - 1, by omega⟩
    simp only [slices_Reverse_string_string.l0]
    rw [if_neg (by omega)]
    congr 1
    apply List.ext_getElem?
    intro m
    by_cases hm : m < L.length
    · rw [h4 m hm, List.getElem?_reverse hm]
      by_cases c : m < i ∨ L.length - i ≤ m
      · rw [if_pos c]
      · rw [if_neg c]
        congr 1
        omega
    · rw [List.getElem?_eq_none (by omega), List.getElem?_eq_none (by rw [List.length_reverse]; omega)]
  | succ d ih =>
    intro i xs h1 h2 h3 h4 k hk
    obtain ⟨k, rfl⟩ : ∃ m, k = m + 1 := ⟨k - 1, by omega⟩
    by_cases c : (i : Int) < (L.length : Int) - 1 - i
    · simp only [slices_Reverse_string_string.l0]
      rw [if_pos c, if_pos (by omega), if_pos (by omega), if_pos (by omega), if_pos (by omega)]
      have hj : (L.length : Int) - 1 - i = ((L.length - 1 - i : Nat) : Int) := by omega
      have e1 := wrap_id (n := (i : Int) + 1) (by omega) (by omega)
      have e2 := wrap_id (n := (L.length : Int) - 1 - i - 1) (by omega) (by omega)
      rw [e1, e2, show (L.length : Int) - 1 - (i : Int) - 1 = (L.length : Int) - 1 - ((i + 1 : Nat) : Int) by omega, show (i : Int) + 1 = ((i + 1 : Nat) : Int) by omega, hj, rdOf_get (show L.length - 1 - i < xs.length by omega), rdOf_get (show i < xs.length by omega), Int.toNat_natCast, Int.toNat_natCast]
      refine ih (i + 1) _ (by omega) (by omega) (by rw [List.length_set, List.length_set]; exact h3) ?_ k (by omega)
      intro m hm
      rw [List.getElem?_set, List.getElem?_set, List.length_set]
      have g1 := h4 i (by omega)
      have g2 := h4 (L.length - 1 - i) (by omega)
      rw [if_neg (by omega)] at g1 g2
      have q1 : some xs[i] = L[i]? := by rw [← g1, List.getElem?_eq_getElem (show i < xs.length by omega)]
      have q2 : some (xs[L.length - 1 - i]'(by omega)) = L[L.length - 1 - i]? := by rw [← g2, List.getElem?_eq_getElem (show L.length - 1 - i < xs.length by omega)]
      by_cases m1 : L.length - 1 - i = m
      · rw [if_pos m1, if_pos (by omega), if_pos (by omega), q1]
        congr 1
        omega
      · rw [if_neg m1]
        by_cases m2 : i = m
        · rw [if_pos m2, if_pos (by omega), if_pos (by omega), q2]
          congr 1
          omega
        · rw [if_neg m2, h4 m hm]
          by_cases c3 : m < i ∨ L.length - i ≤ m
          · rw [if_pos c3, if_pos (by omega)]
          · rw [if_neg c3, if_neg (by omega)]
    · exact reverse_stop i xs c h2 h3 h4 k
theorem reverse_eq {L : List ByteArray} (hL : L.length ≤ 1000000) (k : Nat) (hk : L.length + 1 ≤ k) : slices_Reverse_string_string.f k L = some L.reverse := by
  unfold slices_Reverse_string_string.f
  rw [wrap_id (by omega) (by omega)]
  have := reverse_l0 hL L.length 0 L (by omega) (by omega) rfl (by
    intro m hm
    rw [if_neg (by omega)]) k hk
  rw [show (L.length : Int) - 1 - ((0 : Nat) : Int) = (L.length : Int) - 1 by omega] at this
  exact this
theorem cmpN_eq : ∀ {x y : List ByteArray}, okL x → okL y → cmpN x y = some (cmpL (x.map fun s => bytesOf (foldS s)) (y.map fun s => bytesOf (foldS s))) := by
  intro x
  induction x with
  | nil =>
    intro y _ _
    cases y with
    | nil => rfl
    | cons b t => rfl
  | cons a s ih =>
    intro y hx hy
    cases y with
    | nil => rfl
    | cons b t =>
      have h1 := okL_cons.1 hx
      have h2 := okL_cons.1 hy
      unfold cmpN
      rw [lcmp_eq (by omega) (by omega), Option.bind_some, List.map_cons, List.map_cons]
      unfold cmpL
      by_cases c : cmpI (bytesOf (foldS a)) (bytesOf (foldS b)) = 0
      · rw [if_pos c, if_pos c]
        exact ih h1.2 h2.2
      · rw [if_neg c, if_neg c]
theorem okL_reverse {L : List ByteArray} (h : okL L) : okL L.reverse := fun x hx => h x (List.mem_reverse.1 hx)
theorem compare_join {L M : List ByteArray} (h : okL L) (hl : (joinI L).length ≤ 254) (g : okL M) (gl : (joinI M).length ≤ 254) (k : Nat) (hk : 300 ≤ k) :
    name_Compare.f k (joinS L) (joinS M) = some (cmpL (keyL L) (keyL M)) := by
  unfold name_Compare.f
  have n1 := joinI_len L
  have n2 := joinI_len M
  rw [labels_join h hl k hk, labels_join g gl k hk, Option.bind_some, Option.bind_some, reverse_eq (by omega) k (by omega), reverse_eq (by omega) k (by omega), Option.bind_some, Option.bind_some, cmpN_eq (okL_reverse h) (okL_reverse g)]
  unfold keyL
  rw [List.map_reverse, List.map_reverse]
end Go.Proofs.Ytfpdmmpjoejmiaa.NameFns
