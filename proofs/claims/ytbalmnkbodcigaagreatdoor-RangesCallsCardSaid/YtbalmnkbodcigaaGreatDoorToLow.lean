/- What strings.ToLower makes of a text with an octet from 128 on: an octet among its own that is no digit, to base 10 or 16. -/
import Derived.Test.YtbalmnkbodcigaaGreatDoorProg
import Derived.Shelf.Strings.CaseAny
import Derived.Lib.TrimUEq
set_option linter.unusedSimpArgs false
set_option linter.unusedVariables false
namespace Go.Proofs.YtbalmnkbodcigaaGreatDoor.AddrLib
open Go.Lib

/-- No digit. -/
def noDig (c : UInt8) : Prop := 128 ≤ c.toNat ∨ c.toNat = 105 ∨ c.toNat = 107
def rowLow (x : CaseRow) : Bool := decide (x.2.1 < 128) || (decide (128 ≤ x.1) && (decide (x.delta 1 > 1114111) || decide (128 ≤ (x.1 : Int) + x.delta 1) || (decide (x.1 = x.2.1) && (decide ((x.1 : Int) + x.delta 1 = 105) || decide ((x.1 : Int) + x.delta 1 = 107)))))
set_option maxRecDepth 1000000 in
theorem rowsLow : caseT.all rowLow = true := by decide
theorem caseA_low (i : Nat) (hi : i < caseA.size) : rowLow (caseA.getD i (0, 0, 0, 0, 0)) = true := by
  have hm : caseA.getD i (0, 0, 0, 0, 0) ∈ caseT := by
    unfold caseA at hi ⊢
    simp only [List.size_toArray] at hi
    simp [Array.getD, hi]
  exact List.all_eq_true.1 rowsLow _ hm
theorem convert_low (x : CaseRow) (hx : rowLow x = true) (r : Int) (h : 128 ≤ r) (hlo : (x.1 : Int) ≤ r) (hhi : r ≤ (x.2.1 : Int)) : 128 ≤ convertR 1 r x ∨ convertR 1 r x = 105 ∨ convertR 1 r x = 107 := by
  unfold rowLow at hx
  simp only [Bool.or_eq_true, Bool.and_eq_true, decide_eq_true_eq] at hx
  unfold convertR
  rcases hx with hx | ⟨h1, (h2 | h2) | ⟨h2, h3⟩⟩
  · omega
  · rw [if_pos h2]
    left
    omega
  · split <;> omega
  · split <;> omega
theorem lower_low (r : Int) (h : 128 ≤ r) : 128 ≤ toLowerU r ∨ toLowerU r = 105 ∨ toLowerU r = 107 := by
  unfold toLowerU
  rw [if_neg (by omega)]
  unfold toR lookupGo
  cases hi : lookupIdx caseA r (caseA.size + 1) 0 caseA.size with
  | none => exact .inl h
  | some i =>
    obtain ⟨hil, hlo, hhi⟩ := lookupIdx_some caseA r _ _ _ i hi
    exact convert_low _ (caseA_low i hil) r h hlo hhi
theorem enc_low (y : Int) (h0 : 0 ≤ y) (h : 128 ≤ y ∨ y = 105 ∨ y = 107) : ∃ c ∈ encodeRune y, noDig c := by
  have hb : ∀ z : Int, 128 ≤ z → z < 256 → noDig z.toNat.toUInt8 := by
    intro z z0 z1
    left
    show 128 ≤ (UInt8.ofNat z.toNat).toNat
    rw [UInt8.toNat_ofNat', Nat.mod_eq_of_lt (by omega)]
    omega
  unfold encodeRune encodeRuneZ
  rcases h with h | h | h
  · rw [if_neg (by omega)]
    split
    · exact ⟨_, List.mem_cons_self, hb _ (by omega) (by omega)⟩
    · split
      · exact ⟨_, List.mem_cons_self, hb _ (by omega) (by omega)⟩
      · split
        · exact ⟨_, List.mem_cons_self, hb _ (by omega) (by omega)⟩
        · exact ⟨_, List.mem_cons_self, hb _ (by omega) (by omega)⟩
  · subst h
    exact ⟨_, List.mem_cons_self, .inr (.inl rfl)⟩
  · subst h
    exact ⟨_, List.mem_cons_self, .inr (.inr rfl)⟩
theorem dec_low (b : UInt8) (t : List UInt8) (h : 128 ≤ b.toNat) : 128 ≤ (decodeL (b :: t)).1 := by
  rw [decodeL_N]
  simp only [List.getD_cons_zero]
  unfold decodeN
  rw [if_neg (by omega)]
  split
  · split
    · simp only; omega
    · decide
  · split
    · split
      · simp only; omega
      · decide
    · split
      · split
        · simp only; omega
        · decide
      · decide
/-- An octet from 128 on leaves one that is no digit. -/
theorem low_has : ∀ (l : List UInt8), (∃ b ∈ l, 128 ≤ b.toNat) → ∃ c ∈ toLowerD l, noDig c
  | [], h => by
    obtain ⟨b, hb, _⟩ := h
    cases hb
  | b :: t, h => by
    unfold toLowerD
    rw [mapD_step toLowerU (b :: t) (by simp)]
    by_cases hb : b.toNat < 128
    · obtain ⟨c, hc, h8⟩ := h
      have hct : c ∈ t := by
        rcases List.mem_cons.1 hc with rfl | hc
        · omega
        · exact hc
      obtain ⟨d, hd, hn⟩ := low_has t ⟨c, hct, h8⟩
      rw [decodeL_ascii b t hb]
      exact ⟨d, List.mem_append_right _ hd, hn⟩
    · have hr := dec_low b t (by omega)
      have hrange := decodeL_rune (b :: t)
      have h0 := (toLowerU_range (decodeL (b :: t)).1 hrange).1
      rw [if_pos h0]
      obtain ⟨c, hc, hn⟩ := enc_low _ h0 (lower_low ((decodeL (b :: t)).1 : Int) (by omega))
      exact ⟨c, List.mem_append_left _ hc, hn⟩
theorem enc_len (y : Int) : (encodeRune y).length ≤ 4 := by
  unfold encodeRune encodeRuneZ
  rw [List.length_map]
  split
  · simp
  · split
    · simp
    · split
      · simp
      · split <;> simp
theorem mapGo_len (f : Int → Int) : ∀ (n : Nat) (l : List UInt8), (mapGoD f n l).length ≤ 4 * n
  | 0, l => by simp [mapGoD]
  | n + 1, l => by
    unfold mapGoD
    split
    · simp
    · have h1 := mapGo_len f n (l.drop (decodeL l).2)
      rw [List.length_append]
      split
      · have := enc_len (f (decodeL l).1)
        omega
      · rw [List.length_nil]
        omega
theorem lowD_len (l : List UInt8) : (toLowerD l).length ≤ 4 * l.length := mapGo_len _ _ _
end Go.Proofs.YtbalmnkbodcigaaGreatDoor.AddrLib
