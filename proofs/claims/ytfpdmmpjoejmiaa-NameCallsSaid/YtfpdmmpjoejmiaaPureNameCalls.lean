/- This text proves, about names alone, what the law NameCalls asks: names are made, looked at, told, read and compared as the document says; of any two rows of octets, labels and a text that are no longer than the law lets in. -/
import Derived.Test.YtfpdmmpjoejmiaaNameRefB
import Derived.Test.YtfpdmmpjoejmiaaOCallsx13
namespace Go.Proofs.Ytfpdmmpjoejmiaa.Pure
open Go.RowKit Go.Proofs.Ytfpdmmpjoejmiaa.OCalls Go.Proofs.YtfpdmmpjoejmiaaW.PrintWords Go.Proofs.YtfpdmmpjoejmiaaW.PrintLast Go.Proofs.Ytfpdmmpjoejmiaa.NameFns

theorem lives_true : nameplatelaw02_lives.f 300 = some true := by decide +kernel
theorem lives_at (k : Nat) (h : 300 ≤ k) : nameplatelaw02_lives.f k = some true := at_rounds nameplatelaw02_lives.mono h lives_true
theorem ksame_l0 (L : List ByteArray) (hL : L.length ≤ 1000) : ∀ (d k i : Nat), L.length - i ≤ d → d < k → nameplatekit_Same_string.l0 k L L (i : Int) = some true := by
  intro d
  induction d with
  | zero =>
    intro k i h1 hk
    obtain ⟨k, rfl⟩ : ∃ m, k = m + 1 := ⟨k - 1, by omega⟩
    simp only [nameplatekit_Same_string.l0]
    rw [if_neg (by omega)]
  | succ d ih =>
    intro k i h1 hk
    obtain ⟨k, rfl⟩ : ∃ m, k = m + 1 := ⟨k - 1, by omega⟩
    by_cases c : i < L.length
    · simp only [nameplatekit_Same_string.l0]
      rw [if_pos (by omega), if_pos (by omega), if_pos (by omega), if_pos trivial, wrap_id (n := (i : Int) + 1) (by omega) (by omega)]
      exact ih k (i + 1) (by omega) (by omega)
    · simp only [nameplatekit_Same_string.l0]
      rw [if_neg (by omega)]
theorem ksame (L : List ByteArray) (hL : L.length ≤ 1000) (k : Nat) (hk : 2000 ≤ k) : nameplatekit_Same_string.f k L L = some true := by
  unfold nameplatekit_Same_string.f
  rw [if_pos rfl]
  exact ksame_l0 L hL L.length k 0 (by omega) (by omega)
theorem calls_j2 (a b : ByteArray) (k : Nat) (hk : 30000 ≤ k) : nameplatelaw02_NameCalls.j2 (k + 1) a b false = some true := by
  obtain ⟨v, v1, v2⟩ := rsame_eq a b k (by omega)
  obtain ⟨p, p1, p2⟩ := rcompare_eq a b k (by omega)
  obtain ⟨u, u1, u2⟩ := runder_eq a b k (by omega)
  obtain ⟨q, q1, q2⟩ := rwild_eq a k (by omega)
  obtain ⟨t, t1, t2⟩ := rmatches_eq a b k (by omega)
  simp only [nameplatelaw02_NameCalls.j2]
  rw [if_neg (by decide), check_eq a k (by omega), rcheck_eq a k (by omega), Option.bind_some, Option.bind_some, if_pos rfl, labels_eq a k (by omega), rlabels_eq a k (by omega), Option.bind_some, Option.bind_some, ksame _ (by have := lab_len a; omega) k (by omega), Option.bind_some, if_pos rfl]
  rw [fold_eq a k (by omega), rfold_eq a k (by omega), Option.bind_some, Option.bind_some, if_pos rfl, v1, v2, Option.bind_some, Option.bind_some, if_pos (by rw [beq_self_eq_true]), p1, p2, Option.bind_some, Option.bind_some, if_pos rfl, u1, u2, Option.bind_some, Option.bind_some, if_pos (by rw [beq_self_eq_true]), q1, q2, Option.bind_some, Option.bind_some, if_pos (by rw [beq_self_eq_true]), t1, t2, Option.bind_some, Option.bind_some, beq_self_eq_true]
theorem calls_l0 (a b : ByteArray) (L : List ByteArray) (s : ByteArray) (ha : a.size ≤ 400) (hb : b.size ≤ 400) (hL : L.length ≤ 140) (hs : s.size ≤ 1600) : ∀ (d k i : Nat), L.length - i ≤ d → d + 31000 < k →
    nameplatelaw02_NameCalls.l0 k a b L s (i : Int) = some true := by
  intro d
  have stop : ∀ (k i : Nat), ¬ i < L.length → 30900 ≤ k → nameplatelaw02_NameCalls.l0 (k + 2) a b L s (i : Int) = some true := by
    intro k i h hk
    obtain ⟨t, t1, t2⟩ := rtext_eq a (k + 1) (by omega)
    obtain ⟨u, u1, u2⟩ := rread_eq s (by omega) (k + 1) (by omega)
    obtain ⟨p, p1, p2⟩ := rparent_eq a (k + 1) (by omega)
    obtain ⟨q, q1, q2⟩ := rjoin_eq a b ha hb (k + 1) (by omega)
    simp only [nameplatelaw02_NameCalls.l0]
    rw [if_neg (by omega), make_eq L (by omega), rmake_eq L (by omega) (k + 1) (by omega), Option.bind_some, Option.bind_some, t1, t2, Option.bind_some, Option.bind_some, u1, u2, Option.bind_some, Option.bind_some, p1, p2, Option.bind_some, Option.bind_some, q1, q2, Option.bind_some, Option.bind_some]
    rw [if_pos rfl, if_pos rfl, if_pos rfl, if_pos rfl, if_pos rfl, if_pos rfl, if_pos rfl, if_neg (by rw [bne_self_eq_false]; decide), if_pos rfl, bne_self_eq_false]
    exact calls_j2 a b k (by omega)
  induction d with
  | zero =>
    intro k i h1 hk
    obtain ⟨k, rfl⟩ : ∃ m, k = m + 2 := ⟨k - 2, by omega⟩
    exact stop k i (by omega) (by omega)
  | succ d ih =>
    intro k i h1 hk
    obtain ⟨k, rfl⟩ : ∃ m, k = m + 2 := ⟨k - 2, by omega⟩
    by_cases c : i < L.length
    · simp only [nameplatelaw02_NameCalls.l0]
      rw [if_pos (by omega), if_pos (by omega)]
      by_cases c1 : ((rdOf ByteArray.empty L (i : Int)).size : Int) > 400
      · rw [if_pos c1]
      · rw [if_neg c1, wrap_id (n := (i : Int) + 1) (by omega) (by omega)]
        exact ih (k + 1) (i + 1) (by omega) (by omega)
    · exact stop k i c (by omega)
theorem calls_f (a b : ByteArray) (L : List ByteArray) (s : ByteArray) : nameplatelaw02_NameCalls.f 40000 a b L s = some true := by
  have yes : nameplatelaw02_NameCalls.j0 40000 a b L s true = some true := by
    rw [show (40000 : Nat) = 39999 + 1 from rfl]
    simp only [nameplatelaw02_NameCalls.j0]
    rw [if_pos trivial]
  unfold nameplatelaw02_NameCalls.f
  rw [lives_at 40000 (by decide), Option.bind_some, if_pos rfl]
  by_cases c1 : (a.size : Int) > 400
  · rw [if_pos c1, yes]
  rw [if_neg c1]
  by_cases c2 : (b.size : Int) > 400
  · rw [if_pos c2, yes]
  rw [if_neg c2]
  by_cases c3 : (L.length : Int) > 140
  · rw [if_pos c3, yes]
  rw [if_neg c3]
  by_cases c4 : (s.size : Int) > 1600
  · rw [decide_eq_true c4, yes]
  rw [decide_eq_false c4, show (40000 : Nat) = 39999 + 1 from rfl]
  simp only [nameplatelaw02_NameCalls.j0]
  rw [if_neg (by decide)]
  exact calls_l0 a b L s (by omega) (by omega) (by omega) (by omega) L.length 39999 0 (by omega) (by omega)

/-- The law's call, whatever the memory. -/
theorem calls_row (a0 a1 : ByteArray) (A2 : Option Addr) (c2 : Nat) (l2 : List ByteArray) (a3 : ByteArray) (W : World) (hc : l2.length ≤ c2) (hr : Kd.C Kd.string W A2 l2.length l2) :
    Calls Try.prog 3 #[.string a0, .string a1, .slice A2 l2.length c2, .string a3] W fun e w' => e = .returned (.bool true) ∧ Below W.heap.size W w' :=
  nameplatelaw02_NameCalls.calls 40000 a0 a1 A2 c2 l2 a3 true W hr hc ⟨rfl⟩ (calls_f a0 a1 l2 a3)
end Go.Proofs.Ytfpdmmpjoejmiaa.Pure
