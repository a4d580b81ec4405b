/- What the functions of ranges tell, in plain words: an address' first bits, which ranges may be, which addresses are in one; numbers alone. -/
import Derived.Test.YtilobbjnmnnmnaaGreatDoorOFreex9
set_option linter.unusedSimpArgs false
set_option linter.unusedVariables false
namespace Go.Proofs.YtilobbjnmnnmnaaGreatDoor.RangeFns
open Go.RowKit Go.Proofs.YtilobbjnmnnmnaaGreatDoor.OFree Go.Proofs.YtilobbjnmnnmnaaGreatDoorW.PrintWords Go.Proofs.YtilobbjnmnnmnaaGreatDoorW.PrintLast Go.Proofs.YtilobbjnmnnmnaaGreatDoorW.PrintMore

/-- Rounded down to a multiple of a power of two. -/
def rdn (x : Int) (j : Nat) : Int := x / 2 ^ j * 2 ^ j
theorem two_pos (j : Nat) : (0 : Int) < 2 ^ j := Int.pow_pos (by decide)
theorem rdn_zero (x : Int) : rdn x 0 = x := by unfold rdn; simp
theorem rdn_le (x : Int) (j : Nat) : rdn x j ≤ x := Int.ediv_mul_le _ (Int.ne_of_gt (two_pos j))
theorem rdn_nonneg {x : Int} (h : 0 ≤ x) (j : Nat) : 0 ≤ rdn x j := Int.mul_nonneg (Int.ediv_nonneg h (Int.le_of_lt (two_pos j))) (Int.le_of_lt (two_pos j))
theorem pow_split {i j : Nat} (h : i ≤ j) : (2 : Int) ^ j = 2 ^ i * 2 ^ (j - i) := by rw [← Int.pow_add]; congr 1; omega
theorem rdn_fix_add {x : Int} {j : Nat} (h : rdn x j = x) {i : Int} (h0 : 0 ≤ i) (h1 : i < 2 ^ j) : rdn (x + i) j = x := by
  unfold rdn at *
  have : (x + i) / 2 ^ j = x / 2 ^ j := by
    have e : x + i = i + (x / 2 ^ j) * 2 ^ j := by omega
    rw [e, Int.add_mul_ediv_right _ _ (Int.ne_of_gt (two_pos j)), Int.ediv_eq_zero_of_lt h0 h1, Int.zero_add]
  rw [this]
  exact h
theorem rdn_rdn {x : Int} {i j : Nat} (h : i ≤ j) : rdn (rdn x i) j = rdn x j := by
  unfold rdn
  congr 1
  rw [pow_split h, Int.mul_comm (x / 2 ^ i) (2 ^ i), Int.mul_ediv_mul_of_pos _ _ (two_pos i), ← Int.ediv_ediv_of_nonneg (Int.le_of_lt (two_pos i))]
theorem rdn_fix_less {x : Int} {i j : Nat} (h : i ≤ j) (hx : rdn x j = x) : rdn x i = x := by
  unfold rdn at hx ⊢
  rw [← hx, pow_split h, show x / (2 ^ i * 2 ^ (j - i)) * (2 ^ i * 2 ^ (j - i)) = (x / (2 ^ i * 2 ^ (j - i)) * 2 ^ (j - i)) * 2 ^ i by rw [Int.mul_comm (2 ^ i : Int), Int.mul_assoc], Int.mul_ediv_cancel _ (Int.ne_of_gt (two_pos i))]
theorem rdn_room {x : Int} {i n : Nat} (hx : rdn x i = x) (h0 : 0 ≤ x) (hn : x < 2 ^ n) (hi : i ≤ n) : x + 2 ^ i ≤ 2 ^ n := by
  unfold rdn at hx
  rw [pow_split hi] at hn ⊢
  have hp := two_pos i
  generalize x / 2 ^ i = q at hx
  have : q < 2 ^ (n - i) := by
    rw [← hx, Int.mul_comm] at hn
    exact Int.lt_of_mul_lt_mul_left hn (Int.le_of_lt hp)
  rw [← hx]
  calc q * 2 ^ i + 2 ^ i = 2 ^ i * (q + 1) := by rw [Int.mul_add, Int.mul_one, Int.mul_comm]
    _ ≤ 2 ^ i * 2 ^ (n - i) := Int.mul_le_mul_of_nonneg_left (by omega) (Int.le_of_lt hp)
theorem and_nat (x m j : Nat) : x &&& ((2 ^ m - 1) * 2 ^ j) = x / 2 ^ j % 2 ^ m * 2 ^ j := by
  apply Nat.eq_of_testBit_eq
  intro i
  rw [Nat.testBit_and, ← Nat.shiftLeft_eq, ← Nat.shiftLeft_eq, Nat.testBit_shiftLeft, Nat.testBit_shiftLeft, Nat.testBit_two_pow_sub_one, Nat.testBit_mod_two_pow, ← Nat.shiftRight_eq_div_pow, Nat.testBit_shiftRight]
  by_cases h : i ≥ j
  · rw [show j + (i - j) = i by omega]
    simp [h, Bool.and_comm]
  · simp [h]
theorem wrap_u64 (n : Int) (h0 : 0 ≤ n) (h1 : n < 2 ^ 64) : IntKind.u64.wrap n = n := by
  simp [IntKind.wrap, IntKind.bits, IntKind.signed]
  omega
theorem and_mask (x : Int) (n c : Nat) (hc : c ≤ n) (hn : n ≤ 64) (h0 : 0 ≤ x) (h1 : x < 2 ^ n) : Go.bits .and .u64 x (((2 ^ c - 1) * 2 ^ (n - c) : Nat) : Int) = rdn x (n - c) := by
  obtain ⟨x, rfl⟩ := Int.eq_ofNat_of_zero_le h0
  have hx : x < 2 ^ n := by exact_mod_cast h1
  have hm : (2 ^ c - 1) * 2 ^ (n - c) < 2 ^ 64 := by
    have a1 : 2 ^ c * 2 ^ (n - c) = 2 ^ n := by rw [← Nat.pow_add]; congr 1; omega
    have a2 : 2 ^ n ≤ 2 ^ 64 := Nat.pow_le_pow_right (by decide) hn
    have a3 : 0 < 2 ^ (n - c) := Nat.two_pow_pos _
    have a4 : 0 < 2 ^ c := Nat.two_pow_pos _
    have a5 : (2 ^ c - 1) * 2 ^ (n - c) + 2 ^ (n - c) = 2 ^ c * 2 ^ (n - c) := by rw [Nat.sub_mul, Nat.one_mul]; have := Nat.le_mul_of_pos_left (2 ^ (n - c)) a4; omega
    omega
  rw [(bits_nat .u64 64 (Nat.le_refl _) wrap_u64 x _ (Nat.lt_of_lt_of_le hx (Nat.pow_le_pow_right (by decide) hn)) hm).1, and_nat]
  have : x / 2 ^ (n - c) < 2 ^ c := by
    rw [Nat.div_lt_iff_lt_mul (Nat.two_pow_pos _), ← Nat.pow_add]
    rw [show c + (n - c) = n by omega]
    exact hx
  rw [Nat.mod_eq_of_lt this]
  unfold rdn
  push_cast
  rfl
/-! ### The mask -/
def cl (b : Int) (n : Nat) : Nat := if b ≤ 0 then 0 else if b ≥ (n : Int) then n else b.toNat
theorem cl_le (b : Int) (n : Nat) : cl b n ≤ n := by unfold cl; split; omega; split <;> omega
theorem tab64 : ∀ c : Fin 65, ranges_mask.f (c.val : Int) 64 = some (((2 ^ c.val - 1) * 2 ^ (64 - c.val) : Nat) : Int) := by decide +kernel
theorem tab32 : ∀ c : Fin 33, ranges_mask.f (c.val : Int) 32 = some (((2 ^ c.val - 1) * 2 ^ (32 - c.val) : Nat) : Int) := by decide +kernel
theorem mask64 (b : Int) : ranges_mask.f b 64 = some (((2 ^ cl b 64 - 1) * 2 ^ (64 - cl b 64) : Nat) : Int) := by
  by_cases h0 : b ≤ 0
  · rw [show cl b 64 = 0 by unfold cl; rw [if_pos h0]]
    unfold ranges_mask.f
    rw [if_pos h0]
    rfl
  · by_cases h1 : b ≥ 64
    · rw [show cl b 64 = 64 by unfold cl; rw [if_neg h0, if_pos (show b ≥ ((64 : Nat) : Int) from h1)]]
      have := tab64 ⟨64, by decide⟩
      refine Eq.trans ?_ this
      unfold ranges_mask.f
      rw [if_neg h0, if_pos h1]
      decide +kernel
    · have := tab64 ⟨b.toNat, by omega⟩
      rw [show ((⟨b.toNat, by omega⟩ : Fin 65).val : Int) = b by simp; omega] at this
      rw [this, show cl b 64 = b.toNat by unfold cl; rw [if_neg h0, if_neg (show ¬ b ≥ ((64 : Nat) : Int) from h1)]]
theorem mask32 (b : Int) : ranges_mask.f b 32 = some (((2 ^ cl b 32 - 1) * 2 ^ (32 - cl b 32) : Nat) : Int) := by
  by_cases h0 : b ≤ 0
  · rw [show cl b 32 = 0 by unfold cl; rw [if_pos h0]]
    unfold ranges_mask.f
    rw [if_pos h0]
    rfl
  · by_cases h1 : b ≥ 32
    · rw [show cl b 32 = 32 by unfold cl; rw [if_neg h0, if_pos (show b ≥ ((32 : Nat) : Int) from h1)]]
      have := tab32 ⟨32, by decide⟩
      refine Eq.trans ?_ this
      unfold ranges_mask.f
      rw [if_neg h0, if_pos h1]
      decide +kernel
    · have := tab32 ⟨b.toNat, by omega⟩
      rw [show ((⟨b.toNat, by omega⟩ : Fin 33).val : Int) = b by simp; omega] at this
      rw [this, show cl b 32 = b.toNat by unfold cl; rw [if_neg h0, if_neg (show ¬ b ≥ ((32 : Nat) : Int) from h1)]]
/-! ### The head -/
def jh (six : Bool) (b : Int) : Nat := if six = true then 64 - cl b 64 else 0
def jl (six : Bool) (b : Int) : Nat := if six = true then 64 - cl (b - 64) 64 else 32 - cl b 32
/-- Which addresses may be. -/
def valid (six : Bool) (hi lo : Int) : Prop := 0 ≤ hi ∧ hi < 2 ^ 64 ∧ 0 ≤ lo ∧ lo < 2 ^ 64 ∧ (six = true ∨ (hi = 0 ∧ lo < 2 ^ 32))
def u64 (x : Int) : Prop := 0 ≤ x ∧ x < 2 ^ 64
def i64 (x : Int) : Prop := -9223372036854775808 ≤ x ∧ x ≤ 9223372036854775807
theorem chk_eq {six : Bool} {hi lo : Int} (h : u64 hi) (l : u64 lo) : ∃ e, addr_Check.f six hi lo = some e ∧ (e = 0 ∨ e = 2) ∧ (e = 0 ↔ valid six hi lo) := by
  unfold u64 at h l
  unfold addr_Check.f valid
  cases six with
  | true => exact ⟨0, rfl, .inl rfl, by simp; omega⟩
  | false =>
    rw [if_neg (by decide)]
    by_cases c : hi = 0
    · rw [if_pos c]
      by_cases d : lo / 4294967296 = 0
      · rw [if_pos d]; exact ⟨0, rfl, .inl rfl, by simp; omega⟩
      · rw [if_neg d]; exact ⟨2, rfl, .inr rfl, by simp; omega⟩
    · rw [if_neg c]; exact ⟨2, rfl, .inr rfl, by simp; omega⟩
theorem head_eq {six : Bool} {hi lo b : Int} (h : valid six hi lo) (hb : i64 (b - 64)) : ranges_head.f six hi lo b = some (six, rdn hi (jh six b), rdn lo (jl six b)) := by
  unfold valid at h
  unfold i64 at hb
  unfold ranges_head.f jh jl
  cases six with
  | true =>
    rw [if_pos rfl, if_pos rfl, if_pos rfl, mask64, mask64, Option.bind_some, Option.bind_some, and_mask hi 64 _ (cl_le _ _) (Nat.le_refl _) h.1 h.2.1, and_mask lo 64 _ (cl_le _ _) (Nat.le_refl _) h.2.2.1 h.2.2.2.1]
    rw [show wrap64 (b - 64) = b - 64 by unfold wrap64; omega]
  | false =>
    have h2 : hi = 0 ∧ lo < 2 ^ 32 := by
      rcases h.2.2.2.2 with c | c
      · cases c
      · exact c
    rw [if_neg (by decide), if_neg (by decide), if_neg (by decide), mask32, Option.bind_some, and_mask lo 32 _ (cl_le _ _) (by decide) h.2.2.1 h2.2, rdn_zero]
def wd (six : Bool) : Int := if six = true then 128 else 32
/-- Which ranges may be. -/
def okR (six : Bool) (hi lo b : Int) : Prop := valid six hi lo ∧ 0 ≤ b ∧ b ≤ wd six ∧ rdn hi (jh six b) = hi ∧ rdn lo (jl six b) = lo
theorem wide_eq (six : Bool) (hi lo : Int) : ranges_wide.f six hi lo = some (wd six) := by
  unfold ranges_wide.f wd
  cases six <;> rfl
theorem check_eq {six : Bool} {hi lo b : Int} (h : u64 hi) (l : u64 lo) (hb : i64 b) : ∃ e, ranges_Check.f six hi lo b = some e ∧ (e = 0 ∨ e = 2) ∧ (e = 0 ↔ okR six hi lo b) := by
  obtain ⟨e1, q1, q2, q3⟩ := chk_eq (six := six) h l
  unfold ranges_Check.f okR
  rw [q1, Option.bind_some]
  by_cases c1 : e1 = 0
  · have hv := q3.1 c1
    rw [if_pos c1]
    by_cases c2 : b < 0
    · rw [if_pos c2]; exact ⟨2, rfl, .inr rfl, by simp; intro _ _; omega⟩
    rw [if_neg c2, wide_eq, Option.bind_some]
    by_cases c3 : b > wd six
    · rw [if_pos c3]; exact ⟨2, rfl, .inr rfl, by simp; intro _ _ _; omega⟩
    have hw : wd six ≤ 128 := by unfold wd; split <;> omega
    rw [if_neg c3, head_eq hv (by unfold i64; omega), Option.bind_some]
    by_cases c4 : rdn hi (jh six b) = hi
    · by_cases c5 : rdn lo (jl six b) = lo
      · refine ⟨0, ?_, .inl rfl, ?_⟩
        · rw [if_neg]; simp [c4, c5]
        · simp; exact ⟨hv, by omega, by omega, c4, c5⟩
      · refine ⟨2, ?_, .inr rfl, ?_⟩
        · rw [if_pos]; simp [c5]
        · simp; intro _ _ _ _; exact c5
    · refine ⟨2, ?_, .inr rfl, ?_⟩
      · rw [if_pos]; simp [c4]
      · simp; intro _ _ _ hh; exact absurd hh c4
  · rw [if_neg c1]
    exact ⟨2, rfl, .inr rfl, by simp; intro hv; exact absurd (q3.2 hv) c1⟩
/-- Which addresses are in a range. -/
def hasP (six : Bool) (hi lo b : Int) (six' : Bool) (hi' lo' : Int) : Prop := okR six hi lo b ∧ valid six' hi' lo' ∧ six' = six ∧ rdn hi' (jh six b) = hi ∧ rdn lo' (jl six b) = lo
theorem has_eq {six : Bool} {hi lo b : Int} (h : u64 hi) (l : u64 lo) (hb : i64 b) {six' : Bool} {hi' lo' : Int} (h' : u64 hi') (l' : u64 lo') :
    ∃ v, ranges_Has.f six hi lo b six' hi' lo' = some v ∧ (v = true ↔ hasP six hi lo b six' hi' lo') := by
  obtain ⟨e, q1, q2, q3⟩ := check_eq (six := six) h l hb
  obtain ⟨e1, p1, p2, p3⟩ := chk_eq (six := six') h' l'
  unfold ranges_Has.f hasP
  rw [q1, Option.bind_some]
  by_cases c : e = 0
  · have ho := q3.1 c
    rw [if_pos c, p1, Option.bind_some]
    by_cases d : e1 = 0
    · have hv := p3.1 d
      rw [if_pos d]
      by_cases s : six' = six
      · subst s
        have hb2 := ho.2.1
        have hb3 := ho.2.2.1
        have hw : wd six' ≤ 128 := by unfold wd; split <;> omega
        rw [if_pos (by simp), head_eq hv (by unfold i64; omega), Option.bind_some]
        refine ⟨_, rfl, ?_⟩
        simp [ho, hv]
      · rw [if_neg (by simpa using s)]
        exact ⟨false, rfl, by simp [s]⟩
    · rw [if_neg d]
      exact ⟨false, rfl, by simp; intro _ hv; exact absurd (p3.2 hv) d⟩
  · rw [if_neg c]
    exact ⟨false, rfl, by simp; intro ho; exact absurd (q3.2 ho) c⟩
end Go.Proofs.YtilobbjnmnnmnaaGreatDoor.RangeFns
