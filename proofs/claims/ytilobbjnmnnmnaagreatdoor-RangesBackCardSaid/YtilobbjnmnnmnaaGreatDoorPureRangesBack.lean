/- This text proves, about numbers and texts alone, what the law RangesBack asks: a range is read of its text; its places, their addresses; what is behind the last place is none of it. -/
import Derived.Test.YtilobbjnmnnmnaaGreatDoorOBackx11
import Derived.Laws.Bits64b
set_option linter.unusedSimpArgs false
set_option linter.unusedVariables false
namespace Go.Proofs.YtilobbjnmnnmnaaGreatDoor.RangeFns
open Go.RowKit Go.Proofs.YtilobbjnmnnmnaaGreatDoor.OBack Go.Proofs.YtilobbjnmnnmnaaGreatDoorW.PrintWords Go.Proofs.YtilobbjnmnnmnaaGreatDoorW.PrintLast Go.Proofs.YtilobbjnmnnmnaaGreatDoorW.PrintMore

/-- Rounded down to a multiple of a power of two. -/
def rdn (x : Int) (j : Nat) : Int := x / 2 ^ j * 2 ^ j
theorem two_pos (j : Nat) : (0 : Int) < 2 ^ j := Int.pow_pos (by decide)
theorem rdn_zero (x : Int) : rdn x 0 = x := by unfold rdn; simp
theorem rdn_le (x : Int) (j : Nat) : rdn x j ≤ x := Int.ediv_mul_le _ (Int.ne_of_gt (two_pos j))
theorem rdn_nonneg {x : Int} (h : 0 ≤ x) (j : Nat) : 0 ≤ rdn x j := Int.mul_nonneg (Int.ediv_nonneg h (Int.le_of_lt (two_pos j))) (Int.le_of_lt (two_pos j))
theorem pow_split {i j : Nat} (h : i ≤ j) : (2 : Int) ^ j = 2 ^ i * 2 ^ (j - i) := by rw [← Int.pow_add]; congr 1; omega
theorem rdn_fix_add {x : Int} {j : Nat} (h : rdn x j = x) {i : Int} (h0 : 0 ≤ i) (h1 : i < 2 ^ j) : rdn (x + i) j = x := by
  unfold rdn at *
  have : (x + i) / 2 ^ j = x / 2 ^ j := by
    have e : x + i = i + (x / 2 ^ j) * 2 ^ j := by omega
    rw [e, Int.add_mul_ediv_right _ _ (Int.ne_of_gt (two_pos j)), Int.ediv_eq_zero_of_lt h0 h1, Int.zero_add]
  rw [this]
  exact h
theorem rdn_rdn {x : Int} {i j : Nat} (h : i ≤ j) : rdn (rdn x i) j = rdn x j := by
  unfold rdn
  congr 1
  rw [pow_split h, Int.mul_comm (x / 2 ^ i) (2 ^ i), Int.mul_ediv_mul_of_pos _ _ (two_pos i), ← Int.ediv_ediv_of_nonneg (Int.le_of_lt (two_pos i))]
theorem rdn_fix_less {x : Int} {i j : Nat} (h : i ≤ j) (hx : rdn x j = x) : rdn x i = x := by
  unfold rdn at hx ⊢
  rw [← hx, pow_split h, show x / (2 ^ i * 2 ^ (j - i)) * (2 ^ i * 2 ^ (j - i)) = (x / (2 ^ i * 2 ^ (j - i)) * 2 ^ (j - i)) * 2 ^ i by rw [Int.mul_comm (2 ^ i : Int), Int.mul_assoc], Int.mul_ediv_cancel _ (Int.ne_of_gt (two_pos i))]
theorem rdn_room {x : Int} {i n : Nat} (hx : rdn x i = x) (h0 : 0 ≤ x) (hn : x < 2 ^ n) (hi : i ≤ n) : x + 2 ^ i ≤ 2 ^ n := by
  unfold rdn at hx
  rw [pow_split hi] at hn ⊢
  have hp := two_pos i
  generalize x / 2 ^ i = q at hx
  have : q < 2 ^ (n - i) := by
    rw [← hx, Int.mul_comm] at hn
    exact Int.lt_of_mul_lt_mul_left hn (Int.le_of_lt hp)
  rw [← hx]
  calc q * 2 ^ i + 2 ^ i = 2 ^ i * (q + 1) := by rw [Int.mul_add, Int.mul_one, Int.mul_comm]
    _ ≤ 2 ^ i * 2 ^ (n - i) := Int.mul_le_mul_of_nonneg_left (by omega) (Int.le_of_lt hp)
theorem and_nat (x m j : Nat) : x &&& ((2 ^ m - 1) * 2 ^ j) = x / 2 ^ j % 2 ^ m * 2 ^ j := by
  apply Nat.eq_of_testBit_eq
  intro i
  rw [Nat.testBit_and, ← Nat.shiftLeft_eq, ← Nat.shiftLeft_eq, Nat.testBit_shiftLeft, Nat.testBit_shiftLeft, Nat.testBit_two_pow_sub_one, Nat.testBit_mod_two_pow, ← Nat.shiftRight_eq_div_pow, Nat.testBit_shiftRight]
  by_cases h : i ≥ j
  · rw [show j + (i - j) = i by omega]
    simp [h, Bool.and_comm]
  · simp [h]
theorem wrap_u64 (n : Int) (h0 : 0 ≤ n) (h1 : n < 2 ^ 64) : IntKind.u64.wrap n = n := by
  simp [IntKind.wrap, IntKind.bits, IntKind.signed]
  omega
theorem and_mask (x : Int) (n c : Nat) (hc : c ≤ n) (hn : n ≤ 64) (h0 : 0 ≤ x) (h1 : x < 2 ^ n) : Go.bits .and .u64 x (((2 ^ c - 1) * 2 ^ (n - c) : Nat) : Int) = rdn x (n - c) := by
  obtain ⟨x, rfl⟩ := Int.eq_ofNat_of_zero_le h0
  have hx : x < 2 ^ n := by exact_mod_cast h1
  have hm : (2 ^ c - 1) * 2 ^ (n - c) < 2 ^ 64 := by
    have a1 : 2 ^ c * 2 ^ (n - c) = 2 ^ n := by rw [← Nat.pow_add]; congr 1; omega
    have a2 : 2 ^ n ≤ 2 ^ 64 := Nat.pow_le_pow_right (by decide) hn
    have a3 : 0 < 2 ^ (n - c) := Nat.two_pow_pos _
    have a4 : 0 < 2 ^ c := Nat.two_pow_pos _
    have a5 : (2 ^ c - 1) * 2 ^ (n - c) + 2 ^ (n - c) = 2 ^ c * 2 ^ (n - c) := by rw [Nat.sub_mul, Nat.one_mul]; have := Nat.le_mul_of_pos_left (2 ^ (n - c)) a4; omega
    omega
  rw [(bits_nat .u64 64 (Nat.le_refl _) wrap_u64 x _ (Nat.lt_of_lt_of_le hx (Nat.pow_le_pow_right (by decide) hn)) hm).1, and_nat]
  have : x / 2 ^ (n - c) < 2 ^ c := by
    rw [Nat.div_lt_iff_lt_mul (Nat.two_pow_pos _), ← Nat.pow_add]
    rw [show c + (n - c) = n by omega]
    exact hx
  rw [Nat.mod_eq_of_lt this]
  unfold rdn
  push_cast
  rfl
/-! ### The mask -/
def cl (b : Int) (n : Nat) : Nat := if b ≤ 0 then 0 else if b ≥ (n : Int) then n else b.toNat
theorem cl_le (b : Int) (n : Nat) : cl b n ≤ n := by unfold cl; split; omega; split <;> omega
theorem tab64 : ∀ c : Fin 65, ranges_mask.f (c.val : Int) 64 = some (((2 ^ c.val - 1) * 2 ^ (64 - c.val) : Nat) : Int) := by decide +kernel
theorem tab32 : ∀ c : Fin 33, ranges_mask.f (c.val : Int) 32 = some (((2 ^ c.val - 1) * 2 ^ (32 - c.val) : Nat) : Int) := by decide +kernel
theorem mask64 (b : Int) : ranges_mask.f b 64 = some (((2 ^ cl b 64 - 1) * 2 ^ (64 - cl b 64) : Nat) : Int) := by
  by_cases h0 : b ≤ 0
  · rw [show cl b 64 = 0 by unfold cl; rw [if_pos h0]]
    unfold ranges_mask.f
    rw [if_pos h0]
    rfl
  · by_cases h1 : b ≥ 64
    · rw [show cl b 64 = 64 by unfold cl; rw [if_neg h0, if_pos (show b ≥ ((64 : Nat) : Int) from h1)]]
      have := tab64 ⟨64, by decide⟩
      refine Eq.trans ?_ this
      unfold ranges_mask.f
      rw [if_neg h0, if_pos h1]
      decide +kernel
    · have := tab64 ⟨b.toNat, by omega⟩
      rw [show ((⟨b.toNat, by omega⟩ : Fin 65).val : Int) = b by simp; omega] at this
      rw [this, show cl b 64 = b.toNat by unfold cl; rw [if_neg h0, if_neg (show ¬ b ≥ ((64 : Nat) : Int) from h1)]]
theorem mask32 (b : Int) : ranges_mask.f b 32 = some (((2 ^ cl b 32 - 1) * 2 ^ (32 - cl b 32) : Nat) : Int) := by
  by_cases h0 : b ≤ 0
  · rw [show cl b 32 = 0 by unfold cl; rw [if_pos h0]]
    unfold ranges_mask.f
    rw [if_pos h0]
    rfl
  · by_cases h1 : b ≥ 32
    · rw [show cl b 32 = 32 by unfold cl; rw [if_neg h0, if_pos (show b ≥ ((32 : Nat) : Int) from h1)]]
      have := tab32 ⟨32, by decide⟩
      refine Eq.trans ?_ this
      unfold ranges_mask.f
      rw [if_neg h0, if_pos h1]
      decide +kernel
    · have := tab32 ⟨b.toNat, by omega⟩
      rw [show ((⟨b.toNat, by omega⟩ : Fin 33).val : Int) = b by simp; omega] at this
      rw [this, show cl b 32 = b.toNat by unfold cl; rw [if_neg h0, if_neg (show ¬ b ≥ ((32 : Nat) : Int) from h1)]]
/-! ### The head -/
def jh (six : Bool) (b : Int) : Nat := if six = true then 64 - cl b 64 else 0
def jl (six : Bool) (b : Int) : Nat := if six = true then 64 - cl (b - 64) 64 else 32 - cl b 32
/-- Which addresses may be. -/
def valid (six : Bool) (hi lo : Int) : Prop := 0 ≤ hi ∧ hi < 2 ^ 64 ∧ 0 ≤ lo ∧ lo < 2 ^ 64 ∧ (six = true ∨ (hi = 0 ∧ lo < 2 ^ 32))
def u64 (x : Int) : Prop := 0 ≤ x ∧ x < 2 ^ 64
def i64 (x : Int) : Prop := -9223372036854775808 ≤ x ∧ x ≤ 9223372036854775807
theorem chk_eq {six : Bool} {hi lo : Int} (h : u64 hi) (l : u64 lo) : ∃ e, addr_Check.f six hi lo = some e ∧ (e = 0 ∨ e = 2) ∧ (e = 0 ↔ valid six hi lo) := by
  unfold u64 at h l
  unfold addr_Check.f valid
  cases six with
  | true => exact ⟨0, rfl, .inl rfl, by simp; omega⟩
  | false =>
    rw [if_neg (by decide)]
    by_cases c : hi = 0
    · rw [if_pos c]
      by_cases d : lo / 4294967296 = 0
      · rw [if_pos d]; exact ⟨0, rfl, .inl rfl, by simp; omega⟩
      · rw [if_neg d]; exact ⟨2, rfl, .inr rfl, by simp; omega⟩
    · rw [if_neg c]; exact ⟨2, rfl, .inr rfl, by simp; omega⟩
theorem head_eq {six : Bool} {hi lo b : Int} (h : valid six hi lo) (hb : i64 (b - 64)) : ranges_head.f six hi lo b = some (six, rdn hi (jh six b), rdn lo (jl six b)) := by
  unfold valid at h
  unfold i64 at hb
  unfold ranges_head.f jh jl
  cases six with
  | true =>
    rw [if_pos rfl, if_pos rfl, if_pos rfl, mask64, mask64, Option.bind_some, Option.bind_some, and_mask hi 64 _ (cl_le _ _) (Nat.le_refl _) h.1 h.2.1, and_mask lo 64 _ (cl_le _ _) (Nat.le_refl _) h.2.2.1 h.2.2.2.1]
    rw [show wrap64 (b - 64) = b - 64 by unfold wrap64; omega]
  | false =>
    have h2 : hi = 0 ∧ lo < 2 ^ 32 := by
      rcases h.2.2.2.2 with c | c
      · cases c
      · exact c
    rw [if_neg (by decide), if_neg (by decide), if_neg (by decide), mask32, Option.bind_some, and_mask lo 32 _ (cl_le _ _) (by decide) h.2.2.1 h2.2, rdn_zero]
def wd (six : Bool) : Int := if six = true then 128 else 32
/-- Which ranges may be. -/
def okR (six : Bool) (hi lo b : Int) : Prop := valid six hi lo ∧ 0 ≤ b ∧ b ≤ wd six ∧ rdn hi (jh six b) = hi ∧ rdn lo (jl six b) = lo
theorem wide_eq (six : Bool) (hi lo : Int) : ranges_wide.f six hi lo = some (wd six) := by
  unfold ranges_wide.f wd
  cases six <;> rfl
theorem check_eq {six : Bool} {hi lo b : Int} (h : u64 hi) (l : u64 lo) (hb : i64 b) : ∃ e, ranges_Check.f six hi lo b = some e ∧ (e = 0 ∨ e = 2) ∧ (e = 0 ↔ okR six hi lo b) := by
  obtain ⟨e1, q1, q2, q3⟩ := chk_eq (six := six) h l
  unfold ranges_Check.f okR
  rw [q1, Option.bind_some]
  by_cases c1 : e1 = 0
  · have hv := q3.1 c1
    rw [if_pos c1]
    by_cases c2 : b < 0
    · rw [if_pos c2]; exact ⟨2, rfl, .inr rfl, by simp; intro _ _; omega⟩
    rw [if_neg c2, wide_eq, Option.bind_some]
    by_cases c3 : b > wd six
    · rw [if_pos c3]; exact ⟨2, rfl, .inr rfl, by simp; intro _ _ _; omega⟩
    have hw : wd six ≤ 128 := by unfold wd; split <;> omega
    rw [if_neg c3, head_eq hv (by unfold i64; omega), Option.bind_some]
    by_cases c4 : rdn hi (jh six b) = hi
    · by_cases c5 : rdn lo (jl six b) = lo
      · refine ⟨0, ?_, .inl rfl, ?_⟩
        · rw [if_neg]; simp [c4, c5]
        · simp; exact ⟨hv, by omega, by omega, c4, c5⟩
      · refine ⟨2, ?_, .inr rfl, ?_⟩
        · rw [if_pos]; simp [c5]
        · simp; intro _ _ _ _; exact c5
    · refine ⟨2, ?_, .inr rfl, ?_⟩
      · rw [if_pos]; simp [c4]
      · simp; intro _ _ _ hh; exact absurd hh c4
  · rw [if_neg c1]
    exact ⟨2, rfl, .inr rfl, by simp; intro hv; exact absurd (q3.2 hv) c1⟩
/-- Which addresses are in a range. -/
def hasP (six : Bool) (hi lo b : Int) (six' : Bool) (hi' lo' : Int) : Prop := okR six hi lo b ∧ valid six' hi' lo' ∧ six' = six ∧ rdn hi' (jh six b) = hi ∧ rdn lo' (jl six b) = lo
theorem has_eq {six : Bool} {hi lo b : Int} (h : u64 hi) (l : u64 lo) (hb : i64 b) {six' : Bool} {hi' lo' : Int} (h' : u64 hi') (l' : u64 lo') :
    ∃ v, ranges_Has.f six hi lo b six' hi' lo' = some v ∧ (v = true ↔ hasP six hi lo b six' hi' lo') := by
  obtain ⟨e, q1, q2, q3⟩ := check_eq (six := six) h l hb
  obtain ⟨e1, p1, p2, p3⟩ := chk_eq (six := six') h' l'
  unfold ranges_Has.f hasP
  rw [q1, Option.bind_some]
  by_cases c : e = 0
  · have ho := q3.1 c
    rw [if_pos c, p1, Option.bind_some]
    by_cases d : e1 = 0
    · have hv := p3.1 d
      rw [if_pos d]
      by_cases s : six' = six
      · subst s
        have hb2 := ho.2.1
        have hb3 := ho.2.2.1
        have hw : wd six' ≤ 128 := by unfold wd; split <;> omega
        rw [if_pos (by simp), head_eq hv (by unfold i64; omega), Option.bind_some]
        refine ⟨_, rfl, ?_⟩
        simp [ho, hv]
      · rw [if_neg (by simpa using s)]
        exact ⟨false, rfl, by simp [s]⟩
    · rw [if_neg d]
      exact ⟨false, rfl, by simp; intro _ hv; exact absurd (p3.2 hv) d⟩
  · rw [if_neg c]
    exact ⟨false, rfl, by simp; intro ho; exact absurd (q3.2 ho) c⟩
end Go.Proofs.YtilobbjnmnnmnaaGreatDoor.RangeFns
set_option linter.unusedSimpArgs false
set_option linter.unusedVariables false
namespace Go.Proofs.YtilobbjnmnnmnaaGreatDoor.RangeFns
open Go.RowKit Go.Proofs.YtilobbjnmnnmnaaGreatDoor.OBack Go.Proofs.YtilobbjnmnnmnaaGreatDoorW.PrintWords Go.Proofs.YtilobbjnmnnmnaaGreatDoorW.PrintLast Go.Proofs.YtilobbjnmnnmnaaGreatDoorW.PrintMore

theorem jl_eq {six : Bool} {b : Int} (h0 : 0 ≤ b) (h1 : b ≤ wd six) : jl six b = min (wd six - b).toNat 64 := by
  unfold jl wd cl at *
  cases six with
  | true =>
    rw [if_pos rfl] at h1 ⊢
    rw [if_pos rfl]
    split
    · omega
    · split <;> omega
  | false =>
    rw [if_neg (show ¬ (false = true) by decide)] at h1 ⊢
    rw [if_neg (show ¬ (false = true) by decide)]
    split
    · omega
    · split <;> omega
theorem jh_eq {six : Bool} {b : Int} (h0 : 0 ≤ b) (h1 : b ≤ wd six) : jh six b = (wd six - b).toNat - 64 := by
  unfold jh wd cl at *
  cases six with
  | true =>
    rw [if_pos rfl] at h1 ⊢
    rw [if_pos rfl]
    split
    · omega
    · split <;> omega
  | false =>
    rw [if_neg (show ¬ (false = true) by decide)] at h1 ⊢
    rw [if_neg (show ¬ (false = true) by decide)]
    omega
def sz (x : Int) : Option Int := if 0 ≤ (mn (wrap64 x) 30) then (if (wrap64 (2 ^ (mn (wrap64 x) 30).toNat)) < 65536 then (if 0 ≤ (wrap64 x) then (some (shl .i64 1 (wrap64 x))) else (none)) else (some 65536)) else (none)
theorem sz_tab : ∀ d : Fin 129, sz (d.val : Int) = some (if d.val < 16 then 2 ^ d.val else 65536) := by decide +kernel
theorem size_eq {six : Bool} {hi lo b : Int} (h : u64 hi) (l : u64 lo) (hb : i64 b) (ho : okR six hi lo b) : ∃ n, ranges_Size.f six hi lo b = some n ∧ 1 ≤ n ∧ n ≤ 65536 ∧ n ≤ 2 ^ (jl six b) := by
  obtain ⟨e, q1, q2, q3⟩ := check_eq (six := six) h l hb
  have h0 := ho.2.1
  have h1 := ho.2.2.1
  have hw : wd six ≤ 128 := by unfold wd; split <;> omega
  have hj := jl_eq h0 h1
  unfold ranges_Size.f
  rw [q1, Option.bind_some, if_pos (q3.2 ho), wide_eq, Option.bind_some]
  have ht := sz_tab ⟨(wd six - b).toNat, by omega⟩
  rw [show ((⟨(wd six - b).toNat, by omega⟩ : Fin 129).val : Int) = wd six - b by simp; omega] at ht
  refine ⟨_, ht, ?_⟩
  simp only
  rw [hj]
  by_cases c : (wd six - b).toNat < 16
  · rw [if_pos c, show min (wd six - b).toNat 64 = (wd six - b).toNat by omega]
    have hp := two_pos (wd six - b).toNat
    have hle : (2 : Int) ^ (wd six - b).toNat ≤ 2 ^ 16 := by
      rw [pow_split (show (wd six - b).toNat ≤ 16 by omega)]
      have hq := two_pos (16 - (wd six - b).toNat)
      have := Int.mul_le_mul_of_nonneg_left (show (1 : Int) ≤ 2 ^ (16 - (wd six - b).toNat) by omega) (Int.le_of_lt hp)
      omega
    exact ⟨by omega, by omega, Int.le_refl _⟩
  · rw [if_neg c]
    refine ⟨by omega, by omega, ?_⟩
    rw [pow_split (show 16 ≤ min (wd six - b).toNat 64 by omega)]
    have hq := two_pos (min (wd six - b).toNat 64 - 16)
    omega
theorem at_eq {six : Bool} {hi lo b : Int} (h : u64 hi) (l : u64 lo) (hb : i64 b) (ho : okR six hi lo b) {n i : Int} (hn : ranges_Size.f six hi lo b = some n) (hn1 : n ≤ 65536) (hn2 : n ≤ 2 ^ (jl six b)) (hi0 : 0 ≤ i) (hi1 : i < n) :
    ranges_At.f six hi lo b i = some (six, hi, lo + i, true) ∧ valid six hi (lo + i) ∧ rdn (lo + i) (jl six b) = lo ∧ u64 (lo + i) := by
  have hv := ho.1
  have hv2 := hv
  unfold u64 at h l
  unfold valid at hv
  have hf := ho.2.2.2.2
  have hr := rdn_fix_add hf hi0 (show i < 2 ^ jl six b by omega)
  have hj := jl_eq ho.2.1 ho.2.2.1
  have room : lo + i < 2 ^ 64 ∧ (six = true ∨ lo + i < 2 ^ 32) := by
    have r1 := rdn_room hf l.1 l.2 (by rw [hj]; omega)
    refine ⟨by omega, ?_⟩
    cases six with
    | true => exact .inl rfl
    | false =>
      right
      have h2 : hi = 0 ∧ lo < 2 ^ 32 := by
        rcases hv.2.2.2.2 with c | c
        · cases c
        · exact c
      have hw : wd false = 32 := rfl
      have h0 := ho.2.1
      have r2 := rdn_room hf l.1 h2.2 (by rw [hj, hw]; omega)
      omega
  have hx : valid six hi (lo + i) := by
    unfold valid
    refine ⟨hv.1, hv.2.1, by omega, room.1, ?_⟩
    rcases hv.2.2.2.2 with c | c
    · exact .inl c
    · rcases room.2 with d | d
      · exact .inl d
      · exact .inr ⟨c.1, d⟩
  refine ⟨?_, hx, hr, ⟨by omega, room.1⟩⟩
  unfold ranges_At.f
  rw [if_neg (by omega), hn, Option.bind_some, if_neg (by omega), wrap_u64 i hi0 (by omega)]
  obtain ⟨e1, p1, p2, p3⟩ := chk_eq (six := six) (hi := hi) (lo := lo) h l
  obtain ⟨e2, r1, r2, r3⟩ := chk_eq (six := six) (hi := hi) (lo := lo + i) h ⟨by omega, room.1⟩
  have hd : (lo + i) / 18446744073709551616 = 0 := Int.ediv_eq_zero_of_lt (by omega) (by omega)
  have hm : (lo + i) % 18446744073709551616 = lo + i := Int.emod_eq_of_lt (by omega) (by omega)
  unfold addr_Add.f AddrLib.addF
  rw [if_pos ⟨h.1, l.1, hi0, by omega, by omega⟩, p1, Option.bind_some, if_pos (p3.2 hv2), hd, hm]
  cases six with
  | true =>
    rw [if_pos rfl, Int.add_zero, if_pos (Int.ediv_eq_zero_of_lt h.1 (by omega)), Int.emod_eq_of_lt h.1 (by omega), r1, Option.bind_some, if_pos (r3.2 hx)]
    rfl
  | false =>
    rw [if_neg (by decide), if_pos rfl, r1, Option.bind_some, if_pos (r3.2 hx)]
    rfl
theorem ok_u64 {six : Bool} {hi lo b : Int} (h : okR six hi lo b) : hasP six hi lo b six hi lo := ⟨h, h.1, rfl, h.2.2.2.1, h.2.2.2.2⟩
/-- Where the smaller range has the greater one's Base, they are at one place. -/
theorem has_swap {six : Bool} {hi lo b : Int} {six' : Bool} {hi' lo' b' : Int} (ha : okR six hi lo b) (hb : okR six' hi' lo' b') (hle : b ≤ b') (h : hasP six' hi' lo' b' six hi lo) : hasP six hi lo b six' hi' lo' := by
  obtain ⟨_, _, rfl, h1, h2⟩ := h
  have a0 := ha.2.1
  have a1 := ha.2.2.1
  have b0 := hb.2.1
  have b1 := hb.2.2.1
  have e1 : rdn hi (jh six b') = hi := rdn_fix_less (by rw [jh_eq a0 a1, jh_eq b0 b1]; omega) ha.2.2.2.1
  have e2 : rdn lo (jl six b') = lo := rdn_fix_less (by rw [jl_eq a0 a1, jl_eq b0 b1]; omega) ha.2.2.2.2
  rw [e1] at h1
  rw [e2] at h2
  subst h1 h2
  exact ⟨ha, hb.1, rfl, ha.2.2.2.1, ha.2.2.2.2⟩
theorem bool_same {a b : Bool} {P : Prop} (h : a = true ↔ P) (k : b = true ↔ P) : a = b := by
  cases a <;> cases b <;> simp_all
end Go.Proofs.YtilobbjnmnnmnaaGreatDoor.RangeFns
set_option linter.unusedSimpArgs false
set_option linter.unusedVariables false
namespace Go.Proofs.YtilobbjnmnnmnaaGreatDoor.RangeFns
open Go.RowKit Go.Proofs.YtilobbjnmnnmnaaGreatDoor.OBack Go.Proofs.YtilobbjnmnnmnaaGreatDoorW.PrintWords Go.Proofs.YtilobbjnmnnmnaaGreatDoorW.PrintLast Go.Proofs.YtilobbjnmnnmnaaGreatDoorW.PrintMore

theorem pick_eq {i n : Int} (h : i64 i) (hn : 1 ≤ n) (hn1 : n ≤ 65536) : ∃ p, nameplatekit_Pick.f i n = some p ∧ 0 ≤ p ∧ p < n := by
  have h1 := Int.tmod_lt_of_pos i (show 0 < n by omega)
  have h2 := Int.lt_tmod_of_pos i (show 0 < n by omega)
  unfold nameplatekit_Pick.f
  rw [if_neg (by omega), if_neg (by omega)]
  by_cases c : Int.tmod i n < 0
  · rw [if_pos c, show wrap64 (Int.tmod i n + n) = Int.tmod i n + n by unfold wrap64; omega]
    exact ⟨_, rfl, by omega, by omega⟩
  · rw [if_neg c]
    exact ⟨_, rfl, by omega, by omega⟩
end Go.Proofs.YtilobbjnmnnmnaaGreatDoor.RangeFns
set_option linter.unusedSimpArgs false
set_option linter.unusedVariables false
namespace Go.Proofs.YtilobbjnmnnmnaaGreatDoor.AddrFns
open Go.RowKit Go.Lib Go.Proofs.YtilobbjnmnnmnaaGreatDoor.OBack Go.Proofs.YtilobbjnmnnmnaaGreatDoor.AddrLib Go.Proofs.YtilobbjnmnnmnaaGreatDoorW.PrintWords Go.Proofs.YtilobbjnmnnmnaaGreatDoorW.PrintLast Go.Proofs.YtilobbjnmnnmnaaGreatDoorW.PrintMore

theorem wr_u64 (n : Int) (h0 : 0 ≤ n) (h1 : n < 18446744073709551616) : IntKind.u64.wrap n = n := by
  simp [IntKind.wrap, IntKind.bits, IntKind.signed]
  omega
theorem wr_u16 (n : Int) : IntKind.u16.wrap n = n % 65536 := by
  simp [IntKind.wrap, IntKind.bits, IntKind.signed]
theorem or_add (n c : Int) (j : Nat) (B : Int) (hB : B = 2 ^ j) (h0 : 0 ≤ n) (h1 : n * B < 18446744073709551616) (c0 : 0 ≤ c) (c1 : c < B) (hs : n * B + c < 18446744073709551616) :
    Go.bits .or .u64 (IntKind.u64.wrap (n * B)) (IntKind.u64.wrap c) = n * B + c := by
  obtain ⟨n, rfl⟩ := Int.eq_ofNat_of_zero_le h0
  obtain ⟨c, rfl⟩ := Int.eq_ofNat_of_zero_le c0
  have hBn : B = ((2 ^ j : Nat) : Int) := by rw [hB]; push_cast; rfl
  have e : (n : Int) * B = ((n * 2 ^ j : Nat) : Int) := by rw [hBn]; push_cast; rfl
  rw [wr_u64 _ (by rw [e]; omega) h1, wr_u64 _ c0 (by rw [e] at hs; omega), e]
  rw [e] at h1 hs
  have hc : c < 2 ^ j := by rw [hBn] at c1; omega
  rw [bits_or_u64_nat (n * 2 ^ j) c (by omega) (by omega), ← Nat.shiftLeft_eq, ← Nat.shiftLeft_add_eq_or_of_lt hc, Nat.shiftLeft_eq]
  push_cast
  rfl
/-! ### Eight groups are a number -/
theorem wrap_small (i : Nat) (h : i < 1000) : wrap64 ((i : Int) + 1) = ((i + 1 : Nat) : Int) := by unfold wrap64; omega
theorem of_step (k : Nat) (l : List Int) (i : Nat) (b : Bool) (hi lo : Int) (h8 : l.length = 8) (hi8 : i < 8) (x : Int) (hx : l.getD i 0 = x) (x0 : 0 ≤ x) (x1 : x < 65536) :
    addr_of.l0 (k + 1) l 8 i b hi lo = if (i : Int) < 4 then addr_of.l0 k l 8 ((i + 1 : Nat) : Int) b (Go.bits .or .u64 (IntKind.u64.wrap (hi * 65536)) (IntKind.u64.wrap x)) lo else addr_of.l0 k l 8 ((i + 1 : Nat) : Int) b hi (Go.bits .or .u64 (IntKind.u64.wrap (lo * 65536)) (IntKind.u64.wrap x)) := by
  have hr : rd l (i : Int) = x := by unfold rd; rw [Int.toNat_natCast, hx]
  rw [addr_of.l0, if_pos (by omega), if_pos (by omega), if_pos (by rw [h8]; omega), hr, wrap_small i (by omega)]
theorem of_eq (k : Nat) (a0 a1 a2 a3 a4 a5 a6 a7 : Int) (h : ∀ x ∈ [a0, a1, a2, a3, a4, a5, a6, a7], 0 ≤ x ∧ x < 65536) :
    addr_of.f (k + 9) [a0, a1, a2, a3, a4, a5, a6, a7] = some (true, ((a0 * 65536 + a1) * 65536 + a2) * 65536 + a3, ((a4 * 65536 + a5) * 65536 + a6) * 65536 + a7) := by
  obtain ⟨l, hl⟩ : ∃ l, l = [a0, a1, a2, a3, a4, a5, a6, a7] := ⟨_, rfl⟩
  have h8 : l.length = 8 := by rw [hl]; rfl
  have b0 := h a0 (by simp); have b1 := h a1 (by simp); have b2 := h a2 (by simp); have b3 := h a3 (by simp); have b4 := h a4 (by simp); have b5 := h a5 (by simp); have b6 := h a6 (by simp); have b7 := h a7 (by simp)
  rw [← hl]
  unfold addr_of.f
  rw [h8]
  have st := fun k i hi8 x hx x0 x1 hh ll => of_step k l i true hh ll h8 hi8 x hx x0 x1
  have z : ∀ x : Int, 0 ≤ x → x < 65536 → Go.bits .or .u64 (IntKind.u64.wrap (0 * 65536)) (IntKind.u64.wrap x) = x := fun x x0 x1 => by
    rw [or_add 0 x 16 65536 (by decide) (by decide) (by decide) x0 x1 (by omega)]; omega
  have orr : ∀ n x : Int, 0 ≤ n → n < 281474976710656 → 0 ≤ x → x < 65536 → Go.bits .or .u64 (IntKind.u64.wrap (n * 65536)) (IntKind.u64.wrap x) = n * 65536 + x := fun n x n0 n1 x0 x1 =>
    or_add n x 16 65536 (by decide) n0 (by omega) x0 x1 (by omega)
  have e0 := st (k + 8) 0 (by decide) a0 (by rw [hl]; rfl) b0.1 b0.2 0 0
  rw [if_pos (by decide), z a0 b0.1 b0.2] at e0
  have e1 := st (k + 7) 1 (by decide) a1 (by rw [hl]; rfl) b1.1 b1.2 a0 0
  rw [if_pos (by decide), orr a0 a1 b0.1 (by omega) b1.1 b1.2] at e1
  have e2 := st (k + 6) 2 (by decide) a2 (by rw [hl]; rfl) b2.1 b2.2 (a0 * 65536 + a1) 0
  rw [if_pos (by decide), orr _ a2 (by omega) (by omega) b2.1 b2.2] at e2
  have e3 := st (k + 5) 3 (by decide) a3 (by rw [hl]; rfl) b3.1 b3.2 ((a0 * 65536 + a1) * 65536 + a2) 0
  rw [if_pos (by decide), orr _ a3 (by omega) (by omega) b3.1 b3.2] at e3
  have e4 := st (k + 4) 4 (by decide) a4 (by rw [hl]; rfl) b4.1 b4.2 (((a0 * 65536 + a1) * 65536 + a2) * 65536 + a3) 0
  rw [if_neg (by decide), z a4 b4.1 b4.2] at e4
  have e5 := st (k + 3) 5 (by decide) a5 (by rw [hl]; rfl) b5.1 b5.2 (((a0 * 65536 + a1) * 65536 + a2) * 65536 + a3) a4
  rw [if_neg (by decide), orr a4 a5 b4.1 (by omega) b5.1 b5.2] at e5
  have e6 := st (k + 2) 6 (by decide) a6 (by rw [hl]; rfl) b6.1 b6.2 (((a0 * 65536 + a1) * 65536 + a2) * 65536 + a3) (a4 * 65536 + a5)
  rw [if_neg (by decide), orr _ a6 (by omega) (by omega) b6.1 b6.2] at e6
  have e7 := st (k + 1) 7 (by decide) a7 (by rw [hl]; rfl) b7.1 b7.2 (((a0 * 65536 + a1) * 65536 + a2) * 65536 + a3) ((a4 * 65536 + a5) * 65536 + a6)
  rw [if_neg (by decide), orr _ a7 (by omega) (by omega) b7.1 b7.2] at e7
  show addr_of.l0 (k + 8 + 1) l 8 ((0 : Nat) : Int) true 0 0 = _
  rw [e0]
  show addr_of.l0 (k + 7 + 1) l 8 ((1 : Nat) : Int) true a0 0 = _
  rw [e1]
  show addr_of.l0 (k + 6 + 1) l 8 ((2 : Nat) : Int) true _ 0 = _
  rw [e2]
  show addr_of.l0 (k + 5 + 1) l 8 ((3 : Nat) : Int) true _ 0 = _
  rw [e3]
  show addr_of.l0 (k + 4 + 1) l 8 ((4 : Nat) : Int) true _ 0 = _
  rw [e4]
  show addr_of.l0 (k + 3 + 1) l 8 ((5 : Nat) : Int) true _ a4 = _
  rw [e5]
  show addr_of.l0 (k + 2 + 1) l 8 ((6 : Nat) : Int) true _ _ = _
  rw [e6]
  show addr_of.l0 (k + 1 + 1) l 8 ((7 : Nat) : Int) true _ _ = _
  rw [e7, addr_of.l0, if_neg (by decide)]
theorem cut_rng (hi lo : Int) : ∀ x ∈ cutL hi lo, 0 ≤ x ∧ x < 65536 := by
  intro x hx
  unfold cutL g16 at hx
  simp only [wr_u16, List.mem_cons, List.not_mem_nil, or_false] at hx
  rcases hx with rfl | rfl | rfl | rfl | rfl | rfl | rfl | rfl <;> omega
theorem of_cut (k : Nat) (hi lo : Int) (h0 : 0 ≤ hi) (h1 : hi < 18446744073709551616) (l0 : 0 ≤ lo) (l1 : lo < 18446744073709551616) : addr_of.f (k + 9) (cutL hi lo) = some (true, hi, lo) := by
  have h := of_eq k (g16 hi 3) (g16 hi 2) (g16 hi 1) (g16 hi 0) (g16 lo 3) (g16 lo 2) (g16 lo 1) (g16 lo 0) (cut_rng hi lo)
  refine h.trans ?_
  unfold g16
  simp only [wr_u16]
  have e1 : ((hi / 281474976710656 % 65536 * 65536 + hi / 4294967296 % 65536) * 65536 + hi / 65536 % 65536) * 65536 + hi % 65536 = hi := by omega
  have e2 : ((lo / 281474976710656 % 65536 * 65536 + lo / 4294967296 % 65536) * 65536 + lo / 65536 % 65536) * 65536 + lo % 65536 = lo := by omega
  rw [e1, e2]
/-! ### The longest run of noughts is one -/
def nought (l : List Int) (a b : Int) : Prop := ∀ j : Nat, a ≤ (j : Int) → (j : Int) < b → l.getD j 0 = 0
theorem zL_ok (l : List Int) : ∀ (t : List Int) (p : Nat) (f n k : Int), l.drop p = t → 0 ≤ f → 0 ≤ n → f + n ≤ p → nought l f (f + n) → 0 ≤ k → k ≤ p → nought l (p - k) p →
    0 ≤ (zL t p f n k).1 ∧ 0 ≤ (zL t p f n k).2 ∧ (zL t p f n k).1 + (zL t p f n k).2 ≤ p + t.length ∧ nought l (zL t p f n k).1 ((zL t p f n k).1 + (zL t p f n k).2) := by
  intro t
  induction t with
  | nil => intro p f n k _ h1 h2 h3 h4 _ _ _; unfold zL; simp only [List.length_nil]; exact ⟨h1, h2, by omega, h4⟩
  | cons x t ih =>
    intro p f n k hd h1 h2 h3 h4 h5 h6 h7
    have hx : l.getD p 0 = x := by
      rw [List.getD_eq_getElem?_getD, ← List.head?_drop, hd]; rfl
    have hd2 : l.drop (p + 1) = t := by rw [← List.drop_drop, hd]; rfl
    have ih := fun f n k => ih (p + 1) f n k hd2
    rw [show ((p + 1 : Nat) : Int) = (p : Int) + 1 by omega] at ih
    unfold zL
    rw [List.length_cons]
    by_cases c : x = 0
    · rw [if_pos c]
      have hn : nought l ((p : Int) - k) (p + 1) := fun j a b => by
        by_cases e : (j : Int) < p
        · exact h7 j a e
        · have : j = p := by omega
          rw [this, hx, c]
      by_cases d : n < k + 1
      · rw [if_pos d]
        have := ih (p + 1 - (k + 1)) (k + 1) (k + 1) (by omega) (by omega) (by omega) (by rw [show ((p : Int) + 1 - (k + 1)) + (k + 1) = p + 1 by omega, show (p : Int) + 1 - (k + 1) = p - k by omega]; exact hn) (by omega) (by omega) (by rw [show (p : Int) + 1 - (k + 1) = p - k by omega]; exact hn)
        exact ⟨this.1, this.2.1, by have := this.2.2.1; omega, this.2.2.2⟩
      · rw [if_neg d]
        have := ih f n (k + 1) h1 h2 (by omega) h4 (by omega) (by omega) (by rw [show (p : Int) + 1 - (k + 1) = p - k by omega]; exact hn)
        exact ⟨this.1, this.2.1, by have := this.2.2.1; omega, this.2.2.2⟩
    · rw [if_neg c, if_neg (by omega)]
      have := ih f n 0 h1 h2 (by omega) h4 (by omega) (by omega) (fun j a b => by omega)
      exact ⟨this.1, this.2.1, by have := this.2.2.1; omega, this.2.2.2⟩
theorem zL_whole (l : List Int) : ∃ f n : Nat, zL l 0 0 0 0 = ((f : Int), (n : Int)) ∧ f + n ≤ l.length ∧ l = l.take f ++ List.replicate n 0 ++ l.drop (f + n) := by
  have h := zL_ok l l 0 0 0 0 rfl (by decide) (by decide) (by decide) (fun j a b => by omega) (by decide) (by decide) (fun j a b => by omega)
  obtain ⟨h1, h2, h3, h4⟩ := h
  obtain ⟨f, hf⟩ := Int.eq_ofNat_of_zero_le h1
  obtain ⟨n, hn⟩ := Int.eq_ofNat_of_zero_le h2
  rw [show ((0 : Nat) : Int) = 0 from rfl] at h1 h2 h3 h4 hf hn
  rw [hf, hn] at h3 h4
  refine ⟨f, n, Prod.ext hf hn, by omega, ?_⟩
  have hr : (l.drop f).take n = List.replicate n 0 := by
    refine List.eq_replicate_iff.2 ⟨by rw [List.length_take, List.length_drop]; omega, fun b hb => ?_⟩
    obtain ⟨i, hi, rfl⟩ := List.getElem_of_mem hb
    rw [List.length_take, List.length_drop] at hi
    have := h4 (f + i) (by omega) (by omega)
    rw [List.getD_eq_getElem?_getD, List.getElem?_eq_getElem (by omega)] at this
    rw [List.getElem_take, List.getElem_drop]
    exact this
  rw [← hr, List.append_assoc, ← List.drop_drop, List.take_append_drop, List.take_append_drop]
end Go.Proofs.YtilobbjnmnnmnaaGreatDoor.AddrFns
set_option linter.unusedSimpArgs false
set_option linter.unusedVariables false
namespace Go.Proofs.YtilobbjnmnnmnaaGreatDoor.AddrFns
open Go.RowKit Go.Lib Go.Proofs.YtilobbjnmnnmnaaGreatDoor.OBack Go.Proofs.YtilobbjnmnnmnaaGreatDoor.AddrLib Go.Proofs.YtilobbjnmnnmnaaGreatDoorW.PrintWords Go.Proofs.YtilobbjnmnnmnaaGreatDoorW.PrintLast Go.Proofs.YtilobbjnmnnmnaaGreatDoorW.PrintMore

/-! ### Base 10 -/
def decL (u : Nat) : List UInt8 :=
  if u < 10 then [UInt8.ofNat (48 + u)] else if u < 100 then [UInt8.ofNat (48 + u / 10), UInt8.ofNat (48 + u % 10)] else [UInt8.ofNat (48 + u / 100), UInt8.ofNat (48 + u / 10 % 10), UInt8.ofNat (48 + u % 10)]
theorem dec_eq (u : Nat) (h : u < 1000) : decDigits u = decL u := by
  have one : ∀ v, v < 10 → decDigits v = [UInt8.ofNat (48 + v)] := fun v hv => by rw [decDigits, dif_pos hv]
  have two : ∀ v, ¬ v < 10 → v < 100 → decDigits v = [UInt8.ofNat (48 + v / 10), UInt8.ofNat (48 + v % 10)] := fun v h1 h2 => by
    rw [decDigits, dif_neg h1, one (v / 10) (by omega)]; rfl
  unfold decL
  by_cases c : u < 10
  · rw [if_pos c, one u c]
  · rw [if_neg c]
    by_cases d : u < 100
    · rw [if_pos d, two u c d]
    · rw [if_neg d, decDigits, dif_neg c, two (u / 10) (by omega) (by omega), show u / 10 / 10 = u / 100 by omega]
      rfl
theorem itoa_eq (x : Int) (h0 : 0 ≤ x) (h1 : x < 1000) : itoa x = decL x.toNat := by
  unfold itoa
  rw [if_neg (by omega), dec_eq _ (by omega)]
def decOk (u : Nat) : Bool := (numP 3 10 (mkB (decL u)) == some ((u : Int), true)) && !(badO ((u : Int), true) (mkB (decL u))) && (decL u).all (fun b => b != 46 && b != 47 && b != 58) && decide (1 ≤ (decL u).length ∧ (decL u).length ≤ 3)
theorem dec_tab : ∀ u : Fin 256, decOk u.val = true := by decide +kernel
theorem dec_fact (u : Nat) (h : u < 256) : numP 3 10 (mkB (decL u)) = some ((u : Int), true) ∧ badO ((u : Int), true) (mkB (decL u)) = false ∧ (46 : UInt8) ∉ decL u ∧ (47 : UInt8) ∉ decL u ∧ (58 : UInt8) ∉ decL u ∧ 1 ≤ (decL u).length ∧ (decL u).length ≤ 3 := by
  have t := dec_tab ⟨u, h⟩
  unfold decOk at t
  simp only [Bool.and_eq_true, beq_iff_eq, Bool.not_eq_true', List.all_eq_true, bne_iff_ne, decide_eq_true_eq] at t
  obtain ⟨⟨⟨t1, t2⟩, t3⟩, t4, t5⟩ := t
  exact ⟨t1, t2, fun hb => (t3 _ hb).1.1 rfl, fun hb => (t3 _ hb).1.2 rfl, fun hb => (t3 _ hb).2 rfl, t4, t5⟩
theorem count_none {c : UInt8} {s : ByteArray} (h : c ∉ s.data.toList) : countB s (oneS c) = 0 := countB_miss s (oneS c) (index1_none h)
theorem elder_none (k : Nat) (s : ByteArray) (hs : s.size ≤ 100000) (h : (46 : UInt8) ∉ s.data.toList) : addr_elder.f k s = some (false, 0, 0, false) := by
  unfold addr_elder.f elderF
  rw [if_pos hs, count_none h, if_neg (by decide)]
theorem whole_step (k : Nat) (l : List Int) (i : Nat) (n x : Int) (h4 : l.length = 4) (hi : i < 4) (hx : l.getD i 0 = x) (x0 : 0 ≤ x) (x1 : x < 256) (n0 : 0 ≤ n) (n1 : n < 16777216) :
    addr_whole.l0 (k + 1) n l 4 i = addr_whole.l0 k (n * 256 + x) l 4 ((i + 1 : Nat) : Int) := by
  have hr : rd l (i : Int) = x := by unfold rd; rw [Int.toNat_natCast, hx]
  rw [addr_whole.l0, if_pos (by omega), if_pos (by omega), if_pos (by rw [h4]; omega), hr, wrap_small i (by omega), or_add n x 8 256 (by decide) n0 (by omega) x0 x1 (by omega)]
theorem four_eq (k : Nat) (a b c d : Int) (ha : 0 ≤ a ∧ a < 256) (hb : 0 ≤ b ∧ b < 256) (hc : 0 ≤ c ∧ c < 256) (hd : 0 ≤ d ∧ d < 256) :
    addr_Four.f (k + 5) a b c d = some (false, 0, ((a * 256 + b) * 256 + c) * 256 + d) := by
  unfold addr_Four.f addr_whole.f
  obtain ⟨l, hl⟩ : ∃ l, l = [a, b, c, d] := ⟨_, rfl⟩
  have h4 : l.length = 4 := by rw [hl]; rfl
  rw [← hl, h4]
  have e0 := whole_step (k + 4) l 0 0 a h4 (by decide) (by rw [hl]; rfl) ha.1 ha.2 (by decide) (by decide)
  rw [show (0 : Int) * 256 + a = a by omega] at e0
  have e1 := whole_step (k + 3) l 1 a b h4 (by decide) (by rw [hl]; rfl) hb.1 hb.2 ha.1 (by omega)
  have e2 := whole_step (k + 2) l 2 (a * 256 + b) c h4 (by decide) (by rw [hl]; rfl) hc.1 hc.2 (by omega) (by omega)
  have e3 := whole_step (k + 1) l 3 ((a * 256 + b) * 256 + c) d h4 (by decide) (by rw [hl]; rfl) hd.1 hd.2 (by omega) (by omega)
  rw [show addr_whole.l0 (k + 5) 0 l ((4 : Nat) : Int) 0 = addr_whole.l0 (k + 4) a l 4 ((0 + 1 : Nat) : Int) from e0, show addr_whole.l0 (k + 4) a l 4 ((0 + 1 : Nat) : Int) = _ from e1, show addr_whole.l0 (k + 3) _ l 4 ((1 + 1 : Nat) : Int) = _ from e2, show addr_whole.l0 (k + 2) _ l 4 ((2 + 1 : Nat) : Int) = _ from e3, addr_whole.l0, if_neg (by decide), Option.bind_some]
/-- A dotted quad is read. -/
theorem elder_quad (k : Nat) (lo : Int) (l0 : 0 ≤ lo) (l1 : lo < 4294967296) :
    (join ((quad lo).map (·.data.toList)) [46]).length ≤ 15 ∧ (47 : UInt8) ∉ join ((quad lo).map (·.data.toList)) [46] ∧ addr_elder.f (k + 5) (mkB (join ((quad lo).map (·.data.toList)) [46])) = some (false, 0, lo, true) := by
  obtain ⟨L, hL⟩ : ∃ L, L = [decL (lo / 16777216 % 256).toNat, decL (lo / 65536 % 256).toNat, decL (lo / 256 % 256).toNat, decL (lo % 256).toNat] := ⟨_, rfl⟩
  have hq : (quad lo).map (·.data.toList) = L := by
    rw [hL]
    unfold quad
    simp only [List.map_cons, List.map_nil, mkB_data]
    rw [itoa_eq _ (by omega) (by omega), itoa_eq _ (by omega) (by omega), itoa_eq _ (by omega) (by omega), itoa_eq _ (by omega) (by omega)]
  rw [hq]
  have fa := dec_fact (lo / 16777216 % 256).toNat (by omega)
  have fb := dec_fact (lo / 65536 % 256).toNat (by omega)
  have fc := dec_fact (lo / 256 % 256).toNat (by omega)
  have fd := dec_fact (lo % 256).toNat (by omega)
  have hno : ∀ x ∈ L, (46 : UInt8) ∉ x ∧ (47 : UInt8) ∉ x := by
    intro x hx
    rw [hL] at hx
    simp only [List.mem_cons, List.not_mem_nil, or_false] at hx
    rcases hx with rfl | rfl | rfl | rfl
    · exact ⟨fa.2.2.1, fa.2.2.2.1⟩
    · exact ⟨fb.2.2.1, fb.2.2.2.1⟩
    · exact ⟨fc.2.2.1, fc.2.2.2.1⟩
    · exact ⟨fd.2.2.1, fd.2.2.2.1⟩
  have hlen : (join L [46]).length ≤ 15 := by
    rw [hL, join_length]
    simp only [lens, List.map_cons, List.map_nil, List.sum_cons, List.sum_nil, List.length_cons, List.length_nil]
    have := fa.2.2.2.2.2.2; have := fb.2.2.2.2.2.2; have := fc.2.2.2.2.2.2; have := fd.2.2.2.2.2.2
    omega
  refine ⟨hlen, ?_, ?_⟩
  · rw [hL] at hno ⊢
    rw [join_cons]
    simp only [joinTail, List.map_cons, List.map_nil, List.flatten_cons, List.flatten_nil, List.mem_append, List.mem_cons, List.not_mem_nil, or_false, not_or]
    exact ⟨fa.2.2.2.1, ⟨by decide, fb.2.2.2.1⟩, ⟨by decide, fc.2.2.2.1⟩, by decide, fd.2.2.2.1⟩
  · have hsp : splitB (oneS 46) 0 (countB (mkB (join L [46])) (oneS 46)) (mkB (join L [46])) = L.map mkB := by
      rw [splitB_list, mkB_data, split_join 46 L (by rw [hL]; simp) (fun x hx => (hno x hx).1)]
    have hcnt := splitB_all (oneS 46) (Nat.le_refl _) 0 _ (mkB (join L [46])) rfl
    rw [hsp, List.length_map, hL, List.length_cons, List.length_cons, List.length_cons, List.length_cons, List.length_nil, ← hL] at hcnt
    unfold addr_elder.f elderF
    rw [if_pos (by rw [mkB_size]; omega), if_pos (by omega), hsp, hL]
    simp only [List.map_cons, List.map_nil]
    have st : ∀ (u : Nat) (t : List ByteArray) (acc : List Int), u < 256 → elderK (addr_Four.f (k + 5)) (mkB (decL u) :: t) acc = elderK (addr_Four.f (k + 5)) t (acc ++ [(u : Int)]) := fun u t acc hu => by
      have f := dec_fact u hu
      rw [elderK, f.1, Option.bind_some, f.2.1, if_neg (by decide)]
    rw [st _ _ _ (by omega), st _ _ _ (by omega), st _ _ _ (by omega), st _ _ _ (by omega)]
    show (addr_Four.f (k + 5) _ _ _ _).bind _ = _
    rw [four_eq k _ _ _ _ ⟨by omega, by omega⟩ ⟨by omega, by omega⟩ ⟨by omega, by omega⟩ ⟨by omega, by omega⟩, Option.bind_some]
    have e : ((((lo / 16777216 % 256).toNat : Int) * 256 + ((lo / 65536 % 256).toNat : Int)) * 256 + ((lo / 256 % 256).toNat : Int)) * 256 + ((lo % 256).toNat : Int) = lo := by
      rw [Int.toNat_of_nonneg (by omega), Int.toNat_of_nonneg (by omega), Int.toNat_of_nonneg (by omega), Int.toNat_of_nonneg (by omega)]
      omega
    simp only
    rw [e]
end Go.Proofs.YtilobbjnmnnmnaaGreatDoor.AddrFns
set_option linter.unusedSimpArgs false
set_option linter.unusedVariables false
namespace Go.Proofs.YtilobbjnmnnmnaaGreatDoor.AddrFns
open Go.RowKit Go.Lib Go.Proofs.YtilobbjnmnnmnaaGreatDoor.OBack Go.Proofs.YtilobbjnmnnmnaaGreatDoor.AddrLib Go.Proofs.YtilobbjnmnnmnaaGreatDoorW.PrintWords Go.Proofs.YtilobbjnmnnmnaaGreatDoorW.PrintLast Go.Proofs.YtilobbjnmnnmnaaGreatDoorW.PrintMore

/-- A group's text. -/
def hx (x : Int) : List UInt8 := hexL x.toNat
def rng (l : List Int) : Prop := ∀ x ∈ l, 0 ≤ x ∧ x < 65536
def tx (l : List Int) : List UInt8 := join (l.map hx) [58]
theorem hx_ok {l : List Int} (h : rng l) : okG (l.map hx) := by
  intro y hy
  obtain ⟨x, hx', rfl⟩ := List.mem_map.1 hy
  have := h x hx'
  refine ⟨fun hb => (hexL_mem (u := x.toNat) (by omega) 58 hb).2.1 rfl, fun e => ?_⟩
  have := (hexL_len x.toNat).1
  unfold hx at e
  rw [e] at this
  exact absurd this (by decide)
theorem joinTail_len (l : List Int) : (joinTail [58] (l.map hx)).length ≤ 5 * l.length := by
  induction l with
  | nil => simp [joinTail]
  | cons x t ih =>
    have := (hexL_len x.toNat).2
    unfold joinTail at ih ⊢
    unfold hx at ih ⊢
    simp only [List.map_cons, List.flatten_cons, List.length_append, List.length_cons, List.length_nil, List.map_map] at ih ⊢
    omega
theorem tx_len (l : List Int) : (tx l).length ≤ 5 * l.length := by
  unfold tx
  cases l with
  | nil => simp [join_nil]
  | cons x t =>
    rw [List.map_cons, join_cons, List.length_append, List.length_cons]
    have := joinTail_len t
    have := (hexL_len x.toNat).2
    unfold hx at *
    omega
/-- Which octets there are: digits of base 16, and colons. -/
theorem tx_mem {l : List Int} (h : rng l) : ∀ b ∈ tx l, b ≠ 46 ∧ b ≠ 47 ∧ b.toNat < 128 := by
  have tail : ∀ t : List Int, rng t → ∀ b ∈ joinTail [58] (t.map hx), b ≠ 46 ∧ b ≠ 47 ∧ b.toNat < 128 := by
    intro t ht b hb
    unfold joinTail at hb
    rw [List.map_map, List.mem_flatten] at hb
    obtain ⟨y, hy, hb⟩ := hb
    obtain ⟨x, hx', rfl⟩ := List.mem_map.1 hy
    have hr := ht x hx'
    simp only [Function.comp, List.mem_append, List.mem_singleton] at hb
    rcases hb with rfl | hb
    · decide
    · have := hexL_mem (u := x.toNat) (by omega) b hb
      exact ⟨this.2.2.1, this.2.2.2.1, this.1⟩
  intro b hb
  unfold tx at hb
  cases l with
  | nil => simp [join_nil] at hb
  | cons x t =>
    rw [List.map_cons, join_cons, List.mem_append] at hb
    rcases hb with hb | hb
    · have hr := h x (by simp)
      have := hexL_mem (u := x.toNat) (by omega) b hb
      exact ⟨this.2.2.1, this.2.2.2.1, this.1⟩
    · exact tail t (fun y hy => h y (by simp [hy])) b hb
/-! ### addr.join -/
theorem rd_nat (l : List Int) (i : Nat) : rd l (i : Int) = l.getD i 0 := by unfold rd; rw [Int.toNat_natCast]
theorem join_loop (l : List Int) (h : rng l) (h8 : l.length ≤ 8) : ∀ (m k i : Nat), i + m = l.length →
    addr_join.l0 (k + m + 1) ((l.take i).map fun x => mkB (hx x)) l (l.length : Int) (i : Int) = some (mkB (tx l)) := by
  intro m
  induction m with
  | zero =>
    intro k i hi
    have e : i = l.length := by omega
    have hd : ((l.map fun x => mkB (hx x)).map fun b => b.data.toList) = l.map hx := by
      rw [List.map_map]
      exact List.map_congr_left fun x _ => mkB_data _
    have ht := tx_len l
    unfold tx at ht
    rw [addr_join.l0, if_neg (by omega), e, List.take_length]
    unfold strings_Join.f
    rw [hd, if_pos ⟨by rw [List.length_map]; omega, by show (join (l.map hx) [58]).length ≤ 100000; omega⟩, Option.bind_some]
    rfl
  | succ m ih =>
    intro k i hi
    have hlt : i < l.length := by omega
    have hr := h (l.getD i 0) (by rw [List.getD_eq_getElem?_getD, List.getElem?_eq_getElem hlt]; exact List.getElem_mem hlt)
    have hg : l.getD i 0 = l[i] := by rw [List.getD_eq_getElem?_getD, List.getElem?_eq_getElem hlt]; rfl
    rw [addr_join.l0, if_pos (by omega), if_pos (by omega), if_pos (by omega), rd_nat, wr_u64 _ hr.1 (by omega)]
    unfold strconv_FormatUint_103.f
    rw [if_pos ⟨rfl, hr.1, by omega⟩, Option.bind_some, if_pos (by rw [List.length_map, List.length_take]; omega), wrap_small i (by omega)]
    have e : ((l.take i).map fun x => mkB (hx x)) ++ [mkB (hexL (l.getD i 0).toNat)] = (l.take (i + 1)).map fun x => mkB (hx x) := by
      rw [List.take_succ_eq_append_getElem hlt, List.map_append, hg]; rfl
    rw [e, show k + (m + 1) = k + m + 1 by omega]
    exact ih k (i + 1) (by omega)
theorem join_eq (k : Nat) (l : List Int) (h : rng l) (h8 : l.length ≤ 8) : addr_join.f (k + 9) l = some (mkB (tx l)) := by
  unfold addr_join.f
  have := join_loop l h h8 l.length (k + (8 - l.length)) 0 (by omega)
  rw [show k + (8 - l.length) + l.length + 1 = k + 9 by omega] at this
  exact this
/-! ### addr.part -/
theorem num_hx {x : Int} (h : 0 ≤ x ∧ x < 65536) : addr_number.f (mkB (hx x)) 4 16 = some (x, true) := by
  unfold addr_number.f
  rw [if_pos ⟨.inr rfl, by decide⟩]
  have := numP_hex (u := x.toNat) (by omega)
  rw [Int.toNat_of_nonneg h.1] at this
  exact this
theorem wrapm (n : Nat) (h : n ≤ 8) : wrap64 ((n : Int) - 1) = (n : Int) - 1 := by unfold wrap64; omega
theorem part_loop (last : Bool) (l : List Int) (h : rng l) (h8 : l.length ≤ 8) : ∀ (m k i : Nat), i + m = l.length →
    addr_part.l0 (k + 2 * m + 1) last (l.take i) (l.map fun x => mkB (hx x)) (l.map fun x => mkB (hx x)) ((l.map fun x => mkB (hx x)).length : Int) (i : Int) = some (l, true) := by
  intro m
  induction m with
  | zero =>
    intro k i hi
    have e : i = l.length := by omega
    rw [addr_part.l0, if_neg (by rw [List.length_map]; omega), e, List.take_length]
  | succ m ih =>
    intro k i hi
    have hlt : i < l.length := by omega
    have hr := h l[i] (List.getElem_mem hlt)
    have hg : rdOf ByteArray.empty (l.map fun x => mkB (hx x)) (i : Int) = mkB (hx l[i]) := by
      unfold rdOf
      rw [Int.toNat_natCast, List.getD_eq_getElem?_getD, List.getElem?_map, List.getElem?_eq_getElem hlt]
      rfl
    have hel := elder_none (k + 2 * (m + 1)) (mkB (hx l[i])) (by rw [mkB_size]; have := (hexL_len l[i].toNat).2; unfold hx; omega) (by rw [mkB_data]; exact fun hb => (hexL_mem (u := l[i].toNat) (by omega) 46 hb).2.2.1 rfl)
    rw [addr_part.l0, if_pos (by rw [List.length_map]; omega), if_pos (by omega), if_pos (by rw [List.length_map]; omega), hg, hel, Option.bind_some, if_neg (by decide), show k + 2 * (m + 1) = k + 2 * m + 1 + 1 by omega, addr_part.j1, if_neg (by decide), num_hx hr, Option.bind_some, if_pos rfl, if_pos (by rw [List.length_take]; omega), wrap_small i (by omega), wr_u16]
    have e : l.take i ++ [l[i] % 65536] = l.take (i + 1) := by
      rw [List.take_succ_eq_append_getElem hlt, show l[i] % 65536 = l[i] by omega]
    rw [e]
    exact ih k (i + 1) (by omega)
theorem toList_ne {l : List UInt8} (h : l ≠ []) : ¬ (mkB l).toList = [] := by
  intro e
  rw [ByteArray.toList_eq, mkB_data] at e
  exact h e
theorem tx_ne {l : List Int} (h : l ≠ []) : tx l ≠ [] := by
  intro e
  cases l with
  | nil => exact h rfl
  | cons x t =>
    unfold tx at e
    rw [List.map_cons, join_cons] at e
    have := (hexL_len x.toNat).1
    have e2 := (List.append_eq_nil_iff.1 e).1
    unfold hx at e2
    rw [e2] at this
    exact absurd this (by decide)
theorem part_eq (k : Nat) (last : Bool) (l : List Int) (h : rng l) (h8 : l.length ≤ 8) : addr_part.f (k + 17) (mkB (tx l)) last = some (l, true) := by
  unfold addr_part.f
  by_cases c : l = []
  · subst c
    rw [if_pos (by rw [ByteArray.toList_eq, mkB_data]; rfl)]
  · rw [if_neg (toList_ne (tx_ne c))]
    have ht := tx_len l
    have hs : strings_Split.f (mkB (tx l)) (⟨#[58]⟩ : ByteArray) = some (l.map fun x => mkB (hx x)) := by
      unfold strings_Split.f
      rw [if_pos ⟨by rw [mkB_size]; omega, rfl⟩]
      rw [show (⟨#[58]⟩ : ByteArray) = oneS 58 from rfl, splitB_list, mkB_data]
      unfold tx
      rw [split_join 58 (l.map hx) (by simpa using c) (fun y hy => (hx_ok h y hy).1), List.map_map]
      rfl
    rw [hs, Option.bind_some]
    have := part_loop last l h h8 l.length (k + 2 * (8 - l.length)) 0 (by omega)
    rw [show k + 2 * (8 - l.length) + 2 * l.length + 1 = k + 17 by omega] at this
    exact this
/-! ### addr.newer -/
theorem rng_take {l : List Int} (h : rng l) (n : Nat) : rng (l.take n) := fun x hx => h x (List.mem_of_mem_take hx)
theorem rng_drop {l : List Int} (h : rng l) (n : Nat) : rng (l.drop n) := fun x hx => h x (List.mem_of_mem_drop hx)
theorem newer_whole (k : Nat) (l : List Int) (h : rng l) (h8 : l.length = 8) : addr_newer.f (k + 17) (mkB (tx l)) = some (l, true) := by
  have ht := tx_len l
  have hc := cut_whole (l.map hx) (hx_ok h)
  change cut (tx l) [58, 58] = (tx l, [], false) at hc
  unfold addr_newer.f newerF
  rw [if_pos (by rw [mkB_size]; omega), mkB_data, hc]
  simp only
  rw [if_neg (by decide), show (!false) = true from rfl, part_eq k true l h (by omega), Option.bind_some, if_neg (show ¬ (true = false) by decide)]
  have hn : addr_part.f (k + 17) (mkB []) true = some ([], true) := part_eq k true [] (fun x hx => by cases hx) (by decide)
  rw [hn, Option.bind_some, if_neg (show ¬ (true = false) by decide)]
  simp only
  rw [if_pos ⟨by omega, by decide⟩, if_neg (by
    rw [h8]
    rintro (⟨e, _⟩ | ⟨_, e⟩)
    · cases e
    · exact e (by decide)), h8]
  simp
theorem newer_gap (k f n : Nat) (l : List Int) (h : rng l) (h8 : l.length = 8) (hfn : f + n ≤ 8) (hn : 1 < n) (hl : l = l.take f ++ List.replicate n 0 ++ l.drop (f + n)) :
    addr_newer.f (k + 17) (mkB (tx (l.take f) ++ 58 :: 58 :: tx (l.drop (f + n)))) = some (l, true) := by
  have ht1 := tx_len (l.take f)
  have ht2 := tx_len (l.drop (f + n))
  have e1 : (l.take f).length = f := by rw [List.length_take]; omega
  have e2 : (l.drop (f + n)).length = 8 - (f + n) := by rw [List.length_drop, h8]
  have hc := cut_gap ((l.take f).map hx) ((l.drop (f + n)).map hx) (hx_ok (rng_take h f))
  change cut (tx (l.take f) ++ 58 :: 58 :: tx (l.drop (f + n))) [58, 58] = (tx (l.take f), tx (l.drop (f + n)), true) at hc
  have hno := contains_no ((l.drop (f + n)).map hx) (hx_ok (rng_drop h (f + n)))
  change contains (tx (l.drop (f + n))) [58, 58] = false at hno
  unfold addr_newer.f newerF
  rw [if_pos (by rw [mkB_size, List.length_append, List.length_cons, List.length_cons]; omega), mkB_data, hc]
  simp only
  rw [hno, if_neg (by decide), show (!true) = false from rfl, part_eq k false _ (rng_take h f) (by omega), Option.bind_some, if_neg (show ¬ (true = false) by decide), part_eq k true _ (rng_drop h (f + n)) (by omega), Option.bind_some, if_neg (show ¬ (true = false) by decide)]
  simp only
  rw [if_pos ⟨by omega, by omega⟩, e1, e2]
  have en : (8 - (f : Int) - ((8 - (f + n) : Nat) : Int)).toNat = n := by omega
  rw [if_neg (by
    rintro (⟨_, e⟩ | ⟨e, _⟩)
    · omega
    · cases e), en]
  exact congrArg some (Prod.ext hl.symm rfl)
/-! ### The whole -/
def ok2 (six : Bool) (hi lo : Int) : Prop := 0 ≤ hi ∧ hi < 18446744073709551616 ∧ 0 ≤ lo ∧ lo < 18446744073709551616 ∧ (six = true ∨ (hi = 0 ∧ lo < 4294967296))
theorem check_ok {six : Bool} {hi lo : Int} (h : ok2 six hi lo) : addr_Check.f six hi lo = some 0 := by
  unfold addr_Check.f
  cases six
  · rcases h.2.2.2.2 with e | ⟨e1, e2⟩
    · cases e
    · rw [if_neg (by decide), if_pos e1, if_pos (by have := h.2.2.1; omega)]
  · rw [if_pos rfl]
theorem has58 {l : List Int} (h : 2 ≤ l.length) : (58 : UInt8) ∈ tx l := by
  match l, h with
  | x :: y :: t, _ =>
    unfold tx
    rw [List.map_cons, List.map_cons, join_cons]
    simp [joinTail]
theorem read_six (k : Nat) (s : List UInt8) (l : List Int) (hi lo : Int) (hs : s.length ≤ 100) (h46 : (46 : UInt8) ∉ s) (h58 : (58 : UInt8) ∈ s) (hn : addr_newer.f (k + 17) (mkB s) = some (l, true)) (ho : addr_of.f (k + 17) l = some (true, hi, lo)) :
    addr_Read.f (k + 17) (mkB s) = some (true, hi, lo, 0) := by
  unfold addr_Read.f
  rw [elder_none (k + 17) (mkB s) (by rw [mkB_size]; omega) (by rw [mkB_data]; exact h46), Option.bind_some, if_neg (by decide)]
  unfold strings_Contains.f
  rw [if_pos (by rw [mkB_size]; omega), Option.bind_some, mkB_data, if_pos (contains_one h58), hn, Option.bind_some, if_pos rfl, ho, Option.bind_some]
/-- An address is read of its text; the text is short, without strokes. -/
theorem read_text (six : Bool) (hi lo : Int) (h : ok2 six hi lo) (k : Nat) : ∃ s : List UInt8, addr_Text.f (k + 17) six hi lo = some (mkB s, 0) ∧ addr_Read.f (k + 17) (mkB s) = some (six, hi, lo, 0) ∧ (47 : UInt8) ∉ s ∧ s.length ≤ 39 := by
  unfold addr_Text.f textF
  rw [check_ok h, Option.bind_some, if_pos rfl]
  obtain ⟨h1, h2, h3, h4, h5⟩ := h
  cases six
  · rcases h5 with e | ⟨e1, e2⟩
    · cases e
    · subst e1
      obtain ⟨q1, q2, q3⟩ := elder_quad (k + 12) lo h3 e2
      rw [if_neg (by decide), if_pos (by omega)]
      refine ⟨_, rfl, ?_, q2, by omega⟩
      unfold addr_Read.f
      rw [show k + 17 = k + 12 + 5 by omega, q3, Option.bind_some, if_pos rfl]
  · rw [if_pos rfl]
    have hr : rng (cutL hi lo) := cut_rng hi lo
    have h8 : (cutL hi lo).length = 8 := rfl
    have hof : addr_of.f (k + 17) (cutL hi lo) = some (true, hi, lo) := of_cut (k + 8) hi lo h1 h2 h3 h4
    obtain ⟨f, n, hz, hfn, hl⟩ := zL_whole (cutL hi lo)
    rw [h8] at hfn
    rw [hz]
    simp only
    by_cases c : 1 < n
    · rw [if_pos (by omega), if_pos ⟨by omega, by omega⟩, Int.toNat_natCast, show ((f : Int) + (n : Int)).toNat = f + n by omega, join_eq (k + 8) _ (rng_take hr f) (by rw [List.length_take]; omega), Option.bind_some, join_eq (k + 8) _ (rng_drop hr (f + n)) (by rw [List.length_drop]; omega), Option.bind_some]
      have t1 := tx_len ((cutL hi lo).take f)
      have t2 := tx_len ((cutL hi lo).drop (f + n))
      rw [List.length_take, h8] at t1
      rw [List.length_drop, h8] at t2
      rw [if_pos ⟨by rw [mkB_size]; omega, by rw [mkB_size]; omega⟩]
      have es : (mkB (tx ((cutL hi lo).take f)) ++ (⟨#[58, 58]⟩ : ByteArray)) ++ mkB (tx ((cutL hi lo).drop (f + n))) = mkB (tx ((cutL hi lo).take f) ++ 58 :: 58 :: tx ((cutL hi lo).drop (f + n))) := by
        rw [← mkB_eta ((mkB (tx ((cutL hi lo).take f)) ++ (⟨#[58, 58]⟩ : ByteArray)) ++ mkB (tx ((cutL hi lo).drop (f + n))))]
        congr 1
        simp [ByteArray.data_append, mkB]
      rw [es]
      have hm : ∀ b ∈ tx ((cutL hi lo).take f) ++ 58 :: 58 :: tx ((cutL hi lo).drop (f + n)), b ≠ 46 ∧ b ≠ 47 := by
        intro b hb
        rw [List.mem_append, List.mem_cons, List.mem_cons] at hb
        rcases hb with hb | rfl | rfl | hb
        · exact ⟨(tx_mem (rng_take hr f) b hb).1, (tx_mem (rng_take hr f) b hb).2.1⟩
        · decide
        · decide
        · exact ⟨(tx_mem (rng_drop hr (f + n)) b hb).1, (tx_mem (rng_drop hr (f + n)) b hb).2.1⟩
      have hlen : (tx ((cutL hi lo).take f) ++ 58 :: 58 :: tx ((cutL hi lo).drop (f + n))).length ≤ 39 := by
        rw [List.length_append, List.length_cons, List.length_cons]; omega
      exact ⟨_, rfl, read_six k _ _ hi lo (by omega) (fun hb => (hm _ hb).1 rfl) (by simp) (newer_gap k f n _ hr h8 hfn c hl) hof, fun hb => (hm _ hb).2 rfl, hlen⟩
    · rw [if_neg (by omega), join_eq (k + 8) _ hr (by omega), Option.bind_some]
      have t1 : (tx (cutL hi lo)).length ≤ 39 := by
        have := joinTail_len ((cutL hi lo).drop 1)
        show (join ((cutL hi lo).map hx) [58]).length ≤ 39
        unfold cutL at this ⊢
        rw [List.map_cons, join_cons, List.length_append]
        simp only [List.drop_succ_cons, List.drop_zero, List.length_cons, List.length_nil] at this
        have h0 := (hexL_len (g16 hi 3).toNat).2
        unfold hx at *
        omega
      exact ⟨_, rfl, read_six k _ _ hi lo (by omega) (fun hb => (tx_mem hr _ hb).1 rfl) (has58 (by rw [h8]; decide)) (newer_whole k _ hr h8) hof, fun hb => (tx_mem hr _ hb).2.1 rfl, t1⟩
end Go.Proofs.YtilobbjnmnnmnaaGreatDoor.AddrFns
set_option linter.unusedSimpArgs false
set_option linter.unusedVariables false
namespace Go.Proofs.YtilobbjnmnnmnaaGreatDoor.RangeFns
open Go.RowKit Go.Lib Go.Proofs.YtilobbjnmnnmnaaGreatDoor.OBack Go.Proofs.YtilobbjnmnnmnaaGreatDoor.AddrLib Go.Proofs.YtilobbjnmnnmnaaGreatDoor.AddrFns Go.Proofs.YtilobbjnmnnmnaaGreatDoorW.PrintWords Go.Proofs.YtilobbjnmnnmnaaGreatDoorW.PrintLast Go.Proofs.YtilobbjnmnnmnaaGreatDoorW.PrintMore

/-- How many places there are. -/
def sizeOf (six : Bool) (b : Int) : Int := if (wd six - b).toNat < 16 then 2 ^ (wd six - b).toNat else 65536
theorem size_exact {six : Bool} {hi lo b : Int} (h : u64 hi) (l : u64 lo) (hb : i64 b) (ho : okR six hi lo b) : ranges_Size.f six hi lo b = some (sizeOf six b) := by
  obtain ⟨e, q1, q2, q3⟩ := check_eq (six := six) h l hb
  have h0 := ho.2.1
  have h1 := ho.2.2.1
  have hw : wd six ≤ 128 := by unfold wd; split <;> omega
  unfold ranges_Size.f
  rw [q1, Option.bind_some, if_pos (q3.2 ho), wide_eq, Option.bind_some]
  have ht := sz_tab ⟨(wd six - b).toNat, by omega⟩
  rw [show ((⟨(wd six - b).toNat, by omega⟩ : Fin 129).val : Int) = wd six - b by simp; omega] at ht
  exact ht
theorem ok_of_valid {six : Bool} {hi lo : Int} (h : valid six hi lo) : ok2 six hi lo := by
  unfold valid at h
  obtain ⟨h1, h2, h3, h4, h5⟩ := h
  exact ⟨h1, by omega, h3, by omega, h5.imp id fun ⟨a, b⟩ => ⟨a, by omega⟩⟩
/-! ### The text -/
def decH (u : Nat) : Bool := !(badH true 0 (mkB (decL u))) && (bytesOf (mkB (decL u))).all (fun x => decide (digI x < 10)) && decide (valI 10 (bytesOf (mkB (decL u))) = (u : Int)) && decide ((decL u).length ≤ 3)
theorem decH_tab : ∀ u : Fin 256, decH u.val = true := by decide +kernel
theorem decH_fact (u : Nat) (h : u < 256) : badH true 0 (mkB (decL u)) = false ∧ (∀ x ∈ bytesOf (mkB (decL u)), digI x < 10) ∧ valI 10 (bytesOf (mkB (decL u))) = (u : Int) ∧ (decL u).length ≤ 3 := by
  have t := decH_tab ⟨u, h⟩
  unfold decH at t
  simp only [Bool.and_eq_true, Bool.not_eq_true', List.all_eq_true, decide_eq_true_eq] at t
  exact ⟨t.1.1.1, t.1.1.2, t.1.2, t.2⟩
theorem range_text {six : Bool} {hi lo b : Int} (h : u64 hi) (l : u64 lo) (hb : i64 b) (ho : okR six hi lo b) (k : Nat) :
    ∃ s : ByteArray, ranges_Text.f (k + 17) six hi lo b = some (s, 0) ∧ ranges_Read.f (k + 17) s = some (six, hi, lo, b, 0) := by
  obtain ⟨e, q1, q2, q3⟩ := check_eq (six := six) h l hb
  obtain rfl := q3.2 ho
  obtain ⟨s, t1, t2, t3, t4⟩ := read_text six hi lo (ok_of_valid ho.1) k
  have h0 := ho.2.1
  have h1 := ho.2.2.1
  have hw : wd six ≤ 128 := by unfold wd; split <;> omega
  have hd := decH_fact b.toNat (by omega)
  have es : (mkB s ++ (⟨#[47]⟩ : ByteArray)) ++ mkB (decL b.toNat) = mkB (s ++ 47 :: decL b.toNat) := by
    rw [← mkB_eta ((mkB s ++ (⟨#[47]⟩ : ByteArray)) ++ mkB (decL b.toNat))]
    congr 1
    simp [ByteArray.data_append, mkB]
  refine ⟨mkB (s ++ 47 :: decL b.toNat), ?_, ?_⟩
  · unfold ranges_Text.f
    rw [q1, Option.bind_some, if_pos rfl, t1, Option.bind_some]
    simp only
    rw [if_pos (by rw [mkB_size]; omega)]
    unfold strconv_Itoa_54.f
    rw [if_pos (by omega), Option.bind_some, itoa_eq b h0 (by omega), if_pos (by rw [ByteArray.size_append, mkB_size, mkB_size, show (⟨#[47]⟩ : ByteArray).size = 1 from rfl]; have := hd.2.2.2; omega), es]
  · have hc : Lib.cut (s ++ 47 :: decL b.toNat) [47] = (s, decL b.toNat, true) := by
      unfold Lib.cut
      rw [index1_at t3, if_pos (by omega), Int.toNat_natCast, List.take_left, ← List.drop_drop, List.drop_left]
      rfl
    have ca : cutA (mkB (s ++ 47 :: decL b.toNat)) = mkB s := by unfold cutA; rw [mkB_data, hc]; rfl
    have cb : cutB (mkB (s ++ 47 :: decL b.toNat)) = mkB (decL b.toNat) := by unfold cutB; rw [mkB_data, hc]; rfl
    have cc : cutC (mkB (s ++ 47 :: decL b.toNat)) = true := by unfold cutC; rw [mkB_data, hc]
    unfold ranges_Read.f rrF
    rw [if_pos (by rw [mkB_size, List.length_append, List.length_cons]; have := hd.2.2.2; omega), ca, t2, Option.bind_some, cb, cc]
    simp only
    rw [hd.1, if_neg (by decide), if_pos hd.2.1, hd.2.2.1, Int.toNat_of_nonneg h0, q1, Option.bind_some, if_pos rfl]
/-! ### What is behind the last place -/
theorem behind {six : Bool} {hi lo b : Int} (h : u64 hi) (l : u64 lo) (hb : i64 b) (ho : okR six hi lo b) (hn : sizeOf six b ≠ 65536) :
    ∃ t : Bool × Int × Int × Bool, addr_Add.f six hi (lo + (sizeOf six b - 1)) 1 = some t ∧ (t.2.2.2 = true → ∃ v, ranges_Has.f six hi lo b t.1 t.2.1 t.2.2.1 = some v ∧ v = false) := by
  have hd : (wd six - b).toNat < 16 := by
    by_cases c : (wd six - b).toNat < 16
    · exact c
    · unfold sizeOf at hn; rw [if_neg c] at hn; exact absurd rfl hn
  have hsz : sizeOf six b = 2 ^ (wd six - b).toNat := by unfold sizeOf; rw [if_pos hd]
  have h0 := ho.2.1
  have h1 := ho.2.2.1
  have hj := jl_eq h0 h1
  rw [show min (wd six - b).toNat 64 = (wd six - b).toNat by omega] at hj
  have hjh := jh_eq h0 h1
  rw [show (wd six - b).toNat - 64 = 0 by omega] at hjh
  have hf := ho.2.2.2.2
  rw [hj] at hf
  generalize (wd six - b).toNat = d at *
  have hp := two_pos d
  obtain ⟨q, hq⟩ : ∃ q : Int, lo = q * 2 ^ d := ⟨lo / 2 ^ d, by unfold rdn at hf; omega⟩
  have hv := ho.1
  have hv2 := hv
  have hr := rdn_room hf l.1 l.2 (by omega)
  unfold valid at hv
  have e1 : lo + (sizeOf six b - 1) + 1 = lo + 2 ^ d := by rw [hsz]; omega
  have hle : lo + (sizeOf six b - 1) < 2 ^ 64 := by rw [hsz]; omega
  have hval : valid six hi (lo + (sizeOf six b - 1)) := by
    have hnn : sizeOf six b ≤ 2 ^ jl six b := by rw [hj, hsz]; exact Int.le_refl _
    have h65 : sizeOf six b ≤ 65536 := by
      unfold sizeOf
      split
      · rename_i hd2
        have tab : ∀ e : Fin 16, (2 : Int) ^ e.val ≤ 65536 := by decide
        exact tab ⟨_, hd2⟩
      · exact Int.le_refl _
    exact (at_eq h l hb ho (size_exact h l hb ho) h65 hnn (show (0 : Int) ≤ sizeOf six b - 1 by rw [hsz]; omega) (by omega)).2.1
  obtain ⟨c1, p1, p2, p3⟩ := chk_eq (six := six) (hi := hi) (lo := lo + (sizeOf six b - 1)) h ⟨by rw [hsz]; have := l.1; omega, hle⟩
  obtain rfl := p3.2 hval
  have neq : ∀ x : Int, x = lo + 2 ^ d → rdn x d ≠ lo := by
    intro x hx e
    unfold rdn at e
    rw [hx, hq, show q * 2 ^ d + 2 ^ d = (q + 1) * 2 ^ d by rw [Int.add_mul, Int.one_mul], Int.mul_ediv_cancel _ (Int.ne_of_gt hp), Int.add_mul, Int.one_mul] at e
    omega
  unfold addr_Add.f AddrLib.addF
  rw [if_pos ⟨h.1, by rw [hsz]; have := l.1; omega, by decide, by have := hle; omega, by decide⟩, p1, Option.bind_some, if_pos rfl, e1]
  have hasno : ∀ (hi' lo' : Int), u64 hi' → u64 lo' → ¬ hasP six hi lo b six hi' lo' → ∃ v, ranges_Has.f six hi lo b six hi' lo' = some v ∧ v = false := by
    intro hi' lo' a1 a2 hno
    obtain ⟨v, w1, w2⟩ := has_eq (six := six) h l hb (six' := six) a1 a2
    refine ⟨v, w1, ?_⟩
    cases v with
    | false => rfl
    | true => exact absurd (w2.1 rfl) hno
  cases six with
  | true =>
    rw [if_pos rfl]
    by_cases c : (hi + (lo + 2 ^ d) / 18446744073709551616) / 18446744073709551616 = 0
    · rw [if_pos c]
      unfold addr_Check.f
      rw [if_pos rfl, Option.bind_some, if_pos rfl]
      refine ⟨_, rfl, fun _ => hasno ((hi + (lo + 2 ^ d) / 18446744073709551616) % 18446744073709551616) ((lo + 2 ^ d) % 18446744073709551616) ⟨by omega, by omega⟩ ⟨by omega, by omega⟩ ?_⟩
      intro hP
      have g1 := hP.2.2.2.1
      have g2 := hP.2.2.2.2
      rw [hjh, rdn_zero] at g1
      rw [hj] at g2
      by_cases cc : lo + 2 ^ d < 18446744073709551616
      · rw [Int.emod_eq_of_lt (by have := l.1; omega) cc] at g2
        exact neq _ rfl g2
      · have : (lo + 2 ^ d) / 18446744073709551616 = 1 := by omega
        rw [this] at g1 c
        have := h.1
        omega
    · rw [if_neg c]
      exact ⟨_, rfl, fun e => by cases e⟩
  | false =>
    rw [if_neg (by decide)]
    have hv3 : hi = 0 ∧ lo < 2 ^ 32 := by
      rcases hv.2.2.2.2 with c | c
      · cases c
      · exact c
    have r2 := rdn_room hf l.1 hv3.2 (by omega)
    have z1 : (lo + 2 ^ d) / 18446744073709551616 = 0 := by have := l.1; omega
    have z2 : (lo + 2 ^ d) % 18446744073709551616 = lo + 2 ^ d := by have := l.1; omega
    rw [if_pos z1, z2]
    obtain ⟨c2, r3, r4, r5⟩ := chk_eq (six := false) (hi := hi) (lo := lo + 2 ^ d) h ⟨by have := l.1; omega, by omega⟩
    rw [r3, Option.bind_some]
    by_cases c : c2 = 0
    · rw [if_pos c]
      refine ⟨_, rfl, fun _ => hasno hi (lo + 2 ^ d) h ⟨by have := l.1; omega, by omega⟩ ?_⟩
      intro hP
      have g2 := hP.2.2.2.2
      rw [hj] at g2
      exact neq _ rfl g2
    · rw [if_neg c]
      exact ⟨_, rfl, fun e => by cases e⟩
/-! ### The law -/
theorem back_lives : nameplatelaw05_lives.f 300 = some true := by decide +kernel
theorem back_f {six : Bool} {hi lo b i : Int} (h : u64 hi) (l : u64 lo) (hb : i64 b) (hi_ : i64 i) : nameplatelaw05_RangesBack.f 300 six hi lo b i = some true := by
  obtain ⟨e, q1, q2, q3⟩ := check_eq (six := six) h l hb
  unfold nameplatelaw05_RangesBack.f
  rw [back_lives, Option.bind_some, if_pos rfl]
  by_cases c : e = 0
  · subst c
    have ho := q3.1 rfl
    obtain ⟨s, t1, t2⟩ := range_text h l hb ho 283
    obtain ⟨n, s1, s2, s3, s4⟩ := size_eq h l hb ho
    have hse := size_exact h l hb ho
    have hsn : n = sizeOf six b := Option.some.inj (s1.symm.trans hse)
    rw [t1, Option.bind_some]
    simp only [if_true]
    rw [t2, Option.bind_some, s1, Option.bind_some]
    simp only [if_true]
    rw [if_neg (by simp), if_neg (by omega), decide_eq_false (show ¬ n > 65536 by omega)]
    obtain ⟨p, p1, p2, p3⟩ := pick_eq hi_ s2 s3
    obtain ⟨x1, x2, x3, x4⟩ := at_eq h l hb ho s1 s3 s4 p2 p3
    obtain ⟨y1, y2, y3, y4⟩ := at_eq h l hb ho s1 s3 s4 (Int.le_refl 0) (show (0 : Int) < n by omega)
    obtain ⟨z1, z2, z3, z4⟩ := at_eq h l hb ho s1 s3 s4 (show (0 : Int) ≤ n - 1 by omega) (show n - 1 < n by omega)
    have hatn : ranges_At.f six hi lo b n = some (false, 0, 0, false) := by
      unfold ranges_At.f
      rw [if_neg (by omega), s1, Option.bind_some, if_pos (Int.le_refl n)]
    have tt : ∀ {v : Bool} {P : Prop}, (v = true ↔ P) → P → v = true := fun h p => h.2 p
    obtain ⟨v1, f1, f2⟩ := has_eq (six := six) h l hb (six' := six) h x4
    obtain rfl := tt f2 ⟨ho, x2, rfl, ho.2.2.2.1, x3⟩
    obtain ⟨v2, g1, g2⟩ := has_eq (six := six) h l hb (six' := six) h z4
    obtain rfl := tt g2 ⟨ho, z2, rfl, ho.2.2.2.1, z3⟩
    have hix : ranges_Index.f six hi lo b six hi (lo + p) = some (p, true) := by
      unfold ranges_Index.f
      rw [f1, Option.bind_some, if_pos rfl, if_pos rfl, s1, Option.bind_some, show lo + p - lo = p by omega, wrap_u64 p p2 (by omega), wrap_u64 n (by omega) (by omega), if_neg (by omega), show wrap64 p = p by unfold wrap64; omega]
    rw [nameplatelaw05_RangesBack.j0, if_neg (by decide), p1, Option.bind_some, x1, Option.bind_some]
    simp only
    rw [hix, Option.bind_some, y1, Option.bind_some, show wrap64 (n - 1) = n - 1 by unfold wrap64; omega, z1, Option.bind_some, hatn, Option.bind_some]
    simp only [if_true]
    rw [if_neg (by simp), if_neg (by decide), f1, Option.bind_some, if_pos rfl, g1, Option.bind_some, nameplatelaw05_RangesBack.j1, if_neg (by decide)]
    by_cases c65 : n = 65536
    · obtain ⟨t, a1⟩ : ∃ t, addr_Add.f six hi (lo + (n - 1)) 1 = some t := by
        obtain ⟨c1, p1, pp, p3⟩ := chk_eq (six := six) (hi := hi) (lo := lo + (n - 1)) h z4
        unfold addr_Add.f AddrLib.addF
        rw [if_pos ⟨h.1, z4.1, by decide, by have := z4.2; omega, by decide⟩, p1, Option.bind_some, if_pos (p3.2 z2)]
        obtain ⟨c2, r1, _⟩ := chk_eq (six := false) (hi := hi) (lo := (lo + (n - 1) + 1) % 18446744073709551616) h ⟨by omega, by omega⟩
        cases six with
        | true =>
          rw [if_pos rfl]
          unfold addr_Check.f
          split
          · rw [if_pos rfl, Option.bind_some, if_pos rfl]; exact ⟨_, rfl⟩
          · exact ⟨_, rfl⟩
        | false =>
          rw [if_neg (by decide), r1, Option.bind_some]
          split
          · split
            · exact ⟨_, rfl⟩
            · exact ⟨_, rfl⟩
          · exact ⟨_, rfl⟩
      rw [a1, Option.bind_some]
      split
      · first | rfl | rw [if_pos c65]
      · rfl
    · obtain ⟨t, a1, a2⟩ := behind h l hb ho (by rw [← hsn]; exact c65)
      rw [hsn, a1, Option.bind_some]
      split
      · rename_i ht
        obtain ⟨v, w1, w2⟩ := a2 ht
        rw [← hsn, if_neg c65, w1, Option.bind_some, w2]
        rfl
      · rfl
  · have he : e = 2 := by rcases q2 with a | a; exact absurd a c; exact a
    subst he
    have hT : ranges_Text.f 300 six hi lo b = some (⟨#[]⟩, 2) := by
      unfold ranges_Text.f
      rw [q1, Option.bind_some, if_neg (by decide)]
    have hS : ranges_Size.f six hi lo b = some 0 := by
      unfold ranges_Size.f
      rw [q1, Option.bind_some, if_neg (by decide)]
    have hH : ranges_Has.f six hi lo b six hi lo = some false := by
      unfold ranges_Has.f
      rw [q1, Option.bind_some, if_neg (by decide)]
    rw [hT, Option.bind_some]
    simp only
    rw [if_neg (by decide), q1, Option.bind_some, if_pos rfl, if_pos (by rw [ByteArray.toList_eq]), hS, Option.bind_some, if_pos rfl, hH, Option.bind_some]
    rfl
/-- The law's call, whatever the memory. -/
theorem calls_row (six : Bool) (hi lo b i : Int) (W : World) (hG : G W) (h : u64 hi) (l : u64 lo) (hb : i64 b) (hi_ : i64 i) :
    Calls Tryz.prog 5 #[.agg #[.bool six, .int .u64 hi, .int .u64 lo, .int .i64 b], .int .i64 i] W fun e w' => e = .returned (.bool true) ∧ Below W.heap.size W w' :=
  nameplatelaw05_RangesBack.calls 300 six hi lo b i true W ⟨hG⟩ ⟨rfl⟩ (back_f h l hb hi_)
end Go.Proofs.YtilobbjnmnnmnaaGreatDoor.RangeFns
