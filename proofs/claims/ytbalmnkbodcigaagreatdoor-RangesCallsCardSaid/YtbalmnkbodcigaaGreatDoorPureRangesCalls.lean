/- This text proves, about ranges alone, what the law RangesCalls asks: a range is read, told and asked as the document says. -/
import Derived.Test.YtbalmnkbodcigaaGreatDoorORcx22
import Derived.Laws.BitsLemmas
import Derived.Laws.Bits64b
set_option linter.unusedSimpArgs false
set_option linter.unusedVariables false
namespace Go.Proofs.YtbalmnkbodcigaaGreatDoor.RangeFns
open Go.RowKit Go.Proofs.YtbalmnkbodcigaaGreatDoor.ORc Go.Proofs.YtbalmnkbodcigaaGreatDoorW.PrintWords Go.Proofs.YtbalmnkbodcigaaGreatDoorW.PrintLast Go.Proofs.YtbalmnkbodcigaaGreatDoorW.PrintMore

/-- Rounded down to a multiple of a power of two. -/
def rdn (x : Int) (j : Nat) : Int := x / 2 ^ j * 2 ^ j
theorem two_pos (j : Nat) : (0 : Int) < 2 ^ j := Int.pow_pos (by decide)
theorem rdn_zero (x : Int) : rdn x 0 = x := by unfold rdn; simp
theorem rdn_le (x : Int) (j : Nat) : rdn x j ≤ x := Int.ediv_mul_le _ (Int.ne_of_gt (two_pos j))
theorem rdn_nonneg {x : Int} (h : 0 ≤ x) (j : Nat) : 0 ≤ rdn x j := Int.mul_nonneg (Int.ediv_nonneg h (Int.le_of_lt (two_pos j))) (Int.le_of_lt (two_pos j))
theorem pow_split {i j : Nat} (h : i ≤ j) : (2 : Int) ^ j = 2 ^ i * 2 ^ (j - i) := by rw [← Int.pow_add]; congr 1; omega
theorem rdn_fix_add {x : Int} {j : Nat} (h : rdn x j = x) {i : Int} (h0 : 0 ≤ i) (h1 : i < 2 ^ j) : rdn (x + i) j = x := by
  unfold rdn at *
  have : (x + i) / 2 ^ j = x / 2 ^ j := by
    have e : x + i = i + (x / 2 ^ j) * 2 ^ j := by omega
    rw [e, Int.add_mul_ediv_right _ _ (Int.ne_of_gt (two_pos j)), Int.ediv_eq_zero_of_lt h0 h1, Int.zero_add]
  rw [this]
  exact h
theorem rdn_rdn {x : Int} {i j : Nat} (h : i ≤ j) : rdn (rdn x i) j = rdn x j := by
  unfold rdn
  congr 1
  rw [pow_split h, Int.mul_comm (x / 2 ^ i) (2 ^ i), Int.mul_ediv_mul_of_pos _ _ (two_pos i), ← Int.ediv_ediv_of_nonneg (Int.le_of_lt (two_pos i))]
theorem rdn_fix_less {x : Int} {i j : Nat} (h : i ≤ j) (hx : rdn x j = x) : rdn x i = x := by
  unfold rdn at hx ⊢
  rw [← hx, pow_split h, show x / (2 ^ i * 2 ^ (j - i)) * (2 ^ i * 2 ^ (j - i)) = (x / (2 ^ i * 2 ^ (j - i)) * 2 ^ (j - i)) * 2 ^ i by rw [Int.mul_comm (2 ^ i : Int), Int.mul_assoc], Int.mul_ediv_cancel _ (Int.ne_of_gt (two_pos i))]
theorem rdn_room {x : Int} {i n : Nat} (hx : rdn x i = x) (h0 : 0 ≤ x) (hn : x < 2 ^ n) (hi : i ≤ n) : x + 2 ^ i ≤ 2 ^ n := by
  unfold rdn at hx
  rw [pow_split hi] at hn ⊢
  have hp := two_pos i
  generalize x / 2 ^ i = q at hx
  have : q < 2 ^ (n - i) := by
    rw [← hx, Int.mul_comm] at hn
    exact Int.lt_of_mul_lt_mul_left hn (Int.le_of_lt hp)
  rw [← hx]
  calc q * 2 ^ i + 2 ^ i = 2 ^ i * (q + 1) := by rw [Int.mul_add, Int.mul_one, Int.mul_comm]
    _ ≤ 2 ^ i * 2 ^ (n - i) := Int.mul_le_mul_of_nonneg_left (by omega) (Int.le_of_lt hp)
theorem and_nat (x m j : Nat) : x &&& ((2 ^ m - 1) * 2 ^ j) = x / 2 ^ j % 2 ^ m * 2 ^ j := by
  apply Nat.eq_of_testBit_eq
  intro i
  rw [Nat.testBit_and, ← Nat.shiftLeft_eq, ← Nat.shiftLeft_eq, Nat.testBit_shiftLeft, Nat.testBit_shiftLeft, Nat.testBit_two_pow_sub_one, Nat.testBit_mod_two_pow, ← Nat.shiftRight_eq_div_pow, Nat.testBit_shiftRight]
  by_cases h : i ≥ j
  · rw [show j + (i - j) = i by omega]
    simp [h, Bool.and_comm]
  · simp [h]
theorem wrap_u64 (n : Int) (h0 : 0 ≤ n) (h1 : n < 2 ^ 64) : IntKind.u64.wrap n = n := by
  simp [IntKind.wrap, IntKind.bits, IntKind.signed]
  omega
theorem and_mask (x : Int) (n c : Nat) (hc : c ≤ n) (hn : n ≤ 64) (h0 : 0 ≤ x) (h1 : x < 2 ^ n) : Go.bits .and .u64 x (((2 ^ c - 1) * 2 ^ (n - c) : Nat) : Int) = rdn x (n - c) := by
  obtain ⟨x, rfl⟩ := Int.eq_ofNat_of_zero_le h0
  have hx : x < 2 ^ n := by exact_mod_cast h1
  have hm : (2 ^ c - 1) * 2 ^ (n - c) < 2 ^ 64 := by
    have a1 : 2 ^ c * 2 ^ (n - c) = 2 ^ n := by rw [← Nat.pow_add]; congr 1; omega
    have a2 : 2 ^ n ≤ 2 ^ 64 := Nat.pow_le_pow_right (by decide) hn
    have a3 : 0 < 2 ^ (n - c) := Nat.two_pow_pos _
    have a4 : 0 < 2 ^ c := Nat.two_pow_pos _
    have a5 : (2 ^ c - 1) * 2 ^ (n - c) + 2 ^ (n - c) = 2 ^ c * 2 ^ (n - c) := by rw [Nat.sub_mul, Nat.one_mul]; have := Nat.le_mul_of_pos_left (2 ^ (n - c)) a4; omega
    omega
  rw [(bits_nat .u64 64 (Nat.le_refl _) wrap_u64 x _ (Nat.lt_of_lt_of_le hx (Nat.pow_le_pow_right (by decide) hn)) hm).1, and_nat]
  have : x / 2 ^ (n - c) < 2 ^ c := by
    rw [Nat.div_lt_iff_lt_mul (Nat.two_pow_pos _), ← Nat.pow_add]
    rw [show c + (n - c) = n by omega]
    exact hx
  rw [Nat.mod_eq_of_lt this]
  unfold rdn
  push_cast
  rfl
/-! ### The mask -/
def cl (b : Int) (n : Nat) : Nat := if b ≤ 0 then 0 else if b ≥ (n : Int) then n else b.toNat
theorem cl_le (b : Int) (n : Nat) : cl b n ≤ n := by unfold cl; split; omega; split <;> omega
theorem tab64 : ∀ c : Fin 65, ranges_mask.f (c.val : Int) 64 = some (((2 ^ c.val - 1) * 2 ^ (64 - c.val) : Nat) : Int) := by decide +kernel
theorem tab32 : ∀ c : Fin 33, ranges_mask.f (c.val : Int) 32 = some (((2 ^ c.val - 1) * 2 ^ (32 - c.val) : Nat) : Int) := by decide +kernel
theorem mask64 (b : Int) : ranges_mask.f b 64 = some (((2 ^ cl b 64 - 1) * 2 ^ (64 - cl b 64) : Nat) : Int) := by
  by_cases h0 : b ≤ 0
  · rw [show cl b 64 = 0 by unfold cl; rw [if_pos h0]]
    unfold ranges_mask.f
    rw [if_pos h0]
    rfl
  · by_cases h1 : b ≥ 64
    · rw [show cl b 64 = 64 by unfold cl; rw [if_neg h0, if_pos (show b ≥ ((64 : Nat) : Int) from h1)]]
      have := tab64 ⟨64, by decide⟩
      refine Eq.trans ?_ this
      unfold ranges_mask.f
      rw [if_neg h0, if_pos h1]
      decide +kernel
    · have := tab64 ⟨b.toNat, by omega⟩
      rw [show ((⟨b.toNat, by omega⟩ : Fin 65).val : Int) = b by simp; omega] at this
      rw [this, show cl b 64 = b.toNat by unfold cl; rw [if_neg h0, if_neg (show ¬ b ≥ ((64 : Nat) : Int) from h1)]]
theorem mask32 (b : Int) : ranges_mask.f b 32 = some (((2 ^ cl b 32 - 1) * 2 ^ (32 - cl b 32) : Nat) : Int) := by
  by_cases h0 : b ≤ 0
  · rw [show cl b 32 = 0 by unfold cl; rw [if_pos h0]]
    unfold ranges_mask.f
    rw [if_pos h0]
    rfl
  · by_cases h1 : b ≥ 32
    · rw [show cl b 32 = 32 by unfold cl; rw [if_neg h0, if_pos (show b ≥ ((32 : Nat) : Int) from h1)]]
      have := tab32 ⟨32, by decide⟩
      refine Eq.trans ?_ this
      unfold ranges_mask.f
      rw [if_neg h0, if_pos h1]
      decide +kernel
    · have := tab32 ⟨b.toNat, by omega⟩
      rw [show ((⟨b.toNat, by omega⟩ : Fin 33).val : Int) = b by simp; omega] at this
      rw [this, show cl b 32 = b.toNat by unfold cl; rw [if_neg h0, if_neg (show ¬ b ≥ ((32 : Nat) : Int) from h1)]]
/-! ### The head -/
def jh (six : Bool) (b : Int) : Nat := if six = true then 64 - cl b 64 else 0
def jl (six : Bool) (b : Int) : Nat := if six = true then 64 - cl (b - 64) 64 else 32 - cl b 32
/-- Which addresses may be. -/
def valid (six : Bool) (hi lo : Int) : Prop := 0 ≤ hi ∧ hi < 2 ^ 64 ∧ 0 ≤ lo ∧ lo < 2 ^ 64 ∧ (six = true ∨ (hi = 0 ∧ lo < 2 ^ 32))
def u64 (x : Int) : Prop := 0 ≤ x ∧ x < 2 ^ 64
def i64 (x : Int) : Prop := -9223372036854775808 ≤ x ∧ x ≤ 9223372036854775807
theorem chk_eq {six : Bool} {hi lo : Int} (h : u64 hi) (l : u64 lo) : ∃ e, addr_Check.f six hi lo = some e ∧ (e = 0 ∨ e = 2) ∧ (e = 0 ↔ valid six hi lo) := by
  unfold u64 at h l
  unfold addr_Check.f valid
  cases six with
  | true => exact ⟨0, rfl, .inl rfl, by simp; omega⟩
  | false =>
    rw [if_neg (by decide)]
    by_cases c : hi = 0
    · rw [if_pos c]
      by_cases d : lo / 4294967296 = 0
      · rw [if_pos d]; exact ⟨0, rfl, .inl rfl, by simp; omega⟩
      · rw [if_neg d]; exact ⟨2, rfl, .inr rfl, by simp; omega⟩
    · rw [if_neg c]; exact ⟨2, rfl, .inr rfl, by simp; omega⟩
theorem head_eq {six : Bool} {hi lo b : Int} (h : valid six hi lo) (hb : i64 (b - 64)) : ranges_head.f six hi lo b = some (six, rdn hi (jh six b), rdn lo (jl six b)) := by
  unfold valid at h
  unfold i64 at hb
  unfold ranges_head.f jh jl
  cases six with
  | true =>
    rw [if_pos rfl, if_pos rfl, if_pos rfl, mask64, mask64, Option.bind_some, Option.bind_some, and_mask hi 64 _ (cl_le _ _) (Nat.le_refl _) h.1 h.2.1, and_mask lo 64 _ (cl_le _ _) (Nat.le_refl _) h.2.2.1 h.2.2.2.1]
    rw [show wrap64 (b - 64) = b - 64 by unfold wrap64; omega]
  | false =>
    have h2 : hi = 0 ∧ lo < 2 ^ 32 := by
      rcases h.2.2.2.2 with c | c
      · cases c
      · exact c
    rw [if_neg (by decide), if_neg (by decide), if_neg (by decide), mask32, Option.bind_some, and_mask lo 32 _ (cl_le _ _) (by decide) h.2.2.1 h2.2, rdn_zero]
def wd (six : Bool) : Int := if six = true then 128 else 32
/-- Which ranges may be. -/
def okR (six : Bool) (hi lo b : Int) : Prop := valid six hi lo ∧ 0 ≤ b ∧ b ≤ wd six ∧ rdn hi (jh six b) = hi ∧ rdn lo (jl six b) = lo
theorem wide_eq (six : Bool) (hi lo : Int) : ranges_wide.f six hi lo = some (wd six) := by
  unfold ranges_wide.f wd
  cases six <;> rfl
theorem check_eq {six : Bool} {hi lo b : Int} (h : u64 hi) (l : u64 lo) (hb : i64 b) : ∃ e, ranges_Check.f six hi lo b = some e ∧ (e = 0 ∨ e = 2) ∧ (e = 0 ↔ okR six hi lo b) := by
  obtain ⟨e1, q1, q2, q3⟩ := chk_eq (six := six) h l
  unfold ranges_Check.f okR
  rw [q1, Option.bind_some]
  by_cases c1 : e1 = 0
  · have hv := q3.1 c1
    rw [if_pos c1]
    by_cases c2 : b < 0
    · rw [if_pos c2]; exact ⟨2, rfl, .inr rfl, by simp; intro _ _; omega⟩
    rw [if_neg c2, wide_eq, Option.bind_some]
    by_cases c3 : b > wd six
    · rw [if_pos c3]; exact ⟨2, rfl, .inr rfl, by simp; intro _ _ _; omega⟩
    have hw : wd six ≤ 128 := by unfold wd; split <;> omega
    rw [if_neg c3, head_eq hv (by unfold i64; omega), Option.bind_some]
    by_cases c4 : rdn hi (jh six b) = hi
    · by_cases c5 : rdn lo (jl six b) = lo
      · refine ⟨0, ?_, .inl rfl, ?_⟩
        · rw [if_neg]; simp [c4, c5]
        · simp; exact ⟨hv, by omega, by omega, c4, c5⟩
      · refine ⟨2, ?_, .inr rfl, ?_⟩
        · rw [if_pos]; simp [c5]
        · simp; intro _ _ _ _; exact c5
    · refine ⟨2, ?_, .inr rfl, ?_⟩
      · rw [if_pos]; simp [c4]
      · simp; intro _ _ _ hh; exact absurd hh c4
  · rw [if_neg c1]
    exact ⟨2, rfl, .inr rfl, by simp; intro hv; exact absurd (q3.2 hv) c1⟩
/-- Which addresses are in a range. -/
def hasP (six : Bool) (hi lo b : Int) (six' : Bool) (hi' lo' : Int) : Prop := okR six hi lo b ∧ valid six' hi' lo' ∧ six' = six ∧ rdn hi' (jh six b) = hi ∧ rdn lo' (jl six b) = lo
theorem has_eq {six : Bool} {hi lo b : Int} (h : u64 hi) (l : u64 lo) (hb : i64 b) {six' : Bool} {hi' lo' : Int} (h' : u64 hi') (l' : u64 lo') :
    ∃ v, ranges_Has.f six hi lo b six' hi' lo' = some v ∧ (v = true ↔ hasP six hi lo b six' hi' lo') := by
  obtain ⟨e, q1, q2, q3⟩ := check_eq (six := six) h l hb
  obtain ⟨e1, p1, p2, p3⟩ := chk_eq (six := six') h' l'
  unfold ranges_Has.f hasP
  rw [q1, Option.bind_some]
  by_cases c : e = 0
  · have ho := q3.1 c
    rw [if_pos c, p1, Option.bind_some]
    by_cases d : e1 = 0
    · have hv := p3.1 d
      rw [if_pos d]
      by_cases s : six' = six
      · subst s
        have hb2 := ho.2.1
        have hb3 := ho.2.2.1
        have hw : wd six' ≤ 128 := by unfold wd; split <;> omega
        rw [if_pos (by simp), head_eq hv (by unfold i64; omega), Option.bind_some]
        refine ⟨_, rfl, ?_⟩
        simp [ho, hv]
      · rw [if_neg (by simpa using s)]
        exact ⟨false, rfl, by simp [s]⟩
    · rw [if_neg d]
      exact ⟨false, rfl, by simp; intro _ hv; exact absurd (p3.2 hv) d⟩
  · rw [if_neg c]
    exact ⟨false, rfl, by simp; intro ho; exact absurd (q3.2 ho) c⟩
end Go.Proofs.YtbalmnkbodcigaaGreatDoor.RangeFns
set_option linter.unusedSimpArgs false
set_option linter.unusedVariables false
namespace Go.Proofs.YtbalmnkbodcigaaGreatDoor.RangeFns
open Go.RowKit Go.Proofs.YtbalmnkbodcigaaGreatDoor.ORc Go.Proofs.YtbalmnkbodcigaaGreatDoorW.PrintWords Go.Proofs.YtbalmnkbodcigaaGreatDoorW.PrintLast Go.Proofs.YtbalmnkbodcigaaGreatDoorW.PrintMore

theorem jl_eq {six : Bool} {b : Int} (h0 : 0 ≤ b) (h1 : b ≤ wd six) : jl six b = min (wd six - b).toNat 64 := by
  unfold jl wd cl at *
  cases six with
  | true =>
    rw [if_pos rfl] at h1 ⊢
    rw [if_pos rfl]
    split
    · omega
    · split <;> omega
  | false =>
    rw [if_neg (show ¬ (false = true) by decide)] at h1 ⊢
    rw [if_neg (show ¬ (false = true) by decide)]
    split
    · omega
    · split <;> omega
theorem jh_eq {six : Bool} {b : Int} (h0 : 0 ≤ b) (h1 : b ≤ wd six) : jh six b = (wd six - b).toNat - 64 := by
  unfold jh wd cl at *
  cases six with
  | true =>
    rw [if_pos rfl] at h1 ⊢
    rw [if_pos rfl]
    split
    · omega
    · split <;> omega
  | false =>
    rw [if_neg (show ¬ (false = true) by decide)] at h1 ⊢
    rw [if_neg (show ¬ (false = true) by decide)]
    omega
def sz (x : Int) : Option Int := if 0 ≤ (mn (wrap64 x) 30) then (if (wrap64 (2 ^ (mn (wrap64 x) 30).toNat)) < 65536 then (if 0 ≤ (wrap64 x) then (some (shl .i64 1 (wrap64 x))) else (none)) else (some 65536)) else (none)
theorem sz_tab : ∀ d : Fin 129, sz (d.val : Int) = some (if d.val < 16 then 2 ^ d.val else 65536) := by decide +kernel
theorem size_eq {six : Bool} {hi lo b : Int} (h : u64 hi) (l : u64 lo) (hb : i64 b) (ho : okR six hi lo b) : ∃ n, ranges_Size.f six hi lo b = some n ∧ 1 ≤ n ∧ n ≤ 65536 ∧ n ≤ 2 ^ (jl six b) := by
  obtain ⟨e, q1, q2, q3⟩ := check_eq (six := six) h l hb
  have h0 := ho.2.1
  have h1 := ho.2.2.1
  have hw : wd six ≤ 128 := by unfold wd; split <;> omega
  have hj := jl_eq h0 h1
  unfold ranges_Size.f
  rw [q1, Option.bind_some, if_pos (q3.2 ho), wide_eq, Option.bind_some]
  have ht := sz_tab ⟨(wd six - b).toNat, by omega⟩
  rw [show ((⟨(wd six - b).toNat, by omega⟩ : Fin 129).val : Int) = wd six - b by simp; omega] at ht
  refine ⟨_, ht, ?_⟩
  simp only
  rw [hj]
  by_cases c : (wd six - b).toNat < 16
  · rw [if_pos c, show min (wd six - b).toNat 64 = (wd six - b).toNat by omega]
    have hp := two_pos (wd six - b).toNat
    have hle : (2 : Int) ^ (wd six - b).toNat ≤ 2 ^ 16 := by
      rw [pow_split (show (wd six - b).toNat ≤ 16 by omega)]
      have hq := two_pos (16 - (wd six - b).toNat)
      have := Int.mul_le_mul_of_nonneg_left (show (1 : Int) ≤ 2 ^ (16 - (wd six - b).toNat) by omega) (Int.le_of_lt hp)
      omega
    exact ⟨by omega, by omega, Int.le_refl _⟩
  · rw [if_neg c]
    refine ⟨by omega, by omega, ?_⟩
    rw [pow_split (show 16 ≤ min (wd six - b).toNat 64 by omega)]
    have hq := two_pos (min (wd six - b).toNat 64 - 16)
    omega
theorem at_eq {six : Bool} {hi lo b : Int} (h : u64 hi) (l : u64 lo) (hb : i64 b) (ho : okR six hi lo b) {n i : Int} (hn : ranges_Size.f six hi lo b = some n) (hn1 : n ≤ 65536) (hn2 : n ≤ 2 ^ (jl six b)) (hi0 : 0 ≤ i) (hi1 : i < n) :
    ranges_At.f six hi lo b i = some (six, hi, lo + i, true) ∧ valid six hi (lo + i) ∧ rdn (lo + i) (jl six b) = lo ∧ u64 (lo + i) := by
  have hv := ho.1
  have hv2 := hv
  unfold u64 at h l
  unfold valid at hv
  have hf := ho.2.2.2.2
  have hr := rdn_fix_add hf hi0 (show i < 2 ^ jl six b by omega)
  have hj := jl_eq ho.2.1 ho.2.2.1
  have room : lo + i < 2 ^ 64 ∧ (six = true ∨ lo + i < 2 ^ 32) := by
    have r1 := rdn_room hf l.1 l.2 (by rw [hj]; omega)
    refine ⟨by omega, ?_⟩
    cases six with
    | true => exact .inl rfl
    | false =>
      right
      have h2 : hi = 0 ∧ lo < 2 ^ 32 := by
        rcases hv.2.2.2.2 with c | c
        · cases c
        · exact c
      have hw : wd false = 32 := rfl
      have h0 := ho.2.1
      have r2 := rdn_room hf l.1 h2.2 (by rw [hj, hw]; omega)
      omega
  have hx : valid six hi (lo + i) := by
    unfold valid
    refine ⟨hv.1, hv.2.1, by omega, room.1, ?_⟩
    rcases hv.2.2.2.2 with c | c
    · exact .inl c
    · rcases room.2 with d | d
      · exact .inl d
      · exact .inr ⟨c.1, d⟩
  refine ⟨?_, hx, hr, ⟨by omega, room.1⟩⟩
  unfold ranges_At.f
  rw [if_neg (by omega), hn, Option.bind_some, if_neg (by omega), wrap_u64 i hi0 (by omega)]
  obtain ⟨e1, p1, p2, p3⟩ := chk_eq (six := six) (hi := hi) (lo := lo) h l
  obtain ⟨e2, r1, r2, r3⟩ := chk_eq (six := six) (hi := hi) (lo := lo + i) h ⟨by omega, room.1⟩
  have hd : (lo + i) / 18446744073709551616 = 0 := Int.ediv_eq_zero_of_lt (by omega) (by omega)
  have hm : (lo + i) % 18446744073709551616 = lo + i := Int.emod_eq_of_lt (by omega) (by omega)
  unfold addr_Add.f AddrLib.addF
  rw [if_pos ⟨h.1, l.1, hi0, by omega, by omega⟩, p1, Option.bind_some, if_pos (p3.2 hv2), hd, hm]
  cases six with
  | true =>
    rw [if_pos rfl, Int.add_zero, if_pos (Int.ediv_eq_zero_of_lt h.1 (by omega)), Int.emod_eq_of_lt h.1 (by omega), r1, Option.bind_some, if_pos (r3.2 hx)]
    rfl
  | false =>
    rw [if_neg (by decide), if_pos rfl, r1, Option.bind_some, if_pos (r3.2 hx)]
    rfl
theorem ok_u64 {six : Bool} {hi lo b : Int} (h : okR six hi lo b) : hasP six hi lo b six hi lo := ⟨h, h.1, rfl, h.2.2.2.1, h.2.2.2.2⟩
/-- Where the smaller range has the greater one's Base, they are at one place. -/
theorem has_swap {six : Bool} {hi lo b : Int} {six' : Bool} {hi' lo' b' : Int} (ha : okR six hi lo b) (hb : okR six' hi' lo' b') (hle : b ≤ b') (h : hasP six' hi' lo' b' six hi lo) : hasP six hi lo b six' hi' lo' := by
  obtain ⟨_, _, rfl, h1, h2⟩ := h
  have a0 := ha.2.1
  have a1 := ha.2.2.1
  have b0 := hb.2.1
  have b1 := hb.2.2.1
  have e1 : rdn hi (jh six b') = hi := rdn_fix_less (by rw [jh_eq a0 a1, jh_eq b0 b1]; omega) ha.2.2.2.1
  have e2 : rdn lo (jl six b') = lo := rdn_fix_less (by rw [jl_eq a0 a1, jl_eq b0 b1]; omega) ha.2.2.2.2
  rw [e1] at h1
  rw [e2] at h2
  subst h1 h2
  exact ⟨ha, hb.1, rfl, ha.2.2.2.1, ha.2.2.2.2⟩
theorem bool_same {a b : Bool} {P : Prop} (h : a = true ↔ P) (k : b = true ↔ P) : a = b := by
  cases a <;> cases b <;> simp_all
end Go.Proofs.YtbalmnkbodcigaaGreatDoor.RangeFns
set_option linter.unusedSimpArgs false
set_option linter.unusedVariables false
namespace Go.Proofs.YtbalmnkbodcigaaGreatDoor.RangeFns
open Go.RowKit Go.Proofs.YtbalmnkbodcigaaGreatDoor.ORc Go.Proofs.YtbalmnkbodcigaaGreatDoorW.PrintWords Go.Proofs.YtbalmnkbodcigaaGreatDoorW.PrintLast Go.Proofs.YtbalmnkbodcigaaGreatDoorW.PrintMore

theorem meet_eq {six : Bool} {hi lo b : Int} (h : u64 hi) (l : u64 lo) (hb : i64 b) {six' : Bool} {hi' lo' b' : Int} (h' : u64 hi') (l' : u64 lo') (hb' : i64 b') :
    ∃ v, ranges_Meet.f six hi lo b six' hi' lo' b' = some v ∧ (v = true ↔ (hasP six hi lo b six' hi' lo' ∧ okR six' hi' lo' b') ∨ (hasP six' hi' lo' b' six hi lo ∧ okR six hi lo b)) := by
  obtain ⟨v1, p1, p2⟩ := has_eq (six := six) h l hb (six' := six') h' l'
  obtain ⟨v2, q1, q2⟩ := has_eq (six := six') h' l' hb' (six' := six) h l
  obtain ⟨e1, r1, r2, r3⟩ := check_eq (six := six) h l hb
  obtain ⟨e2, s1, s2, s3⟩ := check_eq (six := six') h' l' hb'
  unfold ranges_Meet.f
  rw [p1, Option.bind_some]
  have other : ∃ v, ((ranges_Has.f six' hi' lo' b' six hi lo).bind fun t206 => (if t206 = true then ((ranges_Check.f six hi lo b).bind fun t207 => (some (t207 == 0))) else (some false))) = some v ∧ (v = true ↔ (hasP six' hi' lo' b' six hi lo ∧ okR six hi lo b)) := by
    rw [q1, Option.bind_some]
    by_cases c : v2 = true
    · rw [if_pos c, r1, Option.bind_some]
      exact ⟨_, rfl, by rw [beq_iff_eq, r3]; exact ⟨fun x => ⟨q2.1 c, x⟩, fun x => x.2⟩⟩
    · rw [if_neg c]
      exact ⟨_, rfl, ⟨fun x => (by cases x), fun x => absurd (q2.2 x.1) c⟩⟩
  by_cases c : v1 = true
  · rw [if_pos c, s1, Option.bind_some]
    by_cases d : e2 = 0
    · rw [if_pos d]
      exact ⟨true, rfl, ⟨fun _ => .inl ⟨p2.1 c, s3.1 d⟩, fun _ => rfl⟩⟩
    · rw [if_neg d]
      obtain ⟨v, w1, w2⟩ := other
      refine ⟨v, w1, w2.trans ⟨.inr, fun x => ?_⟩⟩
      rcases x with x | x
      · exact absurd (s3.2 x.2) d
      · exact x
  · rw [if_neg c]
    obtain ⟨v, w1, w2⟩ := other
    refine ⟨v, w1, w2.trans ⟨.inr, fun x => ?_⟩⟩
    rcases x with x | x
    · exact absurd (p2.2 x.1) c
    · exact x
end Go.Proofs.YtbalmnkbodcigaaGreatDoor.RangeFns
set_option linter.unusedSimpArgs false
set_option linter.unusedVariables false
namespace Go.Proofs.YtbalmnkbodcigaaGreatDoor.RangeFns
open Go.RowKit Go.Lib Go.Proofs.YtbalmnkbodcigaaGreatDoor.ORc Go.Proofs.YtbalmnkbodcigaaGreatDoor.AddrLib Go.Proofs.YtbalmnkbodcigaaGreatDoorW.PrintWords Go.Proofs.YtbalmnkbodcigaaGreatDoorW.PrintLast Go.Proofs.YtbalmnkbodcigaaGreatDoorW.PrintMore

/-! ### Bits -/
theorem rdn_step (x : Int) (j : Nat) : rdn x (j + 1) = x ↔ rdn x j = x ∧ x / 2 ^ j % 2 = 0 := by
  unfold rdn
  rw [Int.pow_succ]
  have hp := two_pos j
  generalize (2 : Int) ^ j = p at *
  rw [← Int.ediv_ediv_of_nonneg (by omega : (0 : Int) ≤ p)]
  have hx := Int.mul_ediv_add_emod x p
  have hr := Int.emod_nonneg x (Int.ne_of_gt hp)
  have hr2 := Int.emod_lt_of_pos x hp
  generalize x / p = q at *
  have hq : q = 2 * (q / 2) + q % 2 := by omega
  generalize hz : q / 2 = z at *
  have h2 : q % 2 = 0 ∨ q % 2 = 1 := by omega
  rcases h2 with h | h
  · rw [h] at hq ⊢
    have e : z * (p * 2) = q * p := by rw [hq, Int.add_zero, Int.mul_comm p 2, ← Int.mul_assoc, Int.mul_comm z 2]
    rw [e]
    simp
  · rw [h] at hq ⊢
    have e : z * (p * 2) = q * p - p := by rw [hq, Int.add_mul, Int.one_mul, Int.mul_comm p 2, ← Int.mul_assoc, Int.mul_comm z 2]; omega
    rw [e]
    have e2 : p * q = q * p := Int.mul_comm _ _
    constructor
    · intro hh; omega
    · rintro ⟨_, hh⟩; omega
theorem rdn_bits (x : Int) : ∀ j : Nat, rdn x j = x ↔ ∀ m, m < j → x / 2 ^ m % 2 = 0
  | 0 => by simp [rdn_zero]
  | j + 1 => by
    rw [rdn_step, rdn_bits x j]
    constructor
    · rintro ⟨h1, h2⟩ m hm
      by_cases e : m = j
      · rw [e]; exact h2
      · exact h1 m (by omega)
    · intro h
      exact ⟨fun m hm => h m (by omega), h j (by omega)⟩
/-- The bit m places from the low end. -/
def bb (hi lo : Int) (m : Nat) : Int := if m < 64 then lo / 2 ^ m % 2 else hi / 2 ^ (m - 64) % 2
theorem and_one (x : Int) (h0 : 0 ≤ x) (h1 : x < 2 ^ 64) : Go.bits .and .u64 x 1 = x % 2 := bits_mask .u64 64 (by decide) wrap_u64 1 (by decide) x h0 h1
theorem shr_at (x : Int) (y : Int) (n : Nat) (hn : n < 64) (hy : y = n) (h0 : 0 ≤ x) (h1 : x < 2 ^ 64) : Go.bits .and .u64 (shr .u64 x (IntKind.u64.wrap (wrap64 y))) 1 = x / 2 ^ n % 2 := by
  have e : IntKind.u64.wrap (wrap64 y) = (n : Int) := by
    rw [hy, show wrap64 (n : Int) = n by unfold wrap64; omega]
    exact wrap_u64 _ (by omega) (by omega)
  rw [e]
  have e2 : shr .u64 x (n : Int) = x / 2 ^ n := by
    show x / 2 ^ min (n : Int).toNat 64 = _
    rw [show min (n : Int).toNat 64 = n by omega]
  rw [e2]
  refine and_one _ (Int.ediv_nonneg h0 (Int.le_of_lt (two_pos n))) ?_
  exact Int.lt_of_le_of_lt (Int.ediv_le_self _ h0) h1
theorem wrapped_nonneg (y : Int) (n : Nat) (hn : n < 64) (hy : y = n) : 0 ≤ IntKind.u64.wrap (wrap64 y) := by
  rw [hy, show wrap64 (n : Int) = n by unfold wrap64; omega, wrap_u64 _ (by omega) (by omega)]
  omega
theorem bit_eq {six : Bool} {hi lo : Int} (h : u64 hi) (l : u64 lo) (i : Int) (n : Nat) (h0 : 0 ≤ i) (hin : i + ((n : Int) + 1) = wd six) : nameplateref05_bit.f six hi lo i = some (bb hi lo n) := by
  unfold nameplateref05_bit.f bb
  unfold wd at hin
  cases six with
  | true =>
    rw [if_pos rfl] at hin ⊢
    by_cases c : i < 64
    · rw [if_pos c, if_pos (wrapped_nonneg (63 - i) (n - 64) (by omega) (by omega)), if_neg (by omega), shr_at hi (63 - i) (n - 64) (by omega) (by omega) h.1 h.2]
    · rw [if_neg c, if_pos (wrapped_nonneg (127 - i) n (by omega) (by omega)), if_pos (by omega), shr_at lo (127 - i) n (by omega) (by omega) l.1 l.2]
  | false =>
    rw [if_neg (by decide)] at hin ⊢
    rw [if_pos (wrapped_nonneg (31 - i) n (by omega) (by omega)), if_pos (by omega), shr_at lo (31 - i) n (by omega) (by omega) l.1 l.2]
theorem rwide_eq (six : Bool) (hi lo : Int) : nameplateref05_wide.f six hi lo = some (wd six) := by
  unfold nameplateref05_wide.f wd
  cases six <;> rfl
theorem rchk_eq {six : Bool} {hi lo : Int} (h : u64 hi) (l : u64 lo) : nameplateref04_Check.f six hi lo = addr_Check.f six hi lo := by
  unfold nameplateref04_Check.f addr_Check.f
  cases six
  · simp only [Bool.false_eq_true, if_false]
    by_cases c : hi = 0
    · rw [if_pos c, if_pos c]
      unfold u64 at l
      by_cases d : lo ≥ 4294967296
      · rw [if_pos d, if_neg (by omega)]
      · rw [if_neg d, if_pos (by omega)]
    · rw [if_neg c, if_neg c]
  · simp only [if_true]
/-! ### Check -/
theorem rcheck_l0 {six : Bool} {hi lo : Int} (h : u64 hi) (l : u64 lo) (b : Int) : ∀ (n : Nat) (i : Int) (k : Nat), 0 ≤ i → i + n = wd six → nameplateref05_Check.l0 (k + n + 1) i six hi lo b = some (if ∀ m, m < n → bb hi lo m = 0 then 0 else 2)
  | 0, i, k, h0, hi_ => by
    rw [nameplateref05_Check.l0, rwide_eq, Option.bind_some, if_neg (by omega), if_pos (fun m hm => absurd hm (Nat.not_lt_zero m))]
  | n + 1, i, k, h0, hi_ => by
    have hw : wd six ≤ 128 := by unfold wd; split <;> omega
    rw [show k + (n + 1) + 1 = (k + n + 1) + 1 by omega, nameplateref05_Check.l0, rwide_eq, Option.bind_some, if_pos (by omega), bit_eq h l i n h0 (by omega), Option.bind_some]
    by_cases c : bb hi lo n = 0
    · rw [if_pos c, show wrap64 (i + 1) = i + 1 by unfold wrap64; omega, rcheck_l0 h l b n (i + 1) k (by omega) (by omega)]
      congr 1
      by_cases d : ∀ m, m < n → bb hi lo m = 0
      · rw [if_pos d, if_pos]
        intro m hm
        by_cases e : m = n
        · rw [e]; exact c
        · exact d m (by omega)
      · rw [if_neg d, if_neg (fun e => d (fun m hm => e m (by omega)))]
    · rw [if_neg c, if_neg (fun e => c (e n (by omega)))]
theorem bits_ok {six : Bool} {hi lo b : Int} (h0 : 0 ≤ b) (h1 : b ≤ wd six) : (∀ m, m < (wd six - b).toNat → bb hi lo m = 0) ↔ rdn hi (jh six b) = hi ∧ rdn lo (jl six b) = lo := by
  rw [jh_eq h0 h1, jl_eq h0 h1, rdn_bits, rdn_bits]
  have hw : wd six ≤ 128 := by unfold wd; split <;> omega
  constructor
  · intro h
    refine ⟨fun m hm => ?_, fun m hm => ?_⟩
    · have := h (m + 64) (by omega)
      unfold bb at this
      rw [if_neg (by omega), show m + 64 - 64 = m by omega] at this
      exact this
    · have := h m (by omega)
      unfold bb at this
      rw [if_pos (by omega)] at this
      exact this
  · rintro ⟨h2, h3⟩ m hm
    unfold bb
    by_cases c : m < 64
    · rw [if_pos c]; exact h3 m (by omega)
    · rw [if_neg c]; exact h2 (m - 64) (by omega)
theorem rcheck_eq {six : Bool} {hi lo b : Int} (h : u64 hi) (l : u64 lo) (hb : i64 b) (k : Nat) : nameplateref05_Check.f (k + 140) six hi lo b = ranges_Check.f six hi lo b := by
  obtain ⟨e, q1, q2, q3⟩ := check_eq (six := six) h l hb
  obtain ⟨e1, p1, p2, p3⟩ := chk_eq (six := six) h l
  have hw : wd six ≤ 128 := by unfold wd; split <;> omega
  rw [q1]
  unfold nameplateref05_Check.f
  rw [rchk_eq h l, p1, Option.bind_some]
  have bad : ¬ okR six hi lo b → e = 2 := fun hn => q2.resolve_left (fun z => hn (q3.1 z))
  have j0t : nameplateref05_Check.j0 (k + 140) true six hi lo b = some 2 := by rw [show k + 140 = (k + 139) + 1 by omega, nameplateref05_Check.j0, if_pos rfl]
  by_cases c1 : e1 = 0
  · rw [if_pos c1]
    by_cases c2 : b < 0
    · rw [if_pos c2, j0t, bad (fun o => by have := o.2.1; omega)]
    · rw [if_neg c2, rwide_eq, Option.bind_some]
      by_cases c3 : b > wd six
      · rw [decide_eq_true c3, j0t, bad (fun o => by have := o.2.2.1; omega)]
      · rw [decide_eq_false c3, show k + 140 = (k + 139) + 1 by omega, nameplateref05_Check.j0, if_neg (by decide)]
        have hl0 := rcheck_l0 (six := six) h l b (wd six - b).toNat b (k + 138 - (wd six - b).toNat) (by omega) (by omega)
        rw [show k + 138 - (wd six - b).toNat + (wd six - b).toNat + 1 = k + 139 by omega] at hl0
        rw [hl0]
        congr 1
        by_cases c4 : ∀ m, m < (wd six - b).toNat → bb hi lo m = 0
        · rw [if_pos c4]
          have hb2 := (bits_ok (six := six) (hi := hi) (lo := lo) (by omega) (by omega)).1 c4
          exact (q3.2 ⟨p3.1 c1, by omega, by omega, hb2.1, hb2.2⟩).symm
        · rw [if_neg c4, bad (fun o => c4 ((bits_ok (six := six) (by omega) (by omega)).2 ⟨o.2.2.2.1, o.2.2.2.2⟩))]
  · rw [if_neg c1, j0t, bad (fun o => c1 (p3.2 o.1))]
/-! ### Size -/
theorem pow16 : ∀ t : Fin 17, (2 : Int) ^ t.val ≤ 65536 ∧ 0 < (2 : Int) ^ t.val ∧ (t.val < 16 → (2 : Int) ^ t.val < 65536) := by decide
theorem rsize_l0 {six : Bool} {hi lo b : Int} (h0 : 0 ≤ b) (h1 : b ≤ wd six) : ∀ (m t k : Nat), t + m = 16 → (t : Int) ≤ wd six - b → nameplateref05_Size.l0 (k + m + 1) (2 ^ t) (b + t) six hi lo b = some (if (wd six - b).toNat < 16 then 2 ^ (wd six - b).toNat else 65536)
  | 0, t, k, ht, hd => by
    obtain rfl : t = 16 := by omega
    have hr : (2 : Int) ^ 16 = (if (wd six - b).toNat < 16 then 2 ^ (wd six - b).toNat else 65536) := by rw [if_neg (by omega)]; rfl
    rw [nameplateref05_Size.l0, rwide_eq, Option.bind_some, ← hr]
    by_cases c : b + ((16 : Nat) : Int) < wd six
    · rw [if_pos c, if_neg (by decide)]
    · rw [if_neg c]
  | m + 1, t, k, ht, hd => by
    have hw : wd six ≤ 128 := by unfold wd; split <;> omega
    obtain ⟨p1, p2, p3⟩ := pow16 ⟨t, by omega⟩
    simp only at p1 p2 p3
    have p3 := p3 (by omega)
    rw [show k + (m + 1) + 1 = (k + m + 1) + 1 by omega, nameplateref05_Size.l0, rwide_eq, Option.bind_some]
    by_cases c : b + (t : Int) < wd six
    · rw [if_pos c, if_pos p3]
      have e1 : wrap64 (2 * 2 ^ t) = (2 : Int) ^ (t + 1) := by rw [Int.pow_succ, Int.mul_comm]; unfold wrap64; omega
      have e2 : wrap64 (b + (t : Int) + 1) = b + ((t + 1 : Nat) : Int) := by unfold wrap64; omega
      rw [e1, e2]
      exact rsize_l0 h0 h1 m (t + 1) k (by omega) (by omega)
    · rw [if_neg c]
      have : (wd six - b).toNat = t := by omega
      rw [this, if_pos (by omega)]
theorem rsize_eq {six : Bool} {hi lo b : Int} (h : u64 hi) (l : u64 lo) (hb : i64 b) (k : Nat) : nameplateref05_Size.f (k + 140) six hi lo b = ranges_Size.f six hi lo b := by
  obtain ⟨e, q1, q2, q3⟩ := check_eq (six := six) h l hb
  unfold nameplateref05_Size.f ranges_Size.f
  rw [rcheck_eq h l hb, q1, Option.bind_some, Option.bind_some]
  by_cases c : e = 0
  · have ho := q3.1 c
    have h0 := ho.2.1
    have h1 := ho.2.2.1
    have hw : wd six ≤ 128 := by unfold wd; split <;> omega
    rw [if_pos c, if_pos c, wide_eq, Option.bind_some]
    have ht := sz_tab ⟨(wd six - b).toNat, by omega⟩
    rw [show ((⟨(wd six - b).toNat, by omega⟩ : Fin 129).val : Int) = wd six - b by simp; omega] at ht
    have hs : sz (wd six - b) = some (if (wd six - b).toNat < 16 then 2 ^ (wd six - b).toNat else 65536) := ht
    have hr := rsize_l0 (hi := hi) (lo := lo) h0 h1 16 0 (k + 123) (by omega) (by omega)
    rw [show k + 123 + 16 + 1 = k + 140 by omega, show b + ((0 : Nat) : Int) = b by omega, show (2 : Int) ^ 0 = 1 from rfl, ← hs] at hr
    exact hr
  · rw [if_neg c, if_neg c]
/-! ### Has -/
theorem rhas_l0 {six : Bool} {hi lo b hi' lo' : Int} (h : u64 hi) (l : u64 lo) (h' : u64 hi') (l' : u64 lo') (hbw : b ≤ wd six) : ∀ (n : Nat) (i : Int) (k : Nat), 0 ≤ i → i + n = b →
    ∃ v, nameplateref05_Has.l0 (k + n + 1) i six hi lo b six hi' lo' = some v ∧ (v = true ↔ ∀ m : Nat, (wd six - b).toNat ≤ m → (m : Int) < wd six - i → bb hi lo m = bb hi' lo' m)
  | 0, i, k, h0, hi_ => by
    rw [nameplateref05_Has.l0, if_neg (by omega)]
    exact ⟨true, rfl, fun _ m hm hm2 => by omega, fun _ => rfl⟩
  | n + 1, i, k, h0, hi_ => by
    have hw : wd six ≤ 128 := by unfold wd; split <;> omega
    have hj : i + (((wd six - i - 1).toNat : Int) + 1) = wd six := by omega
    rw [show k + (n + 1) + 1 = (k + n + 1) + 1 by omega, nameplateref05_Has.l0, if_pos (by omega), bit_eq h l i _ h0 hj, bit_eq h' l' i _ h0 hj, Option.bind_some, Option.bind_some]
    by_cases c : bb hi lo (wd six - i - 1).toNat = bb hi' lo' (wd six - i - 1).toNat
    · rw [if_pos c, show wrap64 (i + 1) = i + 1 by unfold wrap64; omega]
      obtain ⟨v, v1, v2⟩ := rhas_l0 h l h' l' hbw n (i + 1) k (by omega) (by omega)
      refine ⟨v, v1, v2.trans ⟨fun g m hm hm2 => ?_, fun g m hm hm2 => g m hm (by omega)⟩⟩
      by_cases e : m = (wd six - i - 1).toNat
      · rw [e]; exact c
      · exact g m hm (by omega)
    · rw [if_neg c]
      exact ⟨false, rfl, ⟨fun e => (by cases e), fun g => absurd (g _ (by omega) (by omega)) c⟩⟩
/-- Two numbers are the same from a place on just if their bits are. -/
theorem same_from (x y : Int) (h0 : 0 ≤ x) (h1 : 0 ≤ y) (n : Nat) (hx : x < 2 ^ n) (hy : y < 2 ^ n) : ∀ d j : Nat, j + d = n → ((∀ m, j ≤ m → m < n → x / 2 ^ m % 2 = y / 2 ^ m % 2) ↔ x / 2 ^ j = y / 2 ^ j)
  | 0, j, hj => by
    obtain rfl : j = n := by omega
    constructor
    · intro _
      rw [Int.ediv_eq_zero_of_lt h0 hx, Int.ediv_eq_zero_of_lt h1 hy]
    · intro _ m hm hm2
      omega
  | d + 1, j, hj => by
    have ih := same_from x y h0 h1 n hx hy d (j + 1) (by omega)
    have e : ∀ z : Int, z / 2 ^ (j + 1) = z / 2 ^ j / 2 := fun z => by rw [Int.pow_succ, Int.ediv_ediv_of_nonneg (Int.le_of_lt (two_pos j))]
    rw [e, e] at ih
    constructor
    · intro g
      have g1 := ih.1 (fun m hm hm2 => g m (by omega) hm2)
      have g2 := g j (Nat.le_refl _) (by omega)
      omega
    · intro g m hm hm2
      by_cases c : m = j
      · rw [c, g]
      · exact ih.2 (by rw [g]) m (by omega) hm2
end Go.Proofs.YtbalmnkbodcigaaGreatDoor.RangeFns
set_option linter.unusedSimpArgs false
set_option linter.unusedVariables false
namespace Go.Proofs.YtbalmnkbodcigaaGreatDoor.RangeFns
open Go.RowKit Go.Lib Go.Proofs.YtbalmnkbodcigaaGreatDoor.ORc Go.Proofs.YtbalmnkbodcigaaGreatDoor.AddrLib Go.Proofs.YtbalmnkbodcigaaGreatDoorW.PrintWords Go.Proofs.YtbalmnkbodcigaaGreatDoorW.PrintLast Go.Proofs.YtbalmnkbodcigaaGreatDoorW.PrintMore

theorem rdn_same (x y : Int) (j : Nat) : rdn x j = rdn y j ↔ x / 2 ^ j = y / 2 ^ j := by
  unfold rdn
  exact ⟨fun h => Int.eq_of_mul_eq_mul_right (Int.ne_of_gt (two_pos j)) h, fun h => by rw [h]⟩
theorem has_bits {six : Bool} {hi lo b hi' lo' : Int} (ho : okR six hi lo b) (hv : valid six hi' lo') :
    (∀ m : Nat, (wd six - b).toNat ≤ m → (m : Int) < wd six - 0 → bb hi lo m = bb hi' lo' m) ↔ rdn hi' (jh six b) = hi ∧ rdn lo' (jl six b) = lo := by
  obtain ⟨ov, h0, h1, oh, ol⟩ := ho
  have hw : wd six ≤ 128 := by unfold wd; split <;> omega
  have eh : rdn hi' (jh six b) = hi ↔ hi / 2 ^ jh six b = hi' / 2 ^ jh six b := by
    conv => lhs; rhs; rw [← oh]
    rw [rdn_same, eq_comm]
  have el : rdn lo' (jl six b) = lo ↔ lo / 2 ^ jl six b = lo' / 2 ^ jl six b := by
    conv => lhs; rhs; rw [← ol]
    rw [rdn_same, eq_comm]
  rw [eh, el]
  have j1 := jl_eq (six := six) h0 h1
  have j2 := jh_eq (six := six) h0 h1
  unfold valid at ov hv
  cases six with
  | true =>
    have w128 : wd true = 128 := rfl
    rw [w128] at j1 j2 ⊢ h1
    have s1 := same_from hi hi' ov.1 hv.1 64 ov.2.1 hv.2.1 (64 - jh true b) (jh true b) (by omega)
    have s2 := same_from lo lo' ov.2.2.1 hv.2.2.1 64 ov.2.2.2.1 hv.2.2.2.1 (64 - jl true b) (jl true b) (by omega)
    rw [← s1, ← s2]
    constructor
    · intro g
      refine ⟨fun m hm hm2 => ?_, fun m hm hm2 => ?_⟩
      · have := g (m + 64) (by omega) (by omega)
        unfold bb at this
        rw [if_neg (by omega), if_neg (by omega), show m + 64 - 64 = m by omega] at this
        exact this
      · have := g m (by omega) (by omega)
        unfold bb at this
        rw [if_pos (by omega), if_pos (by omega)] at this
        exact this
    · rintro ⟨g1, g2⟩ m hm hm2
      unfold bb
      by_cases c : m < 64
      · rw [if_pos c, if_pos c]; exact g2 m (by omega) c
      · rw [if_neg c, if_neg c]; exact g1 (m - 64) (by omega) (by omega)
  | false =>
    have w32 : wd false = 32 := rfl
    rw [w32] at j1 j2 ⊢ h1
    obtain ⟨z1, z2⟩ := ov.2.2.2.2.resolve_left (by decide)
    obtain ⟨z3, z4⟩ := hv.2.2.2.2.resolve_left (by decide)
    have s2 := same_from lo lo' ov.2.2.1 hv.2.2.1 32 z2 z4 (32 - jl false b) (jl false b) (by omega)
    rw [← s2, z1, z3]
    constructor
    · intro g
      refine ⟨rfl, fun m hm hm2 => ?_⟩
      have := g m (by omega) (by omega)
      unfold bb at this
      rw [if_pos (by omega), if_pos (by omega)] at this
      exact this
    · rintro ⟨_, g2⟩ m hm hm2
      unfold bb
      rw [if_pos (by omega), if_pos (by omega)]
      exact g2 m (by omega) (by omega)
theorem rhas_eq {six : Bool} {hi lo b : Int} (h : u64 hi) (l : u64 lo) (hb : i64 b) {six' : Bool} {hi' lo' : Int} (h' : u64 hi') (l' : u64 lo') (k : Nat) :
    nameplateref05_Has.f (k + 140) six hi lo b six' hi' lo' = ranges_Has.f six hi lo b six' hi' lo' := by
  obtain ⟨v, v1, v2⟩ := has_eq (six := six) h l hb (six' := six') h' l'
  obtain ⟨e, q1, q2, q3⟩ := check_eq (six := six) h l hb
  obtain ⟨e1, p1, p2, p3⟩ := chk_eq (six := six') h' l'
  have j0t : ∀ six2 hi2 lo2, nameplateref05_Has.j0 (k + 140) true six hi lo b six2 hi2 lo2 = some false := fun _ _ _ => by rw [show k + 140 = (k + 139) + 1 by omega, nameplateref05_Has.j0, if_pos rfl]
  have vf : ¬ hasP six hi lo b six' hi' lo' → v = false := fun hn => by
    cases v with
    | false => rfl
    | true => exact absurd (v2.1 rfl) hn
  rw [v1]
  unfold nameplateref05_Has.f
  rw [rcheck_eq h l hb, q1, Option.bind_some]
  by_cases c : e = 0
  · have ho := q3.1 c
    rw [if_pos c, rchk_eq h' l', p1, Option.bind_some]
    by_cases d : e1 = 0
    · have hv := p3.1 d
      rw [if_pos d]
      by_cases s : six' = six
      · subst s
        have h0 := ho.2.1
        have h1 := ho.2.2.1
        have hw : wd six' ≤ 128 := by unfold wd; split <;> omega
        rw [show (six' != six') = false by simp, show k + 140 = (k + 139) + 1 by omega, nameplateref05_Has.j0, if_neg (by decide)]
        have hl0 := rhas_l0 (six := six') h l h' l' h1 b.toNat 0 (k + 138 - b.toNat) (Int.le_refl 0) (by omega)
        rw [show k + 138 - b.toNat + b.toNat + 1 = k + 139 by omega] at hl0
        obtain ⟨y, y1, y2⟩ := hl0
        rw [y1]
        congr 1
        have hbits := y2.trans (has_bits ho hv)
        have hv3 : v = true ↔ y = true := v2.trans ⟨fun o => hbits.2 ⟨o.2.2.2.1, o.2.2.2.2⟩, fun o => ⟨ho, hv, rfl, (hbits.1 o).1, (hbits.1 o).2⟩⟩
        cases v <;> cases y <;> simp at hv3 ⊢
      · rw [show (six != six') = true by rw [bne_iff_ne]; exact fun e => s e.symm, j0t, vf (fun o => s o.2.2.1)]
    · rw [if_neg d, j0t, vf (fun o => d (p3.2 o.2.1))]
  · rw [if_neg c, j0t, vf (fun o => c (q3.2 o.1))]
theorem rindex_eq {six : Bool} {hi lo b : Int} (h : u64 hi) (l : u64 lo) (hb : i64 b) {six' : Bool} {hi' lo' : Int} (h' : u64 hi') (l' : u64 lo') (k : Nat) :
    nameplateref05_Index.f (k + 140) six hi lo b six' hi' lo' = ranges_Index.f six hi lo b six' hi' lo' := by
  unfold nameplateref05_Index.f ranges_Index.f
  rw [rhas_eq h l hb h' l', rsize_eq h l hb]
theorem rmeet_eq {six : Bool} {hi lo b : Int} (h : u64 hi) (l : u64 lo) (hb : i64 b) {six' : Bool} {hi' lo' b' : Int} (h' : u64 hi') (l' : u64 lo') (hb' : i64 b') (k : Nat) :
    nameplateref05_Meet.f (k + 140) six hi lo b six' hi' lo' b' = ranges_Meet.f six hi lo b six' hi' lo' b' := by
  obtain ⟨v, v1, v2⟩ := meet_eq (six := six) h l hb (six' := six') h' l' hb'
  obtain ⟨e, q1, q2, q3⟩ := check_eq (six := six) h l hb
  obtain ⟨e', q1', q2', q3'⟩ := check_eq (six := six') h' l' hb'
  obtain ⟨x, x1, x2⟩ := has_eq (six := six) h l hb (six' := six') h' l'
  obtain ⟨y, y1, y2⟩ := has_eq (six := six') h' l' hb' (six' := six) h l
  rw [v1]
  unfold nameplateref05_Meet.f
  rw [rcheck_eq h l hb, rcheck_eq h' l' hb', rhas_eq h l hb h' l', rhas_eq h' l' hb' h l, q1, q1', x1, y1, Option.bind_some]
  have vf : ¬ ((hasP six hi lo b six' hi' lo' ∧ okR six' hi' lo' b') ∨ (hasP six' hi' lo' b' six hi lo ∧ okR six hi lo b)) → v = false := fun hn => by
    cases v with
    | false => rfl
    | true => exact absurd (v2.1 rfl) hn
  by_cases c : e = 0
  · have ho := q3.1 c
    rw [if_pos c, Option.bind_some]
    by_cases c' : e' = 0
    · have ho' := q3'.1 c'
      rw [if_pos c', Option.bind_some]
      by_cases d : x = true
      · rw [if_pos d, v2.2 (.inl ⟨x2.1 d, ho'⟩)]
      · rw [if_neg d, Option.bind_some]
        congr 1
        cases y with
        | true => exact (v2.2 (.inr ⟨y2.1 rfl, ho⟩)).symm
        | false =>
          rw [vf]
          rintro (o | o)
          · exact d (x2.2 o.1)
          · have := y2.2 o.1
            cases this
    · rw [if_neg c', vf]
      rintro (o | o)
      · exact c' (q3'.2 o.2)
      · exact c' (q3'.2 o.1.1)
  · rw [if_neg c, vf]
    rintro (o | o)
    · exact c (q3.2 o.1.1)
    · exact c (q3.2 o.2)
theorem rat_eq {six : Bool} {hi lo b : Int} (h : u64 hi) (l : u64 lo) (hb : i64 b) (i : Int) (k : Nat) : nameplateref05_At.f (k + 140) six hi lo b i = ranges_At.f six hi lo b i := by
  obtain ⟨e, q1, q2, q3⟩ := check_eq (six := six) h l hb
  have hs := rsize_eq (six := six) h l hb k
  by_cases c0 : i < 0
  · unfold nameplateref05_At.f ranges_At.f
    rw [if_pos c0, if_pos c0]
  · by_cases c : e = 0
    · have ho := q3.1 c
      obtain ⟨n, n1, n2, n3, n4⟩ := size_eq h l hb ho
      by_cases c1 : i ≥ n
      · unfold nameplateref05_At.f ranges_At.f
        rw [if_neg c0, if_neg c0, hs, n1, Option.bind_some, Option.bind_some, if_pos c1, if_pos c1]
      · obtain ⟨a1, a2, a3, a4⟩ := at_eq h l hb ho n1 n3 n4 (show 0 ≤ i by omega) (by omega)
        rw [a1]
        unfold nameplateref05_At.f
        rw [if_neg c0, hs, n1, Option.bind_some, if_neg c1]
        obtain ⟨e1, p1, p2, p3⟩ := chk_eq (six := six) h l
        unfold nameplateref04_Add.f AddrLib.raF
        rw [rchk_eq h l, p1, Option.bind_some, if_pos (p3.2 ho.1), wrap_u64 i (by omega) (by omega), wrap_u64 (lo + i) a4.1 a4.2]
        cases six with
        | true => rw [if_pos rfl, if_neg (by omega), Option.bind_some]
        | false =>
          have := a2.2.2.2.2.resolve_left (by decide)
          rw [if_neg (by decide), if_neg (by omega), if_neg (by omega), Option.bind_some]
    · have hz : ranges_Size.f six hi lo b = some 0 := by
        unfold ranges_Size.f
        rw [q1, Option.bind_some, if_neg c]
      unfold nameplateref05_At.f ranges_At.f
      rw [if_neg c0, if_neg c0, hs, hz, Option.bind_some, Option.bind_some, if_pos (by omega), if_pos (by omega)]
end Go.Proofs.YtbalmnkbodcigaaGreatDoor.RangeFns
set_option linter.unusedSimpArgs false
set_option linter.unusedVariables false
namespace Go.Proofs.YtbalmnkbodcigaaGreatDoor.RangeFns
open Go.RowKit Go.Proofs.YtbalmnkbodcigaaGreatDoor.ORc Go.Proofs.YtbalmnkbodcigaaGreatDoorW.PrintWords Go.Proofs.YtbalmnkbodcigaaGreatDoorW.PrintLast Go.Proofs.YtbalmnkbodcigaaGreatDoorW.PrintMore
open Go.Proofs.YtbalmnkbodcigaaGreatDoor.RangeRow (Rng)
open Go.Proofs.YtbalmnkbodcigaaGreatDoor.RangeFree (Adr anyF stepF countF freeF)

instance (six : Bool) (hi lo b : Int) (six' : Bool) (hi' lo' : Int) : Decidable (hasP six hi lo b six' hi' lo') := by unfold hasP okR valid; infer_instance
def hasB (x : Rng) (a : Adr) : Bool := decide (hasP x.six x.hi x.lo x.bits a.six a.hi a.lo)
def inR (x : Rng) : Prop := u64 x.hi ∧ u64 x.lo ∧ i64 x.bits
abbrev hasF (x : Rng) (a : Adr) : Option Bool := ranges_Has.f x.six x.hi x.lo x.bits a.six a.hi a.lo
abbrev sizeF (x : Rng) : Option Int := ranges_Size.f x.six x.hi x.lo x.bits
abbrev addF (a : Adr) (n : Int) : Option (Bool × Int × Int × Bool) := addr_Add.f a.six a.hi a.lo n
theorem has_dec {x : Rng} {a : Adr} (h : inR x) (h1 : u64 a.hi) (h2 : u64 a.lo) : hasF x a = some (hasB x a) := by
  obtain ⟨v, p1, p2⟩ := has_eq (six := x.six) h.1 h.2.1 h.2.2 (six' := a.six) h1 h2
  rw [show hasF x a = _ from p1]
  congr 1
  unfold hasB
  cases v with
  | true => exact (decide_eq_true (p2.1 rfl)).symm
  | false => exact (decide_eq_false (fun q => Bool.false_ne_true (p2.2 q))).symm
theorem any_dec {a : Adr} (h1 : u64 a.hi) (h2 : u64 a.lo) : ∀ (l : List Rng), (∀ x ∈ l, inR x) → anyF hasF a l = some (l.any fun x => hasB x a)
  | [], _ => rfl
  | x :: l, h => by
    have ih := any_dec h1 h2 l (fun y hy => h y (List.mem_cons_of_mem _ hy))
    show (hasF x a).bind _ = _
    rw [has_dec (h x (List.mem_cons_self)) h1 h2, Option.bind_some]
    rw [List.any_cons]
    cases hasB x a with
    | true => rfl
    | false => rw [if_neg (by decide), ih, Bool.false_or]
/-- How many of the first numbers do. -/
def cntB (g : Nat → Bool) : Nat → Int
  | 0 => 0
  | m + 1 => cntB g m + (if g m = true then 1 else 0)
theorem cntB_le {g g' : Nat → Bool} : ∀ m, (∀ i, i < m → g i = true → g' i = true) → cntB g m ≤ cntB g' m
  | 0, _ => Int.le_refl _
  | m + 1, h => by
    have ih := cntB_le m (fun i hi => h i (by omega))
    have h1 := h m (by omega)
    unfold cntB
    cases c : g m with
    | true => rw [h1 c]; omega
    | false => simp; split <;> omega
theorem cntB_eq {g g' : Nat → Bool} (m : Nat) (h : ∀ i, i < m → g i = g' i) : cntB g m = cntB g' m :=
  Int.le_antisymm (cntB_le m fun i hi c => (h i hi) ▸ c) (cntB_le m fun i hi c => (h i hi).symm ▸ c)
theorem cntB_all {g : Nat → Bool} : ∀ m, (∀ i, i < m → g i = true) → cntB g m = m
  | 0, _ => rfl
  | m + 1, h => by
    unfold cntB
    rw [cntB_all m (fun i hi => h i (by omega)), h m (by omega)]
    simp
theorem cntB_none {g : Nat → Bool} : ∀ m, (∀ i, i < m → g i = false) → cntB g m = 0
  | 0, _ => rfl
  | m + 1, h => by
    unfold cntB
    rw [cntB_none m (fun i hi => h i (by omega)), h m (by omega)]
    simp
/-- Whether a place is free. -/
def freeAt (x : Rng) (l : List Rng) (i : Nat) : Bool := !(l.any fun y => hasB y ⟨x.six, x.hi, x.lo + i⟩)
theorem add_place {x : Rng} (h : inR x) (ho : okR x.six x.hi x.lo x.bits) {n : Int} (hn : sizeF x = some n) (hn1 : n ≤ 65536) (hn2 : n ≤ 2 ^ (jl x.six x.bits)) {i : Nat} (hi : (i : Int) < n) :
    addF ⟨x.six, x.hi, x.lo⟩ (i : Int) = some (x.six, x.hi, x.lo + i, true) ∧ u64 (x.lo + i) := by
  obtain ⟨a1, a2, a3, a4⟩ := at_eq h.1 h.2.1 h.2.2 ho hn hn1 hn2 (show (0 : Int) ≤ i by omega) hi
  refine ⟨?_, a4⟩
  unfold ranges_At.f at a1
  rw [if_neg (by omega), show ranges_Size.f x.six x.hi x.lo x.bits = some n from hn, Option.bind_some, if_neg (by omega), wrap_u64 _ (by omega) (by omega)] at a1
  obtain ⟨t, t1, t2⟩ := Option.bind_eq_some_iff.mp a1
  rw [show addF _ _ = _ from t1]
  exact t2
theorem count_dec {x : Rng} (h : inR x) (ho : okR x.six x.hi x.lo x.bits) {n : Int} (hn : sizeF x = some n) (hn1 : n ≤ 65536) (hn2 : n ≤ 2 ^ (jl x.six x.bits)) (l : List Rng) (hl : ∀ y ∈ l, inR y) : ∀ m : Nat, (m : Int) ≤ n → countF hasF addF x l m = some (cntB (freeAt x l) m)
  | 0, _ => rfl
  | m + 1, hm => by
    obtain ⟨a1, a2⟩ := add_place h ho hn hn1 hn2 (i := m) (by omega)
    unfold countF
    rw [count_dec h ho hn hn1 hn2 l hl m (by omega), Option.bind_some]
    unfold stepF
    rw [a1, Option.bind_some, any_dec (a := ⟨x.six, x.hi, x.lo + m⟩) h.1 a2 l hl, Option.bind_some, Option.bind_some]
    rw [show cntB (freeAt x l) (m + 1) = cntB (freeAt x l) m + (if freeAt x l m = true then 1 else 0) from rfl]
    rw [show freeAt x l m = !(l.any fun y => hasB y ⟨x.six, x.hi, x.lo + m⟩) from rfl]
    cases (l.any fun y => hasB y ⟨x.six, x.hi, x.lo + m⟩) <;> rfl
theorem free_dec {x : Rng} (h : inR x) (ho : okR x.six x.hi x.lo x.bits) {n : Int} (hn : sizeF x = some n) (hn0 : 1 ≤ n) (hn1 : n ≤ 65536) (hn2 : n ≤ 2 ^ (jl x.six x.bits)) (l : List Rng) (hl : ∀ y ∈ l, inR y) (hlen : (l.length : Int) ≤ 4000000) : freeF hasF sizeF addF x l = some (cntB (freeAt x l) n.toNat) := by
  unfold freeF
  rw [if_pos hlen, hn, Option.bind_some, if_pos ⟨by omega, hn1⟩]
  exact count_dec h ho hn hn1 hn2 l hl n.toNat (by omega)
def toR (x : S26) : Rng := ⟨x.f0.f0, x.f0.f1, x.f0.f2, x.f1⟩
theorem rd_at {L : List S26} {j : Nat} (h : j < L.length) : rd_T26 L (j : Int) = L[j] := by
  unfold rd_T26
  rw [Int.toNat_natCast, List.getD_eq_getElem?_getD, List.getElem?_eq_getElem h]
  rfl
theorem rl1_run (x : Rng) (L : List S26) (hL : ∀ y ∈ L, inR (toR y)) (hlen : L.length ≤ 20) (a : Adr) (h1 : u64 a.hi) (h2 : u64 a.lo) (n i : Int) (bound : Nat) (hbd : 140 ≤ bound) (R : Option Int) : ∀ (d j : Nat) (f : Bool) (K : Nat), j + d = L.length → bound + d + 1 ≤ K →
    (∀ K', bound ≤ K' → nameplateref05_Free.l0 K' L (if (f && (L.drop j).all fun y => !hasB (toR y) a) = true then wrap64 (n + 1) else n) (wrap64 (i + 1)) x.six x.hi x.lo x.bits = R) →
    nameplateref05_Free.l1 K L n i f (j : Int) x.six x.hi x.lo x.bits a.six a.hi a.lo = R
  | 0, j, f, K, hj, hK, hR => by
    obtain ⟨K, rfl⟩ : ∃ q, K = q + 1 := ⟨K - 1, by omega⟩
    have hR := hR K (by omega)
    rw [List.drop_eq_nil_of_le (by omega)] at hR
    simp only [nameplateref05_Free.l1]
    rw [if_neg (by omega)]
    cases f with
    | true => rw [if_pos rfl]; simpa using hR
    | false => rw [if_neg (by decide)]; simpa using hR
  | d + 1, j, f, K, hj, hK, hR => by
    obtain ⟨K, rfl⟩ : ∃ q, K = q + 1 := ⟨K - 1, by omega⟩
    have hlt : j < L.length := by omega
    have hw : wrap64 ((j : Int) + 1) = ((j + 1 : Nat) : Int) := by unfold wrap64; omega
    simp only [nameplateref05_Free.l1]
    rw [if_pos (by omega)]
    cases f with
    | false =>
      have hR := hR K (by omega)
      rw [if_neg (by decide)]
      simpa using hR
    | true =>
      rw [if_pos rfl, if_pos (by omega), rd_at hlt, hw]
      have hy := hL _ (List.getElem_mem hlt)
      have hh := has_dec (a := a) hy h1 h2
      have hr := rhas_eq (six := (toR L[j]).six) hy.1 hy.2.1 hy.2.2 (six' := a.six) h1 h2 (K - 140)
      rw [show K - 140 + 140 = K by omega] at hr
      rw [show nameplateref05_Has.f K L[j].f0.f0 L[j].f0.f1 L[j].f0.f2 L[j].f1 a.six a.hi a.lo = some (hasB (toR L[j]) a) from hr.trans hh, Option.bind_some]
      refine rl1_run x L hL hlen a h1 h2 n i bound hbd R d (j + 1) _ K (by omega) (by omega) (fun K' hK' => ?_)
      have hR := hR K' hK'
      rw [List.drop_eq_getElem_cons hlt, List.all_cons, Bool.true_and] at hR
      exact hR
theorem cntB_rng (g : Nat → Bool) : ∀ m, 0 ≤ cntB g m ∧ cntB g m ≤ m
  | 0 => ⟨Int.le_refl _, Int.le_refl _⟩
  | m + 1 => by
    have ih := cntB_rng g m
    unfold cntB
    split <;> omega
theorem rl0_step (x : Rng) (h : inR x) (ho : okR x.six x.hi x.lo x.bits) {n : Int} (hn : sizeF x = some n) (hn1 : n ≤ 65536) (hn2 : n ≤ 2 ^ (jl x.six x.bits)) (L : List S26) (hL : ∀ y ∈ L, inR (toR y)) (hlen : L.length ≤ 20) (i : Nat) (hin : (i : Int) < n) (bound : Nat) (hbd : 140 ≤ bound) (R : Option Int) (K : Nat) (hK : bound + L.length + 1 ≤ K) (c : Int)
    (hc : wrap64 (c + 1) = c + 1) (hw : wrap64 ((i : Int) + 1) = ((i + 1 : Nat) : Int))
    (hR : ∀ K', bound ≤ K' → nameplateref05_Free.l0 K' L (if freeAt x (L.map toR) i = true then c + 1 else c) ((i + 1 : Nat) : Int) x.six x.hi x.lo x.bits = R) :
    nameplateref05_Free.l0 (K + 1) L c (i : Int) x.six x.hi x.lo x.bits = R := by
  have hs := rsize_eq (six := x.six) h.1 h.2.1 h.2.2 (K - 140)
  have hat := rat_eq (six := x.six) h.1 h.2.1 h.2.2 (i : Int) (K - 140)
  rw [show K - 140 + 140 = K by omega] at hs hat
  obtain ⟨a1, a2, a3, a4⟩ := at_eq h.1 h.2.1 h.2.2 ho hn hn1 hn2 (Int.natCast_nonneg i) hin
  rw [nameplateref05_Free.l0, hs, show ranges_Size.f x.six x.hi x.lo x.bits = some n from hn, Option.bind_some, if_pos hin, hat, a1, Option.bind_some]
  refine rl1_run x L hL hlen ⟨x.six, x.hi, x.lo + i⟩ h.1 a4 c (i : Int) bound hbd R L.length 0 true K (Nat.zero_add _) hK (fun K' hK' => ?_)
  have ih := hR K' hK'
  rw [hw, hc, List.drop_zero, Bool.true_and]
  have hg : freeAt x (L.map toR) i = L.all fun y => !hasB (toR y) ⟨x.six, x.hi, x.lo + i⟩ := by
    unfold freeAt
    rw [List.any_map, ← List.not_any_eq_all_not]
    rfl
  rw [← hg]
  exact ih
theorem rl0_end (x : Rng) (h : inR x) {n : Int} (hn : sizeF x = some n) (L : List S26) (c i : Int) (hi_ : ¬ i < n) (K : Nat) (hK : 140 ≤ K) : nameplateref05_Free.l0 (K + 1) L c i x.six x.hi x.lo x.bits = some c := by
  have hs := rsize_eq (six := x.six) h.1 h.2.1 h.2.2 (K - 140)
  rw [show K - 140 + 140 = K by omega] at hs
  rw [nameplateref05_Free.l0, hs, show ranges_Size.f x.six x.hi x.lo x.bits = some n from hn, Option.bind_some, if_neg hi_]
theorem rl0_run (x : Rng) (h : inR x) (ho : okR x.six x.hi x.lo x.bits) {n : Int} (hn : sizeF x = some n) (hn0 : 1 ≤ n) (hn1 : n ≤ 300) (hn2 : n ≤ 2 ^ (jl x.six x.bits)) (L : List S26) (hL : ∀ y ∈ L, inR (toR y)) (hlen : L.length ≤ 20) (m : Nat) : ∀ (i K : Nat), i + m = n.toNat → m * 24 + 170 ≤ K →
    nameplateref05_Free.l0 K L (cntB (freeAt x (L.map toR)) i) (i : Int) x.six x.hi x.lo x.bits = some (cntB (freeAt x (L.map toR)) n.toNat) := by
  have hn3 : n ≤ 65536 := by clear hn2; omega
  induction m with
  | zero =>
    intro i K hi_ hK
    obtain ⟨K, rfl⟩ : ∃ q, K = q + 1 := ⟨K - 1, by omega⟩
    have e : i = n.toNat := by omega
    rw [rl0_end x h hn L _ _ (by clear hn2; omega) K (by omega), e]
  | succ m ih =>
    intro i K hi_ hK
    obtain ⟨K, rfl⟩ : ∃ q, K = q + 1 := ⟨K - 1, by omega⟩
    have hc := cntB_rng (freeAt x (L.map toR)) i
    have hin : (i : Int) < n := by clear hn2; omega
    have hw : wrap64 ((i : Int) + 1) = ((i + 1 : Nat) : Int) := by clear hn2; unfold wrap64; omega
    have hw2 : wrap64 (cntB (freeAt x (L.map toR)) i + 1) = cntB (freeAt x (L.map toR)) i + 1 := by clear hn2; unfold wrap64; omega
    refine rl0_step x h ho hn hn3 hn2 L hL hlen i hin (m * 24 + 170) (by omega) _ K (by omega) _ hw2 hw (fun K' hK' => ?_)
    have ih := ih (i + 1) K' (by omega) hK'
    have e : cntB (freeAt x (L.map toR)) (i + 1) = (if freeAt x (L.map toR) i = true then cntB (freeAt x (L.map toR)) i + 1 else cntB (freeAt x (L.map toR)) i) := by
      rw [show cntB (freeAt x (L.map toR)) (i + 1) = cntB (freeAt x (L.map toR)) i + (if freeAt x (L.map toR) i = true then 1 else 0) from rfl]
      split <;> omega
    rw [← e]
    exact ih
theorem size_none {x : Rng} (h : inR x) (ho : ¬ okR x.six x.hi x.lo x.bits) : ranges_Size.f x.six x.hi x.lo x.bits = some 0 := by
  obtain ⟨e, q1, q2, q3⟩ := check_eq (six := x.six) h.1 h.2.1 h.2.2
  unfold ranges_Size.f
  rw [q1, Option.bind_some, if_neg (fun c => ho (q3.1 c))]
/-- What is free, by the document and by the program, of a light range. -/
theorem rfree_eq (x : Rng) (h : inR x) (L : List S26) (hL : ∀ y ∈ L, inR (toR y)) (hlen : L.length ≤ 20) {n : Int} (hn : ranges_Size.f x.six x.hi x.lo x.bits = some n) (hn1 : n ≤ 300) (K : Nat) (hK : 7600 ≤ K) :
    ∃ v, ranges_Free.f x.six x.hi x.lo x.bits L = some v ∧ nameplateref05_Free.f K x.six x.hi x.lo x.bits L = some v := by
  have hmap : ∀ y ∈ L.map toR, inR y := fun y hy => by obtain ⟨z, hz, rfl⟩ := List.mem_map.1 hy; exact hL z hz
  have hll : ((L.map toR).length : Int) ≤ 4000000 := by rw [List.length_map]; omega
  by_cases ho : okR x.six x.hi x.lo x.bits
  · obtain ⟨n', n1, n2, n3, n4⟩ := size_eq h.1 h.2.1 h.2.2 ho
    obtain rfl := Option.some.inj (n1.symm.trans hn)
    have hf := free_dec h ho hn n2 n3 n4 (L.map toR) hmap hll
    have hr := rl0_run x h ho hn n2 hn1 n4 L hL hlen n'.toNat 0 K (Nat.zero_add _) (by clear n4; omega)
    exact ⟨_, hf, hr⟩
  · have h0 := size_none h ho
    obtain ⟨K, rfl⟩ : ∃ q, K = q + 1 := ⟨K - 1, by omega⟩
    refine ⟨0, ?_, ?_⟩
    · show freeF hasF sizeF addF x (L.map toR) = some 0
      unfold freeF
      rw [if_pos hll, show sizeF x = some 0 from h0, Option.bind_some, if_pos (by decide)]
      rfl
    · exact rl0_end x h h0 L 0 0 (by decide) K (by omega)
end Go.Proofs.YtbalmnkbodcigaaGreatDoor.RangeFns
set_option linter.unusedSimpArgs false
set_option linter.unusedVariables false
namespace Go.Proofs.YtbalmnkbodcigaaGreatDoor.AddrFns
open Go.RowKit Go.Lib Go.Proofs.YtbalmnkbodcigaaGreatDoor.ORc Go.Proofs.YtbalmnkbodcigaaGreatDoor.AddrLib Go.Proofs.YtbalmnkbodcigaaGreatDoorW.PrintWords Go.Proofs.YtbalmnkbodcigaaGreatDoorW.PrintLast Go.Proofs.YtbalmnkbodcigaaGreatDoorW.PrintMore

theorem wr_u64 (n : Int) (h0 : 0 ≤ n) (h1 : n < 18446744073709551616) : IntKind.u64.wrap n = n := by
  simp [IntKind.wrap, IntKind.bits, IntKind.signed]
  omega
theorem wr_u16 (n : Int) : IntKind.u16.wrap n = n % 65536 := by
  simp [IntKind.wrap, IntKind.bits, IntKind.signed]
theorem or_add (n c : Int) (j : Nat) (B : Int) (hB : B = 2 ^ j) (h0 : 0 ≤ n) (h1 : n * B < 18446744073709551616) (c0 : 0 ≤ c) (c1 : c < B) (hs : n * B + c < 18446744073709551616) :
    Go.bits .or .u64 (IntKind.u64.wrap (n * B)) (IntKind.u64.wrap c) = n * B + c := by
  obtain ⟨n, rfl⟩ := Int.eq_ofNat_of_zero_le h0
  obtain ⟨c, rfl⟩ := Int.eq_ofNat_of_zero_le c0
  have hBn : B = ((2 ^ j : Nat) : Int) := by rw [hB]; push_cast; rfl
  have e : (n : Int) * B = ((n * 2 ^ j : Nat) : Int) := by rw [hBn]; push_cast; rfl
  rw [wr_u64 _ (by rw [e]; omega) h1, wr_u64 _ c0 (by rw [e] at hs; omega), e]
  rw [e] at h1 hs
  have hc : c < 2 ^ j := by rw [hBn] at c1; omega
  rw [bits_or_u64_nat (n * 2 ^ j) c (by omega) (by omega), ← Nat.shiftLeft_eq, ← Nat.shiftLeft_add_eq_or_of_lt hc, Nat.shiftLeft_eq]
  push_cast
  rfl
/-! ### Eight groups are a number -/
theorem wrap_small (i : Nat) (h : i < 1000) : wrap64 ((i : Int) + 1) = ((i + 1 : Nat) : Int) := by unfold wrap64; omega
theorem of_step (k : Nat) (l : List Int) (i : Nat) (b : Bool) (hi lo : Int) (h8 : l.length = 8) (hi8 : i < 8) (x : Int) (hx : l.getD i 0 = x) (x0 : 0 ≤ x) (x1 : x < 65536) :
    addr_of.l0 (k + 1) l 8 i b hi lo = if (i : Int) < 4 then addr_of.l0 k l 8 ((i + 1 : Nat) : Int) b (Go.bits .or .u64 (IntKind.u64.wrap (hi * 65536)) (IntKind.u64.wrap x)) lo else addr_of.l0 k l 8 ((i + 1 : Nat) : Int) b hi (Go.bits .or .u64 (IntKind.u64.wrap (lo * 65536)) (IntKind.u64.wrap x)) := by
  have hr : rd l (i : Int) = x := by unfold rd; rw [Int.toNat_natCast, hx]
  rw [addr_of.l0, if_pos (by omega), if_pos (by omega), if_pos (by rw [h8]; omega), hr, wrap_small i (by omega)]
theorem of_eq (k : Nat) (a0 a1 a2 a3 a4 a5 a6 a7 : Int) (h : ∀ x ∈ [a0, a1, a2, a3, a4, a5, a6, a7], 0 ≤ x ∧ x < 65536) :
    addr_of.f (k + 9) [a0, a1, a2, a3, a4, a5, a6, a7] = some (true, ((a0 * 65536 + a1) * 65536 + a2) * 65536 + a3, ((a4 * 65536 + a5) * 65536 + a6) * 65536 + a7) := by
  obtain ⟨l, hl⟩ : ∃ l, l = [a0, a1, a2, a3, a4, a5, a6, a7] := ⟨_, rfl⟩
  have h8 : l.length = 8 := by rw [hl]; rfl
  have b0 := h a0 (by simp); have b1 := h a1 (by simp); have b2 := h a2 (by simp); have b3 := h a3 (by simp); have b4 := h a4 (by simp); have b5 := h a5 (by simp); have b6 := h a6 (by simp); have b7 := h a7 (by simp)
  rw [← hl]
  unfold addr_of.f
  rw [h8]
  have st := fun k i hi8 x hx x0 x1 hh ll => of_step k l i true hh ll h8 hi8 x hx x0 x1
  have z : ∀ x : Int, 0 ≤ x → x < 65536 → Go.bits .or .u64 (IntKind.u64.wrap (0 * 65536)) (IntKind.u64.wrap x) = x := fun x x0 x1 => by
    rw [or_add 0 x 16 65536 (by decide) (by decide) (by decide) x0 x1 (by omega)]; omega
  have orr : ∀ n x : Int, 0 ≤ n → n < 281474976710656 → 0 ≤ x → x < 65536 → Go.bits .or .u64 (IntKind.u64.wrap (n * 65536)) (IntKind.u64.wrap x) = n * 65536 + x := fun n x n0 n1 x0 x1 =>
    or_add n x 16 65536 (by decide) n0 (by omega) x0 x1 (by omega)
  have e0 := st (k + 8) 0 (by decide) a0 (by rw [hl]; rfl) b0.1 b0.2 0 0
  rw [if_pos (by decide), z a0 b0.1 b0.2] at e0
  have e1 := st (k + 7) 1 (by decide) a1 (by rw [hl]; rfl) b1.1 b1.2 a0 0
  rw [if_pos (by decide), orr a0 a1 b0.1 (by omega) b1.1 b1.2] at e1
  have e2 := st (k + 6) 2 (by decide) a2 (by rw [hl]; rfl) b2.1 b2.2 (a0 * 65536 + a1) 0
  rw [if_pos (by decide), orr _ a2 (by omega) (by omega) b2.1 b2.2] at e2
  have e3 := st (k + 5) 3 (by decide) a3 (by rw [hl]; rfl) b3.1 b3.2 ((a0 * 65536 + a1) * 65536 + a2) 0
  rw [if_pos (by decide), orr _ a3 (by omega) (by omega) b3.1 b3.2] at e3
  have e4 := st (k + 4) 4 (by decide) a4 (by rw [hl]; rfl) b4.1 b4.2 (((a0 * 65536 + a1) * 65536 + a2) * 65536 + a3) 0
  rw [if_neg (by decide), z a4 b4.1 b4.2] at e4
  have e5 := st (k + 3) 5 (by decide) a5 (by rw [hl]; rfl) b5.1 b5.2 (((a0 * 65536 + a1) * 65536 + a2) * 65536 + a3) a4
  rw [if_neg (by decide), orr a4 a5 b4.1 (by omega) b5.1 b5.2] at e5
  have e6 := st (k + 2) 6 (by decide) a6 (by rw [hl]; rfl) b6.1 b6.2 (((a0 * 65536 + a1) * 65536 + a2) * 65536 + a3) (a4 * 65536 + a5)
  rw [if_neg (by decide), orr _ a6 (by omega) (by omega) b6.1 b6.2] at e6
  have e7 := st (k + 1) 7 (by decide) a7 (by rw [hl]; rfl) b7.1 b7.2 (((a0 * 65536 + a1) * 65536 + a2) * 65536 + a3) ((a4 * 65536 + a5) * 65536 + a6)
  rw [if_neg (by decide), orr _ a7 (by omega) (by omega) b7.1 b7.2] at e7
  show addr_of.l0 (k + 8 + 1) l 8 ((0 : Nat) : Int) true 0 0 = _
  rw [e0]
  show addr_of.l0 (k + 7 + 1) l 8 ((1 : Nat) : Int) true a0 0 = _
  rw [e1]
  show addr_of.l0 (k + 6 + 1) l 8 ((2 : Nat) : Int) true _ 0 = _
  rw [e2]
  show addr_of.l0 (k + 5 + 1) l 8 ((3 : Nat) : Int) true _ 0 = _
  rw [e3]
  show addr_of.l0 (k + 4 + 1) l 8 ((4 : Nat) : Int) true _ 0 = _
  rw [e4]
  show addr_of.l0 (k + 3 + 1) l 8 ((5 : Nat) : Int) true _ a4 = _
  rw [e5]
  show addr_of.l0 (k + 2 + 1) l 8 ((6 : Nat) : Int) true _ _ = _
  rw [e6]
  show addr_of.l0 (k + 1 + 1) l 8 ((7 : Nat) : Int) true _ _ = _
  rw [e7, addr_of.l0, if_neg (by decide)]
theorem cut_rng (hi lo : Int) : ∀ x ∈ cutL hi lo, 0 ≤ x ∧ x < 65536 := by
  intro x hx
  unfold cutL g16 at hx
  simp only [wr_u16, List.mem_cons, List.not_mem_nil, or_false] at hx
  rcases hx with rfl | rfl | rfl | rfl | rfl | rfl | rfl | rfl <;> omega
theorem of_cut (k : Nat) (hi lo : Int) (h0 : 0 ≤ hi) (h1 : hi < 18446744073709551616) (l0 : 0 ≤ lo) (l1 : lo < 18446744073709551616) : addr_of.f (k + 9) (cutL hi lo) = some (true, hi, lo) := by
  have h := of_eq k (g16 hi 3) (g16 hi 2) (g16 hi 1) (g16 hi 0) (g16 lo 3) (g16 lo 2) (g16 lo 1) (g16 lo 0) (cut_rng hi lo)
  refine h.trans ?_
  unfold g16
  simp only [wr_u16]
  have e1 : ((hi / 281474976710656 % 65536 * 65536 + hi / 4294967296 % 65536) * 65536 + hi / 65536 % 65536) * 65536 + hi % 65536 = hi := by omega
  have e2 : ((lo / 281474976710656 % 65536 * 65536 + lo / 4294967296 % 65536) * 65536 + lo / 65536 % 65536) * 65536 + lo % 65536 = lo := by omega
  rw [e1, e2]
/-! ### The longest run of noughts is one -/
def nought (l : List Int) (a b : Int) : Prop := ∀ j : Nat, a ≤ (j : Int) → (j : Int) < b → l.getD j 0 = 0
theorem zL_ok (l : List Int) : ∀ (t : List Int) (p : Nat) (f n k : Int), l.drop p = t → 0 ≤ f → 0 ≤ n → f + n ≤ p → nought l f (f + n) → 0 ≤ k → k ≤ p → nought l (p - k) p →
    0 ≤ (zL t p f n k).1 ∧ 0 ≤ (zL t p f n k).2 ∧ (zL t p f n k).1 + (zL t p f n k).2 ≤ p + t.length ∧ nought l (zL t p f n k).1 ((zL t p f n k).1 + (zL t p f n k).2) := by
  intro t
  induction t with
  | nil => intro p f n k _ h1 h2 h3 h4 _ _ _; unfold zL; simp only [List.length_nil]; exact ⟨h1, h2, by omega, h4⟩
  | cons x t ih =>
    intro p f n k hd h1 h2 h3 h4 h5 h6 h7
    have hx : l.getD p 0 = x := by
      rw [List.getD_eq_getElem?_getD, ← List.head?_drop, hd]; rfl
    have hd2 : l.drop (p + 1) = t := by rw [← List.drop_drop, hd]; rfl
    have ih := fun f n k => ih (p + 1) f n k hd2
    rw [show ((p + 1 : Nat) : Int) = (p : Int) + 1 by omega] at ih
    unfold zL
    rw [List.length_cons]
    by_cases c : x = 0
    · rw [if_pos c]
      have hn : nought l ((p : Int) - k) (p + 1) := fun j a b => by
        by_cases e : (j : Int) < p
        · exact h7 j a e
        · have : j = p := by omega
          rw [this, hx, c]
      by_cases d : n < k + 1
      · rw [if_pos d]
        have := ih (p + 1 - (k + 1)) (k + 1) (k + 1) (by omega) (by omega) (by omega) (by rw [show ((p : Int) + 1 - (k + 1)) + (k + 1) = p + 1 by omega, show (p : Int) + 1 - (k + 1) = p - k by omega]; exact hn) (by omega) (by omega) (by rw [show (p : Int) + 1 - (k + 1) = p - k by omega]; exact hn)
        exact ⟨this.1, this.2.1, by have := this.2.2.1; omega, this.2.2.2⟩
      · rw [if_neg d]
        have := ih f n (k + 1) h1 h2 (by omega) h4 (by omega) (by omega) (by rw [show (p : Int) + 1 - (k + 1) = p - k by omega]; exact hn)
        exact ⟨this.1, this.2.1, by have := this.2.2.1; omega, this.2.2.2⟩
    · rw [if_neg c, if_neg (by omega)]
      have := ih f n 0 h1 h2 (by omega) h4 (by omega) (by omega) (fun j a b => by omega)
      exact ⟨this.1, this.2.1, by have := this.2.2.1; omega, this.2.2.2⟩
theorem zL_whole (l : List Int) : ∃ f n : Nat, zL l 0 0 0 0 = ((f : Int), (n : Int)) ∧ f + n ≤ l.length ∧ l = l.take f ++ List.replicate n 0 ++ l.drop (f + n) := by
  have h := zL_ok l l 0 0 0 0 rfl (by decide) (by decide) (by decide) (fun j a b => by omega) (by decide) (by decide) (fun j a b => by omega)
  obtain ⟨h1, h2, h3, h4⟩ := h
  obtain ⟨f, hf⟩ := Int.eq_ofNat_of_zero_le h1
  obtain ⟨n, hn⟩ := Int.eq_ofNat_of_zero_le h2
  rw [show ((0 : Nat) : Int) = 0 from rfl] at h1 h2 h3 h4 hf hn
  rw [hf, hn] at h3 h4
  refine ⟨f, n, Prod.ext hf hn, by omega, ?_⟩
  have hr : (l.drop f).take n = List.replicate n 0 := by
    refine List.eq_replicate_iff.2 ⟨by rw [List.length_take, List.length_drop]; omega, fun b hb => ?_⟩
    obtain ⟨i, hi, rfl⟩ := List.getElem_of_mem hb
    rw [List.length_take, List.length_drop] at hi
    have := h4 (f + i) (by omega) (by omega)
    rw [List.getD_eq_getElem?_getD, List.getElem?_eq_getElem (by omega)] at this
    rw [List.getElem_take, List.getElem_drop]
    exact this
  rw [← hr, List.append_assoc, ← List.drop_drop, List.take_append_drop, List.take_append_drop]
end Go.Proofs.YtbalmnkbodcigaaGreatDoor.AddrFns
set_option linter.unusedSimpArgs false
set_option linter.unusedVariables false
namespace Go.Proofs.YtbalmnkbodcigaaGreatDoor.AddrFns
open Go.RowKit Go.Lib Go.Proofs.YtbalmnkbodcigaaGreatDoor.ORc Go.Proofs.YtbalmnkbodcigaaGreatDoor.AddrLib Go.Proofs.YtbalmnkbodcigaaGreatDoorW.PrintWords Go.Proofs.YtbalmnkbodcigaaGreatDoorW.PrintLast Go.Proofs.YtbalmnkbodcigaaGreatDoorW.PrintMore

/-! ### Base 10 -/
def decL (u : Nat) : List UInt8 :=
  if u < 10 then [UInt8.ofNat (48 + u)] else if u < 100 then [UInt8.ofNat (48 + u / 10), UInt8.ofNat (48 + u % 10)] else [UInt8.ofNat (48 + u / 100), UInt8.ofNat (48 + u / 10 % 10), UInt8.ofNat (48 + u % 10)]
theorem dec_eq (u : Nat) (h : u < 1000) : decDigits u = decL u := by
  have one : ∀ v, v < 10 → decDigits v = [UInt8.ofNat (48 + v)] := fun v hv => by rw [decDigits, dif_pos hv]
  have two : ∀ v, ¬ v < 10 → v < 100 → decDigits v = [UInt8.ofNat (48 + v / 10), UInt8.ofNat (48 + v % 10)] := fun v h1 h2 => by
    rw [decDigits, dif_neg h1, one (v / 10) (by omega)]; rfl
  unfold decL
  by_cases c : u < 10
  · rw [if_pos c, one u c]
  · rw [if_neg c]
    by_cases d : u < 100
    · rw [if_pos d, two u c d]
    · rw [if_neg d, decDigits, dif_neg c, two (u / 10) (by omega) (by omega), show u / 10 / 10 = u / 100 by omega]
      rfl
theorem itoa_eq (x : Int) (h0 : 0 ≤ x) (h1 : x < 1000) : itoa x = decL x.toNat := by
  unfold itoa
  rw [if_neg (by omega), dec_eq _ (by omega)]
def decOk (u : Nat) : Bool := (numP 3 10 (mkB (decL u)) == some ((u : Int), true)) && !(badO ((u : Int), true) (mkB (decL u))) && (decL u).all (fun b => b != 46 && b != 47 && b != 58) && decide (1 ≤ (decL u).length ∧ (decL u).length ≤ 3)
theorem dec_tab : ∀ u : Fin 256, decOk u.val = true := by decide +kernel
theorem dec_fact (u : Nat) (h : u < 256) : numP 3 10 (mkB (decL u)) = some ((u : Int), true) ∧ badO ((u : Int), true) (mkB (decL u)) = false ∧ (46 : UInt8) ∉ decL u ∧ (47 : UInt8) ∉ decL u ∧ (58 : UInt8) ∉ decL u ∧ 1 ≤ (decL u).length ∧ (decL u).length ≤ 3 := by
  have t := dec_tab ⟨u, h⟩
  unfold decOk at t
  simp only [Bool.and_eq_true, beq_iff_eq, Bool.not_eq_true', List.all_eq_true, bne_iff_ne, decide_eq_true_eq] at t
  obtain ⟨⟨⟨t1, t2⟩, t3⟩, t4, t5⟩ := t
  exact ⟨t1, t2, fun hb => (t3 _ hb).1.1 rfl, fun hb => (t3 _ hb).1.2 rfl, fun hb => (t3 _ hb).2 rfl, t4, t5⟩
theorem count_none {c : UInt8} {s : ByteArray} (h : c ∉ s.data.toList) : countB s (oneS c) = 0 := countB_miss s (oneS c) (index1_none h)
theorem elder_none (k : Nat) (s : ByteArray) (hs : s.size ≤ 100000) (h : (46 : UInt8) ∉ s.data.toList) : addr_elder.f k s = some (false, 0, 0, false) := by
  unfold addr_elder.f elderF
  rw [if_pos hs, count_none h, if_neg (by decide)]
theorem whole_step (k : Nat) (l : List Int) (i : Nat) (n x : Int) (h4 : l.length = 4) (hi : i < 4) (hx : l.getD i 0 = x) (x0 : 0 ≤ x) (x1 : x < 256) (n0 : 0 ≤ n) (n1 : n < 16777216) :
    addr_whole.l0 (k + 1) n l 4 i = addr_whole.l0 k (n * 256 + x) l 4 ((i + 1 : Nat) : Int) := by
  have hr : rd l (i : Int) = x := by unfold rd; rw [Int.toNat_natCast, hx]
  rw [addr_whole.l0, if_pos (by omega), if_pos (by omega), if_pos (by rw [h4]; omega), hr, wrap_small i (by omega), or_add n x 8 256 (by decide) n0 (by omega) x0 x1 (by omega)]
theorem four_eq (k : Nat) (a b c d : Int) (ha : 0 ≤ a ∧ a < 256) (hb : 0 ≤ b ∧ b < 256) (hc : 0 ≤ c ∧ c < 256) (hd : 0 ≤ d ∧ d < 256) :
    addr_Four.f (k + 5) a b c d = some (false, 0, ((a * 256 + b) * 256 + c) * 256 + d) := by
  unfold addr_Four.f addr_whole.f
  obtain ⟨l, hl⟩ : ∃ l, l = [a, b, c, d] := ⟨_, rfl⟩
  have h4 : l.length = 4 := by rw [hl]; rfl
  rw [← hl, h4]
  have e0 := whole_step (k + 4) l 0 0 a h4 (by decide) (by rw [hl]; rfl) ha.1 ha.2 (by decide) (by decide)
  rw [show (0 : Int) * 256 + a = a by omega] at e0
  have e1 := whole_step (k + 3) l 1 a b h4 (by decide) (by rw [hl]; rfl) hb.1 hb.2 ha.1 (by omega)
  have e2 := whole_step (k + 2) l 2 (a * 256 + b) c h4 (by decide) (by rw [hl]; rfl) hc.1 hc.2 (by omega) (by omega)
  have e3 := whole_step (k + 1) l 3 ((a * 256 + b) * 256 + c) d h4 (by decide) (by rw [hl]; rfl) hd.1 hd.2 (by omega) (by omega)
  rw [show addr_whole.l0 (k + 5) 0 l ((4 : Nat) : Int) 0 = addr_whole.l0 (k + 4) a l 4 ((0 + 1 : Nat) : Int) from e0, show addr_whole.l0 (k + 4) a l 4 ((0 + 1 : Nat) : Int) = _ from e1, show addr_whole.l0 (k + 3) _ l 4 ((1 + 1 : Nat) : Int) = _ from e2, show addr_whole.l0 (k + 2) _ l 4 ((2 + 1 : Nat) : Int) = _ from e3, addr_whole.l0, if_neg (by decide), Option.bind_some]
/-- A dotted quad is read. -/
theorem elder_quad (k : Nat) (lo : Int) (l0 : 0 ≤ lo) (l1 : lo < 4294967296) :
    (join ((quad lo).map (·.data.toList)) [46]).length ≤ 15 ∧ (47 : UInt8) ∉ join ((quad lo).map (·.data.toList)) [46] ∧ addr_elder.f (k + 5) (mkB (join ((quad lo).map (·.data.toList)) [46])) = some (false, 0, lo, true) := by
  obtain ⟨L, hL⟩ : ∃ L, L = [decL (lo / 16777216 % 256).toNat, decL (lo / 65536 % 256).toNat, decL (lo / 256 % 256).toNat, decL (lo % 256).toNat] := ⟨_, rfl⟩
  have hq : (quad lo).map (·.data.toList) = L := by
    rw [hL]
    unfold quad
    simp only [List.map_cons, List.map_nil, mkB_data]
    rw [itoa_eq _ (by omega) (by omega), itoa_eq _ (by omega) (by omega), itoa_eq _ (by omega) (by omega), itoa_eq _ (by omega) (by omega)]
  rw [hq]
  have fa := dec_fact (lo / 16777216 % 256).toNat (by omega)
  have fb := dec_fact (lo / 65536 % 256).toNat (by omega)
  have fc := dec_fact (lo / 256 % 256).toNat (by omega)
  have fd := dec_fact (lo % 256).toNat (by omega)
  have hno : ∀ x ∈ L, (46 : UInt8) ∉ x ∧ (47 : UInt8) ∉ x := by
    intro x hx
    rw [hL] at hx
    simp only [List.mem_cons, List.not_mem_nil, or_false] at hx
    rcases hx with rfl | rfl | rfl | rfl
    · exact ⟨fa.2.2.1, fa.2.2.2.1⟩
    · exact ⟨fb.2.2.1, fb.2.2.2.1⟩
    · exact ⟨fc.2.2.1, fc.2.2.2.1⟩
    · exact ⟨fd.2.2.1, fd.2.2.2.1⟩
  have hlen : (join L [46]).length ≤ 15 := by
    rw [hL, join_length]
    simp only [lens, List.map_cons, List.map_nil, List.sum_cons, List.sum_nil, List.length_cons, List.length_nil]
    have := fa.2.2.2.2.2.2; have := fb.2.2.2.2.2.2; have := fc.2.2.2.2.2.2; have := fd.2.2.2.2.2.2
    omega
  refine ⟨hlen, ?_, ?_⟩
  · rw [hL] at hno ⊢
    rw [join_cons]
    simp only [joinTail, List.map_cons, List.map_nil, List.flatten_cons, List.flatten_nil, List.mem_append, List.mem_cons, List.not_mem_nil, or_false, not_or]
    exact ⟨fa.2.2.2.1, ⟨by decide, fb.2.2.2.1⟩, ⟨by decide, fc.2.2.2.1⟩, by decide, fd.2.2.2.1⟩
  · have hsp : splitB (oneS 46) 0 (countB (mkB (join L [46])) (oneS 46)) (mkB (join L [46])) = L.map mkB := by
      rw [splitB_list, mkB_data, split_join 46 L (by rw [hL]; simp) (fun x hx => (hno x hx).1)]
    have hcnt := splitB_all (oneS 46) (Nat.le_refl _) 0 _ (mkB (join L [46])) rfl
    rw [hsp, List.length_map, hL, List.length_cons, List.length_cons, List.length_cons, List.length_cons, List.length_nil, ← hL] at hcnt
    unfold addr_elder.f elderF
    rw [if_pos (by rw [mkB_size]; omega), if_pos (by omega), hsp, hL]
    simp only [List.map_cons, List.map_nil]
    have st : ∀ (u : Nat) (t : List ByteArray) (acc : List Int), u < 256 → elderK (addr_Four.f (k + 5)) (mkB (decL u) :: t) acc = elderK (addr_Four.f (k + 5)) t (acc ++ [(u : Int)]) := fun u t acc hu => by
      have f := dec_fact u hu
      rw [elderK, f.1, Option.bind_some, f.2.1, if_neg (by decide)]
    rw [st _ _ _ (by omega), st _ _ _ (by omega), st _ _ _ (by omega), st _ _ _ (by omega)]
    show (addr_Four.f (k + 5) _ _ _ _).bind _ = _
    rw [four_eq k _ _ _ _ ⟨by omega, by omega⟩ ⟨by omega, by omega⟩ ⟨by omega, by omega⟩ ⟨by omega, by omega⟩, Option.bind_some]
    have e : ((((lo / 16777216 % 256).toNat : Int) * 256 + ((lo / 65536 % 256).toNat : Int)) * 256 + ((lo / 256 % 256).toNat : Int)) * 256 + ((lo % 256).toNat : Int) = lo := by
      rw [Int.toNat_of_nonneg (by omega), Int.toNat_of_nonneg (by omega), Int.toNat_of_nonneg (by omega), Int.toNat_of_nonneg (by omega)]
      omega
    simp only
    rw [e]
end Go.Proofs.YtbalmnkbodcigaaGreatDoor.AddrFns
set_option linter.unusedSimpArgs false
set_option linter.unusedVariables false
namespace Go.Proofs.YtbalmnkbodcigaaGreatDoor.AddrFns
open Go.RowKit Go.Lib Go.Proofs.YtbalmnkbodcigaaGreatDoor.ORc Go.Proofs.YtbalmnkbodcigaaGreatDoor.AddrLib Go.Proofs.YtbalmnkbodcigaaGreatDoorW.PrintWords Go.Proofs.YtbalmnkbodcigaaGreatDoorW.PrintLast Go.Proofs.YtbalmnkbodcigaaGreatDoorW.PrintMore

/-- A group's text. -/
def hx (x : Int) : List UInt8 := hexL x.toNat
def rng (l : List Int) : Prop := ∀ x ∈ l, 0 ≤ x ∧ x < 65536
def tx (l : List Int) : List UInt8 := join (l.map hx) [58]
theorem hx_ok {l : List Int} (h : rng l) : okG (l.map hx) := by
  intro y hy
  obtain ⟨x, hx', rfl⟩ := List.mem_map.1 hy
  have := h x hx'
  refine ⟨fun hb => (hexL_mem (u := x.toNat) (by omega) 58 hb).2.1 rfl, fun e => ?_⟩
  have := (hexL_len x.toNat).1
  unfold hx at e
  rw [e] at this
  exact absurd this (by decide)
theorem joinTail_len (l : List Int) : (joinTail [58] (l.map hx)).length ≤ 5 * l.length := by
  induction l with
  | nil => simp [joinTail]
  | cons x t ih =>
    have := (hexL_len x.toNat).2
    unfold joinTail at ih ⊢
    unfold hx at ih ⊢
    simp only [List.map_cons, List.flatten_cons, List.length_append, List.length_cons, List.length_nil, List.map_map] at ih ⊢
    omega
theorem tx_len (l : List Int) : (tx l).length ≤ 5 * l.length := by
  unfold tx
  cases l with
  | nil => simp [join_nil]
  | cons x t =>
    rw [List.map_cons, join_cons, List.length_append, List.length_cons]
    have := joinTail_len t
    have := (hexL_len x.toNat).2
    unfold hx at *
    omega
/-- Which octets there are: digits of base 16, and colons. -/
theorem tx_mem {l : List Int} (h : rng l) : ∀ b ∈ tx l, b ≠ 46 ∧ b ≠ 47 ∧ b.toNat < 128 := by
  have tail : ∀ t : List Int, rng t → ∀ b ∈ joinTail [58] (t.map hx), b ≠ 46 ∧ b ≠ 47 ∧ b.toNat < 128 := by
    intro t ht b hb
    unfold joinTail at hb
    rw [List.map_map, List.mem_flatten] at hb
    obtain ⟨y, hy, hb⟩ := hb
    obtain ⟨x, hx', rfl⟩ := List.mem_map.1 hy
    have hr := ht x hx'
    simp only [Function.comp, List.mem_append, List.mem_singleton] at hb
    rcases hb with rfl | hb
    · decide
    · have := hexL_mem (u := x.toNat) (by omega) b hb
      exact ⟨this.2.2.1, this.2.2.2.1, this.1⟩
  intro b hb
  unfold tx at hb
  cases l with
  | nil => simp [join_nil] at hb
  | cons x t =>
    rw [List.map_cons, join_cons, List.mem_append] at hb
    rcases hb with hb | hb
    · have hr := h x (by simp)
      have := hexL_mem (u := x.toNat) (by omega) b hb
      exact ⟨this.2.2.1, this.2.2.2.1, this.1⟩
    · exact tail t (fun y hy => h y (by simp [hy])) b hb
/-! ### addr.join -/
theorem rd_nat (l : List Int) (i : Nat) : rd l (i : Int) = l.getD i 0 := by unfold rd; rw [Int.toNat_natCast]
theorem join_loop (l : List Int) (h : rng l) (h8 : l.length ≤ 8) : ∀ (m k i : Nat), i + m = l.length →
    addr_join.l0 (k + m + 1) ((l.take i).map fun x => mkB (hx x)) l (l.length : Int) (i : Int) = some (mkB (tx l)) := by
  intro m
  induction m with
  | zero =>
    intro k i hi
    have e : i = l.length := by omega
    have hd : ((l.map fun x => mkB (hx x)).map fun b => b.data.toList) = l.map hx := by
      rw [List.map_map]
      exact List.map_congr_left fun x _ => mkB_data _
    have ht := tx_len l
    unfold tx at ht
    rw [addr_join.l0, if_neg (by omega), e, List.take_length]
    unfold strings_Join.f
    rw [hd, if_pos ⟨by rw [List.length_map]; omega, by show (join (l.map hx) [58]).length ≤ 100000; omega⟩, Option.bind_some]
    rfl
  | succ m ih =>
    intro k i hi
    have hlt : i < l.length := by omega
    have hr := h (l.getD i 0) (by rw [List.getD_eq_getElem?_getD, List.getElem?_eq_getElem hlt]; exact List.getElem_mem hlt)
    have hg : l.getD i 0 = l[i] := by rw [List.getD_eq_getElem?_getD, List.getElem?_eq_getElem hlt]; rfl
    rw [addr_join.l0, if_pos (by omega), if_pos (by omega), if_pos (by omega), rd_nat, wr_u64 _ hr.1 (by omega)]
    unfold strconv_FormatUint_78.f
    rw [if_pos ⟨rfl, hr.1, by omega⟩, Option.bind_some, if_pos (by rw [List.length_map, List.length_take]; omega), wrap_small i (by omega)]
    have e : ((l.take i).map fun x => mkB (hx x)) ++ [mkB (hexL (l.getD i 0).toNat)] = (l.take (i + 1)).map fun x => mkB (hx x) := by
      rw [List.take_succ_eq_append_getElem hlt, List.map_append, hg]; rfl
    rw [e, show k + (m + 1) = k + m + 1 by omega]
    exact ih k (i + 1) (by omega)
theorem join_eq (k : Nat) (l : List Int) (h : rng l) (h8 : l.length ≤ 8) : addr_join.f (k + 9) l = some (mkB (tx l)) := by
  unfold addr_join.f
  have := join_loop l h h8 l.length (k + (8 - l.length)) 0 (by omega)
  rw [show k + (8 - l.length) + l.length + 1 = k + 9 by omega] at this
  exact this
/-! ### addr.part -/
theorem num_hx {x : Int} (h : 0 ≤ x ∧ x < 65536) : addr_number.f (mkB (hx x)) 4 16 = some (x, true) := by
  unfold addr_number.f
  rw [if_pos ⟨.inr rfl, by decide⟩]
  have := numP_hex (u := x.toNat) (by omega)
  rw [Int.toNat_of_nonneg h.1] at this
  exact this
theorem wrapm (n : Nat) (h : n ≤ 8) : wrap64 ((n : Int) - 1) = (n : Int) - 1 := by unfold wrap64; omega
theorem part_loop (last : Bool) (l : List Int) (h : rng l) (h8 : l.length ≤ 8) : ∀ (m k i : Nat), i + m = l.length →
    addr_part.l0 (k + 2 * m + 1) last (l.take i) (l.map fun x => mkB (hx x)) (l.map fun x => mkB (hx x)) ((l.map fun x => mkB (hx x)).length : Int) (i : Int) = some (l, true) := by
  intro m
  induction m with
  | zero =>
    intro k i hi
    have e : i = l.length := by omega
    rw [addr_part.l0, if_neg (by rw [List.length_map]; omega), e, List.take_length]
  | succ m ih =>
    intro k i hi
    have hlt : i < l.length := by omega
    have hr := h l[i] (List.getElem_mem hlt)
    have hg : rdOf ByteArray.empty (l.map fun x => mkB (hx x)) (i : Int) = mkB (hx l[i]) := by
      unfold rdOf
      rw [Int.toNat_natCast, List.getD_eq_getElem?_getD, List.getElem?_map, List.getElem?_eq_getElem hlt]
      rfl
    have hel := elder_none (k + 2 * (m + 1)) (mkB (hx l[i])) (by rw [mkB_size]; have := (hexL_len l[i].toNat).2; unfold hx; omega) (by rw [mkB_data]; exact fun hb => (hexL_mem (u := l[i].toNat) (by omega) 46 hb).2.2.1 rfl)
    rw [addr_part.l0, if_pos (by rw [List.length_map]; omega), if_pos (by omega), if_pos (by rw [List.length_map]; omega), hg, hel, Option.bind_some, if_neg (by decide), show k + 2 * (m + 1) = k + 2 * m + 1 + 1 by omega, addr_part.j1, if_neg (by decide), num_hx hr, Option.bind_some, if_pos rfl, if_pos (by rw [List.length_take]; omega), wrap_small i (by omega), wr_u16]
    have e : l.take i ++ [l[i] % 65536] = l.take (i + 1) := by
      rw [List.take_succ_eq_append_getElem hlt, show l[i] % 65536 = l[i] by omega]
    rw [e]
    exact ih k (i + 1) (by omega)
theorem toList_ne {l : List UInt8} (h : l ≠ []) : ¬ (mkB l).toList = [] := by
  intro e
  rw [ByteArray.toList_eq, mkB_data] at e
  exact h e
theorem tx_ne {l : List Int} (h : l ≠ []) : tx l ≠ [] := by
  intro e
  cases l with
  | nil => exact h rfl
  | cons x t =>
    unfold tx at e
    rw [List.map_cons, join_cons] at e
    have := (hexL_len x.toNat).1
    have e2 := (List.append_eq_nil_iff.1 e).1
    unfold hx at e2
    rw [e2] at this
    exact absurd this (by decide)
theorem part_eq (k : Nat) (last : Bool) (l : List Int) (h : rng l) (h8 : l.length ≤ 8) : addr_part.f (k + 17) (mkB (tx l)) last = some (l, true) := by
  unfold addr_part.f
  by_cases c : l = []
  · subst c
    rw [if_pos (by rw [ByteArray.toList_eq, mkB_data]; rfl)]
  · rw [if_neg (toList_ne (tx_ne c))]
    have ht := tx_len l
    have hs : strings_Split.f (mkB (tx l)) (⟨#[58]⟩ : ByteArray) = some (l.map fun x => mkB (hx x)) := by
      unfold strings_Split.f
      rw [if_pos ⟨by rw [mkB_size]; omega, rfl⟩]
      rw [show (⟨#[58]⟩ : ByteArray) = oneS 58 from rfl, splitB_list, mkB_data]
      unfold tx
      rw [split_join 58 (l.map hx) (by simpa using c) (fun y hy => (hx_ok h y hy).1), List.map_map]
      rfl
    rw [hs, Option.bind_some]
    have := part_loop last l h h8 l.length (k + 2 * (8 - l.length)) 0 (by omega)
    rw [show k + 2 * (8 - l.length) + 2 * l.length + 1 = k + 17 by omega] at this
    exact this
/-! ### addr.newer -/
theorem rng_take {l : List Int} (h : rng l) (n : Nat) : rng (l.take n) := fun x hx => h x (List.mem_of_mem_take hx)
theorem rng_drop {l : List Int} (h : rng l) (n : Nat) : rng (l.drop n) := fun x hx => h x (List.mem_of_mem_drop hx)
theorem newer_whole (k : Nat) (l : List Int) (h : rng l) (h8 : l.length = 8) : addr_newer.f (k + 17) (mkB (tx l)) = some (l, true) := by
  have ht := tx_len l
  have hc := cut_whole (l.map hx) (hx_ok h)
  change cut (tx l) [58, 58] = (tx l, [], false) at hc
  unfold addr_newer.f newerF
  rw [if_pos (by rw [mkB_size]; omega), mkB_data, hc]
  simp only
  rw [if_neg (by decide), show (!false) = true from rfl, part_eq k true l h (by omega), Option.bind_some, if_neg (show ¬ (true = false) by decide)]
  have hn : addr_part.f (k + 17) (mkB []) true = some ([], true) := part_eq k true [] (fun x hx => by cases hx) (by decide)
  rw [hn, Option.bind_some, if_neg (show ¬ (true = false) by decide)]
  simp only
  rw [if_pos ⟨by omega, by decide⟩, if_neg (by
    rw [h8]
    rintro (⟨e, _⟩ | ⟨_, e⟩)
    · cases e
    · exact e (by decide)), h8]
  simp
theorem newer_gap (k f n : Nat) (l : List Int) (h : rng l) (h8 : l.length = 8) (hfn : f + n ≤ 8) (hn : 1 < n) (hl : l = l.take f ++ List.replicate n 0 ++ l.drop (f + n)) :
    addr_newer.f (k + 17) (mkB (tx (l.take f) ++ 58 :: 58 :: tx (l.drop (f + n)))) = some (l, true) := by
  have ht1 := tx_len (l.take f)
  have ht2 := tx_len (l.drop (f + n))
  have e1 : (l.take f).length = f := by rw [List.length_take]; omega
  have e2 : (l.drop (f + n)).length = 8 - (f + n) := by rw [List.length_drop, h8]
  have hc := cut_gap ((l.take f).map hx) ((l.drop (f + n)).map hx) (hx_ok (rng_take h f))
  change cut (tx (l.take f) ++ 58 :: 58 :: tx (l.drop (f + n))) [58, 58] = (tx (l.take f), tx (l.drop (f + n)), true) at hc
  have hno := contains_no ((l.drop (f + n)).map hx) (hx_ok (rng_drop h (f + n)))
  change contains (tx (l.drop (f + n))) [58, 58] = false at hno
  unfold addr_newer.f newerF
  rw [if_pos (by rw [mkB_size, List.length_append, List.length_cons, List.length_cons]; omega), mkB_data, hc]
  simp only
  rw [hno, if_neg (by decide), show (!true) = false from rfl, part_eq k false _ (rng_take h f) (by omega), Option.bind_some, if_neg (show ¬ (true = false) by decide), part_eq k true _ (rng_drop h (f + n)) (by omega), Option.bind_some, if_neg (show ¬ (true = false) by decide)]
  simp only
  rw [if_pos ⟨by omega, by omega⟩, e1, e2]
  have en : (8 - (f : Int) - ((8 - (f + n) : Nat) : Int)).toNat = n := by omega
  rw [if_neg (by
    rintro (⟨_, e⟩ | ⟨e, _⟩)
    · omega
    · cases e), en]
  exact congrArg some (Prod.ext hl.symm rfl)
/-! ### The whole -/
def ok2 (six : Bool) (hi lo : Int) : Prop := 0 ≤ hi ∧ hi < 18446744073709551616 ∧ 0 ≤ lo ∧ lo < 18446744073709551616 ∧ (six = true ∨ (hi = 0 ∧ lo < 4294967296))
theorem check_ok {six : Bool} {hi lo : Int} (h : ok2 six hi lo) : addr_Check.f six hi lo = some 0 := by
  unfold addr_Check.f
  cases six
  · rcases h.2.2.2.2 with e | ⟨e1, e2⟩
    · cases e
    · rw [if_neg (by decide), if_pos e1, if_pos (by have := h.2.2.1; omega)]
  · rw [if_pos rfl]
theorem has58 {l : List Int} (h : 2 ≤ l.length) : (58 : UInt8) ∈ tx l := by
  match l, h with
  | x :: y :: t, _ =>
    unfold tx
    rw [List.map_cons, List.map_cons, join_cons]
    simp [joinTail]
theorem read_six (k : Nat) (s : List UInt8) (l : List Int) (hi lo : Int) (hs : s.length ≤ 100) (h46 : (46 : UInt8) ∉ s) (h58 : (58 : UInt8) ∈ s) (hn : addr_newer.f (k + 17) (mkB s) = some (l, true)) (ho : addr_of.f (k + 17) l = some (true, hi, lo)) :
    addr_Read.f (k + 17) (mkB s) = some (true, hi, lo, 0) := by
  unfold addr_Read.f
  rw [elder_none (k + 17) (mkB s) (by rw [mkB_size]; omega) (by rw [mkB_data]; exact h46), Option.bind_some, if_neg (by decide)]
  unfold strings_Contains.f
  rw [if_pos (by rw [mkB_size]; omega), Option.bind_some, mkB_data, if_pos (contains_one h58), hn, Option.bind_some, if_pos rfl, ho, Option.bind_some]
/-- An address is read of its text; the text is short, without strokes. -/
theorem read_text (six : Bool) (hi lo : Int) (h : ok2 six hi lo) (k : Nat) : ∃ s : List UInt8, addr_Text.f (k + 17) six hi lo = some (mkB s, 0) ∧ addr_Read.f (k + 17) (mkB s) = some (six, hi, lo, 0) ∧ (47 : UInt8) ∉ s ∧ s.length ≤ 39 := by
  unfold addr_Text.f textF
  rw [check_ok h, Option.bind_some, if_pos rfl]
  obtain ⟨h1, h2, h3, h4, h5⟩ := h
  cases six
  · rcases h5 with e | ⟨e1, e2⟩
    · cases e
    · subst e1
      obtain ⟨q1, q2, q3⟩ := elder_quad (k + 12) lo h3 e2
      rw [if_neg (by decide), if_pos (by omega)]
      refine ⟨_, rfl, ?_, q2, by omega⟩
      unfold addr_Read.f
      rw [show k + 17 = k + 12 + 5 by omega, q3, Option.bind_some, if_pos rfl]
  · rw [if_pos rfl]
    have hr : rng (cutL hi lo) := cut_rng hi lo
    have h8 : (cutL hi lo).length = 8 := rfl
    have hof : addr_of.f (k + 17) (cutL hi lo) = some (true, hi, lo) := of_cut (k + 8) hi lo h1 h2 h3 h4
    obtain ⟨f, n, hz, hfn, hl⟩ := zL_whole (cutL hi lo)
    rw [h8] at hfn
    rw [hz]
    simp only
    by_cases c : 1 < n
    · rw [if_pos (by omega), if_pos ⟨by omega, by omega⟩, Int.toNat_natCast, show ((f : Int) + (n : Int)).toNat = f + n by omega, join_eq (k + 8) _ (rng_take hr f) (by rw [List.length_take]; omega), Option.bind_some, join_eq (k + 8) _ (rng_drop hr (f + n)) (by rw [List.length_drop]; omega), Option.bind_some]
      have t1 := tx_len ((cutL hi lo).take f)
      have t2 := tx_len ((cutL hi lo).drop (f + n))
      rw [List.length_take, h8] at t1
      rw [List.length_drop, h8] at t2
      rw [if_pos ⟨by rw [mkB_size]; omega, by rw [mkB_size]; omega⟩]
      have es : (mkB (tx ((cutL hi lo).take f)) ++ (⟨#[58, 58]⟩ : ByteArray)) ++ mkB (tx ((cutL hi lo).drop (f + n))) = mkB (tx ((cutL hi lo).take f) ++ 58 :: 58 :: tx ((cutL hi lo).drop (f + n))) := by
        rw [← mkB_eta ((mkB (tx ((cutL hi lo).take f)) ++ (⟨#[58, 58]⟩ : ByteArray)) ++ mkB (tx ((cutL hi lo).drop (f + n))))]
        congr 1
        simp [ByteArray.data_append, mkB]
      rw [es]
      have hm : ∀ b ∈ tx ((cutL hi lo).take f) ++ 58 :: 58 :: tx ((cutL hi lo).drop (f + n)), b ≠ 46 ∧ b ≠ 47 := by
        intro b hb
        rw [List.mem_append, List.mem_cons, List.mem_cons] at hb
        rcases hb with hb | rfl | rfl | hb
        · exact ⟨(tx_mem (rng_take hr f) b hb).1, (tx_mem (rng_take hr f) b hb).2.1⟩
        · decide
        · decide
        · exact ⟨(tx_mem (rng_drop hr (f + n)) b hb).1, (tx_mem (rng_drop hr (f + n)) b hb).2.1⟩
      have hlen : (tx ((cutL hi lo).take f) ++ 58 :: 58 :: tx ((cutL hi lo).drop (f + n))).length ≤ 39 := by
        rw [List.length_append, List.length_cons, List.length_cons]; omega
      exact ⟨_, rfl, read_six k _ _ hi lo (by omega) (fun hb => (hm _ hb).1 rfl) (by simp) (newer_gap k f n _ hr h8 hfn c hl) hof, fun hb => (hm _ hb).2 rfl, hlen⟩
    · rw [if_neg (by omega), join_eq (k + 8) _ hr (by omega), Option.bind_some]
      have t1 : (tx (cutL hi lo)).length ≤ 39 := by
        have := joinTail_len ((cutL hi lo).drop 1)
        show (join ((cutL hi lo).map hx) [58]).length ≤ 39
        unfold cutL at this ⊢
        rw [List.map_cons, join_cons, List.length_append]
        simp only [List.drop_succ_cons, List.drop_zero, List.length_cons, List.length_nil] at this
        have h0 := (hexL_len (g16 hi 3).toNat).2
        unfold hx at *
        omega
      exact ⟨_, rfl, read_six k _ _ hi lo (by omega) (fun hb => (tx_mem hr _ hb).1 rfl) (has58 (by rw [h8]; decide)) (newer_whole k _ hr h8) hof, fun hb => (tx_mem hr _ hb).2.1 rfl, t1⟩
end Go.Proofs.YtbalmnkbodcigaaGreatDoor.AddrFns
set_option linter.unusedSimpArgs false
set_option linter.unusedVariables false
namespace Go.Proofs.YtbalmnkbodcigaaGreatDoor.AddrFns
open Go.RowKit Go.Lib Go.Proofs.YtbalmnkbodcigaaGreatDoor.ORc Go.Proofs.YtbalmnkbodcigaaGreatDoor.AddrLib Go.Proofs.YtbalmnkbodcigaaGreatDoorW.PrintWords Go.Proofs.YtbalmnkbodcigaaGreatDoorW.PrintLast Go.Proofs.YtbalmnkbodcigaaGreatDoorW.PrintMore

/-! ### Great letters -/
def gr (b : UInt8) : UInt8 := if 97 ≤ b.toNat ∧ b.toNat ≤ 102 then b - 32 else b
theorem gr_tab : ∀ c : Fin 256, (decide (gr (UInt8.ofNat c.val) = 58) = decide (UInt8.ofNat c.val = 58)) ∧ (decide (gr (UInt8.ofNat c.val) = 46) = decide (UInt8.ofNat c.val = 46)) ∧ (decide ((gr (UInt8.ofNat c.val)).toNat = 48) = decide (c.val = 48)) ∧ (decide ((gr (UInt8.ofNat c.val)).toNat < 128) = decide (c.val < 128)) ∧ digI ((gr (UInt8.ofNat c.val)).toNat : Int) = digI (c.val : Int) := by decide +kernel
theorem gr_fact (b : UInt8) : (gr b = 58 ↔ b = 58) ∧ (gr b = 46 ↔ b = 46) ∧ ((gr b).toNat = 48 ↔ b.toNat = 48) ∧ ((gr b).toNat < 128 ↔ b.toNat < 128) ∧ digI ((gr b).toNat : Int) = digI (b.toNat : Int) := by
  obtain ⟨h1, h2, h3, h4, h5⟩ := gr_tab ⟨b.toNat, b.toNat_lt⟩
  rw [show UInt8.ofNat (⟨b.toNat, b.toNat_lt⟩ : Fin 256).val = b by simp] at h1 h2 h3 h4 h5
  exact ⟨decide_eq_decide.1 h1, decide_eq_decide.1 h2, decide_eq_decide.1 h3, decide_eq_decide.1 h4, h5⟩
/-- Octets that no great letter comes from. -/
def still (sub : List UInt8) : Prop := ∀ c ∈ sub, ∀ b : UInt8, (c == gr b) = (c == b)
theorem still58 : still [58, 58] ∧ still [58] ∧ still [46] := by
  have e : ∀ b : UInt8, ((58 : UInt8) == gr b) = ((58 : UInt8) == b) := fun b => by
    rw [Bool.eq_iff_iff, beq_iff_eq, beq_iff_eq, eq_comm, (gr_fact b).1, eq_comm]
  have f : ∀ b : UInt8, ((46 : UInt8) == gr b) = ((46 : UInt8) == b) := fun b => by
    rw [Bool.eq_iff_iff, beq_iff_eq, beq_iff_eq, eq_comm, (gr_fact b).2.1, eq_comm]
  refine ⟨?_, ?_, ?_⟩ <;> (intro c hc b; simp only [List.mem_cons, List.not_mem_nil, or_false] at hc; first | (rcases hc with rfl | rfl <;> exact e b) | (subst hc; exact e b) | (subst hc; exact f b))
theorem prefix_gr : ∀ (sub l : List UInt8), still sub → sub.isPrefixOf (l.map gr) = sub.isPrefixOf l
  | [], l, _ => by cases l <;> rfl
  | c :: t, [], _ => rfl
  | c :: t, b :: l, h => by
    rw [List.map_cons, List.isPrefixOf_cons_cons, List.isPrefixOf_cons_cons, h c (by simp) b, prefix_gr t l (fun x hx => h x (by simp [hx]))]
theorem index_gr (sub : List UInt8) (h : still sub) : ∀ l : List UInt8, index (l.map gr) sub = index l sub
  | [] => rfl
  | b :: l => by
    have ih := index_gr sub h l
    have hp := prefix_gr sub (b :: l) h
    rw [List.map_cons] at hp ⊢
    unfold index
    rw [hp, ih]
theorem contains_gr (l sub : List UInt8) (h : still sub) : contains (l.map gr) sub = contains l sub := by
  unfold contains
  rw [index_gr sub h]
theorem cut_gr (l sub : List UInt8) (h : still sub) : cut (l.map gr) sub = ((cut l sub).1.map gr, (cut l sub).2.1.map gr, (cut l sub).2.2) := by
  unfold cut
  rw [index_gr sub h]
  split
  · rw [List.map_take, List.map_drop]
  · rfl
theorem count_gr (sub : List UInt8) (h : still sub) : ∀ (f : Nat) (l : List UInt8), countFrom sub f (l.map gr) = countFrom sub f l
  | 0, _ => rfl
  | f + 1, l => by
    unfold countFrom
    rw [index_gr sub h, ← List.map_drop, count_gr sub h f]
theorem splitK_gr (sub : List UInt8) (h : still sub) : ∀ (k : Nat) (l : List UInt8), splitK sub 0 k (l.map gr) = (splitK sub 0 k l).map (List.map gr)
  | 0, _ => rfl
  | k + 1, l => by
    unfold splitK
    rw [index_gr sub h, ← List.map_drop, splitK_gr sub h k]
    split
    · rfl
    · rw [List.map_cons, List.map_take]
theorem split_gr (l sub : List UInt8) (h : still sub) : split (l.map gr) sub = (split l sub).map (List.map gr) := by
  unfold split count
  rw [List.length_map, count_gr sub h, splitK_gr sub h]
def greatS (s : ByteArray) : ByteArray := mkB (s.data.toList.map gr)
theorem great_mkB (l : List UInt8) : greatS (mkB l) = mkB (l.map gr) := by unfold greatS; rw [mkB_data]
theorem great_data (s : ByteArray) : (greatS s).data.toList = s.data.toList.map gr := mkB_data _
theorem great_size (s : ByteArray) : (greatS s).size = s.size := by unfold greatS; rw [mkB_size, List.length_map, data_length]
theorem great_empty : greatS ByteArray.empty = ByteArray.empty := rfl
theorem great_ascii (s : ByteArray) : ascii (greatS s) = ascii s := by
  unfold ascii
  rw [great_data, List.all_map]
  congr 1
  funext b
  exact decide_eq_decide.2 (gr_fact b).2.2.2.1
theorem great_digs (s : ByteArray) : (bytesOf (greatS s)).map digI = (bytesOf s).map digI := by
  unfold bytesOf
  rw [great_data, List.map_map, List.map_map, List.map_map]
  refine List.map_congr_left fun b _ => ?_
  exact (gr_fact b).2.2.2.2
theorem val_digs (B : Int) (xs : List Int) : valI B xs = (xs.map digI).foldl (fun n d => n * B + d) 0 := by
  unfold valI
  rw [List.foldl_map]
theorem all_digs (B : Int) (xs : List Int) : (∀ x ∈ xs, digI x < B) ↔ ∀ d ∈ xs.map digI, d < B := by
  constructor
  · intro h d hd
    obtain ⟨x, hx, rfl⟩ := List.mem_map.1 hd
    exact h x hx
  · intro h x hx
    exact h _ (List.mem_map_of_mem hx)
theorem numP_great (m B : Int) (s : ByteArray) : numP m B (greatS s) = numP m B s := by
  have hp : (∀ x ∈ bytesOf (greatS s), digI x < B) ↔ (∀ x ∈ bytesOf s, digI x < B) := by rw [all_digs, great_digs, ← all_digs]
  have hv : valI B (bytesOf (greatS s)) = valI B (bytesOf s) := by rw [val_digs, great_digs, ← val_digs]
  unfold numP
  rw [great_size, great_ascii, hv]
  by_cases c : ∀ x ∈ bytesOf s, digI x < B
  · rw [if_pos c, if_pos (hp.2 c)]
  · rw [if_neg c, if_neg (fun e => c (hp.1 e))]
theorem bt_great (s : ByteArray) : decide (bt (greatS s) 0 = 48) = decide (bt s 0 = 48) := by
  rw [bt_rd, bt_rd]
  unfold bytesOf
  rw [great_data]
  cases s.data.toList with
  | nil => rfl
  | cons b l =>
    show decide (((gr b).toNat : Int) = 48) = decide ((b.toNat : Int) = 48)
    have := (gr_fact b).2.2.1
    refine decide_eq_decide.2 ?_
    omega
theorem badO_great (p : Int × Bool) (s : ByteArray) : badO p (greatS s) = badO p s := by
  unfold badO
  rw [great_size, bt_great]
theorem elderK_great (four : Int → Int → Int → Int → Option (Bool × Int × Int)) : ∀ (L : List ByteArray) (acc : List Int), elderK four (L.map greatS) acc = elderK four L acc
  | [], acc => rfl
  | x :: L, acc => by
    rw [List.map_cons, elderK, elderK, numP_great]
    congr 1
    funext p
    rw [badO_great, elderK_great four L]
theorem splitB_great (c : UInt8) (h : still [c]) (s : ByteArray) : splitB (oneS c) 0 (countB (greatS s) (oneS c)) (greatS s) = (splitB (oneS c) 0 (countB s (oneS c)) s).map greatS := by
  rw [splitB_list, splitB_list, great_data, split_gr _ _ h, List.map_map, List.map_map]
  refine List.map_congr_left fun l _ => ?_
  exact (great_mkB l).symm
theorem countB_great (c : UInt8) (h : still [c]) (s : ByteArray) : countB (greatS s) (oneS c) = countB s (oneS c) := by
  have h1 := splitB_all (oneS c) (Nat.le_refl _) 0 _ (greatS s) rfl
  have h2 := splitB_all (oneS c) (Nat.le_refl _) 0 _ s rfl
  rw [splitB_great c h, List.length_map, h2] at h1
  omega
theorem elder_great (k : Nat) (s : ByteArray) : addr_elder.f k (greatS s) = addr_elder.f k s := by
  unfold addr_elder.f elderF
  rw [great_size, splitB_great 46 still58.2.2, countB_great 46 still58.2.2, elderK_great]
theorem number_great (s : ByteArray) (m B : Int) : addr_number.f (greatS s) m B = addr_number.f s m B := by
  unfold addr_number.f
  rw [numP_great]
theorem rd_great (L : List ByteArray) (i : Int) : rdOf ByteArray.empty (L.map greatS) i = greatS (rdOf ByteArray.empty L i) := by
  unfold rdOf
  rw [List.getD_eq_getElem?_getD, List.getD_eq_getElem?_getD, List.getElem?_map]
  cases L[i.toNat]? <;> rfl
theorem part_great_l (last : Bool) (L : List ByteArray) : ∀ k : Nat, (∀ (acc : List Int) (n i : Int), addr_part.l0 k last acc (L.map greatS) (L.map greatS) n i = addr_part.l0 k last acc L L n i) ∧
    (∀ (acc : List Int) (x : ByteArray) (n i : Int) (b c : Bool) (d e : Int), addr_part.j1 k last acc (L.map greatS) (greatS x) (L.map greatS) n i b c d e = addr_part.j1 k last acc L x L n i b c d e)
  | 0 => ⟨fun _ _ _ => rfl, fun _ _ _ _ _ _ _ _ => rfl⟩
  | k + 1 => by
    obtain ⟨ih0, ih1⟩ := part_great_l last L k
    constructor
    · intro acc n i
      rw [addr_part.l0, addr_part.l0]
      simp only [rd_great, elder_great, ih1, List.length_map]
    · intro acc x n i b c d e
      rw [addr_part.j1, addr_part.j1]
      simp only [number_great, ih0]
theorem nil_data {s : ByteArray} : s.toList = ([] : List UInt8) ↔ s.size = 0 := by
  rw [ByteArray.toList_eq, ← data_length]
  exact List.length_eq_zero_iff.symm
theorem part_great (k : Nat) (s : ByteArray) (b : Bool) : addr_part.f k (greatS s) b = addr_part.f k s b := by
  have hs : strings_Split.f (greatS s) (⟨#[58]⟩ : ByteArray) = (strings_Split.f s (⟨#[58]⟩ : ByteArray)).map (List.map greatS) := by
    unfold strings_Split.f
    rw [great_size]
    split
    · have := splitB_great 58 still58.2.1 s
      rw [show oneS 58 = (⟨#[58]⟩ : ByteArray) from rfl] at this
      rw [this]
      rfl
    · rfl
  unfold addr_part.f
  rw [hs]
  by_cases c : s.toList = ([] : List UInt8)
  · rw [if_pos c, if_pos (nil_data.2 (by rw [great_size]; exact nil_data.1 c))]
  · rw [if_neg c, if_neg (fun e => c (nil_data.2 (by have := nil_data.1 e; rw [great_size] at this; exact this)))]
    cases strings_Split.f s (⟨#[58]⟩ : ByteArray) with
    | none => rfl
    | some L =>
      rw [Option.map_some, Option.bind_some, Option.bind_some, List.length_map]
      exact (part_great_l b L k).1 _ _ _
theorem newer_great (k : Nat) (s : ByteArray) : addr_newer.f k (greatS s) = addr_newer.f k s := by
  unfold addr_newer.f newerF
  rw [great_size, great_data, cut_gr _ _ still58.1]
  simp only [contains_gr _ _ still58.1, ← great_mkB, part_great]
theorem read_great (k : Nat) (s : ByteArray) : addr_Read.f k (greatS s) = addr_Read.f k s := by
  have hc : strings_Contains.f (greatS s) (⟨#[58]⟩ : ByteArray) = strings_Contains.f s (⟨#[58]⟩ : ByteArray) := by
    unfold strings_Contains.f
    rw [great_size, great_data, show (⟨#[58]⟩ : ByteArray).data.toList = [58] from rfl, contains_gr _ _ still58.2.1]
  unfold addr_Read.f
  rw [elder_great, newer_great, hc]
end Go.Proofs.YtbalmnkbodcigaaGreatDoor.AddrFns
set_option linter.unusedSimpArgs false
set_option linter.unusedVariables false
namespace Go.Proofs.YtbalmnkbodcigaaGreatDoor.AddrFns
open Go.RowKit Go.Lib Go.Proofs.YtbalmnkbodcigaaGreatDoor.ORc Go.Proofs.YtbalmnkbodcigaaGreatDoor.AddrLib Go.Proofs.YtbalmnkbodcigaaGreatDoorW.PrintWords Go.Proofs.YtbalmnkbodcigaaGreatDoorW.PrintLast Go.Proofs.YtbalmnkbodcigaaGreatDoorW.PrintMore

theorem numP_tot (m B : Int) (s : ByteArray) : ∃ p, numP m B s = some p := by
  unfold numP
  split
  · exact ⟨_, rfl⟩
  · split <;> exact ⟨_, rfl⟩
theorem elderK_tot (k : Nat) : ∀ (L : List ByteArray) (acc : List Int), (∀ x ∈ acc, 0 ≤ x ∧ x < 256) → acc.length + L.length = 4 →
    ∃ r, elderK (addr_Four.f (k + 5)) L acc = some r ∧ (r = (false, 0, 0, false) ∨ ∃ lo : Int, r = (false, 0, lo, true) ∧ 0 ≤ lo ∧ lo < 4294967296)
  | [], acc, h, hl => by
    match acc, hl with
    | [a, b, c, d], _ =>
      have ha := h a (by simp)
      have hb := h b (by simp)
      have hc := h c (by simp)
      have hd := h d (by simp)
      refine ⟨_, by rw [elderK, four_eq k a b c d ha hb hc hd, Option.bind_some], .inr ⟨((a * 256 + b) * 256 + c) * 256 + d, rfl, by omega, by omega⟩⟩
  | x :: L, acc, h, hl => by
    obtain ⟨p, hp⟩ := numP_tot 3 10 x
    have h0 := numP_nonneg (by omega) (by omega) hp
    rw [elderK, hp, Option.bind_some]
    by_cases c : badO p x = true
    · rw [if_pos c]
      exact ⟨_, rfl, .inl rfl⟩
    · rw [if_neg c]
      have h1 : p.1 ≤ 255 := by
        apply Classical.byContradiction
        intro hn
        apply c
        unfold badO
        rw [decide_eq_true (show p.1 > 255 by omega)]
        simp
      refine elderK_tot k L (acc ++ [p.1]) (fun y hy => ?_) (by rw [List.length_append, List.length_singleton]; simp only [List.length_cons] at hl; omega)
      rcases List.mem_append.1 hy with hy | hy
      · exact h y hy
      · obtain rfl := List.mem_singleton.1 hy
        omega
theorem elder_tot (k : Nat) (s : ByteArray) (hs : s.size ≤ 100000) : ∃ r, addr_elder.f (k + 5) s = some r ∧ (r = (false, 0, 0, false) ∨ ∃ lo : Int, r = (false, 0, lo, true) ∧ 0 ≤ lo ∧ lo < 4294967296) := by
  unfold addr_elder.f elderF
  rw [if_pos hs]
  by_cases c : countB s (oneS 46) + 1 = 4
  · rw [if_pos c]
    refine elderK_tot k _ [] (fun x hx => by cases hx) ?_
    rw [splitB_all (oneS 46) (Nat.le_refl _) 0 _ s rfl, c]
    rfl
  · rw [if_neg c]
    exact ⟨_, rfl, .inl rfl⟩
theorem number_tot (s : ByteArray) : ∃ p, addr_number.f s 4 16 = some p := by
  unfold addr_number.f
  rw [if_pos ⟨.inr rfl, by decide⟩]
  exact numP_tot 4 16 s
theorem rng_nil : rng [] := fun x hx => by cases hx
theorem rng_snoc {acc l : List Int} (h : rng acc) (h2 : rng l) : rng (acc ++ l) := fun x hx => (List.mem_append.1 hx).elim (h x) (h2 x)
theorem rng_wrap (x : Int) : 0 ≤ IntKind.u16.wrap x ∧ IntKind.u16.wrap x < 65536 := by rw [wr_u16]; omega
def good (L : List ByteArray) (r : Option (List Int × Bool)) : Prop := ∃ l ok, r = some (l, ok) ∧ rng l ∧ l.length ≤ L.length + 1
theorem part_j1_tot (last : Bool) (L : List ByteArray) (h200 : L.length ≤ 200) (K : Nat) (acc : List Int) (i : Nat) (hi : i < L.length) (hr : rng acc) (ha : acc.length ≤ i) (x : ByteArray)
    (ih : ∀ acc, rng acc → acc.length ≤ i + 1 → good L (addr_part.l0 K last acc L L (L.length : Int) ((i + 1 : Nat) : Int))) (e b : Bool) (c d : Int) : good L (addr_part.j1 (K + 1) last acc L x L (L.length : Int) (i : Int) e b c d) := by
  rw [addr_part.j1]
  cases e with
  | true =>
    rw [if_pos rfl, Option.bind_some, if_pos (by simp only [List.length_cons, List.length_nil]; omega)]
    refine ⟨_, _, rfl, rng_snoc hr (fun y hy => ?_), by rw [List.length_append]; simp only [List.length_cons, List.length_nil]; omega⟩
    simp only [List.mem_cons, List.not_mem_nil, or_false] at hy
    rcases hy with rfl | rfl <;> exact rng_wrap _
  | false =>
    obtain ⟨p, hp⟩ := number_tot x
    rw [if_neg (by decide), hp, Option.bind_some]
    by_cases c : p.2 = true
    · rw [if_pos c, if_pos (by omega), wrap_small i (by omega)]
      exact ih _ (rng_snoc hr (fun y hy => by obtain rfl := List.mem_singleton.1 hy; exact rng_wrap _)) (by rw [List.length_append, List.length_singleton]; omega)
    · rw [if_neg c]
      exact ⟨_, _, rfl, rng_nil, Nat.zero_le _⟩
theorem part_l0_tot (last : Bool) (L : List ByteArray) (hL : ∀ x ∈ L, x.size ≤ 100000) (h200 : L.length ≤ 200) : ∀ (m k i : Nat) (acc : List Int), i + m = L.length → rng acc → acc.length ≤ i →
    good L (addr_part.l0 (k + 5 + 2 * m + 1) last acc L L (L.length : Int) (i : Int)) := by
  intro m
  induction m with
  | zero =>
    intro k i acc hi hr ha
    rw [addr_part.l0, if_neg (by omega)]
    exact ⟨_, _, rfl, hr, by omega⟩
  | succ m ih =>
    intro k i acc hi hr ha
    have hlt : i < L.length := by omega
    have hx : (rdOf ByteArray.empty L (i : Int)).size ≤ 100000 := by
      unfold rdOf
      rw [Int.toNat_natCast, List.getD_eq_getElem?_getD, List.getElem?_eq_getElem hlt]
      exact hL _ (List.getElem_mem hlt)
    obtain ⟨r, he, _⟩ := elder_tot (k + 2 * m + 2) _ hx
    have hj := part_j1_tot last L h200 (k + 5 + 2 * m + 1) acc i hlt hr ha (rdOf ByteArray.empty L (i : Int)) (fun acc' h1 h2 => ih k (i + 1) acc' (by omega) h1 h2)
    rw [show k + 5 + 2 * (m + 1) + 1 = (k + 2 * m + 2 + 5) + 1 by omega, addr_part.l0, if_pos (by omega), if_pos (by omega), if_pos (by omega), he, Option.bind_some]
    rw [show k + 5 + 2 * m + 1 + 1 = k + 2 * m + 2 + 5 by omega] at hj
    split
    · split <;> exact hj _ _ _ _
    · exact hj _ _ _ _
theorem countFrom_le (sub : List UInt8) : ∀ (f : Nat) (l : List UInt8), countFrom sub f l ≤ f
  | 0, _ => Nat.le_refl _
  | f + 1, l => by
    unfold countFrom
    split
    · exact Nat.zero_le _
    · have := countFrom_le sub f (l.drop ((index l sub).toNat + sub.length))
      omega
theorem splitK_mem (sub : List UInt8) : ∀ (k : Nat) (l : List UInt8), (splitK sub 0 k l).length ≤ k + 1 ∧ ∀ x ∈ splitK sub 0 k l, x.length ≤ l.length
  | 0, l => ⟨Nat.le_refl _, fun x hx => by obtain rfl := List.mem_singleton.1 hx; exact Nat.le_refl _⟩
  | k + 1, l => by
    unfold splitK
    split
    · exact ⟨by simp, fun x hx => by obtain rfl := List.mem_singleton.1 hx; exact Nat.le_refl _⟩
    · obtain ⟨h1, h2⟩ := splitK_mem sub k (l.drop ((index l sub).toNat + sub.length))
      refine ⟨by rw [List.length_cons]; omega, fun x hx => ?_⟩
      rcases List.mem_cons.1 hx with rfl | hx
      · rw [List.length_take]; omega
      · have := h2 x hx
        rw [List.length_drop] at this
        omega
theorem part_tot (s : ByteArray) (hs : s.size ≤ 100) (b : Bool) : ∃ l ok, addr_part.f 400 s b = some (l, ok) ∧ rng l ∧ l.length ≤ 200 := by
  unfold addr_part.f
  by_cases c : s.toList = ([] : List UInt8)
  · rw [if_pos c]
    exact ⟨_, _, rfl, rng_nil, Nat.zero_le _⟩
  · have hsp : strings_Split.f s (⟨#[58]⟩ : ByteArray) = some (splitB (oneS 58) 0 (countB s (oneS 58)) s) := by
      unfold strings_Split.f
      rw [if_pos ⟨by omega, rfl⟩]
      rfl
    rw [if_neg c, hsp, Option.bind_some, splitB_list]
    have hd : s.data.toList.length = s.size := data_length s
    obtain ⟨h1, h2⟩ := splitK_mem [58] (count s.data.toList [58]) s.data.toList
    have hc := countFrom_le [58] (s.data.toList.length + 1) s.data.toList
    have hl : ((split s.data.toList [58]).map mkB).length ≤ 110 := by
      rw [List.length_map]
      unfold split
      unfold count at h1 ⊢
      omega
    generalize hL : (split s.data.toList [58]).map mkB = L at *
    have hm : ∀ x ∈ L, x.size ≤ 100000 := by
      intro x hx
      rw [← hL] at hx
      obtain ⟨y, hy, rfl⟩ := List.mem_map.1 hx
      have := h2 y hy
      rw [mkB_size]
      omega
    have := part_l0_tot b L hm (by omega) L.length (400 - 6 - 2 * L.length) 0 [] (by omega) rng_nil (Nat.zero_le _)
    rw [show 400 - 6 - 2 * L.length + 5 + 2 * L.length + 1 = 400 by omega] at this
    obtain ⟨l, ok, e1, e2, e3⟩ := this
    exact ⟨l, ok, e1, e2, by omega⟩
theorem rng_zeros (n : Nat) : rng (List.replicate n 0) := fun x hx => by
  obtain ⟨_, rfl⟩ := List.mem_replicate.1 hx
  omega
theorem newer_tot (s : ByteArray) (hs : s.size ≤ 100) : ∃ l ok, addr_newer.f 400 s = some (l, ok) ∧ (ok = true → l.length = 8 ∧ rng l) := by
  have hc := cut_sizes s.data.toList [58, 58]
  rw [data_length] at hc
  obtain ⟨p, pk, hp, hp2, hp3⟩ := part_tot (mkB (cut s.data.toList [58, 58]).1) (by rw [mkB_size]; omega) (!(cut s.data.toList [58, 58]).2.2)
  obtain ⟨q, qk, hq, hq2, hq3⟩ := part_tot (mkB (cut s.data.toList [58, 58]).2.1) (by rw [mkB_size]; omega) true
  unfold addr_newer.f newerF
  rw [if_pos (by omega)]
  by_cases c1 : contains (cut s.data.toList [58, 58]).2.1 [58, 58] = true
  · rw [if_pos c1]
    exact ⟨_, _, rfl, fun h => by cases h⟩
  · rw [if_neg c1, hp, Option.bind_some]
    by_cases c2 : pk = false
    · rw [if_pos c2]
      exact ⟨_, _, rfl, fun h => by cases h⟩
    · rw [if_neg c2, hq, Option.bind_some]
      by_cases c3 : qk = false
      · rw [if_pos c3]
        exact ⟨_, _, rfl, fun h => by cases h⟩
      · rw [if_neg c3, if_pos ⟨hp3, hq3⟩]
        split
        · exact ⟨_, _, rfl, fun h => by cases h⟩
        · rename_i c4
          refine ⟨_, _, rfl, fun _ => ⟨?_, rng_snoc (rng_snoc hp2 (rng_zeros _)) hq2⟩⟩
          rw [List.length_append, List.length_append, List.length_replicate]
          have h4 : ¬ ((cut s.data.toList [58, 58]).2.2 = true ∧ 8 - (p.length : Int) - (q.length : Int) < 1) := fun h => c4 (.inl h)
          have h5 : ¬ ((cut s.data.toList [58, 58]).2.2 = false ∧ 8 - (p.length : Int) - (q.length : Int) ≠ 0) := fun h => c4 (.inr h)
          cases hg : (cut s.data.toList [58, 58]).2.2 with
          | true =>
            have : ¬ 8 - (p.length : Int) - (q.length : Int) < 1 := fun h => h4 ⟨hg, h⟩
            show p.length + (8 - (p.length : Int) - (q.length : Int)).toNat + q.length = 8
            omega
          | false =>
            have : ¬ 8 - (p.length : Int) - (q.length : Int) ≠ 0 := fun h => h5 ⟨hg, h⟩
            show p.length + (8 - (p.length : Int) - (q.length : Int)).toNat + q.length = 8
            omega
theorem read_tot (s : ByteArray) (hs : s.size ≤ 100) : ∃ six hi lo e, addr_Read.f 400 s = some (six, hi, lo, e) ∧ ((e = 0 ∧ ok2 six hi lo) ∨ (e = 7 ∧ six = false ∧ hi = 0 ∧ lo = 0)) := by
  obtain ⟨r, he, hr⟩ := elder_tot 395 s (by omega)
  unfold addr_Read.f
  rw [show (400 : Nat) = 395 + 5 from rfl, he, Option.bind_some]
  rcases hr with rfl | ⟨lo, rfl, l0, l1⟩
  · rw [if_neg (by decide)]
    have hc : strings_Contains.f s (⟨#[58]⟩ : ByteArray) = some (contains s.data.toList [58]) := by
      unfold strings_Contains.f
      rw [if_pos (by omega)]
    rw [hc, Option.bind_some]
    by_cases c : contains s.data.toList [58] = true
    · obtain ⟨l, ok, hn, hok⟩ := newer_tot s hs
      rw [if_pos c, show (395 : Nat) + 5 = 400 from rfl, hn, Option.bind_some]
      by_cases c2 : ok = true
      · obtain ⟨h8, hrng⟩ := hok c2
        rw [if_pos c2]
        match l, h8, hrng with
        | [a0, a1, a2, a3, a4, a5, a6, a7], _, hrng =>
          have hof := of_eq 391 a0 a1 a2 a3 a4 a5 a6 a7 hrng
          have b0 := hrng a0 (by simp)
          have b1 := hrng a1 (by simp)
          have b2 := hrng a2 (by simp)
          have b3 := hrng a3 (by simp)
          have b4 := hrng a4 (by simp)
          have b5 := hrng a5 (by simp)
          have b6 := hrng a6 (by simp)
          have b7 := hrng a7 (by simp)
          rw [show (400 : Nat) = 391 + 9 from rfl, hof, Option.bind_some]
          have g1 : 0 ≤ ((a0 * 65536 + a1) * 65536 + a2) * 65536 + a3 ∧ ((a0 * 65536 + a1) * 65536 + a2) * 65536 + a3 < 18446744073709551616 := by omega
          have g2 : 0 ≤ ((a4 * 65536 + a5) * 65536 + a6) * 65536 + a7 ∧ ((a4 * 65536 + a5) * 65536 + a6) * 65536 + a7 < 18446744073709551616 := by omega
          exact ⟨_, _, _, _, rfl, .inl ⟨rfl, g1.1, g1.2, g2.1, g2.2, .inl rfl⟩⟩
      · rw [if_neg c2]
        exact ⟨_, _, _, _, rfl, .inr ⟨rfl, rfl, rfl, rfl⟩⟩
    · rw [if_neg c]
      exact ⟨_, _, _, _, rfl, .inr ⟨rfl, rfl, rfl, rfl⟩⟩
  · rw [if_pos rfl]
    have l2 : lo < 18446744073709551616 := by omega
    exact ⟨_, _, _, _, rfl, .inl ⟨rfl, Int.le_refl 0, (by show (0 : Int) < 18446744073709551616; decide), l0, l2, .inr ⟨rfl, l1⟩⟩⟩
end Go.Proofs.YtbalmnkbodcigaaGreatDoor.AddrFns
set_option linter.unusedSimpArgs false
set_option linter.unusedVariables false
namespace Go.Proofs.YtbalmnkbodcigaaGreatDoor.AddrFns
open Go.RowKit Go.Lib Go.Proofs.YtbalmnkbodcigaaGreatDoor.ORc Go.Proofs.YtbalmnkbodcigaaGreatDoor.AddrLib Go.Proofs.YtbalmnkbodcigaaGreatDoorW.PrintWords Go.Proofs.YtbalmnkbodcigaaGreatDoorW.PrintLast Go.Proofs.YtbalmnkbodcigaaGreatDoorW.PrintMore

/-! ### Pieces -/
def splitR (c : UInt8) : List UInt8 → List (List UInt8)
  | [] => [[]]
  | b :: l => if b = c then [] :: splitR c l else match splitR c l with
    | [] => [[b]]
    | h :: t => (b :: h) :: t
theorem splitR_ne (c : UInt8) (l : List UInt8) : splitR c l ≠ [] := by
  cases l with
  | nil => simp [splitR]
  | cons b l =>
    unfold splitR
    split
    · simp
    · split <;> simp
theorem splitR_mem (c : UInt8) : ∀ l : List UInt8, ∀ x ∈ splitR c l, c ∉ x
  | [], x, hx => by
    simp only [splitR, List.mem_singleton] at hx
    subst hx
    simp
  | b :: l, x, hx => by
    have ih := splitR_mem c l
    unfold splitR at hx
    split at hx
    · rcases List.mem_cons.1 hx with rfl | hx
      · simp
      · exact ih x hx
    · rename_i hb
      split at hx
      · rename_i h0; exact absurd h0 (splitR_ne c l)
      · rename_i h t heq
        rw [heq] at ih
        rcases List.mem_cons.1 hx with rfl | hx
        · have := ih h (by simp)
          simp only [List.mem_cons, not_or]
          exact ⟨fun e => hb e.symm, this⟩
        · exact ih x (by simp [hx])
theorem splitR_join (c : UInt8) : ∀ l : List UInt8, join (splitR c l) [c] = l
  | [] => by simp [splitR, join_cons, joinTail]
  | b :: l => by
    have ih := splitR_join c l
    unfold splitR
    split
    · rename_i hb
      subst hb
      cases h : splitR b l with
      | nil => exact absurd h (splitR_ne b l)
      | cons x t =>
        rw [h] at ih
        rw [join_cons] at ih ⊢
        rw [show joinTail [b] (x :: t) = b :: (x ++ joinTail [b] t) by simp [joinTail], ih]
        rfl
    · split
      · rename_i h0; exact absurd h0 (splitR_ne c l)
      · rename_i h t heq
        rw [heq, join_cons] at ih
        rw [join_cons, List.cons_append, ih]
theorem split_R (c : UInt8) (l : List UInt8) : split l [c] = splitR c l := by
  have := split_join c (splitR c l) (splitR_ne c l) (splitR_mem c l)
  rw [splitR_join] at this
  exact this
def glueC (cur : List UInt8) : List (List UInt8) → List ByteArray
  | [] => [mkB cur]
  | h :: t => mkB (cur ++ h) :: t.map mkB
theorem glue_nil (c : UInt8) (l : List UInt8) : glueC [] (splitR c l) = (splitR c l).map mkB := by
  cases h : splitR c l with
  | nil => exact absurd h (splitR_ne c l)
  | cons x t => rfl
theorem bt_data (s : ByteArray) (i : Nat) (hi : i < s.size) : bt s (i : Int) = ((s.data.toList[i]'(by rw [data_length]; exact hi)).toNat : Int) := by
  rw [bt_rd]
  unfold rd bytesOf
  rw [Int.toNat_natCast, List.getD_eq_getElem?_getD, List.getElem?_map, List.getElem?_eq_getElem (by rw [data_length]; exact hi)]
  rfl
theorem ext_one (s : ByteArray) (i : Nat) (hi : i < s.size) : s.extract i (i + 1) = mkB [s.data.toList[i]'(by rw [data_length]; exact hi)] := by
  apply bytesOf_inj
  rw [bytesOf_extract, mkB_bytes]
  have hl : i < (bytesOf s).length := by rw [bytesOf_length]; exact hi
  rw [List.drop_take, show i + 1 - i = 1 by omega, List.drop_eq_getElem_cons hl]
  simp [bytesOf]
theorem mkB_app2 (a b : List UInt8) : mkB a ++ mkB b = mkB (a ++ b) := by
  rw [← mkB_eta (mkB a ++ mkB b)]
  congr 1
theorem set_last {α : Type} (A : List α) (x y : α) : (A ++ [x]).set A.length y = A ++ [y] := by
  rw [List.set_append_right _ _ (Nat.le_refl _), Nat.sub_self]
  rfl
theorem parts_l0 (s : ByteArray) (hs : s.size ≤ 1000) (c : UInt8) : ∀ (m i k : Nat) (A : List ByteArray) (cur : List UInt8), i + m = s.size → A.length ≤ i → cur.length ≤ i →
    nameplateref04_parts.l0 (k + m + 1) s (c.toNat : Int) (A ++ [mkB cur]) (i : Int) = some (A ++ glueC cur (splitR c (s.data.toList.drop i)))
  | 0, i, k, A, cur, hi, hA, hc => by
    rw [nameplateref04_parts.l0, if_neg (by omega), List.drop_eq_nil_of_le (by rw [data_length]; omega)]
    simp [splitR, glueC]
  | m + 1, i, k, A, cur, hi, hA, hc => by
    have hlt : i < s.size := by omega
    have hld : i < s.data.toList.length := by rw [data_length]; exact hlt
    have hw : wrap64 ((i : Int) + 1) = ((i + 1 : Nat) : Int) := by unfold wrap64; omega
    rw [show k + (m + 1) + 1 = (k + m + 1) + 1 by omega, nameplateref04_parts.l0, if_pos (by omega), if_pos (by omega), bt_data s i hlt, hw, List.drop_eq_getElem_cons hld]
    have hext := ext_one s i hlt
    generalize s.data.toList[i] = b at *
    by_cases hb : b = c
    · subst hb
      have e1 : splitR b (b :: s.data.toList.drop (i + 1)) = [] :: splitR b (s.data.toList.drop (i + 1)) := by rw [splitR, if_pos rfl]
      rw [if_pos rfl, if_pos (by rw [List.length_append]; simp only [List.length_cons, List.length_nil]; omega), show (⟨#[]⟩ : ByteArray) = mkB [] from rfl, parts_l0 s hs b m (i + 1) k (A ++ [mkB cur]) [] (by omega) (by rw [List.length_append]; simp only [List.length_cons, List.length_nil]; omega) (Nat.zero_le _), glue_nil, e1]
      simp [glueC]
    · have hl : wrap64 (((A ++ [mkB cur]).length : Int) - 1) = (A.length : Int) := by
        rw [List.length_append]
        simp only [List.length_cons, List.length_nil]
        unfold wrap64
        omega
      have hne : ¬ (b.toNat : Int) = (c.toNat : Int) := fun e => hb (UInt8.toNat_inj.1 (by omega))
      have hrd : rdOf ByteArray.empty (A ++ [mkB cur]) (A.length : Int) = mkB cur := by
        unfold rdOf
        rw [Int.toNat_natCast, List.getD_eq_getElem?_getD, List.getElem?_append_right (Nat.le_refl _), Nat.sub_self]
        rfl
      rw [if_neg hne, hl, if_pos (by omega), if_pos (by rw [List.length_append]; simp only [List.length_cons, List.length_nil]; omega), if_pos (by omega), if_pos (by omega), hrd, Int.toNat_natCast, Int.toNat_natCast, hext, if_pos (by rw [mkB_size, mkB_size]; simp only [List.length_cons, List.length_nil]; omega), Int.toNat_natCast, set_last, mkB_app2, parts_l0 s hs c m (i + 1) k A (cur ++ [b]) (by omega) (by omega) (by rw [List.length_append]; simp only [List.length_cons, List.length_nil]; omega)]
      congr 2
      rw [splitR, if_neg hb]
      cases h : splitR c (s.data.toList.drop (i + 1)) with
      | nil => exact absurd h (splitR_ne c _)
      | cons x t => simp [glueC]
theorem parts_eq (s : ByteArray) (hs : s.size ≤ 1000) (c : UInt8) (k : Nat) (hk : s.size + 1 ≤ k) : nameplateref04_parts.f k s (c.toNat : Int) = some (splitB (oneS c) 0 (countB s (oneS c)) s) := by
  unfold nameplateref04_parts.f
  have := parts_l0 s hs c s.size 0 (k - s.size - 1) [] [] (by omega) (Nat.zero_le _) (Nat.zero_le _)
  rw [show k - s.size - 1 + s.size + 1 = k by omega, List.nil_append, List.nil_append, List.drop_zero, glue_nil, ← split_R, ← splitB_list] at this
  exact this
/-! ### Small numbers -/
theorem digI_10 (c : Int) : digI c < 10 ↔ 48 ≤ c ∧ c ≤ 57 := by
  unfold digI
  split
  · omega
  · split
    · omega
    · split <;> omega
theorem digI_val {c : Int} (h : 48 ≤ c ∧ c ≤ 57) : digI c = c - 48 := by unfold digI; rw [if_pos h]
theorem val_snoc2 (B : Int) (l : List Int) (x : Int) : valI B (l ++ [x]) = valI B l * B + digI x := valI_snoc B l x
theorem getD_bt (s : ByteArray) (i : Nat) : (bytesOf s).getD i 0 = bt s (i : Int) := by rw [bt_rd]; unfold rd; rw [Int.toNat_natCast]
theorem small_l0 (x : ByteArray) (hx : x.size ≤ 3) : ∀ (m i k : Nat), i + m = x.size → (∀ c ∈ (bytesOf x).take i, digI c < 10) → 0 ≤ valI 10 ((bytesOf x).take i) → valI 10 ((bytesOf x).take i) < 10 ^ i →
    nameplateref04_small.l0 (k + m + 1) x (valI 10 ((bytesOf x).take i)) (i : Int) = some (if ∀ c ∈ bytesOf x, digI c < 10 then (if valI 10 (bytesOf x) > 255 then -1 else valI 10 (bytesOf x)) else -1)
  | 0, i, k, hi, h1, h2, h3 => by
    have hl := bytesOf_length x
    rw [List.take_of_length_le (by omega)] at h1 h2 h3 ⊢
    rw [nameplateref04_small.l0, if_neg (by omega), if_pos h1]
    split <;> rfl
  | m + 1, i, k, hi, h1, h2, h3 => by
    have hl := bytesOf_length x
    have hlt : i < (bytesOf x).length := by omega
    have hw : wrap64 ((i : Int) + 1) = ((i + 1 : Nat) : Int) := by unfold wrap64; omega
    have hb : bt x (i : Int) = (bytesOf x)[i] := by rw [← getD_bt, List.getD_eq_getElem?_getD, List.getElem?_eq_getElem hlt]; rfl
    have hmem : (bytesOf x)[i] ∈ bytesOf x := List.getElem_mem hlt
    have htake : (bytesOf x).take (i + 1) = (bytesOf x).take i ++ [(bytesOf x)[i]] := List.take_succ_eq_append_getElem hlt
    rw [show k + (m + 1) + 1 = (k + m + 1) + 1 by omega, nameplateref04_small.l0, if_pos (by omega), if_pos (by omega), hb, hw]
    have bad : ¬ (48 ≤ (bytesOf x)[i] ∧ (bytesOf x)[i] ≤ 57) → ¬ ∀ c ∈ bytesOf x, digI c < 10 := fun hn h => hn ((digI_10 _).1 (h _ hmem))
    by_cases c1 : (bytesOf x)[i] < 48
    · rw [if_pos c1, if_neg (bad (by omega))]
    · rw [if_neg c1]
      by_cases c2 : (bytesOf x)[i] > 57
      · rw [if_pos c2, if_neg (bad (by omega))]
      · have hd : 48 ≤ (bytesOf x)[i] ∧ (bytesOf x)[i] ≤ 57 := by omega
        have hv := val_snoc2 10 ((bytesOf x).take i) (bytesOf x)[i]
        rw [digI_val hd, ← htake] at hv
        have h10 : (10 : Int) ^ i ≤ 100 := by
          have t : ∀ j : Fin 3, (10 : Int) ^ j.val ≤ 100 := by decide
          exact t ⟨i, by omega⟩
        have hs : (10 : Int) ^ (i + 1) = 10 ^ i * 10 := Int.pow_succ _ _
        rw [if_neg c2]
        have e : wrap64 (wrap64 (10 * valI 10 ((bytesOf x).take i)) + ((bytesOf x)[i] - 48) % 256) = valI 10 ((bytesOf x).take (i + 1)) := by
          rw [hv]
          unfold wrap64
          omega
        rw [e]
        refine small_l0 x hx m (i + 1) k (by omega) ?_ (by rw [hv]; omega) (by rw [hv, hs]; omega)
        rw [htake]
        intro c hc
        rcases List.mem_append.1 hc with hc | hc
        · exact h1 c hc
        · obtain rfl := List.mem_singleton.1 hc
          exact (digI_10 _).2 hd
theorem ascii_digs {x : ByteArray} (h : ∀ c ∈ bytesOf x, digI c < 10) : ascii x = true := by
  unfold ascii
  rw [List.all_eq_true]
  intro b hb
  have := (digI_10 _).1 (h (b.toNat : Int) (List.mem_map_of_mem hb))
  exact decide_eq_true (by omega)
/-- A small number is what the program's number is, where nothing bars it. -/
theorem small_eq (x : ByteArray) (k : Nat) (hk : 6 ≤ k) : ∃ p n, numP 3 10 x = some p ∧ nameplateref04_small.f k x = some n ∧ (if badO p x = true then n < 0 else n = p.1 ∧ 0 ≤ n ∧ n < 256) := by
  obtain ⟨k, rfl⟩ : ∃ q, k = q + 1 := ⟨k - 1, by omega⟩
  have j0t : nameplateref04_small.j0 (k + 1) x true = some (-1) := by rw [nameplateref04_small.j0, if_pos rfl]
  have hbadF : ∀ p : Int × Bool, p.2 = false → badO p x = true := fun p hp => by unfold badO; rw [hp]; rfl
  by_cases c0 : x.size = 0 ∨ (x.size : Int) > 3
  · refine ⟨(0, false), -1, by unfold numP; rw [if_pos c0], ?_, by rw [if_pos (hbadF _ rfl)]; decide⟩
    unfold nameplateref04_small.f
    by_cases c1 : (x.size : Int) < 1
    · rw [if_pos c1, j0t]
    · rw [if_neg c1, if_pos (by omega), j0t]
  · have h3 : x.size ≤ 3 := by omega
    have hl := small_l0 x h3 x.size 0 (k - x.size - 1) (Nat.zero_add _) (fun c hc => by simp at hc) (Int.le_refl _) (by rw [List.take_zero]; decide)
    rw [show k - x.size - 1 + x.size + 1 = k by omega, List.take_zero, show valI 10 [] = 0 from rfl, show ((0 : Nat) : Int) = 0 from rfl] at hl
    have j0f : nameplateref04_small.j0 (k + 1) x false = some (if ∀ c ∈ bytesOf x, digI c < 10 then (if valI 10 (bytesOf x) > 255 then -1 else valI 10 (bytesOf x)) else -1) := by rw [nameplateref04_small.j0, if_neg (by decide), hl]
    have hn : numP 3 10 x = some (if (∀ c ∈ bytesOf x, digI c < 10) then (valI 10 (bytesOf x), true) else (0, false)) := by
      unfold numP
      rw [if_neg c0]
      by_cases a : ascii x = true
      · rw [if_pos a]
      · rw [if_neg a, if_neg (fun h => a (ascii_digs h))]
    have hf : nameplateref04_small.f (k + 1) x = nameplateref04_small.j0 (k + 1) x (decide ((x.size : Int) > 1) && (bt x 0 == 48)) := by
      unfold nameplateref04_small.f
      rw [if_neg (by omega), if_neg (by omega)]
      by_cases c1 : (x.size : Int) > 1
      · rw [if_pos c1, if_pos (by omega), decide_eq_true c1]
        rfl
      · rw [if_neg c1, decide_eq_false c1]
        rfl
    by_cases c2 : (decide ((x.size : Int) > 1) && (bt x 0 == 48)) = true
    · refine ⟨_, -1, hn, by rw [hf, c2, j0t], ?_⟩
      rw [if_pos]
      · decide
      · unfold badO
        have : (decide (x.size > 1) && decide (bt x 0 = 48)) = true := by
          simp only [Bool.and_eq_true, decide_eq_true_eq, beq_iff_eq] at c2 ⊢
          omega
        rw [this]
        simp
    · have c2 := Bool.eq_false_iff.2 c2
      refine ⟨_, _, hn, by rw [hf, c2, j0f], ?_⟩
      by_cases c3 : ∀ c ∈ bytesOf x, digI c < 10
      · rw [if_pos c3, if_pos c3]
        have hz : (decide (x.size > 1) && decide (bt x 0 = 48)) = false := by
          rw [Bool.eq_false_iff] at c2 ⊢
          intro h
          apply c2
          simp only [Bool.and_eq_true, decide_eq_true_eq, beq_iff_eq] at h ⊢
          omega
        have hnn := numP_nonneg (by omega) (by omega) hn
        rw [if_pos c3] at hnn
        simp only at hnn
        by_cases c4 : valI 10 (bytesOf x) > 255
        · rw [if_pos c4, if_pos]
          · decide
          · unfold badO
            rw [decide_eq_true (show (valI 10 (bytesOf x), true).1 > 255 from c4)]
            simp
        · rw [if_neg c4, if_neg]
          · exact ⟨rfl, hnn, by omega⟩
          · unfold badO
            rw [decide_eq_false (show ¬ (valI 10 (bytesOf x), true).1 > 255 from c4), hz]
            simp
      · rw [if_neg c3, if_neg c3, if_pos (hbadF _ rfl)]
        decide
end Go.Proofs.YtbalmnkbodcigaaGreatDoor.AddrFns
set_option linter.unusedSimpArgs false
set_option linter.unusedVariables false
namespace Go.Proofs.YtbalmnkbodcigaaGreatDoor.AddrFns
open Go.RowKit Go.Lib Go.Proofs.YtbalmnkbodcigaaGreatDoor.ORc Go.Proofs.YtbalmnkbodcigaaGreatDoor.AddrLib Go.Proofs.YtbalmnkbodcigaaGreatDoorW.PrintWords Go.Proofs.YtbalmnkbodcigaaGreatDoorW.PrintLast Go.Proofs.YtbalmnkbodcigaaGreatDoorW.PrintMore

/-! ### Elder addresses -/
theorem wr64 (n : Int) (h0 : 0 ≤ n) (h1 : n < 18446744073709551616) : IntKind.u64.wrap n = n := wr_u64 n h0 h1
theorem rfour_eq (k : Nat) (a b c d : Int) (ha : 0 ≤ a ∧ a < 256) (hb : 0 ≤ b ∧ b < 256) (hc : 0 ≤ c ∧ c < 256) (hd : 0 ≤ d ∧ d < 256) : nameplateref04_Four.f a b c d = addr_Four.f (k + 5) a b c d := by
  rw [four_eq k a b c d ha hb hc hd]
  unfold nameplateref04_Four.f
  have w : ∀ n : Int, 0 ≤ n → n < 2 ^ 64 → IntKind.u64.wrap n = n := fun n h0 h1 => wr_u64 n h0 (by simpa using h1)
  have j := fun (i : Nat) (x y : Int) h1 h2 h3 h4 h5 h6 => bits_join .u64 64 (by decide) w i x y h1 h2 h3 h4 h5 h6
  rw [wr64 a ha.1 (by omega), wr64 b hb.1 (by omega), wr64 c hc.1 (by omega), wr64 d hd.1 (by omega), wr64 (a * 16777216) (by omega) (by omega), wr64 (b * 65536) (by omega) (by omega), wr64 (c * 256) (by omega) (by omega)]
  rw [j 24 (a * 16777216) (b * 65536) (by omega) (by simp only [Int.reducePow]; omega) (by simp only [Int.reducePow]; omega) (by omega) (by simp only [Int.reducePow]; omega) (by simp only [Int.reducePow]; omega)]
  rw [j 16 (a * 16777216 + b * 65536) (c * 256) (by omega) (by simp only [Int.reducePow]; omega) (by simp only [Int.reducePow]; omega) (by omega) (by simp only [Int.reducePow]; omega) (by simp only [Int.reducePow]; omega)]
  rw [j 8 (a * 16777216 + b * 65536 + c * 256) d (by omega) (by simp only [Int.reducePow]; omega) (by simp only [Int.reducePow]; omega) (by omega) (by simp only [Int.reducePow]; omega) (by simp only [Int.reducePow]; omega)]
  rw [show a * 16777216 + b * 65536 + c * 256 + d = ((a * 256 + b) * 256 + c) * 256 + d by omega]
theorem wr_u8 (n : Int) (h : 0 ≤ n ∧ n < 256) : IntKind.u8.wrap n = n := by
  have : IntKind.u8.wrap n = n % 256 := by first | rfl | (simp [IntKind.wrap]; done) | (unfold IntKind.wrap; simp [IntKind.bits])
  rw [this]
  omega
theorem relderK_eq (k : Nat) (hk : 6 ≤ k) : ∀ (L : List ByteArray) (acc : List Int), (∀ x ∈ acc, 0 ≤ x ∧ x < 256) → acc.length + L.length = 4 → refK (nameplateref04_small.f k) nameplateref04_Four.f L acc = elderK (addr_Four.f k) L acc
  | [], acc, h, hl => by
    match acc, hl with
    | [a, b, c, d], _ =>
      have e := rfour_eq (k - 5) a b c d (h a (by simp)) (h b (by simp)) (h c (by simp)) (h d (by simp))
      rw [show k - 5 + 5 = k by omega] at e
      rw [refK, elderK, e]
  | x :: L, acc, h, hl => by
    obtain ⟨p, n, hp, hn, hs⟩ := small_eq x k hk
    rw [refK, elderK, hp, hn, Option.bind_some, Option.bind_some]
    by_cases c : badO p x = true
    · rw [if_pos c] at hs ⊢
      rw [if_pos hs]
    · rw [if_neg c] at hs ⊢
      obtain ⟨rfl, h0, h1⟩ := hs
      rw [if_neg (by omega), wr_u8 _ ⟨h0, h1⟩]
      refine relderK_eq k hk L (acc ++ [p.1]) (fun y hy => ?_) (by rw [List.length_append, List.length_singleton]; simp only [List.length_cons] at hl; omega)
      rcases List.mem_append.1 hy with hy | hy
      · exact h y hy
      · obtain rfl := List.mem_singleton.1 hy
        omega
theorem relder_eq (s : ByteArray) (hs : s.size ≤ 1000) (k : Nat) (hk : s.size + 6 ≤ k) : nameplateref04_elder.f k s = addr_elder.f k s := by
  unfold nameplateref04_elder.f refElderF addr_elder.f elderF
  have hp := parts_eq s hs 46 k (by omega)
  rw [show (((46 : UInt8).toNat : Nat) : Int) = 46 from rfl] at hp
  have hl := splitB_all (oneS 46) (Nat.le_refl _) 0 _ s rfl
  have hsz : s.size ≤ 100000 := by omega
  simp only [hp, Option.bind_some, if_pos hsz, hl]
  by_cases c : countB s (oneS 46) + 1 = 4
  · rw [if_pos c, if_pos c]
    exact relderK_eq k (by omega) _ [] (fun x hx => by cases hx) (by rw [hl, c]; rfl)
  · rw [if_neg c, if_neg c]
/-! ### Where two colons stand -/
theorem two_at (s : ByteArray) (i : Nat) (hi : i + 2 ≤ s.size) : (s.extract i (i + 2)).toList = ([58, 58] : List UInt8) ↔ ([58, 58] : List UInt8).isPrefixOf (s.data.toList.drop i) = true := by
  have hl : s.data.toList.length = s.size := data_length s
  have e : (s.extract i (i + 2)).toList = (s.data.toList.drop i).take 2 := by
    rw [ByteArray.toList_eq, ByteArray.data_extract, Array.toList_extract]
    simp [List.extract_eq_take_drop]
  rw [e, List.drop_eq_getElem_cons (by omega : i < s.data.toList.length), List.drop_eq_getElem_cons (by omega : i + 1 < s.data.toList.length)]
  generalize s.data.toList[i] = a
  generalize s.data.toList[i + 1] = b
  rw [List.isPrefixOf_cons_cons, List.isPrefixOf_cons_cons, List.take_succ_cons, List.take_succ_cons, List.take_zero]
  simp only [List.cons.injEq, and_true, Bool.and_eq_true, beq_iff_eq, List.isPrefixOf_nil_left]
  exact ⟨fun ⟨h1, h2⟩ => ⟨h1.symm, h2.symm⟩, fun ⟨h1, h2⟩ => ⟨h1.symm, h2.symm⟩⟩
theorem index_short (l : List UInt8) (h : l.length ≤ 1) : index l [58, 58] = -1 := by
  match l, h with
  | [], _ => rfl
  | [a], _ => simp [index, List.isPrefixOf]
theorem twice_l0 (s : ByteArray) (hs : s.size ≤ 1000) : ∀ (m i k : Nat), i + m = s.size → nameplateref04_twice.l0 (k + m + 1) s (i : Int) = some (if index (s.data.toList.drop i) [58, 58] = -1 then -1 else index (s.data.toList.drop i) [58, 58] + i)
  | m, i, k, hi => by
    have hl : s.data.toList.length = s.size := data_length s
    have hw : wrap64 ((i : Int) + 1) = ((i + 1 : Nat) : Int) := by unfold wrap64; omega
    have hw2 : wrap64 ((i : Int) + 2) = ((i + 2 : Nat) : Int) := by unfold wrap64; omega
    by_cases c : i + 1 < s.size
    · obtain ⟨m, rfl⟩ : ∃ q, m = q + 1 := ⟨m - 1, by omega⟩
      rw [show k + (m + 1) + 1 = (k + m + 1) + 1 by omega, nameplateref04_twice.l0, hw, hw2, if_pos (by omega), if_pos (by omega), if_pos (by omega), if_pos (by omega), Int.toNat_natCast, Int.toNat_natCast]
      have ih := twice_l0 s hs m (i + 1) k (by omega)
      rw [List.drop_eq_getElem_cons (by omega : i < s.data.toList.length)]
      by_cases d : (s.extract i (i + 2)).toList = ([58, 58] : List UInt8)
      · have d2 := (two_at s i (by omega)).1 d
        rw [List.drop_eq_getElem_cons (by omega : i < s.data.toList.length)] at d2
        rw [if_pos d, index, if_pos d2, if_neg (by decide)]
        congr 1
        omega
      · have d2 : ¬ ([58, 58] : List UInt8).isPrefixOf (s.data.toList[i] :: s.data.toList.drop (i + 1)) = true := fun e => d ((two_at s i (by omega)).2 (by rw [List.drop_eq_getElem_cons (by omega : i < s.data.toList.length)]; exact e))
        rw [if_neg d, ih, index, if_neg d2]
        have hge := index_ge (s.data.toList.drop (i + 1)) [58, 58]
        by_cases e : index (s.data.toList.drop (i + 1)) [58, 58] = -1
        · rw [if_pos e, if_pos (beq_iff_eq.2 e), if_pos rfl]
        · rw [if_neg e, if_neg (fun z => e (beq_iff_eq.1 z)), if_neg (by omega)]
          congr 1
          omega
    · rw [nameplateref04_twice.l0, hw, if_neg (by omega), index_short _ (by rw [List.length_drop]; omega), if_pos rfl]
theorem twice_eq (s : ByteArray) (hs : s.size ≤ 1000) (k : Nat) (hk : s.size + 1 ≤ k) : nameplateref04_twice.f k s = some (index s.data.toList [58, 58]) := by
  unfold nameplateref04_twice.f
  have := twice_l0 s hs s.size 0 (k - s.size - 1) (Nat.zero_add _)
  rw [show k - s.size - 1 + s.size + 1 = k by omega, List.drop_zero, show ((0 : Nat) : Int) = 0 from rfl] at this
  rw [this]
  split
  · rename_i h; rw [h]
  · rw [Int.add_zero]
end Go.Proofs.YtbalmnkbodcigaaGreatDoor.AddrFns
set_option linter.unusedSimpArgs false
set_option linter.unusedVariables false
namespace Go.Proofs.YtbalmnkbodcigaaGreatDoor.AddrFns
open Go.RowKit Go.Lib Go.Proofs.YtbalmnkbodcigaaGreatDoor.ORc Go.Proofs.YtbalmnkbodcigaaGreatDoor.AddrLib Go.Proofs.YtbalmnkbodcigaaGreatDoorW.PrintWords Go.Proofs.YtbalmnkbodcigaaGreatDoorW.PrintLast Go.Proofs.YtbalmnkbodcigaaGreatDoorW.PrintMore

/-! ### One group -/
theorem fold_byte (x : ByteArray) (i : Nat) (hi : i < x.size) : nameplateref01_Fold.f (x.extract i (i + 1)) = some (foldS (x.extract i (i + 1))) ∧ (foldS (x.extract i (i + 1))).size = 1 ∧ bt (foldS (x.extract i (i + 1))) 0 = foldI (bt x (i : Int)) := by
  have hz : (x.extract i (i + 1)).size = 1 := by rw [ByteArray.size_extract]; omega
  refine ⟨?_, by rw [foldS_size, hz], ?_⟩
  · unfold nameplateref01_Fold.f
    rw [if_pos (by rw [hz]; decide)]
  · rw [bt_rd, bytesOf_foldS, ext_one x i hi, mkB_bytes, bt_data x i hi]
    rfl
theorem digI_16 (b : Int) (h0 : 0 ≤ b) (h1 : b < 256) : (digI b < 16 ↔ (48 ≤ foldI b ∧ foldI b ≤ 57) ∨ (97 ≤ foldI b ∧ foldI b ≤ 102)) ∧ ((48 ≤ foldI b ∧ foldI b ≤ 57) → digI b = foldI b - 48) ∧ ((97 ≤ foldI b ∧ foldI b ≤ 102) → digI b = foldI b - 97 + 10) := by
  unfold digI foldI
  refine ⟨?_, ?_, ?_⟩ <;> (repeat' split) <;> omega
theorem group_l0 (x : ByteArray) (hx : x.size ≤ 4) : ∀ (m i k : Nat), i + m = x.size → (∀ c ∈ (bytesOf x).take i, digI c < 16) → 0 ≤ valI 16 ((bytesOf x).take i) → valI 16 ((bytesOf x).take i) < 16 ^ i →
    nameplateref04_group.l0 (k + 2 * m + 1) x (valI 16 ((bytesOf x).take i)) (i : Int) = some (if ∀ c ∈ bytesOf x, digI c < 16 then valI 16 (bytesOf x) else -1)
  | 0, i, k, hi, h1, h2, h3 => by
    have hl := bytesOf_length x
    rw [List.take_of_length_le (by omega)] at h1 h2 h3 ⊢
    rw [nameplateref04_group.l0, if_neg (by omega), if_pos h1]
  | m + 1, i, k, hi, h1, h2, h3 => by
    have hl := bytesOf_length x
    have hlt : i < (bytesOf x).length := by omega
    have hw : wrap64 ((i : Int) + 1) = ((i + 1 : Nat) : Int) := by unfold wrap64; omega
    have hb : bt x (i : Int) = (bytesOf x)[i] := by rw [← getD_bt, List.getD_eq_getElem?_getD, List.getElem?_eq_getElem hlt]; rfl
    have hmem : (bytesOf x)[i] ∈ bytesOf x := List.getElem_mem hlt
    have hrng : 0 ≤ (bytesOf x)[i] ∧ (bytesOf x)[i] < 256 := by have := bt_range x (i : Int); rw [hb] at this; omega
    have htake : (bytesOf x).take (i + 1) = (bytesOf x).take i ++ [(bytesOf x)[i]] := List.take_succ_eq_append_getElem hlt
    obtain ⟨f1, f2, f3⟩ := fold_byte x i (by omega)
    obtain ⟨g1, g2, g3⟩ := digI_16 _ hrng.1 hrng.2
    have h16 : (16 : Int) ^ i ≤ 4096 := by
      have t : ∀ j : Fin 4, (16 : Int) ^ j.val ≤ 4096 := by decide
      exact t ⟨i, by omega⟩
    have hs : (16 : Int) ^ (i + 1) = 16 ^ i * 16 := Int.pow_succ _ _
    have hv := val_snoc2 16 ((bytesOf x).take i) (bytesOf x)[i]
    rw [← htake] at hv
    rw [show k + 2 * (m + 1) + 1 = (k + 2 * m + 2) + 1 by omega, nameplateref04_group.l0, if_pos (by omega), if_pos (by omega), hw, if_pos (by omega), if_pos (by omega), Int.toNat_natCast, Int.toNat_natCast, f1, Option.bind_some, if_pos (by rw [f2]; decide), f3, hb]
    have next : digI (bytesOf x)[i] < 16 → ∀ v, v = valI 16 ((bytesOf x).take (i + 1)) → nameplateref04_group.l0 (k + 2 * m + 1) x v ((i + 1 : Nat) : Int) = some (if ∀ c ∈ bytesOf x, digI c < 16 then valI 16 (bytesOf x) else -1) := by
      intro hd v e
      have hd0 : 0 ≤ digI (bytesOf x)[i] := by unfold digI; (repeat' split) <;> omega
      rw [e]
      refine group_l0 x hx m (i + 1) k (by omega) ?_ (by rw [hv]; omega) (by rw [hv, hs]; omega)
      rw [htake]
      intro c hc
      rcases List.mem_append.1 hc with hc | hc
      · exact h1 c hc
      · obtain rfl := List.mem_singleton.1 hc
        exact hd
    have e0 : ∀ y, (if foldI (bytesOf x)[i] ≥ 48 then nameplateref04_group.j2 (k + 2 * m + 2) x y (i : Int) (foldI (bytesOf x)[i]) (decide (foldI (bytesOf x)[i] ≤ 57)) else nameplateref04_group.j2 (k + 2 * m + 2) x y (i : Int) (foldI (bytesOf x)[i]) false) = nameplateref04_group.j2 (k + 2 * m + 2) x y (i : Int) (foldI (bytesOf x)[i]) (decide (48 ≤ foldI (bytesOf x)[i] ∧ foldI (bytesOf x)[i] ≤ 57)) := by
      intro y
      by_cases c : foldI (bytesOf x)[i] ≥ 48
      · rw [if_pos c]
        congr 1
        exact decide_eq_decide.2 ⟨fun h => ⟨c, h⟩, fun h => h.2⟩
      · rw [if_neg c, decide_eq_false (fun h => c h.1)]
    rw [e0, show k + 2 * m + 2 = (k + 2 * m + 1) + 1 by omega, nameplateref04_group.j2]
    by_cases c1 : 48 ≤ foldI (bytesOf x)[i] ∧ foldI (bytesOf x)[i] ≤ 57
    · rw [if_pos (decide_eq_true c1), hw]
      refine next (g1.2 (.inl c1)) _ ?_
      rw [hv, g2 c1]
      unfold wrap64
      omega
    · rw [if_neg (by simpa using c1)]
      by_cases c2 : foldI (bytesOf x)[i] ≥ 97
      · rw [if_pos c2]
        by_cases c3 : foldI (bytesOf x)[i] ≤ 102
        · rw [if_pos c3, hw]
          refine next (g1.2 (.inr ⟨c2, c3⟩)) _ ?_
          rw [hv, g3 ⟨c2, c3⟩]
          unfold wrap64
          omega
        · rw [if_neg c3, if_neg]
          intro h
          rcases g1.1 (h _ hmem) with z | z
          · exact c1 z
          · exact c3 z.2
      · rw [if_neg c2, if_neg]
        intro h
        rcases g1.1 (h _ hmem) with z | z
        · exact c1 z
        · exact c2 z.1
theorem ascii_digs16 {x : ByteArray} (h : ∀ c ∈ bytesOf x, digI c < 16) : ascii x = true := by
  unfold ascii
  rw [List.all_eq_true]
  intro b hb
  have := h (b.toNat : Int) (List.mem_map_of_mem hb)
  refine decide_eq_true ?_
  unfold digI at this
  have hlt := b.toNat_lt
  (repeat' split at this) <;> omega
theorem group_eq (x : ByteArray) (k : Nat) (hk : 12 ≤ k) : ∃ p n, addr_number.f x 4 16 = some p ∧ nameplateref04_group.f k x = some n ∧ (if p.2 = true then n = p.1 ∧ 0 ≤ n ∧ n < 65536 else n < 0) := by
  obtain ⟨k, rfl⟩ : ∃ q, k = q + 1 := ⟨k - 1, by omega⟩
  have j0t : nameplateref04_group.j0 (k + 1) x true = some (-1) := by rw [nameplateref04_group.j0, if_pos rfl]
  have hnum : addr_number.f x 4 16 = numP 4 16 x := by unfold addr_number.f; rw [if_pos ⟨.inr rfl, by decide⟩]
  by_cases c0 : x.size = 0 ∨ (x.size : Int) > 4
  · refine ⟨(0, false), -1, by rw [hnum]; unfold numP; rw [if_pos c0], ?_, by rw [if_neg (by decide)]; decide⟩
    unfold nameplateref04_group.f
    by_cases c1 : (x.size : Int) < 1
    · rw [if_pos c1, j0t]
    · rw [if_neg c1, decide_eq_true (by omega : (x.size : Int) > 4), j0t]
  · have hl := group_l0 x (by omega) x.size 0 (k - 2 * x.size - 1) (Nat.zero_add _) (fun c hc => by simp at hc) (Int.le_refl _) (by rw [List.take_zero]; decide)
    rw [show k - 2 * x.size - 1 + 2 * x.size + 1 = k by omega, List.take_zero, show valI 16 [] = 0 from rfl, show ((0 : Nat) : Int) = 0 from rfl] at hl
    have hf : nameplateref04_group.f (k + 1) x = some (if ∀ c ∈ bytesOf x, digI c < 16 then valI 16 (bytesOf x) else -1) := by
      unfold nameplateref04_group.f
      rw [if_neg (by omega), decide_eq_false (by omega), nameplateref04_group.j0, if_neg (by decide), hl]
    have hn : numP 4 16 x = some (if (∀ c ∈ bytesOf x, digI c < 16) then (valI 16 (bytesOf x), true) else (0, false)) := by
      unfold numP
      rw [if_neg c0]
      by_cases a : ascii x = true
      · rw [if_pos a]
      · rw [if_neg a, if_neg (fun h => a (ascii_digs16 h))]
    refine ⟨_, _, hnum.trans hn, hf, ?_⟩
    by_cases c3 : ∀ c ∈ bytesOf x, digI c < 16
    · rw [if_pos c3, if_pos c3, if_pos rfl]
      have hb := valI_bound (B := 16) (by decide) (by decide) (bytesOf x) c3
      exact ⟨rfl, hb.1, by have := hb.2.2 (by rw [bytesOf_length]; omega); omega⟩
    · rw [if_neg c3, if_neg c3, if_neg (by decide)]
      decide
end Go.Proofs.YtbalmnkbodcigaaGreatDoor.AddrFns
set_option linter.unusedSimpArgs false
set_option linter.unusedVariables false
namespace Go.Proofs.YtbalmnkbodcigaaGreatDoor.AddrFns
open Go.RowKit Go.Lib Go.Proofs.YtbalmnkbodcigaaGreatDoor.ORc Go.Proofs.YtbalmnkbodcigaaGreatDoor.AddrLib Go.Proofs.YtbalmnkbodcigaaGreatDoorW.PrintWords Go.Proofs.YtbalmnkbodcigaaGreatDoorW.PrintLast Go.Proofs.YtbalmnkbodcigaaGreatDoorW.PrintMore

/-! ### Groups, in plain words -/
def qd (x : ByteArray) : Option Int := (addr_elder.f 5 x).bind fun r => if r.2.2.2 = true then some r.2.2.1 else none
def nm (x : ByteArray) : Option Int := (addr_number.f x 4 16).bind fun p => if p.2 = true then some p.1 else none
def specP (last : Bool) : List ByteArray → List Int → List Int × Bool
  | [], acc => (acc, true)
  | x :: t, acc => if last = true ∧ t.length = 0 ∧ (qd x).isSome = true then (acc ++ [(qd x).getD 0 / 65536, (qd x).getD 0 % 65536], true)
    else if (nm x).isSome = true then specP last t (acc ++ [(nm x).getD 0]) else ([], false)
theorem elder_at (x : ByteArray) (hx : x.size ≤ 100000) : ∃ b lo, (∀ k, addr_elder.f (k + 5) x = some (false, 0, lo, b)) ∧ (if b = true then qd x = some lo ∧ 0 ≤ lo ∧ lo < 4294967296 else qd x = none) := by
  obtain ⟨r, hr, h⟩ := elder_tot 0 x hx
  have mono : ∀ j, addr_elder.f (j + 5) x = some r := by
    intro j
    induction j with
    | zero => exact hr
    | succ j ih =>
      rw [show j + 1 + 5 = (j + 5) + 1 by omega]
      exact addr_elder.mono x (j + 5) _ ih
  have h5 : addr_elder.f 5 x = some r := mono 0
  rcases h with rfl | ⟨lo, rfl, h0, h1⟩
  · exact ⟨false, 0, mono, by rw [if_neg (by decide)]; unfold qd; rw [h5]; rfl⟩
  · exact ⟨true, lo, mono, by rw [if_pos rfl]; unfold qd; rw [h5]; exact ⟨rfl, h0, h1⟩⟩
theorem num_at (x : ByteArray) (k : Nat) (hk : 12 ≤ k) : (∃ v, nm x = some v ∧ addr_number.f x 4 16 = some (v, true) ∧ nameplateref04_group.f k x = some v ∧ 0 ≤ v ∧ v < 65536) ∨ (nm x = none ∧ (∃ v, addr_number.f x 4 16 = some (v, false)) ∧ ∃ n, nameplateref04_group.f k x = some n ∧ n < 0) := by
  obtain ⟨⟨p, b⟩, n, hp, hg, hn⟩ := group_eq x k hk
  cases b with
  | true =>
    rw [if_pos rfl] at hn
    obtain ⟨rfl, h0, h1⟩ := hn
    exact .inl ⟨n, by unfold nm; rw [hp]; rfl, hp, hg, h0, h1⟩
  | false =>
    rw [if_neg (fun h => by cases h)] at hn
    exact .inr ⟨by unfold nm; rw [hp]; rfl, ⟨p, hp⟩, n, hg, hn⟩
theorem rdOf_at {L : List ByteArray} {i : Nat} (h : i < L.length) : rdOf ByteArray.empty L (i : Int) = L[i] := by
  unfold rdOf
  rw [Int.toNat_natCast, List.getD_eq_getElem?_getD, List.getElem?_eq_getElem h]
  rfl
theorem last_at {n i m : Nat} (h : i + (m + 1) = n) (h2 : n ≤ 200) : ((i : Int) == wrap64 ((n : Int) - 1)) = decide (m = 0) := by
  have hw : wrap64 ((n : Int) - 1) = (n : Int) - 1 := by unfold wrap64; omega
  rw [hw]
  by_cases c : m = 0
  · rw [decide_eq_true c]; exact beq_iff_eq.2 (by omega)
  · rw [decide_eq_false c]; exact beq_eq_false_iff_ne.2 (by omega)
theorem wrap_step (i : Nat) (h : i < 1000) : wrap64 ((i : Int) + 1) = ((i + 1 : Nat) : Int) := wrap_small i h
theorem part_spec (last : Bool) (L : List ByteArray) (hL : ∀ x ∈ L, x.size ≤ 100) (h200 : L.length ≤ 200) : ∀ (m k i : Nat) (acc : List Int), i + m = L.length → acc.length ≤ 2 * i →
    addr_part.l0 (k + 12 + 2 * m + 1) last acc L L (L.length : Int) (i : Int) = some (specP last (L.drop i) acc)
  | 0, k, i, acc, hi, ha => by
    rw [addr_part.l0, if_neg (by omega), List.drop_eq_nil_of_le (by omega), specP]
  | m + 1, k, i, acc, hi, ha => by
    have hlt : i < L.length := by omega
    have hx : L[i].size ≤ 100 := hL _ (List.getElem_mem hlt)
    have hd : L.drop i = L[i] :: L.drop (i + 1) := List.drop_eq_getElem_cons hlt
    have hdl : (L.drop (i + 1)).length = m := by rw [List.length_drop]; omega
    obtain ⟨b, lo, he, hq⟩ := elder_at L[i] (by omega)
    have he' := he (k + 2 * m + 9)
    rw [show k + 12 + 2 * (m + 1) + 1 = (k + 2 * m + 9 + 5) + 1 by omega, addr_part.l0, if_pos (by omega), if_pos (by omega), if_pos (by omega), rdOf_at hlt, he', Option.bind_some, last_at (m := m) hi h200]
    (try dsimp only)
    have e0 : ∀ X : Bool → Option (List Int × Bool), (if b = true then (if last = true then X (decide (m = 0)) else X false) else X false) = X (b && last && decide (m = 0)) := by
      intro X
      cases b <;> cases last <;> rfl
    have e1 := e0 fun t => addr_part.j1 (k + 2 * m + 9 + 5) last acc L L[i] L (L.length : Int) (i : Int) t false 0 lo
    (try dsimp only at e1)
    rw [e1, hd, specP, hdl, show k + 2 * m + 9 + 5 = (k + 12 + 2 * m + 1) + 1 by omega, addr_part.j1]
    by_cases c : b = true ∧ last = true ∧ m = 0
    · obtain ⟨rfl, rfl, rfl⟩ := c
      rw [if_pos rfl] at hq
      obtain ⟨hq, h0, h1⟩ := hq
      rw [if_pos (by decide : (true && true && decide ((0 : Nat) = 0)) = true), Option.bind_some, if_pos (by simp only [List.length_cons, List.length_nil]; omega), hq, if_pos ⟨rfl, rfl, rfl⟩, Option.getD_some, wr_u16, wr_u16, show lo / 65536 % 65536 = lo / 65536 by omega]
    · have hb : (b && last && decide (m = 0)) = false := by
        cases b <;> cases last <;> simp at c ⊢ <;> omega
      have hs : ¬ (last = true ∧ m = 0 ∧ (qd L[i]).isSome = true) := by
        rintro ⟨h1, h2, h3⟩
        cases b with
        | true => exact c ⟨rfl, h1, h2⟩
        | false =>
          rw [if_neg (by decide)] at hq
          rw [hq] at h3
          cases h3
      rw [hb, if_neg (by decide), if_neg hs]
      rcases num_at L[i] 12 (Nat.le_refl _) with ⟨v, h1, h2, _, h3, h4⟩ | ⟨h1, ⟨v, h2⟩, _⟩
      · rw [h2, Option.bind_some, if_pos rfl, if_pos (by omega), h1, if_pos (show (some v).isSome = true from rfl), Option.getD_some, wr_u16, show v % 65536 = v by omega, wrap_step i (by omega)]
        exact part_spec last L hL h200 m k (i + 1) _ (by omega) (by rw [List.length_append, List.length_singleton]; omega)
      · rw [h2, Option.bind_some, if_neg (fun h => by cases h), h1, if_neg (by decide)]
theorem groups_spec (last : Bool) (L : List ByteArray) (hL : ∀ x ∈ L, x.size ≤ 100) (h200 : L.length ≤ 200) : ∀ (m k i : Nat) (acc : List Int), i + m = L.length → acc.length ≤ 2 * i →
    nameplateref04_groups.l0 (k + 112 + 2 * m + 1) last L acc (i : Int) = some (specP last (L.drop i) acc)
  | 0, k, i, acc, hi, ha => by
    rw [nameplateref04_groups.l0, if_neg (by omega), List.drop_eq_nil_of_le (by omega), specP]
  | m + 1, k, i, acc, hi, ha => by
    have hlt : i < L.length := by omega
    have hx : L[i].size ≤ 100 := hL _ (List.getElem_mem hlt)
    have hd : L.drop i = L[i] :: L.drop (i + 1) := List.drop_eq_getElem_cons hlt
    have hdl : (L.drop (i + 1)).length = m := by rw [List.length_drop]; omega
    obtain ⟨b, lo, he, hq⟩ := elder_at L[i] (by omega)
    have he' := he (k + 2 * m + 109)
    rw [show k + 112 + 2 * (m + 1) + 1 = (k + 2 * m + 109 + 5) + 1 by omega, nameplateref04_groups.l0, if_pos (by omega), if_pos (by omega), rdOf_at hlt, relder_eq L[i] (by omega) _ (by omega), he', Option.bind_some, last_at (m := m) hi h200]
    (try dsimp only)
    have e0 : ∀ X : Bool → Option (List Int × Bool), (if last = true then (if b = true then X (decide (m = 0)) else X false) else X false) = X (b && last && decide (m = 0)) := by
      intro X
      cases b <;> cases last <;> rfl
    have e1 := e0 fun t => nameplateref04_groups.j1 (k + 2 * m + 109 + 5) last L acc (i : Int) t false 0 lo
    (try dsimp only at e1)
    rw [e1, hd, specP, hdl, show k + 2 * m + 109 + 5 = (k + 112 + 2 * m + 1) + 1 by omega, nameplateref04_groups.j1]
    by_cases c : b = true ∧ last = true ∧ m = 0
    · obtain ⟨rfl, rfl, rfl⟩ := c
      rw [if_pos rfl] at hq
      obtain ⟨hq, h0, h1⟩ := hq
      have w1 : wrap64 (lo / 65536) = lo / 65536 := by unfold wrap64; omega
      have w2 : wrap64 (Int.tmod lo 65536) = lo % 65536 := by rw [Int.tmod_eq_emod_of_nonneg h0]; unfold wrap64; omega
      rw [if_pos (by decide : (true && true && decide ((0 : Nat) = 0)) = true), Option.bind_some, if_pos (by simp only [List.length_cons, List.length_nil]; omega), hq, if_pos ⟨rfl, rfl, rfl⟩, Option.getD_some, w1, w2, wrap_step i (by omega),
        groups_spec true L hL h200 0 k (i + 1) _ (by omega) (by rw [List.length_append]; simp only [List.length_cons, List.length_nil]; omega), List.drop_eq_nil_of_le (by omega), specP]
    · have hb : (b && last && decide (m = 0)) = false := by
        cases b <;> cases last <;> simp at c ⊢ <;> omega
      have hs : ¬ (last = true ∧ m = 0 ∧ (qd L[i]).isSome = true) := by
        rintro ⟨h1, h2, h3⟩
        cases b with
        | true => exact c ⟨rfl, h1, h2⟩
        | false =>
          rw [if_neg (by decide)] at hq
          rw [hq] at h3
          cases h3
      rw [hb, if_neg (by decide), if_neg hs, if_pos (by omega), if_pos (by omega), rdOf_at hlt]
      rcases num_at L[i] (k + 112 + 2 * m + 1) (by omega) with ⟨v, h1, _, h2, h3, h4⟩ | ⟨h1, _, v, h2, h3⟩
      · rw [h2, Option.bind_some, if_neg (by omega), if_pos (by omega), h1, if_pos (show (some v).isSome = true from rfl), Option.getD_some, wrap_step i (by omega)]
        exact groups_spec last L hL h200 m k (i + 1) _ (by omega) (by rw [List.length_append, List.length_singleton]; omega)
      · rw [h2, Option.bind_some, if_pos h3, h1, if_neg (by decide)]
/-! ### A text's groups -/
def pieces (s : ByteArray) : List ByteArray := (splitR 58 s.data.toList).map mkB
def groupsP (s : ByteArray) (last : Bool) : List Int × Bool := if s.toList = ([] : List UInt8) then ([], true) else specP last (pieces s) []
theorem pieces_eq (s : ByteArray) : splitB (oneS 58) 0 (countB s (oneS 58)) s = pieces s := by
  rw [splitB_list, split_R]
  rfl
theorem pieces_small (s : ByteArray) (hs : s.size ≤ 100) : (pieces s).length ≤ 110 ∧ ∀ x ∈ pieces s, x.size ≤ 100 := by
  rw [← pieces_eq, splitB_list]
  have hd : s.data.toList.length = s.size := data_length s
  obtain ⟨h1, h2⟩ := splitK_mem [58] (count s.data.toList [58]) s.data.toList
  have hc := countFrom_le [58] (s.data.toList.length + 1) s.data.toList
  refine ⟨?_, ?_⟩
  · rw [List.length_map]
    unfold split
    unfold count at h1 ⊢
    omega
  · intro x hx
    obtain ⟨y, hy, rfl⟩ := List.mem_map.1 hx
    have := h2 y hy
    rw [mkB_size]
    omega
theorem part_P (s : ByteArray) (hs : s.size ≤ 100) (K : Nat) (hK : 400 ≤ K) (last : Bool) : addr_part.f K s last = some (groupsP s last) := by
  unfold addr_part.f groupsP
  by_cases c : s.toList = ([] : List UInt8)
  · rw [if_pos c, if_pos c]
  · have hsp : strings_Split.f s (⟨#[58]⟩ : ByteArray) = some (splitB (oneS 58) 0 (countB s (oneS 58)) s) := by
      unfold strings_Split.f
      rw [if_pos ⟨by omega, rfl⟩]
      rfl
    obtain ⟨h1, h2⟩ := pieces_small s hs
    rw [if_neg c, if_neg c, hsp, Option.bind_some, pieces_eq]
    have := part_spec last (pieces s) h2 (by omega) (pieces s).length (K - 13 - 2 * (pieces s).length) 0 [] (by omega) (Nat.zero_le _)
    rw [show K - 13 - 2 * (pieces s).length + 12 + 2 * (pieces s).length + 1 = K by omega, List.drop_zero] at this
    exact this
theorem groups_P (s : ByteArray) (hs : s.size ≤ 100) (K : Nat) (hK : 400 ≤ K) (last : Bool) : nameplateref04_groups.f K s last = some (groupsP s last) := by
  unfold nameplateref04_groups.f groupsP
  by_cases c : s.toList = ([] : List UInt8)
  · rw [if_pos c, if_pos c]
  · obtain ⟨h1, h2⟩ := pieces_small s hs
    have hp := parts_eq s (by omega) 58 K (by omega)
    rw [show (((58 : UInt8).toNat : Nat) : Int) = 58 from rfl] at hp
    rw [if_neg c, if_neg c, hp, Option.bind_some, pieces_eq]
    have := groups_spec last (pieces s) h2 (by omega) (pieces s).length (K - 113 - 2 * (pieces s).length) 0 [] (by omega) (Nat.zero_le _)
    rw [show K - 113 - 2 * (pieces s).length + 112 + 2 * (pieces s).length + 1 = K by omega, List.drop_zero] at this
    exact this
theorem specP_len (last : Bool) : ∀ (L : List ByteArray) (acc : List Int), (specP last L acc).1.length ≤ acc.length + L.length + 1
  | [], acc => by rw [specP]; show acc.length ≤ acc.length + 0 + 1; omega
  | x :: t, acc => by
    rw [specP]
    split
    · rw [List.length_append]; simp only [List.length_cons, List.length_nil]; omega
    · split
      · have := specP_len last t (acc ++ [(nm x).getD 0])
        rw [List.length_append, List.length_singleton] at this
        rw [List.length_cons]
        omega
      · exact Nat.zero_le _
theorem groupsP_len (s : ByteArray) (hs : s.size ≤ 100) (last : Bool) : (groupsP s last).1.length ≤ 200 := by
  unfold groupsP
  split
  · exact Nat.zero_le _
  · have := specP_len last (pieces s) []
    have := (pieces_small s hs).1
    simp only [List.length_nil] at *
    omega
theorem newer_of (l : List Int) (h8 : l.length = 8) : ∀ (m k i : Nat) (b : Bool) (hi lo : Int), i + m = 8 → nameplateref04_newer.l0 (k + m + 1) l i b hi lo = addr_of.l0 (k + m + 1) l 8 i b hi lo
  | 0, k, i, b, hi, lo, h => by
    rw [nameplateref04_newer.l0, addr_of.l0, if_neg (by omega), if_neg (by omega)]
  | m + 1, k, i, b, hi, lo, h => by
    have c8 : (i : Int) < 8 := by omega
    have c0 : 0 ≤ (i : Int) := by omega
    have cl : (i : Int) < (l.length : Int) := by omega
    have ih := fun b hi lo => newer_of l h8 m k (i + 1) b hi lo (by omega)
    rw [show k + (m + 1) + 1 = (k + m + 1) + 1 by omega, nameplateref04_newer.l0, addr_of.l0, wrap_small i (by omega)]
    simp only [if_pos c8, if_pos c0, if_pos cl]
    split <;> exact ih _ _ _
theorem newer_of_f (l : List Int) (h8 : l.length = 8) (K : Nat) (hK : 9 ≤ K) : nameplateref04_newer.f K l = addr_of.f K l := by
  have := newer_of l h8 8 (K - 9) 0 true 0 0 (by omega)
  rw [show K - 9 + 8 + 1 = K by omega] at this
  unfold nameplateref04_newer.f addr_of.f
  rw [h8]
  exact this
end Go.Proofs.YtbalmnkbodcigaaGreatDoor.AddrFns
set_option linter.unusedSimpArgs false
set_option linter.unusedVariables false
namespace Go.Proofs.YtbalmnkbodcigaaGreatDoor.AddrFns
open Go.RowKit Go.Lib Go.Proofs.YtbalmnkbodcigaaGreatDoor.ORc Go.Proofs.YtbalmnkbodcigaaGreatDoor.AddrLib Go.Proofs.YtbalmnkbodcigaaGreatDoorW.PrintWords Go.Proofs.YtbalmnkbodcigaaGreatDoorW.PrintLast Go.Proofs.YtbalmnkbodcigaaGreatDoorW.PrintMore

/-! ### Where two colons stand -/
theorem two_split : ∀ l : List UInt8, 0 ≤ index l [58, 58] → ∃ a r : List UInt8, l = a ++ 58 :: 58 :: r ∧ index l [58, 58] = (a.length : Int)
  | [], h => by exact absurd h (by decide)
  | b :: l, h => by
    by_cases p : ([58, 58] : List UInt8).isPrefixOf (b :: l) = true
    · obtain ⟨r, hr⟩ := List.isPrefixOf_iff_prefix.1 p
      refine ⟨[], r, hr.symm, ?_⟩
      unfold index
      rw [if_pos p]
      rfl
    · have hi : index (b :: l) [58, 58] = if index l [58, 58] == -1 then -1 else index l [58, 58] + 1 := by
        rw [index, if_neg p]
      have hge := index_ge l [58, 58]
      by_cases q : index l [58, 58] = -1
      · rw [hi, q] at h
        exact absurd h (by decide)
      · obtain ⟨a, r, e1, e2⟩ := two_split l (by omega)
        refine ⟨b :: a, r, by rw [e1]; rfl, ?_⟩
        rw [hi, if_neg (by simpa using q), e2, List.length_cons]
        omega
theorem splitR_app (c : UInt8) (r : List UInt8) : ∀ a : List UInt8, splitR c (a ++ c :: r) = splitR c a ++ splitR c r
  | [] => by
    rw [List.nil_append, show splitR c (c :: r) = [] :: splitR c r by rw [splitR, if_pos rfl]]
    rfl
  | b :: a => by
    have ih := splitR_app c r a
    rw [List.cons_append, splitR, splitR]
    by_cases h : b = c
    · rw [if_pos h, if_pos h, ih, List.cons_append]
    · rw [if_neg h, if_neg h, ih]
      cases hs : splitR c a with
      | nil => exact absurd hs (splitR_ne c a)
      | cons x t => rfl
theorem nm_nil : nm (mkB []) = none := by
  unfold nm addr_number.f numP
  rw [if_pos ⟨.inr rfl, by decide⟩, if_pos (.inl (by rw [mkB_size]; rfl))]
  rfl
theorem spec_mid (last : Bool) (B : List ByteArray) (hB : B ≠ []) : ∀ (A : List ByteArray) (acc : List Int), specP last (A ++ mkB [] :: B) acc = ([], false)
  | [], acc => by
    have hl : B.length ≠ 0 := fun h => hB (List.eq_nil_of_length_eq_zero h)
    rw [List.nil_append, specP, if_neg (fun h => hl h.2.1), nm_nil, if_neg (by decide)]
  | x :: A, acc => by
    rw [List.cons_append, specP, if_neg (fun h => by have := h.2.1; rw [List.length_append] at this; simp only [List.length_cons] at this; omega)]
    split
    · exact spec_mid last B hB A _
    · rfl
theorem groups_mid (s : ByteArray) (last : Bool) (h : contains s.data.toList [58, 58] = true) : groupsP s last = ([], false) := by
  obtain ⟨a, r, e, _⟩ := two_split s.data.toList (of_decide_eq_true h)
  unfold groupsP pieces
  rw [if_neg, e, splitR_app, show splitR 58 (58 :: r) = [] :: splitR 58 r by rw [splitR, if_pos rfl], List.map_append, List.map_cons]
  · exact spec_mid last _ (fun h => splitR_ne 58 r (List.map_eq_nil_iff.1 h)) _ _
  · intro h0
    have h1 := nil_data.1 h0
    have h2 : s.data.toList.length = s.size := data_length s
    rw [e, List.length_append] at h2
    simp only [List.length_cons] at h2
    omega
theorem splitR_none (c : UInt8) : ∀ l : List UInt8, c ∉ l → splitR c l = [l]
  | [], _ => rfl
  | b :: l, h => by
    have h1 : ¬ b = c := fun e => h (by rw [e]; exact List.mem_cons_self)
    rw [splitR, if_neg h1, splitR_none c l (fun hc => h (List.mem_cons_of_mem _ hc))]
theorem groups_one (s : ByteArray) (last : Bool) (h : (58 : UInt8) ∉ s.data.toList) : (groupsP s last).1.length ≤ 2 := by
  unfold groupsP
  split
  · exact Nat.zero_le _
  · unfold pieces
    rw [splitR_none 58 _ h]
    exact specP_len last [mkB s.data.toList] []
/-! ### Noughts are filled in -/
theorem fill_l0 (g : List Int) : ∀ (m : Nat) (h : List Int) (k : Nat), h.length + m + g.length = 8 → nameplateref04_Read.l0 (k + m + 1) h g = (nameplateref04_newer.f k (h ++ List.replicate m 0 ++ g)).bind fun t => some (t.1, t.2.1, t.2.2, 0)
  | 0, h, k, e => by
    have hw : wrap64 ((h.length : Int) + (g.length : Int)) = 8 := by unfold wrap64; omega
    rw [nameplateref04_Read.l0, hw, if_neg (by decide), if_pos (by omega), List.replicate_zero, List.append_nil]
  | m + 1, h, k, e => by
    have hw : wrap64 ((h.length : Int) + (g.length : Int)) = (h.length : Int) + (g.length : Int) := by unfold wrap64; omega
    rw [show k + (m + 1) + 1 = (k + m + 1) + 1 by omega, nameplateref04_Read.l0, hw, if_pos (by omega), if_pos (by omega), fill_l0 g m (h ++ [0]) k (by rw [List.length_append, List.length_singleton]; omega), List.append_assoc h [0], List.replicate_succ]
    rfl
theorem cut_none {l : List UInt8} (h : ¬ 0 ≤ index l [58, 58]) : cut l [58, 58] = (l, [], false) := by unfold cut; rw [if_neg h]
theorem cut_some {l a r : List UInt8} (e : l = a ++ 58 :: 58 :: r) (h : index l [58, 58] = (a.length : Int)) : cut l [58, 58] = (a, r, true) := by
  unfold cut
  rw [if_pos (by omega), h, Int.toNat_natCast, e]
  have e1 : (a ++ 58 :: 58 :: r).take a.length = a := by rw [List.take_append_of_le_length (Nat.le_refl _), List.take_length]
  have e2 : (a ++ 58 :: 58 :: r).drop (a.length + ([58, 58] : List UInt8).length) = r := by
    rw [show a.length + ([58, 58] : List UInt8).length = a.length + 2 from rfl, ← List.drop_drop, List.drop_left]
    rfl
  rw [e1, e2]
theorem of_st (l : List Int) (h8 : l.length = 8) (K i : Nat) (hi8 : i < 8) (b : Bool) (hi lo : Int) : addr_of.l0 (K + 1) l 8 (i : Int) b hi lo = if (i : Int) < 4 then addr_of.l0 K l 8 ((i + 1 : Nat) : Int) b (Go.bits .or .u64 (IntKind.u64.wrap (hi * 65536)) (IntKind.u64.wrap (rd l (i : Int)))) lo else addr_of.l0 K l 8 ((i + 1 : Nat) : Int) b hi (Go.bits .or .u64 (IntKind.u64.wrap (lo * 65536)) (IntKind.u64.wrap (rd l (i : Int)))) := by
  rw [addr_of.l0, if_pos (by omega), if_pos (by omega), if_pos (by omega), wrap_small i (by omega)]
theorem of_more (l : List Int) (h8 : l.length = 8) : ∀ (m k k' i : Nat) (b : Bool) (hi lo : Int), i + m = 8 → addr_of.l0 (k + m + 1) l 8 i b hi lo = addr_of.l0 (k' + m + 1) l 8 i b hi lo
  | 0, k, k', i, b, hi, lo, h => by
    have e : ∀ K, addr_of.l0 (K + 1) l 8 (i : Int) b hi lo = some (b, hi, lo) := fun K => by rw [addr_of.l0, if_neg (by omega)]
    rw [show k + 0 + 1 = k + 1 from rfl, show k' + 0 + 1 = k' + 1 from rfl, e, e]
  | m + 1, k, k', i, b, hi, lo, h => by
    have ih := fun b hi lo => of_more l h8 m k k' (i + 1) b hi lo (by omega)
    rw [show k + (m + 1) + 1 = (k + m + 1) + 1 by omega, show k' + (m + 1) + 1 = (k' + m + 1) + 1 by omega, of_st l h8 (k + m + 1) i (by omega), of_st l h8 (k' + m + 1) i (by omega)]
    split <;> exact ih _ _ _
theorem of_any (l : List Int) (h8 : l.length = 8) (K K' : Nat) (hK : 9 ≤ K) (hK' : 9 ≤ K') : addr_of.f K l = addr_of.f K' l := by
  have := of_more l h8 8 (K - 9) (K' - 9) 0 true 0 0 (by omega)
  rw [show K - 9 + 8 + 1 = K by omega, show K' - 9 + 8 + 1 = K' by omega] at this
  unfold addr_of.f
  rw [h8]
  exact this
theorem newer_two (s : ByteArray) (hs : s.size ≤ 100) (K : Nat) (hK : 450 ≤ K) (a r : List UInt8) (e : s.data.toList = a ++ 58 :: 58 :: r) (ei : index s.data.toList [58, 58] = (a.length : Int)) (s1 : (mkB a).size ≤ 100) (s2 : (mkB r).size ≤ 100) :
    addr_newer.f K s = some (if contains r [58, 58] = true then ([], false) else if (groupsP (mkB a) false).2 = false then ([], false) else if (groupsP (mkB r) true).2 = false then ([], false) else
      if 8 - ((groupsP (mkB a) false).1.length : Int) - ((groupsP (mkB r) true).1.length : Int) < 1 then ([], false) else ((groupsP (mkB a) false).1 ++ List.replicate (8 - ((groupsP (mkB a) false).1.length : Int) - ((groupsP (mkB r) true).1.length : Int)).toNat 0 ++ (groupsP (mkB r) true).1, true)) := by
  have l1 := groupsP_len (mkB a) s1 false
  have l2 := groupsP_len (mkB r) s2 true
  unfold addr_newer.f newerF
  rw [if_pos (show s.size ≤ 100000 by omega), cut_some e ei]
  dsimp only
  by_cases ct : contains r [58, 58] = true
  · rw [if_pos ct, if_pos ct]
  · rw [if_neg ct, if_neg ct, show (!true) = false from rfl, part_P _ s1 K (by omega), Option.bind_some]
    generalize groupsP (mkB a) false = G1 at *
    by_cases b1 : G1.2 = false
    · rw [if_pos b1, if_pos b1]
    · rw [if_neg b1, if_neg b1, part_P _ s2 K (by omega), Option.bind_some]
      generalize groupsP (mkB r) true = G2 at *
      by_cases b2 : G2.2 = false
      · rw [if_pos b2, if_pos b2]
      · rw [if_neg b2, if_neg b2, if_pos (show G1.1.length ≤ 200 ∧ G2.1.length ≤ 200 from ⟨l1, l2⟩)]
        by_cases c3 : 8 - (G1.1.length : Int) - (G2.1.length : Int) < 1
        · rw [if_pos (.inl ⟨rfl, c3⟩), if_pos c3]
        · rw [if_neg (by rintro (⟨_, h⟩ | ⟨h, _⟩); exact c3 h; cases h), if_neg c3]
theorem newer_one (s : ByteArray) (hs : s.size ≤ 100) (K : Nat) (hK : 450 ≤ K) (c : ¬ 0 ≤ index s.data.toList [58, 58]) :
    addr_newer.f K s = some (if (groupsP s true).2 = false then ([], false) else if ((groupsP s true).1.length : Int) = 8 then ((groupsP s true).1, true) else ([], false)) := by
  have hl := groupsP_len s hs true
  unfold addr_newer.f newerF
  rw [if_pos (show s.size ≤ 100000 by omega), cut_none c]
  dsimp only
  rw [if_neg (show ¬ contains [] [58, 58] = true by decide), mkB_eta, show (!false) = true from rfl, part_P s hs K (by omega), Option.bind_some, part_P (mkB []) (by rw [mkB_size]; decide) K (by omega), Option.bind_some,
    show groupsP (mkB []) true = ([], true) by unfold groupsP; rw [if_pos (nil_data.2 (by rw [mkB_size]; rfl))]]
  generalize groupsP s true = G1 at *
  by_cases b1 : G1.2 = false
  · rw [if_pos b1, if_pos b1]
  · rw [if_neg b1, if_neg b1]
    dsimp only
    rw [if_neg (show ¬ true = false by decide), if_pos (show G1.1.length ≤ 200 ∧ ([] : List Int).length ≤ 200 from ⟨hl, Nat.zero_le _⟩)]
    by_cases c8 : (G1.1.length : Int) = 8
    · have hz : (8 - (G1.1.length : Int) - (([] : List Int).length : Int)).toNat = 0 := by simp only [List.length_nil]; omega
      rw [if_pos c8, if_neg (by rintro (⟨h, _⟩ | ⟨_, h⟩); cases h; exact h (by simp only [List.length_nil]; omega)), hz, List.replicate_zero, List.append_nil, List.append_nil]
    · rw [if_neg c8, if_pos (.inr ⟨rfl, by simp only [List.length_nil]; omega⟩)]
theorem ite_same {β : Type} (c : Prop) [Decidable c] (x : β) : (if c then x else x) = x := by split <;> rfl
theorem j0_at (h g : List Int) (hh : h.length ≤ 200) (hg : g.length ≤ 200) (K : Nat) (hK : 450 ≤ K) : nameplateref04_Read.j0 K h g (decide ((wrap64 ((h.length : Int) + (g.length : Int))) > 7)) =
    if 8 - (h.length : Int) - (g.length : Int) < 1 then some (false, 0, 0, 7) else (addr_of.f K (h ++ List.replicate (8 - (h.length : Int) - (g.length : Int)).toNat 0 ++ g)).bind fun t => some (t.1, t.2.1, t.2.2, 0) := by
  obtain ⟨W, hW⟩ : ∃ W, wrap64 ((h.length : Int) + (g.length : Int)) = W := ⟨_, rfl⟩
  have hw2 : W = (h.length : Int) + (g.length : Int) := by rw [← hW]; unfold wrap64; omega
  rw [hW]
  obtain ⟨k, rfl⟩ : ∃ k, K = k + 1 := ⟨K - 1, by omega⟩
  by_cases c3 : 8 - (h.length : Int) - (g.length : Int) < 1
  · have hd : decide (W > 7) = true := decide_eq_true (by omega)
    rw [if_pos c3, hd, nameplateref04_Read.j0, if_pos rfl]
  · have hd : decide (W > 7) = false := decide_eq_false (by omega)
    obtain ⟨m, hm⟩ : ∃ m, (8 - (h.length : Int) - (g.length : Int)).toNat = m := ⟨_, rfl⟩
    have hfl := fill_l0 g m h (k - m - 1) (by omega)
    rw [show k - m - 1 + m + 1 = k by omega] at hfl
    rw [if_neg c3, hd, nameplateref04_Read.j0, if_neg (show ¬ false = true by decide), hm, hfl]
    have h8 : (h ++ List.replicate m 0 ++ g).length = 8 := by
      rw [List.length_append, List.length_append, List.length_replicate]; omega
    rw [newer_of_f _ h8 _ (by omega), of_any _ h8 (k - m - 1) (k + 1) (by omega) (by omega)]
set_option maxHeartbeats 4000000 in
theorem read_rest (s : ByteArray) (hs : s.size ≤ 100) (K : Nat) (hK : 450 ≤ K) :
    ((nameplateref04_twice.f K s).bind fun t295 => (if t295 < 0 then ((nameplateref04_groups.f K s true).bind fun bt296 => (if bt296.2 = true then (if (bt296.1.length : Int) = 8 then ((nameplateref04_newer.f K bt296.1).bind fun bt300 => (some (bt300.1, bt300.2.1, bt300.2.2, (0 : Int)))) else (some (false, 0, 0, 7))) else (some (false, 0, 0, 7)))) else (if 0 ≤ t295 then (if t295 ≤ (s.size : Int) then ((nameplateref04_groups.f K (s.extract 0 (t295 : Int).toNat) false).bind fun bt303 => (if 0 ≤ (wrap64 (t295 + 2)) then (if (wrap64 (t295 + 2)) ≤ (s.size : Int) then ((nameplateref04_groups.f K (s.extract ((wrap64 (t295 + 2)) : Int).toNat s.size) true).bind fun bt307 => (if bt303.2 = true then (if bt307.2 = true then (nameplateref04_Read.j0 K bt303.1 bt307.1 (decide ((wrap64 ((bt303.1.length : Int) + (bt307.1.length : Int))) > 7))) else (nameplateref04_Read.j0 K bt303.1 bt307.1 true)) else (nameplateref04_Read.j0 K bt303.1 bt307.1 true))) else (none)) else (none))) else (none)) else (none))))
    = ((strings_Contains.f s (⟨#[58]⟩ : ByteArray)).bind fun t180 => (if t180 = true then ((addr_newer.f K s).bind fun bt181 => (if bt181.2 = true then ((addr_of.f K bt181.1).bind fun bt185 => (some (bt185.1, bt185.2.1, bt185.2.2, (0 : Int)))) else (some (false, 0, 0, 7)))) else (some (false, 0, 0, 7)))) := by
  have hd : s.data.toList.length = s.size := data_length s
  have hcon : strings_Contains.f s (⟨#[58]⟩ : ByteArray) = some (contains s.data.toList [58]) := by
    unfold strings_Contains.f
    rw [if_pos (by omega)]
  rw [twice_eq s (by omega) K (by omega), hcon, Option.bind_some, Option.bind_some]
  by_cases c : 0 ≤ index s.data.toList [58, 58]
  · obtain ⟨a, r, e, ei⟩ := two_split _ c
    have hl : a.length + 2 + r.length = s.size := by rw [← hd, e, List.length_append]; simp only [List.length_cons]; omega
    have h58 : (58 : UInt8) ∈ s.data.toList := by rw [e]; simp
    have hx1 : s.extract 0 a.length = mkB a := by
      apply bytesOf_inj
      rw [bytesOf_extract, mkB_bytes]
      unfold bytesOf
      rw [e, ← List.map_take, ← List.map_drop, List.drop_zero, List.take_append_of_le_length (Nat.le_refl _), List.take_length]
    have hx2 : s.extract (a.length + 2) s.size = mkB r := by
      apply bytesOf_inj
      rw [bytesOf_extract, mkB_bytes, List.take_of_length_le (by rw [bytesOf_length]; exact Nat.le_refl _)]
      unfold bytesOf
      rw [e, ← List.map_drop, ← List.drop_drop, List.drop_left]
      rfl
    have hw : wrap64 ((a.length : Int) + 2) = ((a.length + 2 : Nat) : Int) := by unfold wrap64; omega
    have s1 : (mkB a).size ≤ 100 := by rw [mkB_size]; omega
    have s2 : (mkB r).size ≤ 100 := by rw [mkB_size]; omega
    have l1 := groupsP_len (mkB a) s1 false
    have l2 := groupsP_len (mkB r) s2 true
    have j0t : ∀ x y, nameplateref04_Read.j0 K x y true = some (false, 0, 0, 7) := by
      intro x y
      obtain ⟨k, rfl⟩ : ∃ k, K = k + 1 := ⟨K - 1, by omega⟩
      rw [nameplateref04_Read.j0, if_pos rfl]
    rw [ei, if_neg (show ¬ (a.length : Int) < 0 by omega), if_pos (show 0 ≤ (a.length : Int) by omega), if_pos (show (a.length : Int) ≤ (s.size : Int) by omega), Int.toNat_natCast, hx1, groups_P _ s1 K (by omega), Option.bind_some, hw,
      if_pos (show 0 ≤ ((a.length + 2 : Nat) : Int) by omega), if_pos (show ((a.length + 2 : Nat) : Int) ≤ (s.size : Int) by omega), Int.toNat_natCast, hx2, groups_P _ s2 K (by omega), Option.bind_some, if_pos (contains_one h58), newer_two s hs K hK a r e ei s1 s2, Option.bind_some]
    by_cases ct : contains r [58, 58] = true
    · have hg := groups_mid (mkB r) true (by rw [mkB_data]; exact ct)
      rw [if_pos ct, hg]
      dsimp only
      rw [if_neg (show ¬ false = true by decide), if_neg (show ¬ false = true by decide), j0t]
      rw [ite_same]
    · rw [if_neg ct]
      generalize groupsP (mkB a) false = G1 at *
      generalize groupsP (mkB r) true = G2 at *
      by_cases b1 : G1.2 = false
      · rw [if_neg (show ¬ G1.2 = true by rw [b1]; decide), if_pos b1, j0t]
        rfl
      · rw [if_neg b1, if_pos (show G1.2 = true by simpa using b1)]
        by_cases b2 : G2.2 = false
        · rw [if_neg (show ¬ G2.2 = true by rw [b2]; decide), if_pos b2, j0t]
          rfl
        · rw [if_neg b2, if_pos (show G2.2 = true by simpa using b2)]
          rw [j0_at _ _ l1 l2 K hK]
          by_cases c3 : 8 - (G1.1.length : Int) - (G2.1.length : Int) < 1
          · rw [if_pos c3, if_pos c3]
            rfl
          · rw [if_neg c3, if_neg c3]
            rfl
  · rw [if_pos (show index s.data.toList [58, 58] < 0 by omega), groups_P s hs K (by omega), Option.bind_some]
    by_cases h58 : (58 : UInt8) ∈ s.data.toList
    · rw [if_pos (contains_one h58), newer_one s hs K hK c, Option.bind_some]
      generalize groupsP s true = G1 at *
      by_cases b1 : G1.2 = false
      · rw [if_pos b1, if_neg (show ¬ G1.2 = true by rw [b1]; decide)]
        rfl
      · rw [if_neg b1, if_pos (show G1.2 = true by simpa using b1)]
        by_cases c8 : (G1.1.length : Int) = 8
        · rw [if_pos c8, if_pos c8]
          rw [newer_of_f _ (by omega) K (by omega)]
          rfl
        · rw [if_neg c8, if_neg c8]
          rfl
    · have h2 := groups_one s true h58
      rw [if_neg (show ¬ contains s.data.toList [58] = true by rw [show contains s.data.toList [58] = false by unfold contains; rw [index1_none h58]; decide]; decide), if_neg (show ¬ ((groupsP s true).1.length : Int) = 8 by omega)]
      rw [ite_same]
theorem rread_eq (s : ByteArray) (hs : s.size ≤ 100) (K : Nat) (hK : 450 ≤ K) : nameplateref04_Read.f K s = addr_Read.f K s := by
  obtain ⟨b, lo, he, _⟩ := elder_at s (by omega)
  have he' := he (K - 5)
  rw [show K - 5 + 5 = K by omega] at he'
  unfold nameplateref04_Read.f addr_Read.f
  rw [relder_eq s (by omega) K (by omega), he', Option.bind_some, Option.bind_some]
  dsimp only
  cases b with
  | true => rfl
  | false =>
    rw [if_neg (by decide), if_neg (by decide)]
    exact read_rest s hs K hK
end Go.Proofs.YtbalmnkbodcigaaGreatDoor.AddrFns
set_option linter.unusedSimpArgs false
set_option linter.unusedVariables false
namespace Go.Proofs.YtbalmnkbodcigaaGreatDoor.AddrFns
open Go.RowKit Go.Lib Go.Proofs.YtbalmnkbodcigaaGreatDoor.ORc Go.Proofs.YtbalmnkbodcigaaGreatDoor.AddrLib Go.Proofs.YtbalmnkbodcigaaGreatDoor.RangeFns Go.Proofs.YtbalmnkbodcigaaGreatDoorW.PrintWords Go.Proofs.YtbalmnkbodcigaaGreatDoorW.PrintLast Go.Proofs.YtbalmnkbodcigaaGreatDoorW.PrintMore

theorem read_mono (s : ByteArray) (r : Bool × Int × Int × Int) (k : Nat) (h : addr_Read.f k s = some r) : ∀ j, addr_Read.f (k + j) s = some r
  | 0 => h
  | j + 1 => addr_Read.mono s (k + j) _ (read_mono s r k h j)
theorem read_at (s : ByteArray) (hs : s.size ≤ 100) : ∃ six hi lo e, (∀ K, 400 ≤ K → addr_Read.f K s = some (six, hi, lo, e)) ∧ ((e = 0 ∧ ok2 six hi lo) ∨ (e = 7 ∧ six = false ∧ hi = 0 ∧ lo = 0)) := by
  obtain ⟨six, hi, lo, e, h, h2⟩ := read_tot s hs
  refine ⟨six, hi, lo, e, fun K hK => ?_, h2⟩
  have := read_mono s _ 400 h (K - 400)
  rw [show 400 + (K - 400) = K by omega] at this
  exact this
/-! ### The digits behind the stroke -/
def endF (six : Bool) (hi lo : Int) (x : ByteArray) : Option (Bool × Int × Int × Int × Int) :=
  if (∀ c ∈ bytesOf x, digI c < 10) then (ranges_Check.f six hi lo (valI 10 (bytesOf x))).bind fun e => if e = 0 then some (six, hi, lo, valI 10 (bytesOf x), 0) else some (false, 0, 0, 0, e) else some (false, 0, 0, 0, 7)
theorem rr_l1 (six : Bool) (hi lo : Int) (h : u64 hi) (l : u64 lo) (x : ByteArray) (hx : x.size ≤ 3) : ∀ (m i k : Nat), i + m = x.size → (∀ c ∈ (bytesOf x).take i, digI c < 10) → 0 ≤ valI 10 ((bytesOf x).take i) → valI 10 ((bytesOf x).take i) < 10 ^ i →
    nameplateref05_Read.l1 (k + 140 + m + 1) x (valI 10 ((bytesOf x).take i)) (i : Int) six hi lo = endF six hi lo x
  | 0, i, k, hi_, h1, h2, h3 => by
    have hl := bytesOf_length x
    have h10 : (10 : Int) ^ i ≤ 1000 := by
      have t : ∀ j : Fin 4, (10 : Int) ^ j.val ≤ 1000 := by decide
      exact t ⟨i, by omega⟩
    rw [List.take_of_length_le (by omega)] at h1 h2 h3 ⊢
    unfold endF
    rw [nameplateref05_Read.l1, if_neg (by omega), if_pos h1, Nat.add_zero, rcheck_eq h l (by unfold i64; omega)]
  | m + 1, i, k, hi_, h1, h2, h3 => by
    have hl := bytesOf_length x
    have hlt : i < (bytesOf x).length := by omega
    have hw : wrap64 ((i : Int) + 1) = ((i + 1 : Nat) : Int) := by unfold wrap64; omega
    have hb : bt x (i : Int) = (bytesOf x)[i] := by rw [← getD_bt, List.getD_eq_getElem?_getD, List.getElem?_eq_getElem hlt]; rfl
    have hmem : (bytesOf x)[i] ∈ bytesOf x := List.getElem_mem hlt
    have htake : (bytesOf x).take (i + 1) = (bytesOf x).take i ++ [(bytesOf x)[i]] := List.take_succ_eq_append_getElem hlt
    rw [show k + 140 + (m + 1) + 1 = (k + 140 + m + 1) + 1 by omega, nameplateref05_Read.l1, if_pos (by omega), if_pos (by omega), hb, hw]
    have bad : ¬ (48 ≤ (bytesOf x)[i] ∧ (bytesOf x)[i] ≤ 57) → ¬ ∀ c ∈ bytesOf x, digI c < 10 := fun hn h => hn ((digI_10 _).1 (h _ hmem))
    by_cases c1 : (bytesOf x)[i] < 48
    · unfold endF
      rw [if_pos c1, if_neg (bad (by omega))]
    · rw [if_neg c1]
      by_cases c2 : (bytesOf x)[i] > 57
      · unfold endF
        rw [if_pos c2, if_neg (bad (by omega))]
      · have hd : 48 ≤ (bytesOf x)[i] ∧ (bytesOf x)[i] ≤ 57 := by omega
        have hv := val_snoc2 10 ((bytesOf x).take i) (bytesOf x)[i]
        rw [digI_val hd, ← htake] at hv
        have h10 : (10 : Int) ^ i ≤ 100 := by
          have t : ∀ j : Fin 3, (10 : Int) ^ j.val ≤ 100 := by decide
          exact t ⟨i, by omega⟩
        have hs : (10 : Int) ^ (i + 1) = 10 ^ i * 10 := Int.pow_succ _ _
        rw [if_neg c2]
        have e : wrap64 (wrap64 (10 * valI 10 ((bytesOf x).take i)) + ((bytesOf x)[i] - 48) % 256) = valI 10 ((bytesOf x).take (i + 1)) := by
          rw [hv]
          unfold wrap64
          omega
        rw [e]
        refine rr_l1 six hi lo h l x hx m (i + 1) k (by omega) ?_ (by rw [hv]; omega) (by rw [hv, hs]; omega)
        rw [htake]
        intro c hc
        rcases List.mem_append.1 hc with hc | hc
        · exact h1 c hc
        · obtain rfl := List.mem_singleton.1 hc
          exact (digI_10 _).2 hd
theorem rr_end (six : Bool) (hi lo : Int) (h : u64 hi) (l : u64 lo) (x : ByteArray) (hx : x.size ≤ 3) (K : Nat) (hK : 150 ≤ K) : nameplateref05_Read.l1 K x 0 0 six hi lo = endF six hi lo x := by
  have := rr_l1 six hi lo h l x hx x.size 0 (K - 141 - x.size) (Nat.zero_add _) (fun c hc => by simp at hc) (Int.le_refl _) (by rw [List.take_zero]; decide)
  rw [show K - 141 - x.size + 140 + x.size + 1 = K by omega, List.take_zero, show valI 10 [] = 0 from rfl, show ((0 : Nat) : Int) = 0 from rfl] at this
  exact this
/-! ### The stroke -/
theorem rr_l0 (s : ByteArray) (hs : s.size ≤ 100) (r : List UInt8) : ∀ (a p : List UInt8) (k : Nat), s.data.toList = p ++ a ++ 47 :: r → (47 : UInt8) ∉ a → nameplateref05_Read.l0 (k + a.length + 1) s (p.length : Int) = nameplateref05_Read.j1 k s ((p.length + a.length : Nat) : Int)
  | [], p, k, e, h => by
    have hd : s.data.toList.length = s.size := data_length s
    have hl : p.length + (r.length + 1) = s.size := by rw [← hd, e, List.append_nil, List.length_append, List.length_cons]
    have hlt : p.length < s.data.toList.length := by omega
    have hb : s.data.toList[p.length] = 47 := by
      simp only [e, List.append_nil]
      rw [List.getElem_append_right (Nat.le_refl _)]
      simp
    rw [nameplateref05_Read.l0, if_pos (show (p.length : Int) < (s.size : Int) by omega), if_pos (show 0 ≤ (p.length : Int) by omega), bt_data s p.length (by omega), hb, if_pos (show (((47 : UInt8).toNat : Nat) : Int) = 47 from rfl)]
    rfl
  | b :: a, p, k, e, h => by
    have hd : s.data.toList.length = s.size := data_length s
    have hl : p.length + (a.length + 1) + (r.length + 1) = s.size := by rw [← hd, e, List.length_append, List.length_append, List.length_cons, List.length_cons]
    have hb : s.data.toList[p.length]'(by omega) = b := by
      simp only [e, List.append_assoc]
      rw [List.getElem_append_right (Nat.le_refl _)]
      simp
    have hne : ¬ ((b.toNat : Nat) : Int) = 47 := fun hh => h (by
      have : b = 47 := UInt8.toNat_inj.1 (by rw [show (47 : UInt8).toNat = 47 from rfl]; omega)
      rw [this]; exact List.mem_cons_self)
    have ih := rr_l0 s hs r a (p ++ [b]) k (by rw [e]; simp) (fun hc => h (List.mem_cons_of_mem _ hc))
    rw [List.length_append, List.length_singleton] at ih
    rw [List.length_cons, show k + (a.length + 1) + 1 = (k + a.length + 1) + 1 by omega, nameplateref05_Read.l0, if_pos (show (p.length : Int) < (s.size : Int) by omega), if_pos (show 0 ≤ (p.length : Int) by omega), bt_data s p.length (by omega), hb, if_neg hne, wrap_small p.length (by omega), ih, show p.length + 1 + a.length = p.length + (a.length + 1) by omega]
theorem rr_l0_no (s : ByteArray) (hs : s.size ≤ 100) : ∀ (a p : List UInt8) (k : Nat), s.data.toList = p ++ a → (47 : UInt8) ∉ a → nameplateref05_Read.l0 (k + a.length + 1) s (p.length : Int) = nameplateref05_Read.j1 k s (s.size : Int)
  | [], p, k, e, h => by
    have hd : s.data.toList.length = s.size := data_length s
    have hl : p.length = s.size := by rw [← hd, e, List.append_nil]
    rw [nameplateref05_Read.l0, if_neg (show ¬ (p.length : Int) < (s.size : Int) by omega), hl]
    rfl
  | b :: a, p, k, e, h => by
    have hd : s.data.toList.length = s.size := data_length s
    have hl : p.length + (a.length + 1) = s.size := by rw [← hd, e, List.length_append, List.length_cons]
    have hb : s.data.toList[p.length]'(by omega) = b := by
      simp only [e]
      rw [List.getElem_append_right (Nat.le_refl _)]
      simp
    have hne : ¬ ((b.toNat : Nat) : Int) = 47 := fun hh => h (by
      have : b = 47 := UInt8.toNat_inj.1 (by rw [show (47 : UInt8).toNat = 47 from rfl]; omega)
      rw [this]; exact List.mem_cons_self)
    have ih := rr_l0_no s hs a (p ++ [b]) k (by rw [e]; simp) (fun hc => h (List.mem_cons_of_mem _ hc))
    rw [List.length_append, List.length_singleton] at ih
    rw [List.length_cons, show k + (a.length + 1) + 1 = (k + a.length + 1) + 1 by omega, nameplateref05_Read.l0, if_pos (show (p.length : Int) < (s.size : Int) by omega), if_pos (show 0 ≤ (p.length : Int) by omega), bt_data s p.length (by omega), hb, if_neg hne, wrap_small p.length (by omega), ih]
theorem rr_j1 (s : ByteArray) (hs : s.size ≤ 100) (a r : List UInt8) (e : s.data.toList = a ++ 47 :: r) (K : Nat) (hK : 700 ≤ K) : nameplateref05_Read.j1 K s (a.length : Int) =
    (addr_Read.f K (mkB a)).bind fun t => if badH true t.2.2.2 (mkB r) = true then some (false, 0, 0, 0, 7) else endF t.1 t.2.1 t.2.2.1 (mkB r) := by
  have hd : s.data.toList.length = s.size := data_length s
  have hl : a.length + (r.length + 1) = s.size := by rw [← hd, e, List.length_append, List.length_cons]
  have hx1 : s.extract 0 a.length = mkB a := by
    apply bytesOf_inj
    rw [bytesOf_extract, mkB_bytes]
    unfold bytesOf
    rw [e, ← List.map_take, ← List.map_drop, List.drop_zero, List.take_append_of_le_length (Nat.le_refl _), List.take_length]
  have hx2 : s.extract (a.length + 1) s.size = mkB r := by
    apply bytesOf_inj
    rw [bytesOf_extract, mkB_bytes, List.take_of_length_le (by rw [bytesOf_length]; exact Nat.le_refl _)]
    unfold bytesOf
    rw [e, ← List.map_drop, ← List.drop_drop, List.drop_left]
    rfl
  have hsz : (mkB a).size ≤ 100 := by rw [mkB_size]; omega
  obtain ⟨k, rfl⟩ : ∃ k, K = k + 1 := ⟨K - 1, by omega⟩
  obtain ⟨six, hi, lo, er, hr, h2⟩ := read_at (mkB a) hsz
  have hu : u64 hi ∧ u64 lo := by
    rcases h2 with ⟨_, h⟩ | ⟨_, _, rfl, rfl⟩
    · exact ⟨⟨h.1, by have := h.2.1; omega⟩, ⟨h.2.2.1, by have := h.2.2.2.1; omega⟩⟩
    · exact ⟨⟨by decide, by decide⟩, ⟨by decide, by decide⟩⟩
  obtain ⟨k', hk'⟩ : ∃ k', k = k' + 1 := ⟨k - 1, by omega⟩
  have j2t : ∀ x, nameplateref05_Read.j2 k x true six hi lo = some (false, 0, 0, 0, 7) := by
    intro x
    rw [hk', nameplateref05_Read.j2, if_pos rfl]
  have j2f : ∀ x : ByteArray, x.size ≤ 3 → nameplateref05_Read.j2 k x false six hi lo = endF six hi lo x := by
    intro x hx
    rw [hk', nameplateref05_Read.j2, if_neg (show ¬ false = true by decide), rr_end six hi lo hu.1 hu.2 x hx k' (by omega)]
  rw [nameplateref05_Read.j1, if_neg (show ¬ (a.length : Int) = (s.size : Int) by omega), if_pos (show 0 ≤ (a.length : Int) by omega), if_pos (show (a.length : Int) ≤ (s.size : Int) by omega), Int.toNat_natCast, hx1, wrap_small a.length (by omega), rread_eq _ hsz k (by omega), hr k (by omega), hr (k + 1) (by omega), Option.bind_some, Option.bind_some,
    if_pos (show 0 ≤ ((a.length + 1 : Nat) : Int) by omega), if_pos (show ((a.length + 1 : Nat) : Int) ≤ (s.size : Int) by omega), Int.toNat_natCast, hx2]
  dsimp only
  generalize mkB r = n
  by_cases c0 : er = 0
  · rw [if_pos c0]
    by_cases c1 : (n.size : Int) < 1
    · rw [if_pos c1, j2t, if_pos (show badH true er n = true by unfold badH; rw [decide_eq_true (show n.size < 1 by omega)]; simp)]
    · rw [if_neg c1]
      by_cases c2 : (n.size : Int) > 3
      · rw [if_pos c2, j2t, if_pos (show badH true er n = true by unfold badH; rw [decide_eq_true (show n.size > 3 by omega)]; simp)]
      · rw [if_neg c2]
        by_cases c3 : (n.size : Int) > 1
        · rw [if_pos c3, if_pos (show 0 < (n.size : Int) by omega)]
          by_cases c4 : bt n 0 = 48
          · rw [show ((bt n 0) == 48) = true from beq_iff_eq.2 c4, j2t, if_pos (show badH true er n = true by unfold badH; rw [decide_eq_true (show n.size > 1 by omega), decide_eq_true c4]; simp)]
          · rw [show ((bt n 0) == 48) = false from beq_eq_false_iff_ne.2 c4, j2f n (by omega), if_neg (show ¬ badH true er n = true by unfold badH; rw [decide_eq_false (show ¬ er ≠ 0 by simpa using c0), decide_eq_false (show ¬ n.size < 1 by omega), decide_eq_false (show ¬ n.size > 3 by omega), decide_eq_false c4]; simp)]
        · rw [if_neg c3, j2f n (by omega), if_neg (show ¬ badH true er n = true by unfold badH; rw [decide_eq_false (show ¬ er ≠ 0 by simpa using c0), decide_eq_false (show ¬ n.size < 1 by omega), decide_eq_false (show ¬ n.size > 3 by omega), decide_eq_false (show ¬ n.size > 1 by omega)]; simp)]
  · rw [if_neg c0, j2t, if_pos (show badH true er n = true by unfold badH; rw [decide_eq_true (show er ≠ 0 from c0)]; simp)]
theorem rrread_eq (s : ByteArray) (hs : s.size ≤ 100) (K : Nat) (hK : 900 ≤ K) : nameplateref05_Read.f K s = ranges_Read.f K s := by
  have hd : s.data.toList.length = s.size := data_length s
  unfold nameplateref05_Read.f ranges_Read.f rrF
  rw [if_pos (show s.size ≤ 100000 by omega)]
  by_cases h47 : (47 : UInt8) ∈ s.data.toList
  · obtain ⟨a, r, e, ha⟩ := List.eq_append_cons_of_mem h47
    have hl : a.length + (r.length + 1) = s.size := by rw [← hd, e, List.length_append, List.length_cons]
    have hi := index1_at ha r
    have hcut : cut s.data.toList [47] = (a, r, true) := by
      unfold cut
      rw [e, if_pos (by omega), hi, Int.toNat_natCast, List.take_append_of_le_length (Nat.le_refl _), List.take_length, show a.length + ([47] : List UInt8).length = a.length + 1 from rfl, ← List.drop_drop, List.drop_left]
      rfl
    have hA : cutA s = mkB a := by unfold cutA; rw [hcut]; rfl
    have hB : cutB s = mkB r := by unfold cutB; rw [hcut]; rfl
    have hC : cutC s = true := by unfold cutC; rw [hcut]
    have h0 := rr_l0 s hs r a [] (K - a.length - 1) (by rw [e]; rfl) ha
    rw [show K - a.length - 1 + a.length + 1 = K by omega, show (([] : List UInt8).length : Int) = 0 from rfl, show ([] : List UInt8).length + a.length = a.length from Nat.zero_add _] at h0
    have hsz : (mkB a).size ≤ 100 := by rw [mkB_size]; omega
    obtain ⟨six, hi', lo, er, hr, h2⟩ := read_at (mkB a) hsz
    rw [h0, rr_j1 s hs a r e _ (by omega), hA, hB, hC, hr _ (by omega), hr _ (by omega)]
    rfl
  · have hcut : cut s.data.toList [47] = (s.data.toList, [], false) := by
      unfold cut
      rw [index1_none h47]
      exact if_neg (by decide)
    have hA : cutA s = s := by unfold cutA; rw [hcut]
    have hC : cutC s = false := by unfold cutC; rw [hcut]
    have h0 := rr_l0_no s hs s.data.toList [] (K - s.size - 1) rfl h47
    rw [hd, show K - s.size - 1 + s.size + 1 = K by omega, show (([] : List UInt8).length : Int) = 0 from rfl] at h0
    obtain ⟨six, hi', lo, er, hr, h2⟩ := read_at s hs
    obtain ⟨k, hk⟩ : ∃ k, K - s.size - 1 = k + 1 := ⟨K - s.size - 2, by omega⟩
    rw [h0, hk, nameplateref05_Read.j1, if_pos rfl, hA, hC, hr K (by omega), Option.bind_some, if_pos (show badH false er (cutB s) = true by unfold badH; simp)]
end Go.Proofs.YtbalmnkbodcigaaGreatDoor.AddrFns
set_option linter.unusedSimpArgs false
set_option linter.unusedVariables false
namespace Go.Proofs.YtbalmnkbodcigaaGreatDoor.AddrFns
open Go.RowKit Go.Lib Go.Proofs.YtbalmnkbodcigaaGreatDoor.ORc Go.Proofs.YtbalmnkbodcigaaGreatDoor.AddrLib Go.Proofs.YtbalmnkbodcigaaGreatDoor.RangeFns Go.Proofs.YtbalmnkbodcigaaGreatDoorW.PrintWords Go.Proofs.YtbalmnkbodcigaaGreatDoorW.PrintLast Go.Proofs.YtbalmnkbodcigaaGreatDoorW.PrintMore

/-! ### Digits -/
theorem dig_cut : ∀ d : Fin 16, (⟨#[48, 49, 50, 51, 52, 53, 54, 55, 56, 57, 97, 98, 99, 100, 101, 102]⟩ : ByteArray).extract d.val (d.val + 1) = mkB [hexD d.val] := by decide +kernel
theorem dig_cut10 : ∀ d : Fin 10, (⟨#[48, 49, 50, 51, 52, 53, 54, 55, 56, 57]⟩ : ByteArray).extract d.val (d.val + 1) = mkB [UInt8.ofNat (48 + d.val)] := by decide +kernel
theorem dg_step (k : Nat) (a b : Int) (hb : b = 10 ∨ b = 16) (h0 : 0 ≤ a) (h1 : a < 1000000) : nameplateref04_digits.f (k + 1) a b = if a < b then some (mkB [hexD (a % b).toNat]) else (nameplateref04_digits.f k (a / b) b).bind fun t => if t.size + 1 ≤ 9223372036854775807 then some (t ++ mkB [hexD (a % b).toNat]) else none := by
  have hm : Int.tmod a b = a % b := Int.tmod_eq_emod_of_nonneg h0
  have hd : Int.tdiv a b = a / b := Int.tdiv_eq_ediv_of_nonneg h0
  have r0 : 0 ≤ a % b ∧ a % b < 16 := by rcases hb with rfl | rfl <;> omega
  have r1 : 0 ≤ a / b ∧ a / b < 1000000 := by rcases hb with rfl | rfl <;> omega
  have w1 : IntKind.u64.wrap (a % b + 1) = a % b + 1 := wr64 _ (by omega) (by omega)
  have w2 : IntKind.u64.wrap (a / b) = a / b := wr64 _ r1.1 (by omega)
  have hx := dig_cut ⟨(a % b).toNat, by omega⟩
  dsimp only at hx
  rw [nameplateref04_digits.f, if_neg (by omega), hm, hd, w1, w2, if_pos r0.1, if_pos (by omega), if_pos (by omega), show (a % b + 1).toNat = (a % b).toNat + 1 by omega, hx]
  rfl
theorem hex_snoc (u : Nat) (h : 16 ≤ u) (h2 : u < 65536) : hexL u = hexL (u / 16) ++ [hexD (u % 16)] := by
  unfold hexL
  rw [if_neg (show ¬ u < 16 by omega)]
  by_cases c1 : u < 256
  · rw [if_pos c1, if_pos (show u / 16 < 16 by omega)]; rfl
  · rw [if_neg c1, if_neg (show ¬ u / 16 < 16 by omega)]
    by_cases c2 : u < 4096
    · rw [if_pos c2, if_pos (show u / 16 < 256 by omega), show u / 16 / 16 = u / 256 by omega]; rfl
    · rw [if_neg c2, if_neg (show ¬ u / 16 < 256 by omega), if_pos (show u / 16 < 4096 by omega), show u / 16 / 256 = u / 4096 by omega, show u / 16 / 16 = u / 256 by omega]; rfl
theorem hex_eq : ∀ (n k : Nat) (a : Int), n ≤ 3 → 0 ≤ a → a < 16 ^ (n + 1) → nameplateref04_digits.f (k + n + 1) a 16 = some (mkB (hexL a.toNat))
  | 0, k, a, _, h0, h1 => by
    have h1 : a < 16 := by simpa using h1
    rw [dg_step _ a 16 (.inr rfl) h0 (by omega), if_pos h1, show (a % 16).toNat = a.toNat by omega]
    unfold hexL
    rw [if_pos (by omega)]
  | n + 1, k, a, hn, h0, h1 => by
    have hb : (16 : Int) ^ (n + 1 + 1) ≤ 65536 ∧ (16 : Int) ^ (n + 1 + 1) = 16 ^ (n + 1) * 16 := by
      refine ⟨?_, Int.pow_succ _ _⟩
      have t : ∀ j : Fin 3, (16 : Int) ^ (j.val + 1 + 1) ≤ 65536 := by decide
      exact t ⟨n, by omega⟩
    rw [show k + (n + 1) + 1 = (k + n + 1) + 1 by omega, dg_step _ a 16 (.inr rfl) h0 (by omega)]
    by_cases c : a < 16
    · rw [if_pos c, show (a % 16).toNat = a.toNat by omega]
      unfold hexL
      rw [if_pos (by omega)]
    · have hq := hex_eq n k (a / 16) (by omega) (by omega) (by omega)
      have hl := (hexL_len (a / 16).toNat).2
      rw [if_neg c, hq, Option.bind_some, if_pos (by rw [mkB_size]; omega), mkB_app2, hex_snoc a.toNat (by omega) (by omega), show (a / 16).toNat = a.toNat / 16 by omega, show (a % 16).toNat = a.toNat % 16 by omega]
theorem hexd10 (d : Nat) (h : d < 10) : hexD d = UInt8.ofNat (48 + d) := by unfold hexD; rw [if_pos h]
theorem dec_snoc (u : Nat) (h : 10 ≤ u) (h2 : u < 1000) : decL u = decL (u / 10) ++ [hexD (u % 10)] := by
  rw [hexd10 _ (by omega)]
  unfold decL
  rw [if_neg (show ¬ u < 10 by omega)]
  by_cases c1 : u < 100
  · rw [if_pos c1, if_pos (show u / 10 < 10 by omega)]; rfl
  · rw [if_neg c1, if_neg (show ¬ u / 10 < 10 by omega), if_pos (show u / 10 < 100 by omega), show u / 10 / 10 = u / 100 by omega]; rfl
theorem decL_len (u : Nat) : 1 ≤ (decL u).length ∧ (decL u).length ≤ 3 := by
  unfold decL
  repeat' split
  all_goals exact ⟨by simp, by simp⟩
theorem dec_eqD : ∀ (n k : Nat) (a : Int), n ≤ 2 → 0 ≤ a → a < 10 ^ (n + 1) → nameplateref04_digits.f (k + n + 1) a 10 = some (mkB (decL a.toNat))
  | 0, k, a, _, h0, h1 => by
    have h1 : a < 10 := by simpa using h1
    rw [dg_step _ a 10 (.inl rfl) h0 (by omega), if_pos h1, show (a % 10).toNat = a.toNat by omega, hexd10 _ (by omega)]
    unfold decL
    rw [if_pos (by omega)]
  | n + 1, k, a, hn, h0, h1 => by
    have hb : (10 : Int) ^ (n + 1 + 1) ≤ 1000 ∧ (10 : Int) ^ (n + 1 + 1) = 10 ^ (n + 1) * 10 := by
      refine ⟨?_, Int.pow_succ _ _⟩
      have t : ∀ j : Fin 2, (10 : Int) ^ (j.val + 1 + 1) ≤ 1000 := by decide
      exact t ⟨n, by omega⟩
    rw [show k + (n + 1) + 1 = (k + n + 1) + 1 by omega, dg_step _ a 10 (.inl rfl) h0 (by omega)]
    by_cases c : a < 10
    · rw [if_pos c, show (a % 10).toNat = a.toNat by omega, hexd10 _ (by omega)]
      unfold decL
      rw [if_pos (by omega)]
    · have hq := dec_eqD n k (a / 10) (by omega) (by omega) (by omega)
      have hl := (decL_len (a / 10).toNat).2
      rw [if_neg c, hq, Option.bind_some, if_pos (by rw [mkB_size]; omega), mkB_app2, dec_snoc a.toNat (by omega) (by omega), show (a / 10).toNat = a.toNat / 10 by omega, show (a % 10).toNat = a.toNat % 10 by omega]
theorem dec_at (K : Nat) (hK : 3 ≤ K) (a : Int) (h0 : 0 ≤ a) (h1 : a < 256) : nameplateref04_digits.f K a 10 = some (mkB (itoa a)) := by
  have := dec_eqD 2 (K - 3) a (by omega) h0 (by omega)
  rw [show K - 3 + 2 + 1 = K by omega] at this
  rw [this, itoa_eq a h0 (by omega)]
theorem hex_at (K : Nat) (hK : 4 ≤ K) (a : Int) (h0 : 0 ≤ a) (h1 : a < 65536) : nameplateref04_digits.f K a 16 = some (mkB (hx a)) := by
  have := hex_eq 3 (K - 4) a (by omega) h0 (by omega)
  rw [show K - 4 + 3 + 1 = K by omega] at this
  exact this
/-! ### Groups with colons between -/
theorem tx_snoc (l : List Int) (x : Int) (h : l ≠ []) : tx (l ++ [x]) = tx l ++ 58 :: hx x := by
  match l, h with
  | y :: t, _ =>
    unfold tx
    rw [List.map_append, List.map_cons, List.cons_append, join_cons, join_cons]
    simp [joinTail]
theorem tx_one (x : Int) : tx [x] = hx x := by
  unfold tx
  rw [List.map_cons, List.map_nil, join_cons]
  simp [joinTail]
theorem joined_l0 (l : List Int) (h : rng l) (h8 : l.length ≤ 8) : ∀ (m i k : Nat), i + m = l.length → nameplateref04_joined.l0 (k + 4 + m + 1) l (mkB (tx (l.take i))) (i : Int) = some (mkB (tx l))
  | 0, i, k, hi => by
    rw [nameplateref04_joined.l0, if_neg (by omega), List.take_of_length_le (by omega)]
  | m + 1, i, k, hi => by
    have hlt : i < l.length := by omega
    have hr := h l[i] (List.getElem_mem hlt)
    have hg : rd l (i : Int) = l[i] := by rw [rd_nat, List.getD_eq_getElem?_getD, List.getElem?_eq_getElem hlt]; rfl
    have ht : l.take (i + 1) = l.take i ++ [l[i]] := List.take_succ_eq_append_getElem hlt
    have hl := tx_len (l.take i)
    have hl2 := (hexL_len l[i].toNat).2
    rw [List.length_take] at hl
    have ih := joined_l0 l h h8 m (i + 1) k (by omega)
    have hh : (hx l[i]).length ≤ 4 := hl2
    rw [show k + 4 + (m + 1) + 1 = (k + 4 + m + 1) + 1 by omega, nameplateref04_joined.l0, if_pos (by omega), hg, hex_at _ (by omega) _ hr.1 hr.2, wrap_small i (by omega)]
    by_cases c : (i : Int) > 0
    · have hne : l.take i ≠ [] := fun e => by have := congrArg List.length e; rw [List.length_take] at this; simp only [List.length_nil] at this; omega
      have e : (mkB (tx (l.take i)) ++ (⟨#[58]⟩ : ByteArray)) ++ mkB (hx l[i]) = mkB (tx (l.take (i + 1))) := by
        rw [ht, tx_snoc _ _ hne, show (⟨#[58]⟩ : ByteArray) = mkB [58] from rfl, mkB_app2, mkB_app2]
        congr 1
        simp
      rw [if_pos c, if_pos (by rw [mkB_size]; omega), if_pos (by omega), Option.bind_some, if_pos (by rw [show (⟨#[58]⟩ : ByteArray) = mkB [58] from rfl, mkB_app2, mkB_size, mkB_size, List.length_append]; simp only [List.length_cons, List.length_nil]; omega), e]
      exact ih
    · have hi0 : i = 0 := by omega
      subst hi0
      have e : mkB (tx (l.take 0)) ++ mkB (hx l[0]) = mkB (tx (l.take (0 + 1))) := by
        rw [ht, mkB_app2, List.take_zero, List.nil_append, tx_one]
        rfl
      rw [if_neg c, if_pos (by omega), Option.bind_some, if_pos (by rw [mkB_size, mkB_size]; omega), e]
      exact ih
theorem joined_eq (l : List Int) (h : rng l) (h8 : l.length ≤ 8) (K : Nat) (hK : 20 ≤ K) : nameplateref04_joined.f K l = some (mkB (tx l)) := by
  have := joined_l0 l h h8 l.length 0 (K - 5 - l.length) (by omega)
  rw [show K - 5 - l.length + 4 + l.length + 1 = K by omega, List.take_zero] at this
  exact this
/-! ### The longest run of noughts: it hangs on which groups are noughts alone -/
def nz (x : Int) : Int := if x = 0 then 0 else 1
theorem zL_nz : ∀ (l : List Int) (i f n k : Int), zL (l.map nz) i f n k = zL l i f n k
  | [], i, f, n, k => rfl
  | x :: t, i, f, n, k => by
    have ih := zL_nz t
    rw [List.map_cons, zL, zL]
    have e : (nz x = 0) = (x = 0) := by unfold nz; split <;> simp_all
    simp only [e, ih]
theorem rd_nz (l : List Int) (j : Int) : (rd (l.map nz) j = 0) = (rd l j = 0) := by
  unfold rd
  rw [List.getD_eq_getElem?_getD, List.getD_eq_getElem?_getD, List.getElem?_map]
  cases l[j.toNat]? with
  | none => rfl
  | some x => simp only [Option.map_some, Option.getD_some]; unfold nz; split <;> simp_all
theorem rz_nz (l : List Int) : ∀ k : Nat, (∀ a b c, nameplateref04_zeros.l0 k (l.map nz) a b c = nameplateref04_zeros.l0 k l a b c) ∧ (∀ a b c d, nameplateref04_zeros.l1 k (l.map nz) a b c d = nameplateref04_zeros.l1 k l a b c d)
  | 0 => ⟨fun _ _ _ => rfl, fun _ _ _ _ => rfl⟩
  | k + 1 => by
    obtain ⟨i0, i1⟩ := rz_nz l k
    refine ⟨fun a b c => ?_, fun a b c d => ?_⟩
    · rw [nameplateref04_zeros.l0, nameplateref04_zeros.l0]
      simp only [i1]
    · rw [nameplateref04_zeros.l1, nameplateref04_zeros.l1]
      simp only [i0, i1, rd_nz, List.length_map]
def bitL (n : Nat) : List Int := [(n / 128 % 2 : Nat), (n / 64 % 2 : Nat), (n / 32 % 2 : Nat), (n / 16 % 2 : Nat), (n / 8 % 2 : Nat), (n / 4 % 2 : Nat), (n / 2 % 2 : Nat), (n % 2 : Nat)]
theorem zeros_tab : ∀ n : Fin 256, nameplateref04_zeros.l0 70 (bitL n.val) 0 0 0 = some (zL (bitL n.val) 0 0 0 0) := by decide +kernel
theorem nz_bit (l : List Int) (h : l.length = 8) : ∃ n : Fin 256, l.map nz = bitL n.val := by
  match l, h with
  | [a, b, c, d, e, f, g, i], _ =>
    have t : ∀ x, nz x = 0 ∨ nz x = 1 := fun x => by unfold nz; split <;> simp
    have ha := t a; have hb := t b; have hc := t c; have hd := t d; have he := t e; have hf := t f; have hg := t g; have hi := t i
    simp only [List.map_cons, List.map_nil]
    generalize nz a = a at *; generalize nz b = b at *; generalize nz c = c at *; generalize nz d = d at *
    generalize nz e = e at *; generalize nz f = f at *; generalize nz g = g at *; generalize nz i = i at *
    refine ⟨⟨(a * 128 + b * 64 + c * 32 + d * 16 + e * 8 + f * 4 + g * 2 + i).toNat, by omega⟩, ?_⟩
    rcases ha with rfl | rfl <;> rcases hb with rfl | rfl <;> rcases hc with rfl | rfl <;> rcases hd with rfl | rfl <;> rcases he with rfl | rfl <;> rcases hf with rfl | rfl <;> rcases hg with rfl | rfl <;> rcases hi with rfl | rfl <;> (dsimp only; decide +kernel)
theorem zeros_mono (l : List Int) (r : Int × Int) (k : Nat) (h : nameplateref04_zeros.f k l = some r) : ∀ j, nameplateref04_zeros.f (k + j) l = some r
  | 0 => h
  | j + 1 => nameplateref04_zeros.mono l (k + j) _ (zeros_mono l r k h j)
theorem zeros_eq (l : List Int) (h : l.length = 8) (K : Nat) (hK : 70 ≤ K) : nameplateref04_zeros.f K l = some (zL l 0 0 0 0) := by
  obtain ⟨n, hn⟩ := nz_bit l h
  have h1 : nameplateref04_zeros.f 70 l = some (zL l 0 0 0 0) := by
    unfold nameplateref04_zeros.f
    rw [← (rz_nz l 70).1, ← zL_nz l, hn]
    exact zeros_tab n
  have := zeros_mono l _ 70 h1 (K - 70)
  rw [show 70 + (K - 70) = K by omega] at this
  exact this
/-! ### An address' text -/
theorem grp_at (x : Int) (h0 : 0 ≤ x) (h1 : x < 2 ^ 64) (i : Nat) (hi : i < 4) (j : Nat) (hj : j = 48 - 16 * i) : 0 ≤ IntKind.u64.wrap (wrap64 (48 - wrap64 (16 * (i : Int)))) ∧ Int.tmod (shr .u64 x (IntKind.u64.wrap (wrap64 (48 - wrap64 (16 * (i : Int)))))) 65536 = x / 2 ^ j % 65536 := by
  have e : IntKind.u64.wrap (wrap64 (48 - wrap64 (16 * (i : Int)))) = (j : Int) := by
    rw [show wrap64 (16 * (i : Int)) = 16 * i by unfold wrap64; omega, show wrap64 (48 - 16 * (i : Int)) = (j : Int) by unfold wrap64; omega]
    exact wr64 _ (by omega) (by omega)
  rw [e]
  have e2 : shr .u64 x (j : Int) = x / 2 ^ j := by
    show x / 2 ^ min (j : Int).toNat 64 = _
    rw [show min (j : Int).toNat 64 = j by omega]
  rw [e2, Int.tmod_eq_emod_of_nonneg (Int.ediv_nonneg h0 (Int.le_of_lt (two_pos j)))]
  exact ⟨by omega, rfl⟩
def grps (x : Int) : List Int := [x / 281474976710656 % 65536, x / 4294967296 % 65536, x / 65536 % 65536, x % 65536]
theorem cut_grps (hi lo : Int) : cutL hi lo = grps hi ++ grps lo := by
  unfold cutL g16 grps
  simp only [wr_u16]
  rfl
theorem text_l0 (six : Bool) (hi lo : Int) (h : u64 hi) (K : Nat) : nameplateref04_Text.l0 (K + 5) [] 0 six hi lo = nameplateref04_Text.l1 K (grps hi) 0 six hi lo := by
  have g := fun i hi' j hj => grp_at hi h.1 h.2 i hi' j hj
  have st : ∀ (i : Nat) (k : Nat) (acc : List Int) (j : Nat), i < 4 → j = 48 - 16 * i → acc.length ≤ 8 → nameplateref04_Text.l0 (k + 1) acc (i : Int) six hi lo = nameplateref04_Text.l0 k (acc ++ [hi / 2 ^ j % 65536]) ((i + 1 : Nat) : Int) six hi lo := by
    intro i k acc j hi4 hj ha
    obtain ⟨g1, g2⟩ := g i hi4 j hj
    rw [nameplateref04_Text.l0, if_pos (by omega), if_pos g1, if_pos (by omega), g2, wrap_small i (by omega)]
  rw [show (0 : Int) = ((0 : Nat) : Int) from rfl, show K + 5 = (K + 4) + 1 by omega, st 0 _ [] 48 (by omega) (by omega) (by simp), st 1 (K + 3) _ 32 (by omega) (by omega) (by simp), st 2 (K + 2) _ 16 (by omega) (by omega) (by simp), st 3 (K + 1) _ 0 (by omega) (by omega) (by simp), nameplateref04_Text.l0, if_neg (by decide)]
  unfold grps
  simp only [List.nil_append, List.cons_append, Int.reducePow, Int.pow_zero, Int.ediv_one, Nat.zero_add, Nat.reduceAdd]
  rfl
theorem text_l1 (six : Bool) (hi lo : Int) (l : u64 lo) (K : Nat) (acc : List Int) (ha : acc.length = 4) : nameplateref04_Text.l1 (K + 4) acc 0 six hi lo = nameplateref04_Text.l1 K (acc ++ grps lo) 4 six hi lo := by
  have g := fun i hi' j hj => grp_at lo l.1 l.2 i hi' j hj
  have st : ∀ (i : Nat) (k : Nat) (acc : List Int) (j : Nat), i < 4 → j = 48 - 16 * i → acc.length ≤ 8 → nameplateref04_Text.l1 (k + 1) acc (i : Int) six hi lo = nameplateref04_Text.l1 k (acc ++ [lo / 2 ^ j % 65536]) ((i + 1 : Nat) : Int) six hi lo := by
    intro i k acc j hi4 hj ha
    obtain ⟨g1, g2⟩ := g i hi4 j hj
    rw [nameplateref04_Text.l1, if_pos (by omega), if_pos g1, if_pos (by omega), g2, wrap_small i (by omega)]
  rw [show (0 : Int) = ((0 : Nat) : Int) from rfl, show K + 4 = (K + 3) + 1 by omega, st 0 _ acc 48 (by omega) (by omega) (by omega), st 1 (K + 2) _ 32 (by omega) (by omega) (by simp; omega), st 2 (K + 1) _ 16 (by omega) (by omega) (by simp; omega), st 3 K _ 0 (by omega) (by omega) (by simp; omega)]
  unfold grps
  simp only [List.append_assoc, List.nil_append, List.cons_append, Int.reducePow, Int.pow_zero, Int.ediv_one, Nat.zero_add, Nat.reduceAdd]
  rfl
theorem text_six (six : Bool) (hi lo : Int) (h : u64 hi) (l : u64 lo) (K K' : Nat) (hK : 120 ≤ K) (hK' : 20 ≤ K') : nameplateref04_Text.l0 K [] 0 six hi lo =
    (if 1 < (zL (cutL hi lo) 0 0 0 0).2 then
        (if 0 ≤ (zL (cutL hi lo) 0 0 0 0).1 ∧ (zL (cutL hi lo) 0 0 0 0).1 + (zL (cutL hi lo) 0 0 0 0).2 ≤ 8 then
          (addr_join.f K' ((cutL hi lo).take (zL (cutL hi lo) 0 0 0 0).1.toNat)).bind fun a => (addr_join.f K' ((cutL hi lo).drop ((zL (cutL hi lo) 0 0 0 0).1 + (zL (cutL hi lo) 0 0 0 0).2).toNat)).bind fun b =>
            if a.size ≤ 1000 ∧ b.size ≤ 1000 then some ((a ++ (⟨#[58, 58]⟩ : ByteArray)) ++ b, 0) else none
        else none)
      else (addr_join.f K' (cutL hi lo)).bind fun a => some (a, 0)) := by
  have hr : rng (cutL hi lo) := cut_rng hi lo
  have h8 : (cutL hi lo).length = 8 := rfl
  obtain ⟨k', hk'⟩ : ∃ k', K' = k' + 9 := ⟨K' - 9, by omega⟩
  obtain ⟨k, hk⟩ : ∃ k, K = (k + 1 + 4) + 5 := ⟨K - 10, by omega⟩
  obtain ⟨f, n, hz, hfn, hl⟩ := zL_whole (cutL hi lo)
  rw [h8] at hfn
  rw [hk, text_l0 six hi lo h, text_l1 six hi lo l _ _ rfl, ← cut_grps, nameplateref04_Text.l1, if_neg (by decide), zeros_eq _ h8 k (by omega), Option.bind_some, hz]
  dsimp only
  have hw : wrap64 ((f : Int) + (n : Int)) = ((f + n : Nat) : Int) := by unfold wrap64; omega
  have t1 := tx_len ((cutL hi lo).take f)
  have t2 := tx_len ((cutL hi lo).drop (f + n))
  rw [List.length_take, h8] at t1
  rw [List.length_drop, h8] at t2
  by_cases c : 1 < n
  · rw [if_neg (show ¬ (n : Int) < 2 by omega), if_pos (show 0 ≤ (f : Int) by omega), if_pos (show (f : Int) ≤ ((cutL hi lo).length : Int) by rw [h8]; omega), Int.toNat_natCast, joined_eq _ (rng_take hr f) (by rw [List.length_take]; omega) k (by omega), Option.bind_some, hw,
      if_pos (by rw [mkB_size]; omega), if_pos (show 0 ≤ ((f + n : Nat) : Int) by omega), if_pos (show ((f + n : Nat) : Int) ≤ ((cutL hi lo).length : Int) by rw [h8]; omega), Int.toNat_natCast, joined_eq _ (rng_drop hr (f + n)) (by rw [List.length_drop]; omega) k (by omega), Option.bind_some,
      if_pos (by rw [show (⟨#[58, 58]⟩ : ByteArray) = mkB [58, 58] from rfl, mkB_app2, mkB_size, mkB_size, List.length_append]; simp only [List.length_cons, List.length_nil]; omega),
      if_pos (show 1 < (n : Int) by omega), if_pos (show 0 ≤ (f : Int) ∧ (f : Int) + (n : Int) ≤ 8 by omega), hk', join_eq k' _ (rng_take hr f) (by rw [List.length_take]; omega), Option.bind_some, show ((f : Int) + (n : Int)).toNat = f + n by omega, join_eq k' _ (rng_drop hr (f + n)) (by rw [List.length_drop]; omega), Option.bind_some,
      if_pos ⟨by rw [mkB_size]; omega, by rw [mkB_size]; omega⟩]
  · rw [if_pos (show (n : Int) < 2 by omega), joined_eq _ hr (by omega) k (by omega), Option.bind_some, if_neg (show ¬ 1 < (n : Int) by omega), hk', join_eq k' _ hr (by omega), Option.bind_some]
theorem itoa_len {a : Int} (h0 : 0 ≤ a) (h1 : a < 256) : (itoa a).length ≤ 3 := by
  rw [itoa_eq a h0 (by omega)]
  exact (decL_len _).2
theorem text_eq (six : Bool) (hi lo : Int) (h : u64 hi) (l : u64 lo) (K : Nat) (hK : 120 ≤ K) : nameplateref04_Text.f K six hi lo = addr_Text.f K six hi lo := by
  unfold nameplateref04_Text.f addr_Text.f textF
  rw [rchk_eq h l]
  obtain ⟨e, he⟩ : ∃ e, addr_Check.f six hi lo = some e := by
    unfold addr_Check.f
    repeat' split
    all_goals exact ⟨_, rfl⟩
  rw [he, Option.bind_some, Option.bind_some]
  by_cases c : e = 0
  · rw [if_pos c, if_pos c]
    cases six with
    | true => rw [if_pos rfl, if_pos rfl, text_six true hi lo h l K K hK (by omega)]
    | false =>
      have h4 : lo < 4294967296 := by
        unfold addr_Check.f at he
        rw [if_neg (show ¬ false = true by decide)] at he
        by_cases d : hi = 0
        · rw [if_pos d] at he
          by_cases d2 : lo ≥ 4294967296
          · exfalso
            first
            | (rw [if_pos d2] at he; have := Option.some.inj he; omega)
            | (rw [if_neg (by omega)] at he; have := Option.some.inj he; omega)
          · omega
        · rw [if_neg d] at he
          have := Option.some.inj he
          omega
      have hl0 := l.1
      have q : ∀ x : Int, 0 ≤ x → Int.tmod x 256 = x % 256 := fun x hx => Int.tmod_eq_emod_of_nonneg hx
      have e1 : lo / 16777216 % 256 = lo / 16777216 := by omega
      rw [if_neg (show ¬ false = true by decide), if_neg (show ¬ false = true by decide), q _ (by omega), q _ (by omega), q _ (by omega), dec_at K (by omega) _ (by omega) (by omega), dec_at K (by omega) _ (by omega) (by omega), dec_at K (by omega) _ (by omega) (by omega), dec_at K (by omega) _ (by omega) (by omega)]
      have la := itoa_len (a := lo / 16777216) (by omega) (by omega)
      have lb := itoa_len (a := lo / 65536 % 256) (by omega) (by omega)
      have lc := itoa_len (a := lo / 256 % 256) (by omega) (by omega)
      have ld := itoa_len (a := lo % 256) (by omega) (by omega)
      simp only [Option.bind_some, show (⟨#[46]⟩ : ByteArray) = mkB [46] from rfl, mkB_app2, mkB_size]
      unfold quad
      rw [e1]
      have hj : Lib.join ([mkB (itoa (lo / 16777216)), mkB (itoa (lo / 65536 % 256)), mkB (itoa (lo / 256 % 256)), mkB (itoa (lo % 256))].map (·.data.toList)) [46] = (((((itoa (lo / 16777216) ++ [46]) ++ itoa (lo / 65536 % 256)) ++ [46]) ++ itoa (lo / 256 % 256)) ++ [46]) ++ itoa (lo % 256) := by
        simp only [List.map_cons, List.map_nil, mkB_data, join_cons]
        simp [joinTail]
      rw [hj]
      generalize itoa (lo / 16777216) = A at *
      generalize itoa (lo / 65536 % 256) = B at *
      generalize itoa (lo / 256 % 256) = C at *
      generalize itoa (lo % 256) = D at *
      simp only [List.length_append, List.length_cons, List.length_nil]
      rw [if_pos (by omega), if_pos (by omega), if_pos (by omega), if_pos (by omega), if_pos (by omega), if_pos (by omega), if_pos (by omega)]
  · rw [if_neg c, if_neg c]
    unfold addr_Check.f at he
    have : e = 2 := by
      revert he
      repeat' split
      all_goals (intro he; have := Option.some.inj he; omega)
    rw [this]
    try rfl
end Go.Proofs.YtbalmnkbodcigaaGreatDoor.AddrFns
set_option linter.unusedSimpArgs false
set_option linter.unusedVariables false
namespace Go.Proofs.YtbalmnkbodcigaaGreatDoor.AddrFns
open Go.RowKit Go.Lib Go.Proofs.YtbalmnkbodcigaaGreatDoor.ORc Go.Proofs.YtbalmnkbodcigaaGreatDoor.AddrLib Go.Proofs.YtbalmnkbodcigaaGreatDoor.RangeFns Go.Proofs.YtbalmnkbodcigaaGreatDoorW.PrintWords Go.Proofs.YtbalmnkbodcigaaGreatDoorW.PrintLast Go.Proofs.YtbalmnkbodcigaaGreatDoorW.PrintMore

theorem dig10 (d : Int) (h0 : 0 ≤ d) (h1 : d < 10) : (⟨#[48, 49, 50, 51, 52, 53, 54, 55, 56, 57]⟩ : ByteArray).extract d.toNat (d + 1).toNat = mkB [UInt8.ofNat (48 + d.toNat)] := by
  have := dig_cut10 ⟨d.toNat, by omega⟩
  rw [show (d + 1).toNat = d.toNat + 1 by omega]
  exact this
theorem rt_step (k : Nat) (S : ByteArray) (L : List UInt8) (x : Int) (six : Bool) (hi lo b : Int) (h0 : 10 ≤ x) (h1 : x < 1000) (hL : L.length ≤ 10) :
    nameplateref05_Text.l0 (k + 1) S (mkB L) x six hi lo b = nameplateref05_Text.l0 k S (mkB (UInt8.ofNat (48 + (x % 10).toNat) :: L)) (x / 10) six hi lo b := by
  have hm : Int.tmod x 10 = x % 10 := Int.tmod_eq_emod_of_nonneg (by omega)
  have hd : Int.tdiv x 10 = x / 10 := Int.tdiv_eq_ediv_of_nonneg (by omega)
  have w1 : wrap64 (x % 10 + 1) = x % 10 + 1 := by unfold wrap64; omega
  have w2 : wrap64 (x / 10) = x / 10 := by unfold wrap64; omega
  rw [nameplateref05_Text.l0, if_pos (show x > 9 by omega), hm, hd, w1, w2, if_pos (show 0 ≤ x % 10 by omega), if_pos (show x % 10 ≤ x % 10 + 1 by omega), if_pos (show x % 10 + 1 ≤ 10 by omega), dig10 _ (by omega) (by omega), mkB_size, mkB_size, if_pos (by simp only [List.length_cons, List.length_nil]; omega), mkB_app2]
  rfl
theorem rt_stop (k : Nat) (S : ByteArray) (L : List UInt8) (x : Int) (six : Bool) (hi lo b : Int) (h : x < 10) :
    nameplateref05_Text.l0 (k + 1) S (mkB L) x six hi lo b = nameplateref05_Text.l1 k S (mkB L) b := by
  rw [nameplateref05_Text.l0, if_neg (show ¬ x > 9 by omega)]
theorem r1_step (k : Nat) (S L : ByteArray) (x : Int) (h0 : 10 ≤ x) (h1 : x < 1000) : nameplateref05_Text.l1 (k + 1) S L x = nameplateref05_Text.l1 k S L (x / 10) := by
  have hd : Int.tdiv x 10 = x / 10 := Int.tdiv_eq_ediv_of_nonneg (by omega)
  have w2 : wrap64 (x / 10) = x / 10 := by unfold wrap64; omega
  rw [nameplateref05_Text.l1, if_pos (show x > 9 by omega), hd, w2]
theorem r1_stop (k : Nat) (S L : List UInt8) (x : Int) (h0 : 0 ≤ x) (h1 : x < 10) (hS : S.length ≤ 39) (hL : L.length ≤ 10) :
    nameplateref05_Text.l1 (k + 1) (mkB S) (mkB L) x = some (mkB (S ++ 47 :: UInt8.ofNat (48 + x.toNat) :: L), 0) := by
  have w1 : wrap64 (x + 1) = x + 1 := by unfold wrap64; omega
  rw [nameplateref05_Text.l1, if_neg (show ¬ x > 9 by omega), w1, if_pos (by rw [mkB_size]; omega), if_pos h0, if_pos (show x ≤ x + 1 by omega), if_pos (show x + 1 ≤ 10 by omega), dig10 x h0 h1, show (⟨#[47]⟩ : ByteArray) = mkB [47] from rfl, mkB_app2, mkB_app2, mkB_app2]
  simp only [mkB_size, List.length_append, List.length_cons, List.length_nil]
  rw [if_pos (by omega), if_pos (by omega)]
  simp only [List.append_assoc, List.cons_append, List.nil_append]
theorem rt_all (S : List UInt8) (b : Int) (six : Bool) (hi lo : Int) (h0 : 0 ≤ b) (h1 : b ≤ 128) (hS : S.length ≤ 39) (K : Nat) (hK : 8 ≤ K) :
    nameplateref05_Text.l0 K (mkB S) (⟨#[]⟩ : ByteArray) b six hi lo b = some (mkB (S ++ 47 :: decL b.toNat), 0) := by
  obtain ⟨k, rfl⟩ : ∃ k, K = k + 8 := ⟨K - 8, by omega⟩
  rw [show (⟨#[]⟩ : ByteArray) = mkB [] from rfl]
  unfold decL
  by_cases c1 : b < 10
  · rw [rt_stop _ _ _ _ _ _ _ _ c1, r1_stop _ _ _ _ h0 c1 hS (by simp), if_pos (show b.toNat < 10 by omega)]
  · by_cases c2 : b < 100
    · rw [rt_step _ _ _ _ _ _ _ _ (by omega) (by omega) (by simp), rt_stop _ _ _ _ _ _ _ _ (by omega), r1_step _ _ _ _ (by omega) (by omega), r1_stop _ _ _ _ (by omega) (by omega) hS (by simp), if_neg (show ¬ b.toNat < 10 by omega), if_pos (show b.toNat < 100 by omega), show (b / 10).toNat = b.toNat / 10 by omega, show (b % 10).toNat = b.toNat % 10 by omega]
    · rw [rt_step _ _ _ _ _ _ _ _ (by omega) (by omega) (by simp), rt_step _ _ _ _ _ _ _ _ (by omega) (by omega) (by simp), rt_stop _ _ _ _ _ _ _ _ (by omega), r1_step _ _ _ _ (by omega) (by omega), r1_step _ _ _ _ (by omega) (by omega), r1_stop _ _ _ _ (by omega) (by omega) hS (by simp), if_neg (show ¬ b.toNat < 10 by omega), if_neg (show ¬ b.toNat < 100 by omega), show (b / 10 / 10).toNat = b.toNat / 100 by omega, show (b % 10).toNat = b.toNat % 10 by omega, show (b / 10 % 10).toNat = b.toNat / 10 % 10 by omega]
theorem valid_ok {six : Bool} {hi lo : Int} (h : valid six hi lo) : ok2 six hi lo := by
  unfold valid at h
  obtain ⟨h1, h2, h3, h4, h5⟩ := h
  exact ⟨h1, by omega, h3, by omega, h5.imp id fun ⟨a, b⟩ => ⟨a, by omega⟩⟩
theorem rtext_at {six : Bool} {hi lo b : Int} (h : u64 hi) (l : u64 lo) (hb : i64 b) (K : Nat) (hK : 300 ≤ K) : ∃ t, ranges_Text.f K six hi lo b = some t ∧ nameplateref05_Text.f K six hi lo b = some t := by
  obtain ⟨e, q1, q2, q3⟩ := check_eq (six := six) h l hb
  have hc := rcheck_eq (six := six) h l hb (K - 140)
  rw [show K - 140 + 140 = K by omega, q1] at hc
  unfold nameplateref05_Text.f ranges_Text.f
  rw [hc, q1, Option.bind_some, Option.bind_some]
  by_cases c : e = 0
  · have ho := q3.1 c
    obtain ⟨s, t1, _, _, t4⟩ := read_text six hi lo (valid_ok ho.1) (K - 17)
    rw [show K - 17 + 17 = K by omega] at t1
    have h0 := ho.2.1
    have h1 := ho.2.2.1
    have hw : wd six ≤ 128 := by unfold wd; split <;> omega
    have hl := (decL_len b.toNat).2
    refine ⟨(mkB (s ++ 47 :: decL b.toNat), 0), ?_, ?_⟩
    · rw [if_pos c, t1, Option.bind_some]
      dsimp only
      unfold strconv_Itoa_30.f
      rw [if_pos (by rw [mkB_size]; omega), if_pos (by omega), Option.bind_some, itoa_eq b h0 (by omega), show (⟨#[47]⟩ : ByteArray) = mkB [47] from rfl, mkB_app2, mkB_app2, mkB_size, mkB_size, if_pos (by simp only [List.length_append, List.length_cons, List.length_nil]; omega)]
      simp only [List.append_assoc, List.cons_append, List.nil_append]
    · rw [if_pos c, text_eq six hi lo h l K (by omega), t1, Option.bind_some]
      exact rt_all s b six hi lo h0 (by omega) t4 K (by omega)
  · exact ⟨_, by rw [if_neg c], by rw [if_neg c]⟩
end Go.Proofs.YtbalmnkbodcigaaGreatDoor.AddrFns
set_option linter.unusedSimpArgs false
set_option linter.unusedVariables false
namespace Go.Proofs.YtbalmnkbodcigaaGreatDoor.AddrFns
open Go.RowKit Go.Lib Go.Proofs.YtbalmnkbodcigaaGreatDoor.ORc Go.Proofs.YtbalmnkbodcigaaGreatDoor.AddrLib Go.Proofs.YtbalmnkbodcigaaGreatDoor.RangeFns Go.Proofs.YtbalmnkbodcigaaGreatDoorW.PrintWords Go.Proofs.YtbalmnkbodcigaaGreatDoorW.PrintLast Go.Proofs.YtbalmnkbodcigaaGreatDoorW.PrintMore
open Go.Proofs.YtbalmnkbodcigaaGreatDoor.RangeRow (Rng)

theorem cutA_le (s : ByteArray) : (cutA s).size ≤ s.size := by
  have hd := data_length s
  have e : (cutA s).size = (Lib.cut s.data.toList [47]).1.length := by rw [← data_length]; rfl
  rw [e, ← hd]
  unfold Lib.cut
  split
  · show (List.take _ _).length ≤ _
    rw [List.length_take]; omega
  · exact Nat.le_refl _
theorem rrtot (s : ByteArray) (hs : s.size ≤ 100) (K : Nat) (hK : 400 ≤ K) : ∃ t, ranges_Read.f K s = some t := by
  have hc := cutA_le s
  obtain ⟨six, hi, lo, er, hr, h2⟩ := read_at (cutA s) (by omega)
  have hv : u64 hi ∧ u64 lo := by
    rcases h2 with ⟨_, o⟩ | ⟨_, _, rfl, rfl⟩
    · exact ⟨⟨o.1, by have := o.2.1; omega⟩, ⟨o.2.2.1, by have := o.2.2.2.1; omega⟩⟩
    · exact ⟨⟨by omega, by omega⟩, ⟨by omega, by omega⟩⟩
  unfold ranges_Read.f rrF
  rw [if_pos (show s.size ≤ 100000 by omega), hr K hK, Option.bind_some]
  dsimp only
  by_cases c : badH (cutC s) er (cutB s) = true
  · exact ⟨_, if_pos c⟩
  · rw [if_neg c]
    by_cases d : ∀ x ∈ bytesOf (cutB s), digI x < 10
    · have hl : (cutB s).size ≤ 3 := by
        by_cases f : (cutB s).size > 3
        · exfalso
          apply c
          unfold badH
          rw [decide_eq_true f]
          simp
        · omega
      have hb := valI_bound (B := 10) (by omega) (by omega) (bytesOf (cutB s)) d
      have hb2 := hb.2.1 (by rw [bytesOf_length]; omega)
      obtain ⟨e, q1, q2, q3⟩ := check_eq (six := six) (b := valI 10 (bytesOf (cutB s))) hv.1 hv.2 (by have := hb.1; unfold i64; omega)
      rw [if_pos d, q1, Option.bind_some]
      by_cases g : e = 0
      · exact ⟨_, if_pos g⟩
      · exact ⟨_, if_neg g⟩
    · exact ⟨_, if_neg d⟩
theorem rsize_tot {six : Bool} {hi lo b : Int} (h : u64 hi) (l : u64 lo) (hb : i64 b) : ∃ n, ranges_Size.f six hi lo b = some n := by
  obtain ⟨e, q1, q2, q3⟩ := check_eq (six := six) h l hb
  by_cases c : e = 0
  · obtain ⟨n, n1, _⟩ := size_eq h l hb (q3.1 c)
    exact ⟨n, n1⟩
  · refine ⟨0, ?_⟩
    unfold ranges_Size.f
    rw [q1, Option.bind_some, if_neg c]
theorem rat_tot {six : Bool} {hi lo b : Int} (h : u64 hi) (l : u64 lo) (hb : i64 b) (i : Int) : ∃ t, ranges_At.f six hi lo b i = some t := by
  obtain ⟨e, q1, q2, q3⟩ := check_eq (six := six) h l hb
  by_cases c0 : i < 0
  · refine ⟨(false, 0, 0, false), ?_⟩
    unfold ranges_At.f
    exact if_pos c0
  · by_cases c : e = 0
    · have ho := q3.1 c
      obtain ⟨n, n1, n2, n3, n4⟩ := size_eq h l hb ho
      by_cases c1 : i ≥ n
      · refine ⟨(false, 0, 0, false), ?_⟩
        unfold ranges_At.f
        rw [if_neg c0, n1, Option.bind_some]
        exact if_pos c1
      · exact ⟨_, (at_eq h l hb ho n1 n3 n4 (show 0 ≤ i by omega) (by omega)).1⟩
    · have hz : ranges_Size.f six hi lo b = some 0 := by
        unfold ranges_Size.f
        rw [q1, Option.bind_some, if_neg c]
      refine ⟨(false, 0, 0, false), ?_⟩
      unfold ranges_At.f
      rw [if_neg c0, hz, Option.bind_some]
      exact if_pos (by omega)
theorem rindex_tot {six : Bool} {hi lo b : Int} (h : u64 hi) (l : u64 lo) (hb : i64 b) {six' : Bool} {hi' lo' : Int} (h' : u64 hi') (l' : u64 lo') : ∃ t, ranges_Index.f six hi lo b six' hi' lo' = some t := by
  obtain ⟨v, v1, v2⟩ := has_eq (six := six) h l hb (six' := six') h' l'
  obtain ⟨n, hn⟩ := rsize_tot (six := six) h l hb
  unfold ranges_Index.f
  rw [v1, Option.bind_some, hn, Option.bind_some]
  repeat' split
  all_goals exact ⟨_, rfl⟩
theorem rc_own (L : List S26) (h : L.length ≤ 20) : api_Range_23.f L = some L := by
  unfold api_Range_23.f
  rw [Option.bind_some, if_pos (by simp; omega), List.nil_append]
def rc_ofR (m : Rng) : S26 := ⟨⟨m.six, m.hi, m.lo⟩, m.bits⟩
theorem rc_lives : ∀ k, nameplatelaw05_lives.f (300 + k) = some true
  | 0 => by decide +kernel
  | k + 1 => nameplatelaw05_lives.mono (300 + k) _ (rc_lives k)
theorem rc_j1 (x y : Rng) (h : inR x) (hy : inR y) (six' : Bool) {hi' lo' : Int} (h' : u64 hi') (l' : u64 lo') (L : List S26) (hL : ∀ z ∈ L, inR (toR z)) (hlen : L.length ≤ 20) (K : Nat) (hK : 7600 ≤ K) :
    nameplatelaw05_RangesCalls.j1 (K + 1) L false x.six x.hi x.lo x.bits y.six y.hi y.lo y.bits six' hi' lo' = some true := by
  have hk : K - 140 + 140 = K := by omega
  obtain ⟨e, q1, _, _⟩ := check_eq (six := x.six) h.1 h.2.1 h.2.2
  have q2 := rcheck_eq (six := x.six) h.1 h.2.1 h.2.2 (K - 140)
  rw [hk, q1] at q2
  obtain ⟨v, v1, _⟩ := has_eq (six := x.six) h.1 h.2.1 h.2.2 (six' := six') h' l'
  have v2 := rhas_eq (six := x.six) h.1 h.2.1 h.2.2 (six' := six') h' l' (K - 140)
  rw [hk, v1] at v2
  obtain ⟨m, m1, _⟩ := meet_eq (six := x.six) h.1 h.2.1 h.2.2 (six' := y.six) hy.1 hy.2.1 hy.2.2
  have m2 := rmeet_eq (six := x.six) h.1 h.2.1 h.2.2 (six' := y.six) hy.1 hy.2.1 hy.2.2 (K - 140)
  rw [hk, m1] at m2
  obtain ⟨n, n1⟩ := rsize_tot (six := x.six) h.1 h.2.1 h.2.2
  rw [nameplatelaw05_RangesCalls.j1, if_neg (by decide), q1, Option.bind_some, q2, Option.bind_some, if_pos rfl, v1, Option.bind_some, v2, Option.bind_some, if_pos (beq_self_eq_true v), m1, Option.bind_some, m2, Option.bind_some, if_pos (beq_self_eq_true m)]
  unfold nameplatelaw05_light.f
  rw [n1, Option.bind_some, Option.bind_some]
  by_cases c : n ≤ 300
  · obtain ⟨w, f1, f2⟩ := rfree_eq x h L hL hlen n1 c K hK
    rw [if_pos (decide_eq_true c), rc_own L hlen, Option.bind_some, f1, Option.bind_some, f2, Option.bind_some, beq_self_eq_true w]
  · rw [if_neg (by simpa using c)]
theorem rc_j0 (x y : Rng) (h : inR x) (hy : inR y) (six' : Bool) {hi' lo' : Int} (h' : u64 hi') (l' : u64 lo') (s : ByteArray) (hs : s.size ≤ 100) (i : Int) (L : List S26) (hL : ∀ z ∈ L, inR (toR z)) (hlen : L.length ≤ 20) (K : Nat) (hK : 7600 ≤ K) :
    nameplatelaw05_RangesCalls.j0 (K + 1 + 1) s i L false x.six x.hi x.lo x.bits y.six y.hi y.lo y.bits six' hi' lo' = some true := by
  have hj := rc_j1 x y h hy six' h' l' L hL hlen K hK
  have hk : K + 1 - 140 + 140 = K + 1 := by omega
  obtain ⟨t, t1⟩ := rrtot s hs (K + 1) (by omega)
  have t2 := rrread_eq s hs (K + 1) (by omega)
  rw [t1] at t2
  obtain ⟨u, u1, u2⟩ := rtext_at (six := x.six) h.1 h.2.1 h.2.2 (K + 1) (by omega)
  obtain ⟨p, p1⟩ := rat_tot (six := x.six) h.1 h.2.1 h.2.2 i
  have p2 := rat_eq (six := x.six) h.1 h.2.1 h.2.2 i (K + 1 - 140)
  rw [hk, p1] at p2
  obtain ⟨q, q1⟩ := rindex_tot (six := x.six) h.1 h.2.1 h.2.2 (six' := six') h' l'
  have q2 := rindex_eq (six := x.six) h.1 h.2.1 h.2.2 (six' := six') h' l' (K + 1 - 140)
  rw [hk, q1] at q2
  obtain ⟨n, n1⟩ := rsize_tot (six := x.six) h.1 h.2.1 h.2.2
  have n2 := rsize_eq (six := x.six) h.1 h.2.1 h.2.2 (K + 1 - 140)
  rw [hk, n1] at n2
  rw [nameplatelaw05_RangesCalls.j0, if_neg (by decide), t1, Option.bind_some, t2, Option.bind_some, u1, Option.bind_some, u2, Option.bind_some, p1, Option.bind_some, p2, Option.bind_some, q1, Option.bind_some, q2, Option.bind_some,
    if_neg (by simp), if_pos rfl, if_pos rfl, if_pos rfl, if_neg (by simp), if_neg (by simp), if_pos rfl, if_neg (by simp), n1, Option.bind_some, n2, Option.bind_some, show (n != n) = false by simp]
  exact hj
theorem rc_f (x y : Rng) (h : inR x) (hy : inR y) (six' : Bool) {hi' lo' : Int} (h' : u64 hi') (l' : u64 lo') (s : ByteArray) (i : Int) (L : List S26) (hL : ∀ z ∈ L, inR (toR z)) :
    nameplatelaw05_RangesCalls.f 9002 x.six x.hi x.lo x.bits y.six y.hi y.lo y.bits s i six' hi' lo' L = some true := by
  have jt : nameplatelaw05_RangesCalls.j0 9002 s i L true x.six x.hi x.lo x.bits y.six y.hi y.lo y.bits six' hi' lo' = some true := by
    rw [show 9002 = 9001 + 1 from rfl, nameplatelaw05_RangesCalls.j0, if_pos rfl]
  unfold nameplatelaw05_RangesCalls.f
  rw [show 9002 = 300 + 8702 from rfl, rc_lives, Option.bind_some, if_pos rfl]
  by_cases c : (s.size : Int) > 100
  · rw [if_pos c]
    exact jt
  · rw [if_neg c]
    by_cases d : (L.length : Int) > 20
    · rw [decide_eq_true d]
      exact jt
    · rw [decide_eq_false d]
      exact rc_j0 x y h hy six' h' l' s (by omega) i L hL (by omega) 9000 (by omega)
/-- The law's call, where the row reads as ranges. -/
theorem calls_row (six : Bool) (hi lo b : Int) (six' : Bool) (hi' lo' b' : Int) (s : ByteArray) (i : Int) (sa : Bool) (ha la : Int) (A : Option Addr) (c : Nat) (l : List Rng) (W : World) (hG : G W) (h : u64 hi) (u : u64 lo) (hb : i64 b) (h' : u64 hi') (u' : u64 lo') (hb' : i64 b') (hs : s.size ≤ 140737488351232) (hi_ : i64 i) (a1 : u64 ha) (a2 : u64 la) (hc : l.length ≤ c) (hR : Kd.C RangeRow.kR W A l.length l) (hl : ∀ q ∈ l, RangeRow.Rng.in_ q) :
    Calls Tryz.prog 3 #[.agg #[.bool six, .int .u64 hi, .int .u64 lo, .int .i64 b], .agg #[.bool six', .int .u64 hi', .int .u64 lo', .int .i64 b'], .string s, .int .i64 i, .agg #[.bool sa, .int .u64 ha, .int .u64 la], .slice A l.length c] W fun e w' => e = .returned (.bool true) ∧ Below W.heap.size W w' := by
  have hk := rc_f ⟨six, hi, lo, b⟩ ⟨six', hi', lo', b'⟩ ⟨h, u, hb⟩ ⟨h', u', hb'⟩ sa a1 a2 s i (l.map rc_ofR) (fun y hy => by obtain ⟨z, hz, rfl⟩ := List.mem_map.1 hy; exact hl z hz)
  have hr : Kd.C k26 W A (l.map rc_ofR).length (l.map rc_ofR) := by
    rw [List.length_map]
    obtain ⟨r1, r2, r3⟩ := hR
    refine ⟨by simp, r2, fun hn => ?_⟩
    obtain ⟨ad, e, hrow⟩ := r3 hn
    refine ⟨ad, e, fun j p hj => ?_⟩
    rw [List.getElem?_map] at hj
    obtain ⟨x, hx, rfl⟩ := Option.map_eq_some_iff.mp hj
    obtain ⟨cs, k1, k2, k3⟩ := hrow j x hx
    obtain rfl := RangeRow.kR_open k2
    exact ⟨_, k1, k26_mk W (rc_ofR x), k3⟩
  have := nameplatelaw05_RangesCalls.calls 9002 six hi lo b six' hi' lo' b' s i sa ha la A c (l.map rc_ofR) true W ⟨hG⟩ hr (by rw [List.length_map]; exact hc) ⟨rfl⟩ hk
  rw [List.length_map] at this
  exact this
end Go.Proofs.YtbalmnkbodcigaaGreatDoor.AddrFns
