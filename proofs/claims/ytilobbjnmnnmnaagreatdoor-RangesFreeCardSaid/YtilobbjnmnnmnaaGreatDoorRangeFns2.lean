/- What ranges.Meet, Size, At and picking a place tell, in plain words; numbers alone. -/
import Derived.Test.YtilobbjnmnnmnaaGreatDoorRangeFns
set_option linter.unusedSimpArgs false
set_option linter.unusedVariables false
namespace Go.Proofs.YtilobbjnmnnmnaaGreatDoor.RangeFns
open Go.RowKit Go.Proofs.YtilobbjnmnnmnaaGreatDoor.OFree Go.Proofs.YtilobbjnmnnmnaaGreatDoorW.PrintWords Go.Proofs.YtilobbjnmnnmnaaGreatDoorW.PrintLast Go.Proofs.YtilobbjnmnnmnaaGreatDoorW.PrintMore

theorem meet_eq {six : Bool} {hi lo b : Int} (h : u64 hi) (l : u64 lo) (hb : i64 b) {six' : Bool} {hi' lo' b' : Int} (h' : u64 hi') (l' : u64 lo') (hb' : i64 b') :
    ∃ v, ranges_Meet.f six hi lo b six' hi' lo' b' = some v ∧ (v = true ↔ (hasP six hi lo b six' hi' lo' ∧ okR six' hi' lo' b') ∨ (hasP six' hi' lo' b' six hi lo ∧ okR six hi lo b)) := by
  obtain ⟨v1, p1, p2⟩ := has_eq (six := six) h l hb (six' := six') h' l'
  obtain ⟨v2, q1, q2⟩ := has_eq (six := six') h' l' hb' (six' := six) h l
  obtain ⟨e1, r1, r2, r3⟩ := check_eq (six := six) h l hb
  obtain ⟨e2, s1, s2, s3⟩ := check_eq (six := six') h' l' hb'
  unfold ranges_Meet.f
  rw [p1, Option.bind_some]
  have other : ∃ v, ((ranges_Has.f six' hi' lo' b' six hi lo).bind fun t206 => (if t206 = true then ((ranges_Check.f six hi lo b).bind fun t207 => (some (t207 == 0))) else (some false))) = some v ∧ (v = true ↔ (hasP six' hi' lo' b' six hi lo ∧ okR six hi lo b)) := by
    rw [q1, Option.bind_some]
    by_cases c : v2 = true
    · rw [if_pos c, r1, Option.bind_some]
      exact ⟨_, rfl, by rw [beq_iff_eq, r3]; exact ⟨fun x => ⟨q2.1 c, x⟩, fun x => x.2⟩⟩
    · rw [if_neg c]
      exact ⟨_, rfl, ⟨fun x => (by cases x), fun x => absurd (q2.2 x.1) c⟩⟩
  by_cases c : v1 = true
  · rw [if_pos c, s1, Option.bind_some]
    by_cases d : e2 = 0
    · rw [if_pos d]
      exact ⟨true, rfl, ⟨fun _ => .inl ⟨p2.1 c, s3.1 d⟩, fun _ => rfl⟩⟩
    · rw [if_neg d]
      obtain ⟨v, w1, w2⟩ := other
      refine ⟨v, w1, w2.trans ⟨.inr, fun x => ?_⟩⟩
      rcases x with x | x
      · exact absurd (s3.2 x.2) d
      · exact x
  · rw [if_neg c]
    obtain ⟨v, w1, w2⟩ := other
    refine ⟨v, w1, w2.trans ⟨.inr, fun x => ?_⟩⟩
    rcases x with x | x
    · exact absurd (p2.2 x.1) c
    · exact x
theorem jl_eq {six : Bool} {b : Int} (h0 : 0 ≤ b) (h1 : b ≤ wd six) : jl six b = min (wd six - b).toNat 64 := by
  unfold jl wd cl at *
  cases six with
  | true =>
    rw [if_pos rfl] at h1 ⊢
    rw [if_pos rfl]
    split
    · omega
    · split <;> omega
  | false =>
    rw [if_neg (show ¬ (false = true) by decide)] at h1 ⊢
    rw [if_neg (show ¬ (false = true) by decide)]
    split
    · omega
    · split <;> omega
theorem jh_eq {six : Bool} {b : Int} (h0 : 0 ≤ b) (h1 : b ≤ wd six) : jh six b = (wd six - b).toNat - 64 := by
  unfold jh wd cl at *
  cases six with
  | true =>
    rw [if_pos rfl] at h1 ⊢
    rw [if_pos rfl]
    split
    · omega
    · split <;> omega
  | false =>
    rw [if_neg (show ¬ (false = true) by decide)] at h1 ⊢
    rw [if_neg (show ¬ (false = true) by decide)]
    omega
def sz (x : Int) : Option Int := if 0 ≤ (mn (wrap64 x) 30) then (if (wrap64 (2 ^ (mn (wrap64 x) 30).toNat)) < 65536 then (if 0 ≤ (wrap64 x) then (some (shl .i64 1 (wrap64 x))) else (none)) else (some 65536)) else (none)
theorem sz_tab : ∀ d : Fin 129, sz (d.val : Int) = some (if d.val < 16 then 2 ^ d.val else 65536) := by decide +kernel
theorem size_eq {six : Bool} {hi lo b : Int} (h : u64 hi) (l : u64 lo) (hb : i64 b) (ho : okR six hi lo b) : ∃ n, ranges_Size.f six hi lo b = some n ∧ 1 ≤ n ∧ n ≤ 65536 ∧ n ≤ 2 ^ (jl six b) := by
  obtain ⟨e, q1, q2, q3⟩ := check_eq (six := six) h l hb
  have h0 := ho.2.1
  have h1 := ho.2.2.1
  have hw : wd six ≤ 128 := by unfold wd; split <;> omega
  have hj := jl_eq h0 h1
  unfold ranges_Size.f
  rw [q1, Option.bind_some, if_pos (q3.2 ho), wide_eq, Option.bind_some]
  have ht := sz_tab ⟨(wd six - b).toNat, by omega⟩
  rw [show ((⟨(wd six - b).toNat, by omega⟩ : Fin 129).val : Int) = wd six - b by simp; omega] at ht
  refine ⟨_, ht, ?_⟩
  simp only
  rw [hj]
  by_cases c : (wd six - b).toNat < 16
  · rw [if_pos c, show min (wd six - b).toNat 64 = (wd six - b).toNat by omega]
    have hp := two_pos (wd six - b).toNat
    have hle : (2 : Int) ^ (wd six - b).toNat ≤ 2 ^ 16 := by
      rw [pow_split (show (wd six - b).toNat ≤ 16 by omega)]
      have hq := two_pos (16 - (wd six - b).toNat)
      have := Int.mul_le_mul_of_nonneg_left (show (1 : Int) ≤ 2 ^ (16 - (wd six - b).toNat) by omega) (Int.le_of_lt hp)
      omega
    exact ⟨by omega, by omega, Int.le_refl _⟩
  · rw [if_neg c]
    refine ⟨by omega, by omega, ?_⟩
    rw [pow_split (show 16 ≤ min (wd six - b).toNat 64 by omega)]
    have hq := two_pos (min (wd six - b).toNat 64 - 16)
    omega
theorem at_eq {six : Bool} {hi lo b : Int} (h : u64 hi) (l : u64 lo) (hb : i64 b) (ho : okR six hi lo b) {n i : Int} (hn : ranges_Size.f six hi lo b = some n) (hn1 : n ≤ 65536) (hn2 : n ≤ 2 ^ (jl six b)) (hi0 : 0 ≤ i) (hi1 : i < n) :
    ranges_At.f six hi lo b i = some (six, hi, lo + i, true) ∧ valid six hi (lo + i) ∧ rdn (lo + i) (jl six b) = lo ∧ u64 (lo + i) := by
  have hv := ho.1
  have hv2 := hv
  unfold u64 at h l
  unfold valid at hv
  have hf := ho.2.2.2.2
  have hr := rdn_fix_add hf hi0 (show i < 2 ^ jl six b by omega)
  have hj := jl_eq ho.2.1 ho.2.2.1
  have room : lo + i < 2 ^ 64 ∧ (six = true ∨ lo + i < 2 ^ 32) := by
    have r1 := rdn_room hf l.1 l.2 (by rw [hj]; omega)
    refine ⟨by omega, ?_⟩
    cases six with
    | true => exact .inl rfl
    | false =>
      right
      have h2 : hi = 0 ∧ lo < 2 ^ 32 := by
        rcases hv.2.2.2.2 with c | c
        · cases c
        · exact c
      have hw : wd false = 32 := rfl
      have h0 := ho.2.1
      have r2 := rdn_room hf l.1 h2.2 (by rw [hj, hw]; omega)
      omega
  have hx : valid six hi (lo + i) := by
    unfold valid
    refine ⟨hv.1, hv.2.1, by omega, room.1, ?_⟩
    rcases hv.2.2.2.2 with c | c
    · exact .inl c
    · rcases room.2 with d | d
      · exact .inl d
      · exact .inr ⟨c.1, d⟩
  refine ⟨?_, hx, hr, ⟨by omega, room.1⟩⟩
  unfold ranges_At.f
  rw [if_neg (by omega), hn, Option.bind_some, if_neg (by omega), wrap_u64 i hi0 (by omega)]
  obtain ⟨e1, p1, p2, p3⟩ := chk_eq (six := six) (hi := hi) (lo := lo) h l
  obtain ⟨e2, r1, r2, r3⟩ := chk_eq (six := six) (hi := hi) (lo := lo + i) h ⟨by omega, room.1⟩
  have hd : (lo + i) / 18446744073709551616 = 0 := Int.ediv_eq_zero_of_lt (by omega) (by omega)
  have hm : (lo + i) % 18446744073709551616 = lo + i := Int.emod_eq_of_lt (by omega) (by omega)
  unfold addr_Add.f AddrLib.addF
  rw [if_pos ⟨h.1, l.1, hi0, by omega, by omega⟩, p1, Option.bind_some, if_pos (p3.2 hv2), hd, hm]
  cases six with
  | true =>
    rw [if_pos rfl, Int.add_zero, if_pos (Int.ediv_eq_zero_of_lt h.1 (by omega)), Int.emod_eq_of_lt h.1 (by omega), r1, Option.bind_some, if_pos (r3.2 hx)]
    rfl
  | false =>
    rw [if_neg (by decide), if_pos rfl, r1, Option.bind_some, if_pos (r3.2 hx)]
    rfl
theorem ok_u64 {six : Bool} {hi lo b : Int} (h : okR six hi lo b) : hasP six hi lo b six hi lo := ⟨h, h.1, rfl, h.2.2.2.1, h.2.2.2.2⟩
/-- Where the smaller range has the greater one's Base, they are at one place. -/
theorem has_swap {six : Bool} {hi lo b : Int} {six' : Bool} {hi' lo' b' : Int} (ha : okR six hi lo b) (hb : okR six' hi' lo' b') (hle : b ≤ b') (h : hasP six' hi' lo' b' six hi lo) : hasP six hi lo b six' hi' lo' := by
  obtain ⟨_, _, rfl, h1, h2⟩ := h
  have a0 := ha.2.1
  have a1 := ha.2.2.1
  have b0 := hb.2.1
  have b1 := hb.2.2.1
  have e1 : rdn hi (jh six b') = hi := rdn_fix_less (by rw [jh_eq a0 a1, jh_eq b0 b1]; omega) ha.2.2.2.1
  have e2 : rdn lo (jl six b') = lo := rdn_fix_less (by rw [jl_eq a0 a1, jl_eq b0 b1]; omega) ha.2.2.2.2
  rw [e1] at h1
  rw [e2] at h2
  subst h1 h2
  exact ⟨ha, hb.1, rfl, ha.2.2.2.1, ha.2.2.2.2⟩
theorem bool_same {a b : Bool} {P : Prop} (h : a = true ↔ P) (k : b = true ↔ P) : a = b := by
  cases a <;> cases b <;> simp_all
end Go.Proofs.YtilobbjnmnnmnaaGreatDoor.RangeFns
