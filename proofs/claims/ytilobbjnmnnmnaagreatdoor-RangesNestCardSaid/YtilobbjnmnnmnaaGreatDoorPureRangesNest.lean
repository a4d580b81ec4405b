/- This text proves, about ranges alone, what the law RangesNest asks: the range of an address' first bits has it; with more bits it is a part of that with fewer. -/
import Derived.Test.YtilobbjnmnnmnaaGreatDoorRangeFns2
import Derived.Test.YtilobbjnmnnmnaaGreatDoorONestx8
set_option linter.unusedSimpArgs false
set_option linter.unusedVariables false
namespace Go.Proofs.YtilobbjnmnnmnaaGreatDoor.RangeFns
open Go.RowKit Go.Proofs.YtilobbjnmnnmnaaGreatDoor.ONest Go.Proofs.YtilobbjnmnnmnaaGreatDoorW.PrintWords Go.Proofs.YtilobbjnmnnmnaaGreatDoorW.PrintLast Go.Proofs.YtilobbjnmnnmnaaGreatDoorW.PrintMore

/-- How many places there are. -/
def sizeOf (six : Bool) (b : Int) : Int := if (wd six - b).toNat < 16 then 2 ^ (wd six - b).toNat else 65536
theorem size_exact {six : Bool} {hi lo b : Int} (h : u64 hi) (l : u64 lo) (hb : i64 b) (ho : okR six hi lo b) : ranges_Size.f six hi lo b = some (sizeOf six b) := by
  obtain ⟨e, q1, q2, q3⟩ := check_eq (six := six) h l hb
  have h0 := ho.2.1
  have h1 := ho.2.2.1
  have hw : wd six ≤ 128 := by unfold wd; split <;> omega
  unfold ranges_Size.f
  rw [q1, Option.bind_some, if_pos (q3.2 ho), wide_eq, Option.bind_some]
  have ht := sz_tab ⟨(wd six - b).toNat, by omega⟩
  rw [show ((⟨(wd six - b).toNat, by omega⟩ : Fin 129).val : Int) = wd six - b by simp; omega] at ht
  exact ht
theorem size_mono {six : Bool} {b b' : Int} (h : b ≤ b') : sizeOf six b' ≤ sizeOf six b := by
  unfold sizeOf
  have up : ∀ {i j : Nat}, i ≤ j → (2 : Int) ^ i ≤ 2 ^ j := by
    intro i j hij
    rw [pow_split hij]
    have hp := two_pos i
    have hq := two_pos (j - i)
    have := Int.mul_le_mul_of_nonneg_left (show (1 : Int) ≤ 2 ^ (j - i) by omega) (Int.le_of_lt hp)
    omega
  by_cases c : (wd six - b).toNat < 16
  · rw [if_pos c, if_pos (by omega)]
    exact up (by omega)
  · rw [if_neg c]
    by_cases d : (wd six - b').toNat < 16
    · rw [if_pos d]
      have := up (show (wd six - b').toNat ≤ 16 by omega)
      omega
    · rw [if_neg d]; exact Int.le_refl _
/-- An elder address' first bits: the same as rounding down. -/
theorem base_eq {lo m : Int} (h0 : 0 ≤ lo) (h1 : lo < 2 ^ 32) (m0 : 0 ≤ m) (m1 : m ≤ 32) : 0 ≤ IntKind.u64.wrap (wrap64 (32 - m)) ∧ IntKind.u64.wrap lo = lo ∧ shl .u64 (shr .u64 (IntKind.u64.wrap lo) (IntKind.u64.wrap (wrap64 (32 - m)))) (IntKind.u64.wrap (wrap64 (32 - m))) = rdn lo (32 - m).toNat := by
  have e1 : wrap64 (32 - m) = 32 - m := by unfold wrap64; omega
  have e2 := wrap_u64 (32 - m) (by omega) (by omega)
  have e3 := wrap_u64 lo h0 (by omega)
  rw [e1, e2, e3]
  refine ⟨by omega, rfl, ?_⟩
  unfold shl shr
  rw [show min (32 - m).toNat IntKind.u64.bits = (32 - m).toNat by show min (32 - m).toNat 64 = _; omega]
  have a := rdn_le lo (32 - m).toNat
  have b := rdn_nonneg h0 (32 - m).toNat
  unfold rdn at a b ⊢
  exact wrap_u64 _ b (by omega)
theorem jl_false {m : Int} (m0 : 0 ≤ m) (m1 : m ≤ 32) : jl false m = (32 - m).toNat := by
  have := jl_eq (six := false) m0 (by unfold wd; simpa using m1)
  rw [this]
  unfold wd
  simp
  omega
theorem ok_base {lo m : Int} (h0 : 0 ≤ lo) (h1 : lo < 2 ^ 32) (m0 : 0 ≤ m) (m1 : m ≤ 32) : u64 (rdn lo (32 - m).toNat) ∧ okR false 0 (rdn lo (32 - m).toNat) m := by
  have a := rdn_le lo (32 - m).toNat
  have b := rdn_nonneg h0 (32 - m).toNat
  refine ⟨⟨b, by omega⟩, ⟨by omega, by omega, b, by omega, .inr ⟨rfl, by omega⟩⟩, m0, by unfold wd; simpa using m1, ?_, ?_⟩
  · unfold jh; rw [if_neg (by decide)]; exact rdn_zero 0
  · rw [jl_false m0 m1]; exact rdn_rdn (Nat.le_refl _)
theorem has_base {lo m : Int} (h0 : 0 ≤ lo) (h1 : lo < 2 ^ 32) (m0 : 0 ≤ m) (m1 : m ≤ 32) {x : Int} (x0 : 0 ≤ x) (x1 : x < 2 ^ 32) (hx : rdn x (32 - m).toNat = rdn lo (32 - m).toNat) : hasP false 0 (rdn lo (32 - m).toNat) m false 0 x := by
  refine ⟨(ok_base h0 h1 m0 m1).2, ⟨by omega, by omega, x0, by omega, .inr ⟨rfl, x1⟩⟩, rfl, ?_, ?_⟩
  · unfold jh; rw [if_neg (by decide)]; exact rdn_zero 0
  · rw [jl_false m0 m1]; exact hx
theorem compare_le {x y : Int} (h : x ≤ y) (k : Nat) : ∃ c, addr_Compare.f (k + 4) false 0 x false 0 y = some c ∧ c ≤ 0 := by
  have e : ∀ a b : Int, cmp_Compare_uint64.f a b = some (if a < b then -1 else if a > b then 1 else 0) := by
    intro a b
    unfold cmp_Compare_uint64.f cmp_isNaN_uint64.f
    rw [Option.bind_some, Option.bind_some, if_neg (by simp), if_neg (by simp)]
    split
    · rfl
    · split <;> rfl
  unfold addr_Compare.f addr_kind.f
  rw [e, e]
  simp only [Option.bind_some, if_neg (show ¬ (false = true) by decide), if_neg (show ¬ ((0 : Int) < 0) by decide), if_neg (show ¬ ((0 : Int) > 0) by decide)]
  rw [show cmp_Compare_int.f 0 0 = some 0 by decide, Option.bind_some]
  by_cases c : x < y
  · rw [if_pos c]
    refine ⟨-1, ?_, by decide⟩
    simp [cmp_Or_int.f, cmp_Or_int.l0, rd, wrap64]
  · rw [if_neg c, if_neg (by omega)]
    refine ⟨0, ?_, by decide⟩
    simp [cmp_Or_int.f, cmp_Or_int.l0, rd, wrap64]
theorem nest_j0 {lo m n i : Int} (h0 : 0 ≤ lo) (h1 : lo < 2 ^ 32) (m0 : 0 ≤ m) (hmn : m ≤ n) (n1 : n ≤ 32) (hi_ : i64 i) (k : Nat) :
    nameplatelaw05_RangesNest.j0 (k + 4 + 1) lo m n i = some true := by
  obtain ⟨a1, w1, b1⟩ := base_eq h0 h1 m0 (by omega)
  obtain ⟨a2, _, b2⟩ := base_eq h0 h1 (show 0 ≤ n by omega) n1
  obtain ⟨u1, o1⟩ := ok_base h0 h1 m0 (by omega)
  obtain ⟨u2, o2⟩ := ok_base h0 h1 (show 0 ≤ n by omega) n1
  have z : u64 0 := ⟨by omega, by omega⟩
  have l64 : u64 lo := ⟨h0, by omega⟩
  have im : i64 m := ⟨by omega, by omega⟩
  have in_ : i64 n := ⟨by omega, by omega⟩
  obtain ⟨s, s1, s2, s3, s4⟩ := size_eq z u2 in_ o2
  obtain ⟨p, p1, p2, p3⟩ := pick_eq hi_ s2 s3
  obtain ⟨x1, x2, x3, x4⟩ := at_eq z u2 in_ o2 s1 s3 s4 p2 p3
  have hle : rdn lo (32 - m).toNat ≤ rdn lo (32 - n).toNat := by
    rw [← rdn_rdn (show (32 - n).toNat ≤ (32 - m).toNat by omega)]
    exact rdn_le _ _
  generalize hB1 : rdn lo (32 - m).toNat = B1 at *
  generalize hB2 : rdn lo (32 - n).toNat = B2 at *
  have x5 : B2 + p < 2 ^ 32 := by
    rcases x2.2.2.2.2 with c | c
    · cases c
    · exact c.2
  have x6 : 0 ≤ B2 + p := x4.1
  have x7 : rdn (B2 + p) (32 - n).toNat = B2 := by rw [jl_false (by omega) n1] at x3; exact x3
  obtain ⟨e1, c1, _, c3⟩ := check_eq (six := false) z u1 im
  obtain rfl := c3.2 o1
  obtain ⟨e2, d1, _, d3⟩ := check_eq (six := false) z u2 in_
  obtain rfl := d3.2 o2
  have tt : ∀ {v : Bool} {P : Prop}, (v = true ↔ P) → P → v = true := fun h p => h.2 p
  obtain ⟨v1, f1, f2⟩ := has_eq (six := false) z u1 im (six' := false) z l64
  obtain rfl := tt f2 (by rw [← hB1]; exact has_base h0 h1 m0 (by omega) h0 h1 rfl)
  obtain ⟨v2, g1, g2⟩ := has_eq (six := false) z u2 in_ (six' := false) z l64
  obtain rfl := tt g2 (by rw [← hB2]; exact has_base h0 h1 (by omega) n1 h0 h1 rfl)
  obtain ⟨v3, j1, j2⟩ := has_eq (six := false) z u2 in_ (six' := false) z x4
  obtain rfl := tt j2 (by rw [← hB2] at x7 x6 x5 ⊢; exact has_base h0 h1 (by omega) n1 x6 x5 x7)
  obtain ⟨v4, k1, k2⟩ := has_eq (six := false) z u1 im (six' := false) z x4
  obtain rfl := tt k2 (by
    have q := rdn_rdn (x := B2 + p) (show (32 - n).toNat ≤ (32 - m).toNat by omega)
    rw [x7, ← hB2, rdn_rdn (show (32 - n).toNat ≤ (32 - m).toNat by omega)] at q
    rw [hB2] at q
    rw [← hB1]; exact has_base h0 h1 m0 (by omega) x6 x5 q.symm)
  obtain ⟨v5, m1, m2⟩ := meet_eq (six := false) z u1 im (six' := false) z u2 in_
  obtain rfl := tt m2 (.inl ⟨by
    rw [← hB1]
    refine has_base h0 h1 m0 (by omega) u2.1 (by have := rdn_le lo (32 - n).toNat; omega) ?_
    rw [← hB2]; exact rdn_rdn (by omega), o2⟩)
  obtain ⟨v6, r1, r2⟩ := has_eq (six := false) z u1 im (six' := true) z l64
  have v6f : v6 = false := by
    cases v6 with
    | false => rfl
    | true => exact absurd (r2.1 rfl).2.2.1 (by decide)
  subst v6f
  obtain ⟨c, t1, t2⟩ := compare_le hle k
  simp only [nameplatelaw05_RangesNest.j0]
  rw [if_pos a1, if_pos a2, w1] at *
  rw [w1] at b1 b2
  rw [b1, b2, s1, Option.bind_some, p1, Option.bind_some, x1, Option.bind_some, c1, Option.bind_some, if_pos rfl, d1, Option.bind_some, if_pos rfl, f1, Option.bind_some, if_pos rfl, g1, Option.bind_some, if_pos rfl, if_pos rfl]
  rw [j1, Option.bind_some, if_pos rfl, k1, Option.bind_some, if_pos rfl, m1, Option.bind_some, if_pos rfl, size_exact z u1 im o1, Option.bind_some]
  rw [size_exact z u2 in_ o2] at s1
  obtain rfl := Option.some.inj s1
  rw [Option.bind_some, if_pos (show sizeOf false m ≥ sizeOf false n from size_mono hmn), t1, Option.bind_some, if_pos t2, r1, Option.bind_some]
  rfl
theorem nest_lives : nameplatelaw05_lives.f 300 = some true := by decide +kernel
theorem nest_f {lo m n i : Int} (h0 : 0 ≤ lo) (h1 : lo < 2 ^ 32) (hm : i64 m) (hn : i64 n) (hi_ : i64 i) : nameplatelaw05_RangesNest.f 300 lo m n i = some true := by
  obtain ⟨p, p1, p2, p3⟩ := pick_eq hm (show (1 : Int) ≤ 33 by decide) (by decide)
  obtain ⟨q, q1, q2, q3⟩ := pick_eq hn (show (1 : Int) ≤ 33 by decide) (by decide)
  unfold nameplatelaw05_RangesNest.f
  rw [nest_lives, Option.bind_some, if_pos rfl, p1, Option.bind_some, q1, Option.bind_some]
  by_cases c : p > q
  · rw [if_pos c]
    exact nest_j0 h0 h1 q2 (by omega) (by omega) hi_ 295
  · rw [if_neg c]
    exact nest_j0 h0 h1 p2 (by omega) (by omega) hi_ 295
/-- The law's call, whatever the memory. -/
theorem calls_row (lo m n i : Int) (W : World) (h : 0 ≤ lo ∧ lo < 2 ^ 32) (hm : i64 m) (hn : i64 n) (hi_ : i64 i) :
    Calls Tryz.prog 4 #[.int .u32 lo, .int .i64 m, .int .i64 n, .int .i64 i] W fun e w' => e = .returned (.bool true) ∧ Below W.heap.size W w' :=
  nameplatelaw05_RangesNest.calls 300 lo m n i true W ⟨rfl⟩ (nest_f h.1 h.2 hm hn hi_)
end Go.Proofs.YtilobbjnmnnmnaaGreatDoor.RangeFns
