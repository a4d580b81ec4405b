/- This text proves, about ranges alone, what the law RangesFree asks: what is free, and what is not, are all places; nothing reserved leaves all; a range more leaves no more. -/
import Derived.Test.YtilobbjnmnnmnaaGreatDoorRangeFns2
import Derived.Test.YtilobbjnmnnmnaaGreatDoorOFreex9
set_option linter.unusedSimpArgs false
set_option linter.unusedVariables false
namespace Go.Proofs.YtilobbjnmnnmnaaGreatDoor.RangeFns
open Go.RowKit Go.Proofs.YtilobbjnmnnmnaaGreatDoor.OFree Go.Proofs.YtilobbjnmnnmnaaGreatDoorW.PrintWords Go.Proofs.YtilobbjnmnnmnaaGreatDoorW.PrintLast Go.Proofs.YtilobbjnmnnmnaaGreatDoorW.PrintMore
open Go.Proofs.YtilobbjnmnnmnaaGreatDoor.RangeRow (Rng)
open Go.Proofs.YtilobbjnmnnmnaaGreatDoor.RangeFree (Adr anyF stepF countF freeF)

instance (six : Bool) (hi lo b : Int) (six' : Bool) (hi' lo' : Int) : Decidable (hasP six hi lo b six' hi' lo') := by unfold hasP okR valid; infer_instance
def hasB (x : Rng) (a : Adr) : Bool := decide (hasP x.six x.hi x.lo x.bits a.six a.hi a.lo)
def inR (x : Rng) : Prop := u64 x.hi ∧ u64 x.lo ∧ i64 x.bits
abbrev hasF (x : Rng) (a : Adr) : Option Bool := ranges_Has.f x.six x.hi x.lo x.bits a.six a.hi a.lo
abbrev sizeF (x : Rng) : Option Int := ranges_Size.f x.six x.hi x.lo x.bits
abbrev addF (a : Adr) (n : Int) : Option (Bool × Int × Int × Bool) := addr_Add.f a.six a.hi a.lo n
theorem has_dec {x : Rng} {a : Adr} (h : inR x) (h1 : u64 a.hi) (h2 : u64 a.lo) : hasF x a = some (hasB x a) := by
  obtain ⟨v, p1, p2⟩ := has_eq (six := x.six) h.1 h.2.1 h.2.2 (six' := a.six) h1 h2
  rw [show hasF x a = _ from p1]
  congr 1
  unfold hasB
  cases v with
  | true => exact (decide_eq_true (p2.1 rfl)).symm
  | false => exact (decide_eq_false (fun q => Bool.false_ne_true (p2.2 q))).symm
theorem any_dec {a : Adr} (h1 : u64 a.hi) (h2 : u64 a.lo) : ∀ (l : List Rng), (∀ x ∈ l, inR x) → anyF hasF a l = some (l.any fun x => hasB x a)
  | [], _ => rfl
  | x :: l, h => by
    have ih := any_dec h1 h2 l (fun y hy => h y (List.mem_cons_of_mem _ hy))
    show (hasF x a).bind _ = _
    rw [has_dec (h x (List.mem_cons_self)) h1 h2, Option.bind_some]
    rw [List.any_cons]
    cases hasB x a with
    | true => rfl
    | false => rw [if_neg (by decide), ih, Bool.false_or]
/-- How many of the first numbers do. -/
def cntB (g : Nat → Bool) : Nat → Int
  | 0 => 0
  | m + 1 => cntB g m + (if g m = true then 1 else 0)
theorem cntB_le {g g' : Nat → Bool} : ∀ m, (∀ i, i < m → g i = true → g' i = true) → cntB g m ≤ cntB g' m
  | 0, _ => Int.le_refl _
  | m + 1, h => by
    have ih := cntB_le m (fun i hi => h i (by omega))
    have h1 := h m (by omega)
    unfold cntB
    cases c : g m with
    | true => rw [h1 c]; omega
    | false => simp; split <;> omega
theorem cntB_eq {g g' : Nat → Bool} (m : Nat) (h : ∀ i, i < m → g i = g' i) : cntB g m = cntB g' m :=
  Int.le_antisymm (cntB_le m fun i hi c => (h i hi) ▸ c) (cntB_le m fun i hi c => (h i hi).symm ▸ c)
theorem cntB_all {g : Nat → Bool} : ∀ m, (∀ i, i < m → g i = true) → cntB g m = m
  | 0, _ => rfl
  | m + 1, h => by
    unfold cntB
    rw [cntB_all m (fun i hi => h i (by omega)), h m (by omega)]
    simp
theorem cntB_none {g : Nat → Bool} : ∀ m, (∀ i, i < m → g i = false) → cntB g m = 0
  | 0, _ => rfl
  | m + 1, h => by
    unfold cntB
    rw [cntB_none m (fun i hi => h i (by omega)), h m (by omega)]
    simp
/-- Whether a place is free. -/
def freeAt (x : Rng) (l : List Rng) (i : Nat) : Bool := !(l.any fun y => hasB y ⟨x.six, x.hi, x.lo + i⟩)
theorem add_place {x : Rng} (h : inR x) (ho : okR x.six x.hi x.lo x.bits) {n : Int} (hn : sizeF x = some n) (hn1 : n ≤ 65536) (hn2 : n ≤ 2 ^ (jl x.six x.bits)) {i : Nat} (hi : (i : Int) < n) :
    addF ⟨x.six, x.hi, x.lo⟩ (i : Int) = some (x.six, x.hi, x.lo + i, true) ∧ u64 (x.lo + i) := by
  obtain ⟨a1, a2, a3, a4⟩ := at_eq h.1 h.2.1 h.2.2 ho hn hn1 hn2 (show (0 : Int) ≤ i by omega) hi
  refine ⟨?_, a4⟩
  unfold ranges_At.f at a1
  rw [if_neg (by omega), show ranges_Size.f x.six x.hi x.lo x.bits = some n from hn, Option.bind_some, if_neg (by omega), wrap_u64 _ (by omega) (by omega)] at a1
  obtain ⟨t, t1, t2⟩ := Option.bind_eq_some_iff.mp a1
  rw [show addF _ _ = _ from t1]
  exact t2
theorem count_dec {x : Rng} (h : inR x) (ho : okR x.six x.hi x.lo x.bits) {n : Int} (hn : sizeF x = some n) (hn1 : n ≤ 65536) (hn2 : n ≤ 2 ^ (jl x.six x.bits)) (l : List Rng) (hl : ∀ y ∈ l, inR y) : ∀ m : Nat, (m : Int) ≤ n → countF hasF addF x l m = some (cntB (freeAt x l) m)
  | 0, _ => rfl
  | m + 1, hm => by
    obtain ⟨a1, a2⟩ := add_place h ho hn hn1 hn2 (i := m) (by omega)
    unfold countF
    rw [count_dec h ho hn hn1 hn2 l hl m (by omega), Option.bind_some]
    unfold stepF
    rw [a1, Option.bind_some, any_dec (a := ⟨x.six, x.hi, x.lo + m⟩) h.1 a2 l hl, Option.bind_some, Option.bind_some]
    rw [show cntB (freeAt x l) (m + 1) = cntB (freeAt x l) m + (if freeAt x l m = true then 1 else 0) from rfl]
    rw [show freeAt x l m = !(l.any fun y => hasB y ⟨x.six, x.hi, x.lo + m⟩) from rfl]
    cases (l.any fun y => hasB y ⟨x.six, x.hi, x.lo + m⟩) <;> rfl
theorem free_dec {x : Rng} (h : inR x) (ho : okR x.six x.hi x.lo x.bits) {n : Int} (hn : sizeF x = some n) (hn0 : 1 ≤ n) (hn1 : n ≤ 65536) (hn2 : n ≤ 2 ^ (jl x.six x.bits)) (l : List Rng) (hl : ∀ y ∈ l, inR y) (hlen : (l.length : Int) ≤ 4000000) : freeF hasF sizeF addF x l = some (cntB (freeAt x l) n.toNat) := by
  unfold freeF
  rw [if_pos hlen, hn, Option.bind_some, if_pos ⟨by omega, hn1⟩]
  exact count_dec h ho hn hn1 hn2 l hl n.toNat (by omega)
def toR (x : S26) : Rng := ⟨x.f0.f0, x.f0.f1, x.f0.f2, x.f1⟩
theorem rd_at {L : List S26} {j : Nat} (h : j < L.length) : rd_T26 L (j : Int) = L[j] := by
  unfold rd_T26
  rw [Int.toNat_natCast, List.getD_eq_getElem?_getD, List.getElem?_eq_getElem h]
  rfl
/-- The law's inner loop: whether none of the row has an address. -/
theorem l1_run (L : List S26) (hL : ∀ y ∈ L, inR (toR y)) (hlen : L.length ≤ 20) (a : Adr) (h1 : u64 a.hi) (h2 : u64 a.lo) (n i : Int) (s : Bool) (hi lo b : Int) (s' : Bool) (hi' lo' b' : Int) (k : Nat) : ∀ (d j : Nat) (f : Bool), j + d = L.length →
    nameplatelaw05_RangesFree.l1 (k + d + 1) L n i f (j : Int) s hi lo b s' hi' lo' b' a.six a.hi a.lo = nameplatelaw05_RangesFree.l0 k L (if (f && (L.drop j).all fun y => !hasB (toR y) a) = true then wrap64 (n + 1) else n) (wrap64 (i + 1)) s hi lo b s' hi' lo' b'
  | 0, j, f, hj => by
    simp only [nameplatelaw05_RangesFree.l1]
    rw [if_neg (by omega), List.drop_eq_nil_of_le (by omega)]
    cases f <;> rfl
  | d + 1, j, f, hj => by
    have hlt : j < L.length := by omega
    have ih := fun f' => l1_run L hL hlen a h1 h2 n i s hi lo b s' hi' lo' b' k d (j + 1) f' (by omega)
    rw [show k + (d + 1) + 1 = (k + d + 1) + 1 by omega]
    generalize k + d + 1 = q at ih ⊢
    simp only [nameplatelaw05_RangesFree.l1]
    have hw : wrap64 ((j : Int) + 1) = ((j + 1 : Nat) : Int) := by unfold wrap64; omega
    rw [if_pos (by omega), rd_at hlt, hw, List.drop_eq_getElem_cons hlt, List.all_cons]
    cases f with
    | true =>
      have hd := has_dec (x := toR L[j]) (hL _ (List.getElem_mem hlt)) h1 h2
      rw [if_pos rfl, if_pos (by omega), show ranges_Has.f L[j].f0.f0 L[j].f0.f1 L[j].f0.f2 L[j].f1 a.six a.hi a.lo = _ from hd, Option.bind_some, ih, Bool.true_and]
    | false =>
      rw [if_neg (by decide), ih]
      rfl
theorem cntB_bound (g : Nat → Bool) : ∀ m : Nat, 0 ≤ cntB g m ∧ cntB g m ≤ m
  | 0 => ⟨Int.le_refl _, Int.le_refl _⟩
  | m + 1 => by
    have ih := cntB_bound g m
    unfold cntB
    split <;> omega
theorem freeAt_all (x : Rng) (L : List S26) (i : Nat) : freeAt x (L.map toR) i = (L.drop 0).all fun y => !hasB (toR y) ⟨x.six, x.hi, x.lo + i⟩ := by
  unfold freeAt
  rw [List.drop_zero, List.any_map, List.not_any_eq_all_not]
  rfl
/-- The law's outer loop counts the places that are in none. -/
theorem l0_run (x : Rng) (h : inR x) (ho : okR x.six x.hi x.lo x.bits) {n : Int} (hn : sizeF x = some n) (hn1 : n ≤ 65536) (hn2 : n ≤ 2 ^ (jl x.six x.bits)) (L : List S26) (hL : ∀ y ∈ L, inR (toR y)) (hlen : L.length ≤ 20) (s' : Bool) (hi' lo' b' : Int) (k : Nat) : ∀ (d i : Nat), ((i + d : Nat) : Int) = n →
    nameplatelaw05_RangesFree.l0 (k + d * (L.length + 2)) L (cntB (freeAt x (L.map toR)) i) (i : Int) x.six x.hi x.lo x.bits s' hi' lo' b' = nameplatelaw05_RangesFree.l0 k L (cntB (freeAt x (L.map toR)) (i + d)) n x.six x.hi x.lo x.bits s' hi' lo' b'
  | 0, i, hd => by
    rw [Nat.zero_mul, Nat.add_zero, Nat.add_zero, ← hd]
    rfl
  | d + 1, i, hd => by
    have ih := l0_run x h ho hn hn1 hn2 L hL hlen s' hi' lo' b' k d (i + 1) (by omega)
    obtain ⟨a1, a2, a3, a4⟩ := at_eq h.1 h.2.1 h.2.2 ho hn hn1 hn2 (show (0 : Int) ≤ i by omega) (by omega)
    have l1 := l1_run L hL hlen ⟨x.six, x.hi, x.lo + i⟩ h.1 a4 (cntB (freeAt x (L.map toR)) i) i x.six x.hi x.lo x.bits s' hi' lo' b' (k + d * (L.length + 2)) L.length 0 true (by omega)
    rw [show k + (d + 1) * (L.length + 2) = (k + d * (L.length + 2) + L.length + 1) + 1 by rw [Nat.succ_mul]; omega]
    generalize k + d * (L.length + 2) + L.length + 1 = q at l1 ⊢
    simp only [nameplatelaw05_RangesFree.l0]
    rw [show ranges_Size.f x.six x.hi x.lo x.bits = some n from hn, Option.bind_some, if_pos (by omega), a1, Option.bind_some]
    refine l1.trans ?_
    have hb := cntB_bound (freeAt x (L.map toR)) i
    rw [Bool.true_and, ← freeAt_all, show wrap64 (i + 1) = ((i + 1 : Nat) : Int) by unfold wrap64; omega, show wrap64 (cntB (freeAt x (L.map toR)) i + 1) = cntB (freeAt x (L.map toR)) i + 1 by unfold wrap64; omega]
    rw [show i + (d + 1) = i + 1 + d by omega, ← ih]
    congr 1
    show _ = cntB _ i + _
    split <;> omega
/-- Two ranges that share an address: one has the other's Base. -/
theorem meet_of {s : Bool} {hi lo b : Int} {s' : Bool} {hi' lo' b' : Int} {s1 : Bool} {h1 l1 : Int} (p : hasP s hi lo b s1 h1 l1) (q : hasP s' hi' lo' b' s1 h1 l1) : (hasP s hi lo b s' hi' lo' ∧ okR s' hi' lo' b') ∨ (hasP s' hi' lo' b' s hi lo ∧ okR s hi lo b) := by
  obtain ⟨o1, _, e1, p1, p2⟩ := p
  obtain ⟨o2, _, e2, q1, q2⟩ := q
  subst e1
  subst e2
  have a0 := o1.2.1
  have a1 := o1.2.2.1
  have c0 := o2.2.1
  have c1 := o2.2.2.1
  by_cases g : b ≤ b'
  · refine .inl ⟨⟨o1, o2.1, rfl, ?_, ?_⟩, o2⟩
    · rw [← q1, rdn_rdn (by rw [jh_eq a0 a1, jh_eq c0 c1]; omega)]; exact p1
    · rw [← q2, rdn_rdn (by rw [jl_eq a0 a1, jl_eq c0 c1]; omega)]; exact p2
  · refine .inr ⟨⟨o2, o1.1, rfl, ?_, ?_⟩, o1⟩
    · rw [← p1, rdn_rdn (by rw [jh_eq a0 a1, jh_eq c0 c1]; omega)]; exact q1
    · rw [← p2, rdn_rdn (by rw [jl_eq a0 a1, jl_eq c0 c1]; omega)]; exact q2
theorem own_row (L : List S26) (h : L.length ≤ 20) : api_Range_16.f L = some L := by
  unfold api_Range_16.f
  rw [Option.bind_some, if_pos (by simp; omega), List.nil_append]
theorem free_f (x : Rng) (L : List S26) : ranges_Free.f x.six x.hi x.lo x.bits L = freeF hasF sizeF addF x (L.map toR) := rfl
def ofR (m : Rng) : S26 := ⟨⟨m.six, m.hi, m.lo⟩, m.bits⟩
theorem tail_true (x m : Rng) (h : inR x) (hm : inR m) (ho : okR x.six x.hi x.lo x.bits) {n : Int} (hn : sizeF x = some n) (hn0 : 1 ≤ n) (hn1 : n ≤ 65536) (hn2 : n ≤ 2 ^ (jl x.six x.bits)) (L : List S26) (hL : ∀ y ∈ L, inR (toR y)) (hlen : L.length ≤ 20) (k : Nat) :
    nameplatelaw05_RangesFree.l0 (k + 1) L (cntB (freeAt x (L.map toR)) n.toNat) n x.six x.hi x.lo x.bits m.six m.hi m.lo m.bits = some true := by
  have hLm : ∀ y ∈ L.map toR, inR y := fun y hy => by obtain ⟨z, hz, rfl⟩ := List.mem_map.1 hy; exact hL z hz
  have F1 := free_dec h ho hn hn0 hn1 hn2 ((L ++ [ofR m]).map toR) (fun y hy => by
    rw [List.map_append] at hy
    rcases List.mem_append.1 hy with c | c
    · exact hLm y c
    · rw [List.mem_singleton.1 c]; exact hm) (by simp; omega)
  have F2 := free_dec h ho hn hn0 hn1 hn2 (L.map toR) hLm (by simp; omega)
  have F3 := free_dec h ho hn hn0 hn1 hn2 [] (fun y hy => by cases hy) (by simp)
  have F4 := free_dec h ho hn hn0 hn1 hn2 [x] (fun y hy => by rw [List.mem_singleton.1 hy]; exact h) (by simp)
  have pl : ∀ i, i < n.toNat → hasP x.six x.hi x.lo x.bits x.six x.hi (x.lo + i) := fun i hi => by
    obtain ⟨_, a2, a3, _⟩ := at_eq h.1 h.2.1 h.2.2 ho hn hn1 hn2 (show (0 : Int) ≤ i by omega) (by omega)
    exact ⟨ho, a2, rfl, ho.2.2.2.1, a3⟩
  have E3 : cntB (freeAt x []) n.toNat = n := by rw [cntB_all (g := freeAt x []) n.toNat (fun i _ => rfl)]; omega
  have E4 : cntB (freeAt x [x]) n.toNat = 0 := cntB_none _ fun i hi => by
    unfold freeAt hasB
    simp [pl i hi]
  have fa : ∀ i, freeAt x ((L ++ [ofR m]).map toR) i = (freeAt x (L.map toR) i && !hasB m ⟨x.six, x.hi, x.lo + i⟩) := fun i => by
    unfold freeAt
    rw [List.map_append, List.any_append, Bool.not_or]
    simp [toR, ofR]
  have E1 : cntB (freeAt x ((L ++ [ofR m]).map toR)) n.toNat ≤ cntB (freeAt x (L.map toR)) n.toNat := cntB_le _ fun i _ c => by
    rw [fa, Bool.and_eq_true] at c
    exact c.1
  obtain ⟨v, m1, m2⟩ := meet_eq (six := x.six) h.1 h.2.1 h.2.2 (six' := m.six) hm.1 hm.2.1 hm.2.2
  have E2 : v = false → cntB (freeAt x ((L ++ [ofR m]).map toR)) n.toNat = cntB (freeAt x (L.map toR)) n.toNat := fun hv => cntB_eq _ fun i hi => by
    rw [fa]
    have : hasB m ⟨x.six, x.hi, x.lo + i⟩ = false := decide_eq_false fun q => by
      have := m2.2 (meet_of (pl i hi) q)
      rw [hv] at this
      cases this
    rw [this]
    simp
  rw [E3] at F3
  rw [E4] at F4
  simp only [nameplatelaw05_RangesFree.l0]
  rw [show (⟨⟨m.six, m.hi, m.lo⟩, m.bits⟩ : S26) = ofR m from rfl, show ranges_Size.f x.six x.hi x.lo x.bits = some n from hn, Option.bind_some, if_neg (by omega), own_row L hlen, Option.bind_some, Option.bind_some, if_pos (by simp; omega), free_f, F1, Option.bind_some, free_f, F2, Option.bind_some, if_pos rfl, show ranges_Free.f x.six x.hi x.lo x.bits [] = _ from F3, Option.bind_some, Option.bind_some, if_pos rfl, if_pos E1, m1, Option.bind_some, show ranges_Free.f x.six x.hi x.lo x.bits [(⟨⟨x.six, x.hi, x.lo⟩, x.bits⟩ : S26)] = _ from F4]
  cases v with
  | true => rfl
  | false => rw [if_neg (by decide), if_pos (E2 rfl)]; rfl
theorem size_bad {x : Rng} (h : inR x) (ho : ¬ okR x.six x.hi x.lo x.bits) : sizeF x = some 0 := by
  obtain ⟨e, q1, q2, q3⟩ := check_eq (six := x.six) h.1 h.2.1 h.2.2
  show ranges_Size.f x.six x.hi x.lo x.bits = some 0
  unfold ranges_Size.f
  rw [q1, Option.bind_some, if_neg (fun c => ho (q3.1 c))]
theorem free_bad {x : Rng} (hn : sizeF x = some 0) (l : List Rng) (hl : (l.length : Int) ≤ 4000000) : freeF hasF sizeF addF x l = some 0 := by
  unfold freeF
  rw [if_pos hl, hn, Option.bind_some, if_pos ⟨by omega, by omega⟩]
  rfl
theorem tail_bad (x m : Rng) (h : inR x) (hm : inR m) (hn : sizeF x = some 0) (L : List S26) (hlen : L.length ≤ 20) (k : Nat) :
    nameplatelaw05_RangesFree.l0 (k + 1) L 0 0 x.six x.hi x.lo x.bits m.six m.hi m.lo m.bits = some true := by
  obtain ⟨v, m1, m2⟩ := meet_eq (six := x.six) h.1 h.2.1 h.2.2 (six' := m.six) hm.1 hm.2.1 hm.2.2
  simp only [nameplatelaw05_RangesFree.l0]
  rw [show (⟨⟨m.six, m.hi, m.lo⟩, m.bits⟩ : S26) = ofR m from rfl, show ranges_Size.f x.six x.hi x.lo x.bits = some 0 from hn, Option.bind_some, if_neg (by omega), own_row L hlen, Option.bind_some, Option.bind_some, if_pos (by simp; omega), free_f, free_bad hn _ (by simp; omega), Option.bind_some, free_f, free_bad hn _ (by simp; omega), Option.bind_some, if_pos rfl, free_f, free_bad hn _ (by simp), Option.bind_some, Option.bind_some, if_pos rfl, if_pos (by decide), m1, Option.bind_some, free_f, free_bad hn _ (by simp)]
  cases v with
  | true => rfl
  | false => rw [if_neg (by decide), if_pos rfl]; rfl
theorem free_lives : ∀ k, nameplatelaw05_lives.f (300 + k) = some true
  | 0 => by decide +kernel
  | k + 1 => nameplatelaw05_lives.mono (300 + k) _ (free_lives k)
theorem free_law (x m : Rng) (h : inR x) (hm : inR m) (L : List S26) (hL : ∀ y ∈ L, inR (toR y)) : ∃ k, nameplatelaw05_RangesFree.f k x.six x.hi x.lo x.bits L m.six m.hi m.lo m.bits = some true := by
  by_cases ho : okR x.six x.hi x.lo x.bits
  · obtain ⟨n, n1, n2, n3, n4⟩ := size_eq h.1 h.2.1 h.2.2 ho
    refine ⟨300 + (1 + n.toNat * (L.length + 2) + 1), ?_⟩
    unfold nameplatelaw05_RangesFree.f nameplatelaw05_light.f
    rw [free_lives, Option.bind_some, if_pos rfl, n1, Option.bind_some, Option.bind_some, show 300 + (1 + n.toNat * (L.length + 2) + 1) = (300 + 1 + n.toNat * (L.length + 2)) + 1 by omega]
    simp only [nameplatelaw05_RangesFree.j0]
    by_cases c : n ≤ 300
    · rw [if_pos (decide_eq_true c)]
      by_cases d : (L.length : Int) > 20
      · rw [if_pos (decide_eq_true d)]
      · rw [if_neg (by simpa using d)]
        have r := l0_run x h ho n1 n3 n4 L hL (by omega) m.six m.hi m.lo m.bits (300 + 1) n.toNat 0 (by omega)
        rw [Nat.zero_add] at r
        exact Eq.trans r (tail_true x m h hm ho n1 n2 n3 n4 L hL (by omega) 300)
    · rw [if_neg (by simpa using c), if_pos trivial]
  · refine ⟨300 + 2, ?_⟩
    have n1 := size_bad h ho
    unfold nameplatelaw05_RangesFree.f nameplatelaw05_light.f
    rw [free_lives, Option.bind_some, if_pos rfl, show ranges_Size.f x.six x.hi x.lo x.bits = _ from n1, Option.bind_some, Option.bind_some, if_pos (by decide)]
    simp only [nameplatelaw05_RangesFree.j0]
    by_cases d : (L.length : Int) > 20
    · rw [if_pos (decide_eq_true d)]
    · rw [if_neg (by simpa using d)]
      exact tail_bad x m h hm n1 L (by omega) 300
/-- The law's call, where the row reads as ranges. -/
theorem calls_row (six : Bool) (hi lo b : Int) (A : Option Addr) (c : Nat) (l : List Rng) (six' : Bool) (hi' lo' b' : Int) (W : World) (h : u64 hi) (u : u64 lo) (hb : i64 b) (hc : l.length ≤ c) (hR : Kd.C RangeRow.kR W A l.length l) (hl : ∀ q ∈ l, RangeRow.Rng.in_ q) (h' : u64 hi') (u' : u64 lo') (hb' : i64 b') :
    Calls Tryz.prog 3 #[.agg #[.bool six, .int .u64 hi, .int .u64 lo, .int .i64 b], .slice A l.length c, .agg #[.bool six', .int .u64 hi', .int .u64 lo', .int .i64 b']] W fun e w' => e = .returned (.bool true) ∧ Below W.heap.size W w' := by
  obtain ⟨k, hk⟩ := free_law ⟨six, hi, lo, b⟩ ⟨six', hi', lo', b'⟩ ⟨h, u, hb⟩ ⟨h', u', hb'⟩ (l.map ofR) (fun y hy => by obtain ⟨z, hz, rfl⟩ := List.mem_map.1 hy; exact hl z hz)
  have hr : Kd.C k26 W A (l.map ofR).length (l.map ofR) := by
    rw [List.length_map]
    obtain ⟨r1, r2, r3⟩ := hR
    refine ⟨by simp, r2, fun hn => ?_⟩
    obtain ⟨ad, e, hrow⟩ := r3 hn
    refine ⟨ad, e, fun j p hj => ?_⟩
    rw [List.getElem?_map] at hj
    obtain ⟨x, hx, rfl⟩ := Option.map_eq_some_iff.mp hj
    obtain ⟨cs, k1, k2, k3⟩ := hrow j x hx
    obtain rfl := RangeRow.kR_open k2
    exact ⟨_, k1, k26_mk W (ofR x), k3⟩
  have := nameplatelaw05_RangesFree.calls k six hi lo b A c (l.map ofR) six' hi' lo' b' true W hr (by rw [List.length_map]; exact hc) ⟨rfl⟩ hk
  rw [List.length_map] at this
  exact this
end Go.Proofs.YtilobbjnmnnmnaaGreatDoor.RangeFns
