/- Plain words about texts of addresses: digits of base 16, joining with one octet between and splitting again, where two octets of a kind are found first; lists of octets alone. -/
import Derived.Test.YtbalmnkbodcigaaGreatDoorAddrElder
set_option linter.unusedSimpArgs false
set_option linter.unusedVariables false
namespace Go.Proofs.YtbalmnkbodcigaaGreatDoor.AddrLib
open Go.Lib Go.Proofs.YtbalmnkbodcigaaGreatDoorW.PrintWords

def hexD (d : Nat) : UInt8 := if d < 10 then UInt8.ofNat (48 + d) else UInt8.ofNat (87 + d)
/-- A group's digits, base 16, no nought ahead. -/
def hexL (u : Nat) : List UInt8 :=
  if u < 16 then [hexD u] else if u < 256 then [hexD (u / 16), hexD (u % 16)] else if u < 4096 then [hexD (u / 256), hexD (u / 16 % 16), hexD (u % 16)] else [hexD (u / 4096), hexD (u / 256 % 16), hexD (u / 16 % 16), hexD (u % 16)]
theorem hexD_all : ∀ d : Fin 16, digI ((hexD d.val).toNat : Int) = (d.val : Int) ∧ (hexD d.val).toNat < 128 ∧ hexD d.val ≠ 58 ∧ hexD d.val ≠ 46 ∧ hexD d.val ≠ 47 := by decide +kernel
theorem hexD_fact (d : Nat) (h : d < 16) : digI ((hexD d).toNat : Int) = (d : Int) ∧ (hexD d).toNat < 128 ∧ hexD d ≠ 58 ∧ hexD d ≠ 46 ∧ hexD d ≠ 47 := hexD_all ⟨d, h⟩
theorem hexL_len (u : Nat) : 1 ≤ (hexL u).length ∧ (hexL u).length ≤ 4 := by
  unfold hexL
  repeat' split
  all_goals exact ⟨by simp, by simp⟩
theorem hexL_mem {u : Nat} (hu : u ≤ 65535) : ∀ b ∈ hexL u, b.toNat < 128 ∧ b ≠ 58 ∧ b ≠ 46 ∧ b ≠ 47 ∧ digI (b.toNat : Int) < 16 := by
  intro b hb
  obtain ⟨d, hd, rfl⟩ : ∃ d, d < 16 ∧ b = hexD d := by
    unfold hexL at hb
    split at hb
    · rename_i h; simp only [List.mem_singleton] at hb; exact ⟨_, h, hb⟩
    · split at hb
      · simp only [List.mem_cons, List.not_mem_nil, or_false] at hb
        rcases hb with rfl | rfl
        · exact ⟨_, by omega, rfl⟩
        · exact ⟨_, by omega, rfl⟩
      · split at hb
        · simp only [List.mem_cons, List.not_mem_nil, or_false] at hb
          rcases hb with rfl | rfl | rfl
          · exact ⟨_, by omega, rfl⟩
          · exact ⟨_, by omega, rfl⟩
          · exact ⟨_, by omega, rfl⟩
        · simp only [List.mem_cons, List.not_mem_nil, or_false] at hb
          rcases hb with rfl | rfl | rfl | rfl
          · exact ⟨_, by omega, rfl⟩
          · exact ⟨_, by omega, rfl⟩
          · exact ⟨_, by omega, rfl⟩
          · exact ⟨_, by omega, rfl⟩
  obtain ⟨h1, h2, h3, h4, h5⟩ := hexD_fact d hd
  exact ⟨h2, h3, h4, h5, by rw [h1]; omega⟩
theorem hexL_val {u : Nat} (hu : u ≤ 65535) : valI 16 ((hexL u).map fun b => (b.toNat : Int)) = (u : Int) := by
  have f := fun d h => (hexD_fact d h).1
  unfold hexL valI
  split
  · rename_i h
    simp only [List.map_cons, List.map_nil, List.foldl_cons, List.foldl_nil, f _ h]; omega
  · split
    · simp only [List.map_cons, List.map_nil, List.foldl_cons, List.foldl_nil, f (u / 16) (by omega), f (u % 16) (by omega)]; omega
    · split
      · simp only [List.map_cons, List.map_nil, List.foldl_cons, List.foldl_nil, f (u / 256) (by omega), f (u / 16 % 16) (by omega), f (u % 16) (by omega)]; omega
      · simp only [List.map_cons, List.map_nil, List.foldl_cons, List.foldl_nil, f (u / 4096) (by omega), f (u / 256 % 16) (by omega), f (u / 16 % 16) (by omega), f (u % 16) (by omega)]; omega
def mkB (l : List UInt8) : ByteArray := ⟨l.toArray⟩
theorem mkB_data (l : List UInt8) : (mkB l).data.toList = l := by unfold mkB; simp
theorem mkB_size (l : List UInt8) : (mkB l).size = l.length := by rw [← data_length, mkB_data]
theorem mkB_bytes (l : List UInt8) : bytesOf (mkB l) = l.map fun b => (b.toNat : Int) := by unfold bytesOf; rw [mkB_data]
theorem mkB_eta (s : ByteArray) : mkB s.data.toList = s := by cases s; unfold mkB; simp
theorem numP_hex {u : Nat} (hu : u ≤ 65535) : numP 4 16 (mkB (hexL u)) = some ((u : Int), true) := by
  have hl := hexL_len u
  have hm := hexL_mem hu
  unfold numP
  rw [if_neg (by rw [mkB_size]; omega), if_pos (by unfold ascii; rw [mkB_data, List.all_eq_true]; intro b hb; exact decide_eq_true (hm b hb).1), if_pos (by rw [mkB_bytes]; intro x hx; obtain ⟨b, hb, rfl⟩ := List.mem_map.1 hx; exact (hm b hb).2.2.2.2), mkB_bytes, hexL_val hu]

/-! Where an octet is found first. -/
theorem index1_none {c : UInt8} {x : List UInt8} (h : c ∉ x) : index x [c] = -1 := by
  refine index_none fun j hj => ?_
  unfold occAt
  rw [Bool.eq_false_iff]
  intro hc
  have hp := List.isPrefixOf_iff_prefix.1 hc
  exact h (List.mem_of_mem_drop (hp.subset (by simp)))
theorem index1_at {c : UInt8} {x : List UInt8} (h : c ∉ x) (r : List UInt8) : index (x ++ c :: r) [c] = (x.length : Int) := by
  refine index_first (by simp) ?_ fun j hj => ?_
  · unfold occAt; simp
  · unfold occAt
    rw [List.drop_append_of_le_length (by omega)]
    cases hd : x.drop j with
    | nil => have := congrArg List.length hd; simp at this; omega
    | cons b t =>
      have hb : b ∈ x := List.mem_of_mem_drop (by rw [hd]; simp)
      simp only [List.cons_append, List.isPrefixOf, Bool.and_true, beq_eq_false_iff_ne, ne_eq]
      rintro rfl
      exact h hb
theorem split_join (c : UInt8) : ∀ (l : List (List UInt8)), l ≠ [] → (∀ x ∈ l, c ∉ x) → split (join l [c]) [c] = l := by
  intro l
  induction l with
  | nil => intro h; exact absurd rfl h
  | cons x t ih =>
    intro _ hx
    have hxc : c ∉ x := hx x (by simp)
    cases t with
    | nil =>
      rw [join_one]
      unfold split
      rw [count_miss (index1_none hxc)]
      rfl
    | cons y t =>
      have ej : join (x :: y :: t) [c] = x ++ c :: join (y :: t) [c] := by
        rw [join_cons, join_cons]
        simp [joinTail]
      have ih := ih (by simp) (fun z hz => hx z (by simp [hz]))
      have hi := index1_at hxc (join (y :: t) [c])
      unfold split at ih ⊢
      rw [ej, count_hit (by simp) hi, Nat.add_comm]
      unfold splitK
      rw [if_neg (by rw [hi, beq_iff_eq]; omega), hi]
      have e1 : ((x.length : Int)).toNat = x.length := Int.toNat_natCast _
      rw [e1]
      have e2 : (x ++ c :: join (y :: t) [c]).drop (x.length + [c].length) = join (y :: t) [c] := by
        rw [← List.drop_drop, List.drop_left]; rfl
      rw [e2, ih, Nat.add_zero, List.take_left]
theorem splitB_list (c : UInt8) (s : ByteArray) : splitB (oneS c) 0 (countB s (oneS c)) s = (split s.data.toList [c]).map mkB := by
  have h := splitB_data (oneS c) 0 (countB s (oneS c)) s
  have h2 := congrArg (List.map mkB) h
  rw [List.map_map] at h2
  have e : (mkB ∘ fun x : ByteArray => x.data.toList) = id := by funext x; exact mkB_eta x
  have h3 : List.map (mkB ∘ fun x : ByteArray => x.data.toList) (splitB (oneS c) 0 (countB s (oneS c)) s) = splitB (oneS c) 0 (countB s (oneS c)) s := by rw [e, List.map_id]
  rw [← h3, h2]
  rfl
/-! Where two colons are found first. -/
def shift (i n : Int) : Int := if i = -1 then -1 else i + n
theorem shift_shift (i a b : Int) (h : -1 ≤ i) (ha : 0 ≤ a) : shift (shift i a) b = shift i (a + b) := by
  unfold shift
  by_cases e : i = -1
  · simp [e]
  · rw [if_neg e, if_neg (by omega), if_neg e]; omega
theorem ix_step (b : UInt8) (l : List UInt8) (h : ([58, 58] : List UInt8).isPrefixOf (b :: l) = false) : index (b :: l) [58, 58] = shift (index l [58, 58]) 1 := by
  show (if ([58, 58] : List UInt8).isPrefixOf (b :: l) = true then (0 : Int) else if (index l [58, 58] == -1) = true then -1 else index l [58, 58] + 1) = _
  rw [h, if_neg (by simp)]
  unfold shift
  by_cases e : index l [58, 58] = -1
  · rw [if_pos (by rw [e]; rfl), if_pos e]
  · rw [if_neg (by simpa using e), if_neg e]
theorem ix_skip : ∀ (x : List UInt8), (58 : UInt8) ∉ x → ∀ r, index (x ++ r) [58, 58] = shift (index r [58, 58]) x.length := by
  intro x
  induction x with
  | nil => intro _ r; unfold shift; have := index_ge r [58, 58]; simp
  | cons b t ih =>
    intro hx r
    have hb : b ≠ 58 := fun e => hx (by simp [e])
    rw [List.cons_append, ix_step _ _ (by simp [List.isPrefixOf]; intro h; exact absurd h.symm hb), ih (fun h => hx (by simp [h])) r, shift_shift _ _ _ (index_ge _ _) (by omega)]
    simp
theorem ix_colon (b : UInt8) (hb : b ≠ 58) (r : List UInt8) : index (58 :: b :: r) [58, 58] = shift (index (b :: r) [58, 58]) 1 :=
  ix_step _ _ (by simp [List.isPrefixOf]; intro h; exact absurd h.symm hb)
/-- Groups with one colon between: no two colons are among them. -/
theorem ix_join : ∀ (l : List (List UInt8)), l ≠ [] → (∀ x ∈ l, (58 : UInt8) ∉ x ∧ x ≠ []) → ∀ r, index (join l [58] ++ r) [58, 58] = shift (index r [58, 58]) (join l [58]).length := by
  intro l
  induction l with
  | nil => intro h; exact absurd rfl h
  | cons x t ih =>
    intro _ hx r
    cases t with
    | nil => rw [join_one]; exact ix_skip x (hx x (by simp)).1 r
    | cons y t =>
      have ej : join (x :: y :: t) [58] = x ++ 58 :: join (y :: t) [58] := by rw [join_cons, join_cons]; simp [joinTail]
      have ih := ih (by simp) (fun z hz => hx z (by simp [hz])) r
      obtain ⟨b, y', hy⟩ : ∃ b y', y = b :: y' := by
        cases y with
        | nil => exact absurd rfl (hx [] (by simp)).2
        | cons b y' => exact ⟨b, y', rfl⟩
      have hb : b ≠ 58 := fun e => (hx y (by simp)).1 (by rw [hy, e]; simp)
      have ey : ∃ z, join (y :: t) [58] = b :: z := by rw [join_cons, hy]; exact ⟨_, rfl⟩
      obtain ⟨z, hz⟩ := ey
      rw [ej, List.append_assoc, List.cons_append, ix_skip x (hx x (by simp)).1]
      rw [hz, List.cons_append] at ih ⊢
      rw [ix_colon b hb, ih, shift_shift _ _ _ (index_ge _ _) (by omega), shift_shift _ _ _ (index_ge _ _) (by omega)]
      congr 1
      simp only [List.length_append, List.length_cons]
      omega
theorem index_nil2 : index ([] : List UInt8) [58, 58] = -1 := rfl
theorem index_gap (r : List UInt8) : index (58 :: 58 :: r) [58, 58] = 0 := by
  show (if ([58, 58] : List UInt8).isPrefixOf (58 :: 58 :: r) = true then (0 : Int) else _) = 0
  rw [if_pos (by simp [List.isPrefixOf])]
def okG (l : List (List UInt8)) : Prop := ∀ x ∈ l, (58 : UInt8) ∉ x ∧ x ≠ []
theorem ix_join_end (l : List (List UInt8)) (h : okG l) : index (join l [58]) [58, 58] = -1 := by
  by_cases e : l = []
  · subst e; rfl
  · have := ix_join l e h []
    rw [List.append_nil, index_nil2] at this
    exact this
theorem ix_join_gap (l : List (List UInt8)) (h : okG l) (r : List UInt8) : index (join l [58] ++ 58 :: 58 :: r) [58, 58] = ((join l [58]).length : Int) := by
  by_cases e : l = []
  · subst e; exact index_gap r
  · rw [ix_join l e h, index_gap]
    unfold shift
    rw [if_neg (by omega)]
    omega
theorem cut_whole (l : List (List UInt8)) (h : okG l) : cut (join l [58]) [58, 58] = (join l [58], [], false) := by
  unfold cut
  rw [ix_join_end l h, if_neg (by omega)]
theorem cut_gap (la lb : List (List UInt8)) (h : okG la) : cut (join la [58] ++ 58 :: 58 :: join lb [58]) [58, 58] = (join la [58], join lb [58], true) := by
  unfold cut
  rw [ix_join_gap la h, if_pos (by omega), Int.toNat_natCast, List.take_left]
  have : (join la [58] ++ 58 :: 58 :: join lb [58]).drop ((join la [58]).length + ([58, 58] : List UInt8).length) = join lb [58] := by rw [← List.drop_drop, List.drop_left]; rfl
  rw [this]
theorem contains_no (l : List (List UInt8)) (h : okG l) : contains (join l [58]) [58, 58] = false := by
  unfold contains
  rw [ix_join_end l h]
  rfl
theorem contains_one {c : UInt8} {s : List UInt8} (h : c ∈ s) : contains s [c] = true := by
  obtain ⟨x, r, rfl, hx⟩ := List.eq_append_cons_of_mem h
  unfold contains
  rw [index1_at hx]
  exact decide_eq_true (by omega)
end Go.Proofs.YtbalmnkbodcigaaGreatDoor.AddrLib
