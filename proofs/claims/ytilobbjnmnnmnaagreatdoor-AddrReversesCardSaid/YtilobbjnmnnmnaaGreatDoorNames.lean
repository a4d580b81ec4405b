/- Plain laws on names as lists of labels, without any program. -/
import Derived.Test.YtilobbjnmnnmnaaGreatDoorPlain
namespace Go.Proofs.YtilobbjnmnnmnaaGreatDoorW.PrintWords
open Go.RowKit

/-- Labels that may be. -/
def okL (L : List ByteArray) : Prop := ∀ x ∈ L, 1 ≤ x.size ∧ x.size ≤ 63
theorem okL_nil : okL [] := fun x h => by cases h
theorem okL_cons {x : ByteArray} {L : List ByteArray} : okL (x :: L) ↔ (1 ≤ x.size ∧ x.size ≤ 63) ∧ okL L := by
  unfold okL
  simp
theorem okL_append {L M : List ByteArray} : okL (L ++ M) ↔ okL L ∧ okL M := by
  unfold okL
  simp only [List.mem_append]
  constructor
  · intro h
    exact ⟨fun x hx => h x (Or.inl hx), fun x hx => h x (Or.inr hx)⟩
  · rintro ⟨h1, h2⟩ x (hx | hx)
    · exact h1 x hx
    · exact h2 x hx
theorem okL_drop {L : List ByteArray} (h : okL L) (n : Nat) : okL (L.drop n) := fun x hx => h x (List.mem_of_mem_drop hx)
theorem okL_fold {L : List ByteArray} (h : okL L) : okL (L.map foldS) := by
  intro x hx
  obtain ⟨y, hy, rfl⟩ := List.mem_map.1 hx
  rw [foldS_size]
  exact h y hy
/-- The octets of a name of labels. -/
def joinI (L : List ByteArray) : List Int := L.flatMap fun x => (x.size : Int) :: bytesOf x
theorem joinI_cons (x : ByteArray) (L : List ByteArray) : joinI (x :: L) = (x.size : Int) :: (bytesOf x ++ joinI L) := by
  unfold joinI
  rw [List.flatMap_cons, List.cons_append]
theorem joinI_append (L M : List ByteArray) : joinI (L ++ M) = joinI L ++ joinI M := by
  unfold joinI
  rw [List.flatMap_append]
theorem joinI_byt {L : List ByteArray} (h : okL L) : Byt (joinI L) := by
  induction L with
  | nil => exact byt_nil
  | cons x t ih =>
    rw [joinI_cons, byt_cons, byt_append]
    have := okL_cons.1 h
    exact ⟨⟨by omega, by omega⟩, byt_bytesOf x, ih this.2⟩
def joinS (L : List ByteArray) : ByteArray := strOfNums (joinI L)
theorem bytesOf_join {L : List ByteArray} (h : okL L) : bytesOf (joinS L) = joinI L := bytesOf_str (joinI_byt h)
theorem joinS_size {L : List ByteArray} (h : okL L) : (joinS L).size = (joinI L).length := by rw [← bytesOf_length, bytesOf_join h]
theorem joinS_append (L M : List ByteArray) : joinS (L ++ M) = joinS L ++ joinS M := by
  unfold joinS
  rw [joinI_append, str_append]
theorem joinI_len_cons (x : ByteArray) (L : List ByteArray) : (joinI (x :: L)).length = 1 + x.size + (joinI L).length := by
  rw [joinI_cons, List.length_cons, List.length_append, bytesOf_length]
  omega
theorem joinI_len (L : List ByteArray) : L.length ≤ (joinI L).length := by
  induction L with
  | nil => exact Nat.le_refl _
  | cons x t ih =>
    rw [joinI_len_cons, List.length_cons]
    omega
theorem joinI_len2 {L : List ByteArray} (h : okL L) : 2 * L.length ≤ (joinI L).length := by
  induction L with
  | nil => exact Nat.le_refl _
  | cons x t ih =>
    have := okL_cons.1 h
    have := ih this.2
    rw [joinI_len_cons, List.length_cons]
    omega
theorem joinI_fold_len (L : List ByteArray) : (joinI (L.map foldS)).length = (joinI L).length := by
  induction L with
  | nil => rfl
  | cons x t ih => rw [List.map_cons, joinI_len_cons, joinI_len_cons, foldS_size, ih]
theorem cutS_join {x : ByteArray} {L : List ByteArray} (h : okL (x :: L)) : cutS (joinS (x :: L)) = some (x, joinS L) := by
  have h1 := okL_cons.1 h
  have hb := bytesOf_join h
  have hz := joinS_size h
  rw [joinI_len_cons] at hz
  rw [joinI_cons] at hb
  have h0 : bt (joinS (x :: L)) 0 = (x.size : Int) := by rw [bt_rd, hb]; rfl
  unfold cutS
  rw [h0, if_pos (by omega)]
  have e1 : (joinS (x :: L)).extract 1 (1 + (x.size : Int)).toNat = x := by
    apply bytesOf_inj
    rw [bytesOf_extract, hb, show (1 + (x.size : Int)).toNat = x.size + 1 by omega, List.take_succ_cons, List.drop_succ_cons, List.drop_zero, List.take_append_of_le_length (by rw [bytesOf_length]; exact Nat.le_refl _), List.take_of_length_le (by rw [bytesOf_length]; exact Nat.le_refl _)]
  have e2 : (joinS (x :: L)).extract (1 + (x.size : Int)).toNat (joinS (x :: L)).size = joinS L := by
    apply bytesOf_inj
    rw [bytesOf_extract, ← bytesOf_length (s := joinS (x :: L)), List.take_length, hb, bytesOf_join h1.2, show (1 + (x.size : Int)).toNat = x.size + 1 by omega, List.drop_succ_cons, List.drop_append_of_le_length (by rw [bytesOf_length]; exact Nat.le_refl _), List.drop_eq_nil_of_le (by rw [bytesOf_length]; exact Nat.le_refl _), List.nil_append]
  rw [e1, e2]
theorem joinS_nil : joinS [] = ⟨#[]⟩ := rfl
theorem cutS_empty : cutS ⟨#[]⟩ = none := by
  unfold cutS
  rw [if_neg (by rintro ⟨h, _⟩; exact absurd h (by decide))]
theorem labelsP_join {L : List ByteArray} (h : okL L) : labelsP (joinS L) = L := by
  induction L with
  | nil => exact labelsP_none cutS_empty
  | cons x t ih => rw [labelsP_cut (cutS_join h), ih (okL_cons.1 h).2]
theorem joinS_inj {L M : List ByteArray} (h1 : okL L) (h2 : okL M) (h : joinS L = joinS M) : L = M := by rw [← labelsP_join h1, h, labelsP_join h2]
theorem cutS_back {s l r : ByteArray} (h : cutS s = some (l, r)) : s = joinS [l] ++ r := by
  have hs := cutS_sizes h
  unfold cutS at h
  split at h
  · rename_i hc
    simp only [Option.some.injEq, Prod.mk.injEq] at h
    obtain ⟨h1, h2⟩ := h
    have hl : (l.size : Int) = bt s 0 := by
      have := congrArg ByteArray.size h1
      rw [size_extract_] at this
      omega
    apply bytesOf_inj
    rw [bytesOf_append, bytesOf_join (okL_cons.2 ⟨⟨hs.1, hs.2.1⟩, okL_nil⟩), joinI_cons, hl]
    rw [← h1, ← h2, bytesOf_extract, bytesOf_extract, ← bytesOf_length (s := s), List.take_length]
    have hlen : 0 < (bytesOf s).length := by rw [bytesOf_length]; omega
    have hd : bytesOf s = bt s 0 :: (bytesOf s).drop 1 := by
      have := drop_rd (xs := bytesOf s) (i := 0) hlen
      rw [List.drop_zero] at this
      rw [bt_rd]
      exact this
    show bytesOf s = bt s 0 :: (List.drop 1 (List.take _ (bytesOf s)) ++ joinI []) ++ _
    rw [show joinI [] = [] from rfl, List.append_nil, List.cons_append]
    have hk : (1 + bt s 0).toNat = (bt s 0).toNat + 1 := by omega
    rw [hk, List.drop_take, Nat.add_sub_cancel]
    generalize bytesOf s = b at *
    rw [show b.drop ((bt s 0).toNat + 1) = (b.drop 1).drop (bt s 0).toNat by rw [List.drop_drop, Nat.add_comm], List.take_append_drop]
    exact hd
  · cases h
/-- Whether an octet row is labels from end to end. -/
def wfN : Nat → ByteArray → Bool
  | 0, s => s.size == 0
  | n + 1, s => if s.size = 0 then true else match cutS s with
    | none => false
    | some (_, r) => wfN n r
theorem size_zero {s : ByteArray} (h : s.size = 0) : s = ⟨#[]⟩ := by
  apply bytesOf_inj
  have : (bytesOf s).length = 0 := by rw [bytesOf_length]; exact h
  rw [List.eq_nil_of_length_eq_zero this]
  rfl
theorem wf_join {L : List ByteArray} (h : okL L) : ∀ n, L.length ≤ n → wfN n (joinS L) = true := by
  induction L with
  | nil =>
    intro n _
    cases n with
    | zero => rfl
    | succ n => rfl
  | cons x t ih =>
    intro n hn
    cases n with
    | zero => simp at hn
    | succ n =>
      unfold wfN
      rw [if_neg (by rw [joinS_size h, joinI_len_cons]; omega), cutS_join h]
      exact ih (okL_cons.1 h).2 n (by simp at hn; omega)
theorem wf_back : ∀ (n : Nat) (s : ByteArray), wfN n s = true → ∃ L, okL L ∧ s = joinS L := by
  intro n
  induction n with
  | zero =>
    intro s h
    unfold wfN at h
    exact ⟨[], okL_nil, size_zero (by simpa using h)⟩
  | succ n ih =>
    intro s h
    unfold wfN at h
    by_cases h0 : s.size = 0
    · exact ⟨[], okL_nil, size_zero h0⟩
    rw [if_neg h0] at h
    cases hc : cutS s with
    | none => rw [hc] at h; cases h
    | some p =>
      obtain ⟨l, r⟩ := p
      rw [hc] at h
      obtain ⟨M, hM, rfl⟩ := ih r h
      have hs := cutS_sizes hc
      refine ⟨l :: M, okL_cons.2 ⟨⟨hs.1, hs.2.1⟩, hM⟩, ?_⟩
      rw [cutS_back hc, ← joinS_append]
      rfl

theorem wfN_more {s : ByteArray} : ∀ (n m : Nat), s.size ≤ n → s.size ≤ m → wfN n s = wfN m s := by
  intro n
  induction n generalizing s with
  | zero =>
    intro m h1 _
    have h0 : s.size = 0 := by omega
    cases m with
    | zero => rfl
    | succ m =>
      unfold wfN
      rw [if_pos h0, h0]
      rfl
  | succ n ih =>
    intro m h1 h2
    cases m with
    | zero =>
      have h0 : s.size = 0 := by omega
      unfold wfN
      rw [if_pos h0, h0]
      rfl
    | succ m =>
      unfold wfN
      by_cases h0 : s.size = 0
      · rw [if_pos h0, if_pos h0]
      rw [if_neg h0, if_neg h0]
      cases hc : cutS s with
      | none => rfl
      | some p =>
        obtain ⟨l, r⟩ := p
        have := cutS_sizes hc
        exact ih m (by omega) (by omega)
def wf (s : ByteArray) : Bool := wfN s.size s
theorem wf_cut {s l r : ByteArray} (h : cutS s = some (l, r)) : wf s = wf r := by
  have hs := cutS_sizes h
  unfold wf
  rw [show s.size = (s.size - 1) + 1 by omega]
  show (if s.size = 0 then true else match cutS s with | none => false | some (_, r) => wfN (s.size - 1) r) = _
  rw [if_neg (by omega), h]
  exact wfN_more (s.size - 1) r.size (by omega) (Nat.le_refl _)
theorem wf_none {s : ByteArray} (h : cutS s = none) (h0 : s.size ≠ 0) : wf s = false := by
  unfold wf
  rw [show s.size = (s.size - 1) + 1 by omega]
  show (if s.size = 0 then true else match cutS s with | none => false | some (_, r) => wfN (s.size - 1) r) = _
  rw [if_neg h0, h]
theorem wf_zero {s : ByteArray} (h : s.size = 0) : wf s = true := by
  unfold wf
  rw [h]
  show (s.size == 0) = true
  rw [h]
  rfl
theorem wf_iff {s : ByteArray} : wf s = true ↔ ∃ L, okL L ∧ s = joinS L := by
  constructor
  · exact wf_back _ s
  · rintro ⟨L, hL, rfl⟩
    exact wf_join hL _ (by rw [joinS_size hL]; exact joinI_len L)
/-- What the check of a name tells. -/
def chkS (s : ByteArray) : Int := if s.size > 254 then 3 else if wf s = true then 0 else 4
theorem chkS_cases (s : ByteArray) : chkS s = 0 ∨ chkS s = 3 ∨ chkS s = 4 := by
  unfold chkS
  by_cases h : s.size > 254
  · rw [if_pos h]; simp
  · rw [if_neg h]
    by_cases g : wf s = true
    · rw [if_pos g]; simp
    · rw [if_neg g]; simp
theorem chkS_zero {s : ByteArray} : chkS s = 0 ↔ ∃ L, okL L ∧ s = joinS L ∧ (joinI L).length ≤ 254 := by
  unfold chkS
  constructor
  · intro h
    by_cases h1 : s.size > 254
    · rw [if_pos h1] at h; cases h
    rw [if_neg h1] at h
    by_cases h2 : wf s = true
    · obtain ⟨L, hL, rfl⟩ := wf_iff.1 h2
      refine ⟨L, hL, rfl, ?_⟩
      rw [← joinS_size hL]
      omega
    · rw [if_neg h2] at h; cases h
  · rintro ⟨L, hL, rfl, hl⟩
    rw [if_neg (by rw [joinS_size hL]; omega), if_pos (wf_iff.2 ⟨L, hL, rfl⟩)]
theorem chkS_join {L : List ByteArray} (h : okL L) (hl : (joinI L).length ≤ 254) : chkS (joinS L) = 0 := chkS_zero.2 ⟨L, h, rfl, hl⟩
theorem chkS_long {L : List ByteArray} (h : okL L) (hl : ¬ (joinI L).length ≤ 254) : chkS (joinS L) = 3 := by
  unfold chkS
  rw [if_pos (by rw [joinS_size h]; omega)]

/-! ### Comparing lists of rows of numbers -/
def cmpL : List (List Int) → List (List Int) → Int
  | [], [] => 0
  | [], _ :: _ => -1
  | _ :: _, [] => 1
  | x :: xs, y :: ys => if cmpI x y = 0 then cmpL xs ys else cmpI x y
theorem cmpL_range (a b : List (List Int)) : cmpL a b = -1 ∨ cmpL a b = 0 ∨ cmpL a b = 1 := by
  induction a generalizing b with
  | nil => cases b <;> simp [cmpL]
  | cons x xs ih =>
    cases b with
    | nil => simp [cmpL]
    | cons y ys =>
      unfold cmpL
      by_cases h : cmpI x y = 0
      · rw [if_pos h]; exact ih ys
      · rw [if_neg h]; exact cmpI_range x y
theorem cmpL_self (a : List (List Int)) : cmpL a a = 0 := by
  induction a with
  | nil => rfl
  | cons x xs ih => unfold cmpL; rw [if_pos (cmpI_self x)]; exact ih
theorem cmpL_zero {a b : List (List Int)} : cmpL a b = 0 ↔ a = b := by
  constructor
  · intro h
    induction a generalizing b with
    | nil =>
      cases b with
      | nil => rfl
      | cons y ys => simp [cmpL] at h
    | cons x xs ih =>
      cases b with
      | nil => simp [cmpL] at h
      | cons y ys =>
        unfold cmpL at h
        by_cases hc : cmpI x y = 0
        · rw [if_pos hc] at h
          rw [cmpI_zero.1 hc, ih h]
        · rw [if_neg hc] at h
          exact absurd h hc
  · rintro rfl
    exact cmpL_self a
theorem cmpL_neg (a b : List (List Int)) : cmpL b a = - cmpL a b := by
  induction a generalizing b with
  | nil => cases b <;> simp [cmpL]
  | cons x xs ih =>
    cases b with
    | nil => simp [cmpL]
    | cons y ys =>
      unfold cmpL
      rw [cmpI_neg x y]
      by_cases h : cmpI x y = 0
      · rw [if_pos h, if_pos (by omega)]; exact ih ys
      · rw [if_neg h, if_neg (by omega)]
theorem cmpL_trans {a b c : List (List Int)} (h1 : cmpL a b ≤ 0) (h2 : cmpL b c ≤ 0) : cmpL a c ≤ 0 ∧ (cmpL a b < 0 → cmpL a c < 0) := by
  induction a generalizing b c with
  | nil =>
    cases b with
    | nil => exact ⟨h2, fun h => by simp [cmpL] at h⟩
    | cons y ys =>
      cases c with
      | nil => simp [cmpL] at h2
      | cons z zs => simp [cmpL]
  | cons x xs ih =>
    cases b with
    | nil => simp [cmpL] at h1
    | cons y ys =>
      cases c with
      | nil => simp [cmpL] at h2
      | cons z zs =>
        unfold cmpL at h1 h2 ⊢
        have t := @cmpI_trans x y z
        by_cases hxy : cmpI x y = 0
        · rw [if_pos hxy] at h1
          have e1 := cmpI_zero.1 hxy
          subst e1
          by_cases hyz : cmpI x z = 0
          · rw [if_pos hyz] at h2
            rw [if_pos hyz, if_pos hxy]
            exact ih h1 h2
          · rw [if_neg hyz] at h2
            rw [if_neg hyz]
            refine ⟨h2, fun _ => by omega⟩
        · rw [if_neg hxy] at h1
          by_cases hyz : cmpI y z = 0
          · have e1 := cmpI_zero.1 hyz
            subst e1
            rw [if_neg hxy]
            refine ⟨h1, fun _ => by omega⟩
          · rw [if_neg hyz] at h2
            have := (t h1 h2).2 (by omega)
            rw [if_neg (by omega)]
            exact ⟨by omega, fun _ => this⟩
theorem cmpL_prefix {a b : List (List Int)} (h : a <+: b) (hl : a.length < b.length) : cmpL a b = -1 := by
  obtain ⟨t, rfl⟩ := h
  induction a with
  | nil =>
    cases t with
    | nil => simp at hl
    | cons y ys => rfl
  | cons x xs ih =>
    rw [List.cons_append]
    unfold cmpL
    rw [if_pos (cmpI_self x)]
    exact ih (by simpa using hl)
/-- How a name is compared: its labels from the last, folded. -/
def keyL (L : List ByteArray) : List (List Int) := (L.map fun x => bytesOf (foldS x)).reverse
theorem keyL_inj {L M : List ByteArray} : keyL L = keyL M ↔ L.map foldS = M.map foldS := by
  unfold keyL
  rw [List.reverse_inj]
  constructor
  · intro h
    induction L generalizing M with
    | nil =>
      cases M with
      | nil => rfl
      | cons y ys => simp at h
    | cons x xs ih =>
      cases M with
      | nil => simp at h
      | cons y ys =>
        simp only [List.map_cons, List.cons.injEq] at h ⊢
        exact ⟨bytesOf_inj h.1, ih h.2⟩
  · intro h
    have := congrArg (List.map bytesOf) h
    rw [List.map_map, List.map_map] at this
    exact this
theorem keyL_fold (L : List ByteArray) : keyL (L.map foldS) = keyL L := by
  rw [keyL_inj, List.map_map]
  congr 1
  funext x
  exact foldS_foldS x
theorem keyL_length (L : List ByteArray) : (keyL L).length = L.length := by
  unfold keyL
  simp
/-- One name under another. -/
def underL (L M : List ByteArray) : Prop := M.map foldS <:+ L.map foldS
theorem underL_key {L M : List ByteArray} (h : underL L M) : keyL M <+: keyL L := by
  unfold underL at h
  have e : ∀ L : List ByteArray, keyL L = ((L.map foldS).map bytesOf).reverse := fun L => by rw [List.map_map]; rfl
  rw [e, e, List.reverse_prefix]
  exact h.map _
theorem underL_refl (L : List ByteArray) : underL L L := List.suffix_refl _
theorem underL_trans {L M N : List ByteArray} (h : underL L M) (k : underL M N) : underL L N := List.IsSuffix.trans k h
theorem underL_length {L M : List ByteArray} (h : underL L M) : M.length ≤ L.length := by
  have := h.length_le
  simpa using this
theorem underL_append (A M : List ByteArray) : underL (A ++ M) M := by
  unfold underL
  rw [List.map_append]
  exact List.suffix_append _ _
theorem underL_cmp {L M : List ByteArray} (h : underL L M) : cmpL (keyL M) (keyL L) ≤ 0 := by
  have hp := underL_key h
  by_cases hl : (keyL M).length < (keyL L).length
  · rw [cmpL_prefix hp hl]; decide
  · rw [hp.eq_of_length (Nat.le_antisymm hp.length_le (Nat.le_of_not_lt hl)), cmpL_self]
    decide
theorem underL_drop {L M : List ByteArray} : underL L M ↔ M.length ≤ L.length ∧ (L.drop (L.length - M.length)).map foldS = M.map foldS := by
  unfold underL
  rw [List.suffix_iff_eq_drop]
  constructor
  · intro h
    have hl := congrArg List.length h
    simp only [List.length_map, List.length_drop] at hl
    refine ⟨by omega, ?_⟩
    rw [List.map_drop]
    simp only [List.length_map] at h
    exact h.symm
  · rintro ⟨hl, h⟩
    rw [← h, List.map_drop]
    simp only [List.length_map, List.length_drop]
    congr 1
    omega
end Go.Proofs.YtilobbjnmnnmnaaGreatDoorW.PrintWords
