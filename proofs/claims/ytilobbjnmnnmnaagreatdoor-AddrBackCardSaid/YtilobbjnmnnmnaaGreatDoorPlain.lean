/- Words that the printed texts of this claim use (lists, memory, orders), out of the print's own, less what nothing here names. -/
/- Plain laws on bytes, texts of labels and their folding, without any program: what the proofs of the label's and the name's laws share. -/
import Derived.Test.YtilobbjnmnnmnaaGreatDoorHandWords
import Derived.Lib.Bytealg
namespace Go.Proofs.YtilobbjnmnnmnaaGreatDoorW.PrintWords
open Go.RowKit

/-! ### Strings and their bytes -/
def Byt (xs : List Int) : Prop := ∀ x ∈ xs, 0 ≤ x ∧ x ≤ 255
theorem byt_nil : Byt [] := fun x h => by cases h
theorem byt_cons {c : Int} {xs : List Int} : Byt (c :: xs) ↔ (0 ≤ c ∧ c ≤ 255) ∧ Byt xs := by
  unfold Byt
  simp
theorem byt_append {xs ys : List Int} : Byt (xs ++ ys) ↔ Byt xs ∧ Byt ys := by
  unfold Byt
  constructor
  · intro h
    exact ⟨fun x hx => h x (List.mem_append_left _ hx), fun x hx => h x (List.mem_append_right _ hx)⟩
  · rintro ⟨h1, h2⟩ x hx
    rcases List.mem_append.1 hx with hx | hx
    · exact h1 x hx
    · exact h2 x hx
theorem byt_bytesOf (s : ByteArray) : Byt (bytesOf s) := by
  intro x hx
  simp [bytesOf] at hx
  obtain ⟨b, _, rfl⟩ := hx
  have := b.toNat_lt
  omega
theorem bytesOf_str {xs : List Int} (h : Byt xs) : bytesOf (strOfNums xs) = xs := by
  unfold bytesOf
  rw [strOfNums_data, List.map_map]
  conv => rhs; rw [← List.map_id xs]
  apply List.map_congr_left
  intro x hx
  have := h x hx
  simp
  omega
theorem str_bytesOf (s : ByteArray) : strOfNums (bytesOf s) = s := by
  cases s with
  | mk d =>
    unfold strOfNums bytesOf
    congr 1
    rw [List.map_map]
    have : (d.toList.map ((fun n : Int => UInt8.ofNat n.toNat) ∘ fun b : UInt8 => (b.toNat : Int))) = d.toList := by
      conv => rhs; rw [← List.map_id d.toList]
      apply List.map_congr_left
      intro x _
      simp
    show (List.map _ d.toList).toArray = d
    rw [this]
theorem bytesOf_inj {s t : ByteArray} (h : bytesOf s = bytesOf t) : s = t := by rw [← str_bytesOf s, h, str_bytesOf]
theorem bytesOf_append (s t : ByteArray) : bytesOf (s ++ t) = bytesOf s ++ bytesOf t := by
  unfold bytesOf
  rw [← List.map_append]
  congr 1
theorem bytesOf_extract (s : ByteArray) (i j : Nat) : bytesOf (s.extract i j) = ((bytesOf s).take j).drop i := by
  unfold bytesOf
  rw [← List.map_take, ← List.map_drop]
  congr 1
  rw [ByteArray.data_extract, Array.toList_extract, List.extract_eq_take_drop, List.drop_take]
theorem bt_rd (s : ByteArray) (i : Int) : bt s i = rd (bytesOf s) i := (rd_bytesOf s i).symm
theorem rd_getD (xs : List Int) (i : Nat) : rd xs (i : Int) = xs.getD i 0 := by unfold rd; rw [Int.toNat_natCast]
/-- What stands at a place is the head of what is left. -/
theorem drop_rd {xs : List Int} {i : Nat} (h : i < xs.length) : xs.drop i = rd xs (i : Int) :: xs.drop (i + 1) := by
  rw [List.drop_eq_getElem_cons h, rd_getD, List.getD_eq_getElem?_getD, List.getElem?_eq_getElem h]
  rfl
theorem wrap_id {n : Int} (h : -9223372036854775808 ≤ n) (h' : n ≤ 9223372036854775807) : wrap64 n = n := by
  unfold wrap64
  omega
theorem str_append (xs ys : List Int) : strOfNums (xs ++ ys) = strOfNums xs ++ strOfNums ys := by
  apply ByteArray.ext
  simp [strOfNums, ByteArray.data_append]

/-! ### Texts of labels -/
/-! ### Names -/
/-- A name's first label, and the rest: none, if there is none that may be. -/
def cutS (s : ByteArray) : Option (ByteArray × ByteArray) :=
  if 0 < s.size ∧ 1 ≤ bt s 0 ∧ bt s 0 ≤ 63 ∧ bt s 0 < s.size then some (s.extract 1 (1 + bt s 0).toNat, s.extract (1 + bt s 0).toNat s.size) else none
/-- A name's labels, up to the first that may not be. -/
def labelsS : Nat → ByteArray → List ByteArray
  | 0, _ => []
  | n + 1, s => match cutS s with
    | none => []
    | some (l, r) => l :: labelsS n r
theorem size_extract_ (s : ByteArray) (i j : Nat) : (s.extract i j).size = min j s.size - i := by
  rw [← bytesOf_length, bytesOf_extract, List.length_drop, List.length_take, bytesOf_length]
theorem cutS_sizes {s l r : ByteArray} (h : cutS s = some (l, r)) : 1 ≤ l.size ∧ l.size ≤ 63 ∧ s.size = 1 + l.size + r.size := by
  unfold cutS at h
  split at h
  · rename_i hc
    simp only [Option.some.injEq, Prod.mk.injEq] at h
    obtain ⟨rfl, rfl⟩ := h
    rw [size_extract_, size_extract_]
    omega
  · cases h
theorem labelsS_more {s : ByteArray} : ∀ (n m : Nat), s.size ≤ n → s.size ≤ m → labelsS n s = labelsS m s := by
  intro n
  induction n generalizing s with
  | zero =>
    intro m h1 h2
    cases m with
    | zero => rfl
    | succ m =>
      have : cutS s = none := by unfold cutS; rw [if_neg (by omega)]
      simp only [labelsS, this]
  | succ n ih =>
    intro m h1 h2
    cases m with
    | zero =>
      have : cutS s = none := by unfold cutS; rw [if_neg (by omega)]
      simp only [labelsS, this]
    | succ m =>
      simp only [labelsS]
      cases hc : cutS s with
      | none => rfl
      | some p =>
        obtain ⟨l, r⟩ := p
        have := cutS_sizes hc
        simp only
        rw [ih m (by omega) (by omega)]
def labelsP (s : ByteArray) : List ByteArray := labelsS s.size s
theorem labelsP_cut {s l r : ByteArray} (h : cutS s = some (l, r)) : labelsP s = l :: labelsP r := by
  have hs := cutS_sizes h
  unfold labelsP
  rw [show s.size = (s.size - 1) + 1 by omega]
  simp only [labelsS, h]
  rw [labelsS_more (s.size - 1) r.size (by omega) (Nat.le_refl _)]
theorem labelsP_none {s : ByteArray} (h : cutS s = none) : labelsP s = [] := by
  unfold labelsP
  cases s.size with
  | zero => rfl
  | succ n => simp only [labelsS, h]

/-! ### Folding -/
theorem foldI_byt {c : Int} (h : 0 ≤ c ∧ c ≤ 255) : 0 ≤ foldI c ∧ foldI c ≤ 255 := by
  unfold foldI
  split
  · split <;> omega
  · omega
theorem foldI_foldI (c : Int) : foldI (foldI c) = foldI c := by
  unfold foldI
  split
  · split
    · rw [if_pos (by omega), if_neg (by omega)]
    · rfl
  · rfl
theorem fold_byt {xs : List Int} (h : Byt xs) : Byt (xs.map foldI) := by
  intro x hx
  obtain ⟨c, hc, rfl⟩ := List.mem_map.1 hx
  exact foldI_byt (h c hc)
theorem bytesOf_foldS (s : ByteArray) : bytesOf (foldS s) = (bytesOf s).map foldI := bytesOf_str (fold_byt (byt_bytesOf s))
theorem foldS_foldS (s : ByteArray) : foldS (foldS s) = foldS s := by
  unfold foldS
  rw [bytesOf_str (fold_byt (byt_bytesOf s)), List.map_map]
  congr 1
  apply List.map_congr_left
  intro x _
  exact foldI_foldI x
theorem foldS_size (s : ByteArray) : (foldS s).size = s.size := by rw [← bytesOf_length, bytesOf_foldS, List.length_map, bytesOf_length]

/-! ### Comparing -/
def cmpI : List Int → List Int → Int
  | [], [] => 0
  | [], _ :: _ => -1
  | _ :: _, [] => 1
  | a :: as, b :: bs => if a < b then -1 else if b < a then 1 else cmpI as bs
theorem cmp_bytes (s t : ByteArray) : Lib.compareBytes s.data.toList t.data.toList = cmpI (bytesOf s) (bytesOf t) := by
  unfold bytesOf
  generalize s.data.toList = a
  generalize t.data.toList = b
  induction a generalizing b with
  | nil => cases b <;> rfl
  | cons x a ih =>
    cases b with
    | nil => rfl
    | cons y b =>
      simp only [Lib.compareBytes, List.map_cons, cmpI]
      rw [ih b]
      by_cases h1 : x < y
      · have h1' : (x.toNat : Int) < (y.toNat : Int) := by have := UInt8.lt_iff_toNat_lt.1 h1; omega
        rw [if_pos h1, if_pos h1']
      · have h1' : ¬ (x.toNat : Int) < (y.toNat : Int) := by
          have : ¬ x.toNat < y.toNat := fun h => h1 (UInt8.lt_iff_toNat_lt.2 h)
          omega
        rw [if_neg h1, if_neg h1']
        by_cases h2 : y < x
        · have h2' : (y.toNat : Int) < (x.toNat : Int) := by have := UInt8.lt_iff_toNat_lt.1 h2; omega
          rw [if_pos h2, if_pos h2']
        · have h2' : ¬ (y.toNat : Int) < (x.toNat : Int) := by
            have : ¬ y.toNat < x.toNat := fun h => h2 (UInt8.lt_iff_toNat_lt.2 h)
            omega
          rw [if_neg h2, if_neg h2']
theorem cmpI_range (a b : List Int) : cmpI a b = -1 ∨ cmpI a b = 0 ∨ cmpI a b = 1 := by
  induction a generalizing b with
  | nil => cases b <;> simp [cmpI]
  | cons x a ih =>
    cases b with
    | nil => simp [cmpI]
    | cons y b =>
      simp only [cmpI]
      split
      · simp
      · split
        · simp
        · exact ih b
theorem cmpI_self (a : List Int) : cmpI a a = 0 := by
  induction a with
  | nil => rfl
  | cons x a ih => simp [cmpI, ih]
theorem cmpI_zero {a b : List Int} : cmpI a b = 0 ↔ a = b := by
  constructor
  · intro h
    induction a generalizing b with
    | nil => cases b with
      | nil => rfl
      | cons y b => simp [cmpI] at h
    | cons x a ih =>
      cases b with
      | nil => simp [cmpI] at h
      | cons y b =>
        simp only [cmpI] at h
        by_cases h1 : x < y
        · rw [if_pos h1] at h; simp at h
        · rw [if_neg h1] at h
          by_cases h2 : y < x
          · rw [if_pos h2] at h; simp at h
          · rw [if_neg h2] at h
            rw [ih h, show x = y by omega]
  · rintro rfl
    exact cmpI_self a
theorem cmpI_neg (a b : List Int) : cmpI b a = - cmpI a b := by
  induction a generalizing b with
  | nil => cases b <;> simp [cmpI]
  | cons x a ih =>
    cases b with
    | nil => simp [cmpI]
    | cons y b =>
      simp only [cmpI]
      by_cases h1 : x < y
      · rw [if_neg (by omega), if_pos h1, if_pos h1]; rfl
      · by_cases h2 : y < x
        · rw [if_pos h2, if_neg h1, if_pos h2]
        · rw [if_neg h2, if_neg h1, if_neg h1, if_neg h2]; exact ih b
theorem cmpI_trans {a b c : List Int} (h1 : cmpI a b ≤ 0) (h2 : cmpI b c ≤ 0) : cmpI a c ≤ 0 ∧ (cmpI a b < 0 → cmpI a c < 0) := by
  induction a generalizing b c with
  | nil =>
    cases c with
    | nil =>
      cases b with
      | nil => simp [cmpI]
      | cons y b => simp [cmpI] at h2
    | cons z c => simp [cmpI]
  | cons x a ih =>
    cases b with
    | nil => simp [cmpI] at h1
    | cons y b =>
      cases c with
      | nil => simp [cmpI] at h2
      | cons z c =>
        simp only [cmpI] at h1 h2 ⊢
        by_cases e1 : x < y
        · by_cases e2 : y < z
          · rw [if_pos (show x < z by omega)]; simp
          · rw [if_neg e2] at h2
            by_cases e3 : z < y
            · rw [if_pos e3] at h2; omega
            · rw [if_pos (show x < z by omega)]; simp
        · rw [if_neg e1] at h1
          by_cases e4 : y < x
          · rw [if_pos e4] at h1; omega
          · rw [if_neg e4] at h1
            have exy : x = y := by omega
            subst exy
            by_cases e2 : x < z
            · rw [if_pos e2]; simp
            · rw [if_neg e2] at h2 ⊢
              by_cases e3 : z < x
              · rw [if_pos e3] at h2; omega
              · rw [if_neg e3] at h2 ⊢
                rw [if_neg (Int.lt_irrefl x), if_neg (Int.lt_irrefl x)]
                exact ih h1 h2
end Go.Proofs.YtilobbjnmnnmnaaGreatDoorW.PrintWords
