/- Plain laws on bytes, texts of labels and their folding, without any program: what the proofs of the label's and the name's laws share. -/
import Derived.Test.YtilobbjnmnnmnaaGreatDoorHandWords
import Derived.Lib.Bytealg
namespace Go.Proofs.YtilobbjnmnnmnaaGreatDoorW.PrintWords
open Go.RowKit

/-! ### Strings and their bytes -/
def Byt (xs : List Int) : Prop := ∀ x ∈ xs, 0 ≤ x ∧ x ≤ 255
theorem byt_nil : Byt [] := fun x h => by cases h
theorem byt_cons {c : Int} {xs : List Int} : Byt (c :: xs) ↔ (0 ≤ c ∧ c ≤ 255) ∧ Byt xs := by
  unfold Byt
  simp
theorem byt_append {xs ys : List Int} : Byt (xs ++ ys) ↔ Byt xs ∧ Byt ys := by
  unfold Byt
  constructor
  · intro h
    exact ⟨fun x hx => h x (List.mem_append_left _ hx), fun x hx => h x (List.mem_append_right _ hx)⟩
  · rintro ⟨h1, h2⟩ x hx
    rcases List.mem_append.1 hx with hx | hx
    · exact h1 x hx
    · exact h2 x hx
theorem byt_take {xs : List Int} (h : Byt xs) (n : Nat) : Byt (xs.take n) := fun x hx => h x (List.mem_of_mem_take hx)
theorem byt_drop {xs : List Int} (h : Byt xs) (n : Nat) : Byt (xs.drop n) := fun x hx => h x (List.mem_of_mem_drop hx)
theorem byt_bytesOf (s : ByteArray) : Byt (bytesOf s) := by
  intro x hx
  simp [bytesOf] at hx
  obtain ⟨b, _, rfl⟩ := hx
  have := b.toNat_lt
  omega
theorem bytesOf_str {xs : List Int} (h : Byt xs) : bytesOf (strOfNums xs) = xs := by
  unfold bytesOf
  rw [strOfNums_data, List.map_map]
  conv => rhs; rw [← List.map_id xs]
  apply List.map_congr_left
  intro x hx
  have := h x hx
  simp
  omega
theorem str_bytesOf (s : ByteArray) : strOfNums (bytesOf s) = s := by
  cases s with
  | mk d =>
    unfold strOfNums bytesOf
    congr 1
    rw [List.map_map]
    have : (d.toList.map ((fun n : Int => UInt8.ofNat n.toNat) ∘ fun b : UInt8 => (b.toNat : Int))) = d.toList := by
      conv => rhs; rw [← List.map_id d.toList]
      apply List.map_congr_left
      intro x _
      simp
    show (List.map _ d.toList).toArray = d
    rw [this]
theorem bytesOf_inj {s t : ByteArray} (h : bytesOf s = bytesOf t) : s = t := by rw [← str_bytesOf s, h, str_bytesOf]
theorem bytesOf_append (s t : ByteArray) : bytesOf (s ++ t) = bytesOf s ++ bytesOf t := by
  unfold bytesOf
  rw [← List.map_append]
  congr 1
theorem bytesOf_extract (s : ByteArray) (i j : Nat) : bytesOf (s.extract i j) = ((bytesOf s).take j).drop i := by
  unfold bytesOf
  rw [← List.map_take, ← List.map_drop]
  congr 1
  rw [ByteArray.data_extract, Array.toList_extract, List.extract_eq_take_drop, List.drop_take]
theorem toList_inj {s t : ByteArray} : s.toList = t.toList ↔ s = t := by
  rw [ByteArray.toList_eq, ByteArray.toList_eq]
  constructor
  · intro h
    cases s
    cases t
    congr 1
    exact Array.toList_inj.1 h
  · rintro rfl
    rfl
theorem bt_rd (s : ByteArray) (i : Int) : bt s i = rd (bytesOf s) i := (rd_bytesOf s i).symm
theorem rd_cons_zero (c : Int) (xs : List Int) : rd (c :: xs) 0 = c := rfl
theorem rd_getD (xs : List Int) (i : Nat) : rd xs (i : Int) = xs.getD i 0 := by unfold rd; rw [Int.toNat_natCast]
/-- What stands at a place is the head of what is left. -/
theorem drop_rd {xs : List Int} {i : Nat} (h : i < xs.length) : xs.drop i = rd xs (i : Int) :: xs.drop (i + 1) := by
  rw [List.drop_eq_getElem_cons h, rd_getD, List.getD_eq_getElem?_getD, List.getElem?_eq_getElem h]
  rfl
theorem rd_byt {xs : List Int} (h : Byt xs) (i : Int) : 0 ≤ rd xs i ∧ rd xs i ≤ 255 := by
  unfold rd
  rw [List.getD_eq_getElem?_getD]
  cases e : xs[i.toNat]? with
  | none => simp
  | some x => exact h x (List.mem_of_getElem? e)
theorem wrap_id {n : Int} (h : -9223372036854775808 ≤ n) (h' : n ≤ 9223372036854775807) : wrap64 n = n := by
  unfold wrap64
  omega
theorem str_append (xs ys : List Int) : strOfNums (xs ++ ys) = strOfNums xs ++ strOfNums ys := by
  apply ByteArray.ext
  simp [strOfNums, ByteArray.data_append]

/-! ### Texts of labels -/
def escI (c : Int) : List Int := if c = 46 ∨ c = 92 then [92, c] else if 32 < c ∧ c < 127 then [c] else [92, 48 + c / 100, 48 + c / 10 % 10, 48 + c % 10]
def textI (xs : List Int) : List Int := xs.flatMap escI
theorem textI_cons (c : Int) (xs : List Int) : textI (c :: xs) = escI c ++ textI xs := rfl
theorem textI_nil : textI [] = [] := rfl
theorem escI_length (c : Int) : 1 ≤ (escI c).length ∧ (escI c).length ≤ 4 := by
  unfold escI
  split
  · simp
  · split <;> simp
theorem textI_length (xs : List Int) : xs.length ≤ (textI xs).length ∧ (textI xs).length ≤ 4 * xs.length := by
  induction xs with
  | nil => simp [textI]
  | cons c t ih =>
    rw [textI_cons, List.length_append, List.length_cons]
    have := escI_length c
    omega
theorem escI_byt {c : Int} (h0 : 0 ≤ c) (h1 : c ≤ 255) : ∀ x ∈ escI c, 33 ≤ x ∧ x ≤ 126 := by
  unfold escI
  split
  · rename_i h
    intro x hx
    simp at hx
    rcases hx with rfl | rfl
    · omega
    · omega
  · split
    · intro x hx
      simp at hx
      omega
    · intro x hx
      simp at hx
      omega
theorem textI_seen {xs : List Int} (h : Byt xs) : ∀ x ∈ textI xs, 33 ≤ x ∧ x ≤ 126 := by
  intro x hx
  obtain ⟨c, hc, hx⟩ := List.mem_flatMap.1 hx
  exact escI_byt (h c hc).1 (h c hc).2 x hx
theorem textI_byt {xs : List Int} (h : Byt xs) : Byt (textI xs) := fun x hx => by have := textI_seen h x hx; omega

/-- What stands behind a backslash: the octet, and how many octets tell it; 0: none. -/
def isDig (c : Int) : Bool := decide (48 ≤ c) && decide (c ≤ 57)
def unescI : List Int → Int × Int
  | [] => (0, 0)
  | c :: t => if isDig c then (match t with
      | d :: e :: _ => if isDig d && isDig e then (if 100 * (c - 48) + 10 * (d - 48) + (e - 48) > 255 then (0, 0) else (100 * (c - 48) + 10 * (d - 48) + (e - 48), 3)) else (0, 0)
      | _ => (0, 0)) else (c, 1)
/-- Reading on: what is left of the text, the place, what has been read. -/
def readTo : Nat → List Int → Int → List Int → ByteArray × Int × Int
  | 0, _, at_, out => if out.length = 0 then (⟨#[]⟩, 0, 2) else (strOfNums out, at_, 0)
  | _ + 1, [], at_, out => if out.length = 0 then (⟨#[]⟩, 0, 2) else (strOfNums out, at_, 0)
  | n + 1, c :: t, at_, out =>
    if c = 46 then (if out.length = 0 then (⟨#[]⟩, 0, 2) else (strOfNums out, at_, 0))
    else if c = 92 then (if (unescI t).2 = 0 then (⟨#[]⟩, 0, 7) else if out.length = 63 then (⟨#[]⟩, 0, 3) else readTo n (t.drop (unescI t).2.toNat) (at_ + 1 + (unescI t).2) (out ++ [(unescI t).1]))
    else if 32 < c ∧ c < 127 then (if out.length = 63 then (⟨#[]⟩, 0, 3) else readTo n t (at_ + 1) (out ++ [c]))
    else (⟨#[]⟩, 0, 7)
/-- How reading ends. -/
def readEnd (at_ : Int) (out : List Int) : ByteArray × Int × Int := if out.length = 0 then (⟨#[]⟩, 0, 2) else (strOfNums out, at_, 0)
theorem unescI_some (t : List Int) : (unescI t).2 = 0 ∨ (1 ≤ (unescI t).2 ∧ (unescI t).2 ≤ t.length ∧ (unescI t).2 ≤ 3) := by
  unfold unescI
  split
  · exact .inl rfl
  · split
    · split
      · split
        · split
          · exact .inl rfl
          · refine .inr ⟨by simp, ?_, by simp⟩
            simp
            omega
        · exact .inl rfl
      · exact .inl rfl
    · refine .inr ⟨by simp, ?_, by simp⟩
      simp
      omega
theorem unescI_byt {t : List Int} (h : Byt t) : 0 ≤ (unescI t).1 ∧ (unescI t).1 ≤ 255 := by
  unfold unescI
  split
  · simp
  · rename_i c t
    have hc := (byt_cons.1 h).1
    split
    · rename_i hd
      split
      · rename_i d e r
        split
        · rename_i hde
          simp [isDig] at hd hde
          split
          · simp
          · simp only
            omega
        · simp
      · simp
    · exact hc
/-- Three digits behind a backslash tell an octet. -/
theorem unescI_num {c : Int} (h0 : 0 ≤ c) (h1 : c ≤ 255) (r : List Int) : unescI ((48 + c / 100) :: (48 + c / 10 % 10) :: (48 + c % 10) :: r) = (c, 3) := by
  unfold unescI
  have d1 : isDig (48 + c / 100) = true := by simp [isDig]; omega
  have d2 : isDig (48 + c / 10 % 10) = true := by simp [isDig]; omega
  have d3 : isDig (48 + c % 10) = true := by simp [isDig]; omega
  simp only [d1, d2, d3, Bool.and_self, if_true]
  have e : 100 * (48 + c / 100 - 48) + 10 * (48 + c / 10 % 10 - 48) + (48 + c % 10 - 48) = c := by omega
  rw [e, if_neg (by omega)]
/-- One octet, as a text tells it, is read. -/
theorem readTo_esc {c : Int} (h0 : 0 ≤ c) (h1 : c ≤ 255) (n : Nat) (r : List Int) (at_ : Int) (out : List Int) (hl : out.length < 63) :
    readTo (n + 1) (escI c ++ r) at_ out = readTo n r (at_ + (escI c).length) (out ++ [c]) := by
  unfold escI
  by_cases hc : c = 46 ∨ c = 92
  · rw [if_pos hc]
    have hd : isDig c = false := by simp [isDig]; omega
    have hu : unescI (c :: r) = (c, 1) := by simp [unescI, hd]
    show readTo (n + 1) (92 :: c :: r) at_ out = _
    rw [readTo, if_neg (by decide), if_pos rfl, hu]
    simp only
    rw [if_neg (by decide), if_neg (by omega)]
    simp only [List.length_cons, List.length_nil]
    congr 1
    omega
  · rw [if_neg hc]
    by_cases hp : 32 < c ∧ c < 127
    · rw [if_pos hp]
      show readTo (n + 1) (c :: r) at_ out = _
      rw [readTo, if_neg (by omega), if_neg (by omega), if_pos hp, if_neg (by omega)]
      rfl
    · rw [if_neg hp]
      show readTo (n + 1) (92 :: (48 + c / 100) :: (48 + c / 10 % 10) :: (48 + c % 10) :: r) at_ out = _
      rw [readTo, if_neg (by decide), if_pos rfl, unescI_num h0 h1]
      simp only
      rw [if_neg (by decide), if_neg (by omega)]
      simp only [List.length_cons, List.length_nil]
      congr 1
      omega
/-- A text is read, up to the end or to a dot. -/
theorem readTo_text {xs : List Int} (hx : Byt xs) : ∀ (n : Nat) (r : List Int) (at_ : Int) (out : List Int), out.length + xs.length ≤ 63 → xs.length < n → (r = [] ∨ ∃ t, r = 46 :: t) →
    readTo n (textI xs ++ r) at_ out = readEnd (at_ + (textI xs).length) (out ++ xs) := by
  induction xs with
  | nil =>
    intro n r at_ out _ hn hr
    obtain ⟨n, rfl⟩ : ∃ m, n = m + 1 := ⟨n - 1, by simp at hn; omega⟩
    rw [textI_nil, List.nil_append, List.append_nil]
    simp only [List.length_nil]
    rw [show at_ + ((0 : Nat) : Int) = at_ by omega]
    rcases hr with rfl | ⟨t, rfl⟩
    · rw [readTo]; rfl
    · rw [readTo, if_pos rfl]; rfl
  | cons c t ih =>
    intro n r at_ out ho hn hr
    simp only [List.length_cons] at ho hn
    obtain ⟨n, rfl⟩ : ∃ m, n = m + 1 := ⟨n - 1, by omega⟩
    have hc := (byt_cons.1 hx).1
    rw [textI_cons, List.append_assoc, readTo_esc hc.1 hc.2 n _ at_ out (by omega), ih (byt_cons.1 hx).2 n r _ _ (by simp; omega) (by omega) hr, List.append_assoc]
    unfold readEnd
    simp only [List.length_append, List.singleton_append]
    congr 3
    push_cast
    omega
/-- All octets told by their numbers. -/
def numI (c : Int) : List Int := [92, 48 + c / 100, 48 + c / 10 % 10, 48 + c % 10]
theorem readTo_num {xs : List Int} (hx : Byt xs) : ∀ (n : Nat) (at_ : Int) (out : List Int), out.length + xs.length ≤ 63 → xs.length < n →
    readTo n (xs.flatMap numI) at_ out = readEnd (at_ + 4 * xs.length) (out ++ xs) := by
  induction xs with
  | nil =>
    intro n at_ out _ hn
    obtain ⟨n, rfl⟩ : ∃ m, n = m + 1 := ⟨n - 1, by simp at hn; omega⟩
    simp only [List.flatMap_nil, List.append_nil, List.length_nil]
    rw [show at_ + 4 * ((0 : Nat) : Int) = at_ by omega, readTo]
    rfl
  | cons c t ih =>
    intro n at_ out ho hn
    simp only [List.length_cons] at ho hn
    obtain ⟨n, rfl⟩ : ∃ m, n = m + 1 := ⟨n - 1, by omega⟩
    have hc := (byt_cons.1 hx).1
    show readTo (n + 1) (92 :: (48 + c / 100) :: (48 + c / 10 % 10) :: (48 + c % 10) :: t.flatMap numI) at_ out = _
    rw [readTo, if_neg (by decide), if_pos rfl, unescI_num hc.1 hc.2]
    simp only
    rw [if_neg (by decide), if_neg (by omega)]
    show readTo n (t.flatMap numI) (at_ + 1 + 3) (out ++ [c]) = _
    rw [ih (byt_cons.1 hx).2 n _ _ (by simp; omega) (by omega), List.append_assoc]
    unfold readEnd
    simp only [List.singleton_append, List.length_cons]
    congr 3
    push_cast
    omega
theorem readEnd_some {at_ : Int} {out : List Int} (h : 0 < out.length) : readEnd at_ out = (strOfNums out, at_, 0) := by unfold readEnd; rw [if_neg (by omega)]
/-- Unlike labels have unlike texts. -/
theorem textI_inj {xs ys : List Int} (hx : Byt xs) (hy : Byt ys) (lx : xs.length ≤ 63) (ly : ys.length ≤ 63) (px : 0 < xs.length) (py : 0 < ys.length) (h : textI xs = textI ys) : xs = ys := by
  have a := readTo_text hx 64 [] 0 [] (by simpa using lx) (by omega) (.inl rfl)
  have b := readTo_text hy 64 [] 0 [] (by simpa using ly) (by omega) (.inl rfl)
  rw [h, b, List.nil_append, List.nil_append, readEnd_some px, readEnd_some py] at a
  have e := (Prod.mk.inj a).1
  have := congrArg bytesOf e
  rw [bytesOf_str hx, bytesOf_str hy] at this
  exact this.symm

/-! ### Names -/
/-- A name's first label, and the rest: none, if there is none that may be. -/
def cutS (s : ByteArray) : Option (ByteArray × ByteArray) :=
  if 0 < s.size ∧ 1 ≤ bt s 0 ∧ bt s 0 ≤ 63 ∧ bt s 0 < s.size then some (s.extract 1 (1 + bt s 0).toNat, s.extract (1 + bt s 0).toNat s.size) else none
/-- A name's labels, up to the first that may not be. -/
def labelsS : Nat → ByteArray → List ByteArray
  | 0, _ => []
  | n + 1, s => match cutS s with
    | none => []
    | some (l, r) => l :: labelsS n r
theorem size_extract_ (s : ByteArray) (i j : Nat) : (s.extract i j).size = min j s.size - i := by
  rw [← bytesOf_length, bytesOf_extract, List.length_drop, List.length_take, bytesOf_length]
theorem cutS_sizes {s l r : ByteArray} (h : cutS s = some (l, r)) : 1 ≤ l.size ∧ l.size ≤ 63 ∧ s.size = 1 + l.size + r.size := by
  unfold cutS at h
  split at h
  · rename_i hc
    simp only [Option.some.injEq, Prod.mk.injEq] at h
    obtain ⟨rfl, rfl⟩ := h
    rw [size_extract_, size_extract_]
    omega
  · cases h
theorem labelsS_more {s : ByteArray} : ∀ (n m : Nat), s.size ≤ n → s.size ≤ m → labelsS n s = labelsS m s := by
  intro n
  induction n generalizing s with
  | zero =>
    intro m h1 h2
    cases m with
    | zero => rfl
    | succ m =>
      have : cutS s = none := by unfold cutS; rw [if_neg (by omega)]
      simp only [labelsS, this]
  | succ n ih =>
    intro m h1 h2
    cases m with
    | zero =>
      have : cutS s = none := by unfold cutS; rw [if_neg (by omega)]
      simp only [labelsS, this]
    | succ m =>
      simp only [labelsS]
      cases hc : cutS s with
      | none => rfl
      | some p =>
        obtain ⟨l, r⟩ := p
        have := cutS_sizes hc
        simp only
        rw [ih m (by omega) (by omega)]
def labelsP (s : ByteArray) : List ByteArray := labelsS s.size s
theorem labelsP_cut {s l r : ByteArray} (h : cutS s = some (l, r)) : labelsP s = l :: labelsP r := by
  have hs := cutS_sizes h
  unfold labelsP
  rw [show s.size = (s.size - 1) + 1 by omega]
  simp only [labelsS, h]
  rw [labelsS_more (s.size - 1) r.size (by omega) (Nat.le_refl _)]
theorem labelsP_none {s : ByteArray} (h : cutS s = none) : labelsP s = [] := by
  unfold labelsP
  cases s.size with
  | zero => rfl
  | succ n => simp only [labelsS, h]

/-! ### Folding -/
theorem foldI_byt {c : Int} (h : 0 ≤ c ∧ c ≤ 255) : 0 ≤ foldI c ∧ foldI c ≤ 255 := by
  unfold foldI
  split
  · split <;> omega
  · omega
theorem foldI_foldI (c : Int) : foldI (foldI c) = foldI c := by
  unfold foldI
  split
  · split
    · rw [if_pos (by omega), if_neg (by omega)]
    · rfl
  · rfl
theorem fold_byt {xs : List Int} (h : Byt xs) : Byt (xs.map foldI) := by
  intro x hx
  obtain ⟨c, hc, rfl⟩ := List.mem_map.1 hx
  exact foldI_byt (h c hc)
theorem bytesOf_foldS (s : ByteArray) : bytesOf (foldS s) = (bytesOf s).map foldI := bytesOf_str (fold_byt (byt_bytesOf s))
theorem foldS_foldS (s : ByteArray) : foldS (foldS s) = foldS s := by
  unfold foldS
  rw [bytesOf_str (fold_byt (byt_bytesOf s)), List.map_map]
  congr 1
  apply List.map_congr_left
  intro x _
  exact foldI_foldI x
theorem foldS_size (s : ByteArray) : (foldS s).size = s.size := by rw [← bytesOf_length, bytesOf_foldS, List.length_map, bytesOf_length]

/-! ### Comparing -/
def cmpI : List Int → List Int → Int
  | [], [] => 0
  | [], _ :: _ => -1
  | _ :: _, [] => 1
  | a :: as, b :: bs => if a < b then -1 else if b < a then 1 else cmpI as bs
theorem cmp_bytes (s t : ByteArray) : Lib.compareBytes s.data.toList t.data.toList = cmpI (bytesOf s) (bytesOf t) := by
  unfold bytesOf
  generalize s.data.toList = a
  generalize t.data.toList = b
  induction a generalizing b with
  | nil => cases b <;> rfl
  | cons x a ih =>
    cases b with
    | nil => rfl
    | cons y b =>
      simp only [Lib.compareBytes, List.map_cons, cmpI]
      rw [ih b]
      by_cases h1 : x < y
      · have h1' : (x.toNat : Int) < (y.toNat : Int) := by have := UInt8.lt_iff_toNat_lt.1 h1; omega
        rw [if_pos h1, if_pos h1']
      · have h1' : ¬ (x.toNat : Int) < (y.toNat : Int) := by
          have : ¬ x.toNat < y.toNat := fun h => h1 (UInt8.lt_iff_toNat_lt.2 h)
          omega
        rw [if_neg h1, if_neg h1']
        by_cases h2 : y < x
        · have h2' : (y.toNat : Int) < (x.toNat : Int) := by have := UInt8.lt_iff_toNat_lt.1 h2; omega
          rw [if_pos h2, if_pos h2']
        · have h2' : ¬ (y.toNat : Int) < (x.toNat : Int) := by
            have : ¬ y.toNat < x.toNat := fun h => h2 (UInt8.lt_iff_toNat_lt.2 h)
            omega
          rw [if_neg h2, if_neg h2']
theorem cmpI_range (a b : List Int) : cmpI a b = -1 ∨ cmpI a b = 0 ∨ cmpI a b = 1 := by
  induction a generalizing b with
  | nil => cases b <;> simp [cmpI]
  | cons x a ih =>
    cases b with
    | nil => simp [cmpI]
    | cons y b =>
      simp only [cmpI]
      split
      · simp
      · split
        · simp
        · exact ih b
theorem cmpI_self (a : List Int) : cmpI a a = 0 := by
  induction a with
  | nil => rfl
  | cons x a ih => simp [cmpI, ih]
theorem cmpI_zero {a b : List Int} : cmpI a b = 0 ↔ a = b := by
  constructor
  · intro h
    induction a generalizing b with
    | nil => cases b with
      | nil => rfl
      | cons y b => simp [cmpI] at h
    | cons x a ih =>
      cases b with
      | nil => simp [cmpI] at h
      | cons y b =>
        simp only [cmpI] at h
        by_cases h1 : x < y
        · rw [if_pos h1] at h; simp at h
        · rw [if_neg h1] at h
          by_cases h2 : y < x
          · rw [if_pos h2] at h; simp at h
          · rw [if_neg h2] at h
            rw [ih h, show x = y by omega]
  · rintro rfl
    exact cmpI_self a
theorem cmpI_neg (a b : List Int) : cmpI b a = - cmpI a b := by
  induction a generalizing b with
  | nil => cases b <;> simp [cmpI]
  | cons x a ih =>
    cases b with
    | nil => simp [cmpI]
    | cons y b =>
      simp only [cmpI]
      by_cases h1 : x < y
      · rw [if_neg (by omega), if_pos h1, if_pos h1]; rfl
      · by_cases h2 : y < x
        · rw [if_pos h2, if_neg h1, if_pos h2]
        · rw [if_neg h2, if_neg h1, if_neg h1, if_neg h2]; exact ih b
theorem cmpI_trans {a b c : List Int} (h1 : cmpI a b ≤ 0) (h2 : cmpI b c ≤ 0) : cmpI a c ≤ 0 ∧ (cmpI a b < 0 → cmpI a c < 0) := by
  induction a generalizing b c with
  | nil =>
    cases c with
    | nil =>
      cases b with
      | nil => simp [cmpI]
      | cons y b => simp [cmpI] at h2
    | cons z c => simp [cmpI]
  | cons x a ih =>
    cases b with
    | nil => simp [cmpI] at h1
    | cons y b =>
      cases c with
      | nil => simp [cmpI] at h2
      | cons z c =>
        simp only [cmpI] at h1 h2 ⊢
        by_cases e1 : x < y
        · by_cases e2 : y < z
          · rw [if_pos (show x < z by omega)]; simp
          · rw [if_neg e2] at h2
            by_cases e3 : z < y
            · rw [if_pos e3] at h2; omega
            · rw [if_pos (show x < z by omega)]; simp
        · rw [if_neg e1] at h1
          by_cases e4 : y < x
          · rw [if_pos e4] at h1; omega
          · rw [if_neg e4] at h1
            have exy : x = y := by omega
            subst exy
            by_cases e2 : x < z
            · rw [if_pos e2]; simp
            · rw [if_neg e2] at h2 ⊢
              by_cases e3 : z < x
              · rw [if_pos e3] at h2; omega
              · rw [if_neg e3] at h2 ⊢
                rw [if_neg (Int.lt_irrefl x), if_neg (Int.lt_irrefl x)]
                exact ih h1 h2
end Go.Proofs.YtilobbjnmnnmnaaGreatDoorW.PrintWords
