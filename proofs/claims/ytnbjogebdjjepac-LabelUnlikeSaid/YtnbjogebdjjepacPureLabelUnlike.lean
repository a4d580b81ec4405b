/- This text proves, about strings of bytes alone, what the law LabelUnlike asks: unlike labels have unlike texts, and a text whose octets are all told by their numbers is read as the label; for all labels. -/
import Derived.Test.YtnbjogebdjjepacUnlikeFns
import Derived.Test.YtnbjogebdjjepacOLabelUnlikex3
namespace Go.Proofs.Ytnbjogebdjjepac.Pure
open Go.RowKit Go.Proofs.Ytnbjogebdjjepac.OLabelUnlike Go.Proofs.YtnbjogebdjjepacW.PrintWords Go.Proofs.YtnbjogebdjjepacW.PrintLast Go.Proofs.YtnbjogebdjjepacW.PrintMore

theorem lives_true : nameplatelaw01_lives.f 300 = some true := by decide +kernel
theorem lives_k {k : Nat} (h : 300 ≤ k) : nameplatelaw01_lives.f k = some true := at_rounds nameplatelaw01_lives.mono h lives_true
theorem text_cases (s : ByteArray) (k : Nat) (hk : 200 ≤ k) : (0 < s.size ∧ s.size ≤ 63 ∧ label_Text.f k s = some (strOfNums (textI (bytesOf s)), 0)) ∨ ∃ e, e ≠ 0 ∧ label_Text.f k s = some (⟨#[]⟩, e) := by
  by_cases hz : s.size = 0
  · exact .inr ⟨2, by decide, label_Text_zero hz k⟩
  by_cases hl : 63 < s.size
  · exact .inr ⟨3, by decide, label_Text_long hl k⟩
  exact .inl ⟨by omega, by omega, label_Text_ok (by omega) (by omega) k hk⟩
def digs : ByteArray := ⟨#[48, 49, 50, 51, 52, 53, 54, 55, 56, 57]⟩
theorem digit_cut (q : Int) (h0 : 0 ≤ q) (h1 : q ≤ 9) : bytesOf (digs.extract q.toNat (q + 1).toNat) = [48 + q] := by
  have : q = 0 ∨ q = 1 ∨ q = 2 ∨ q = 3 ∨ q = 4 ∨ q = 5 ∨ q = 6 ∨ q = 7 ∨ q = 8 ∨ q = 9 := by omega
  rcases this with rfl | rfl | rfl | rfl | rfl | rfl | rfl | rfl | rfl | rfl <;> decide +kernel
theorem digit_cut_size (q : Int) (h0 : 0 ≤ q) (h1 : q ≤ 9) : (digs.extract q.toNat (q + 1).toNat).size = 1 := by
  rw [← len_bytes, digit_cut q h0 h1]
  rfl
theorem flat_step {xs : List Int} {i : Nat} (h : i < xs.length) : (xs.take (i + 1)).flatMap numI = (xs.take i).flatMap numI ++ numI (rd xs (i : Int)) := by
  rw [List.take_succ_eq_append_getElem h, List.flatMap_append, rd_getD, List.getD_eq_getElem?_getD, List.getElem?_eq_getElem h]
  simp
theorem numI_length (c : Int) : (numI c).length = 4 := rfl
theorem flat_length (xs : List Int) : (xs.flatMap numI).length = 4 * xs.length := by
  induction xs with
  | nil => rfl
  | cons c t ih => rw [List.flatMap_cons, List.length_append, numI_length, ih, List.length_cons]; omega
theorem numI_byt {c : Int} (h0 : 0 ≤ c) (h1 : c ≤ 255) : Byt (numI c) := by
  unfold numI
  intro x hx
  simp at hx
  omega
theorem flat_byt {xs : List Int} (h : Byt xs) : Byt (xs.flatMap numI) := by
  intro x hx
  obtain ⟨c, hc, hx⟩ := List.mem_flatMap.1 hx
  exact numI_byt (h c hc).1 (h c hc).2 x hx

/-- One octet more. -/
theorem unlike_step (k : Nat) (a0 a1 x5 x7 x9 : ByteArray) (i : Nat) (hi : i < a0.size) (hn : a0.size ≤ 63) (h9 : x9.size ≤ 1000) :
    ∃ y, nameplatelaw01_LabelUnlike.l0 (k + 1) a0 a1 x5 x7 x9 (i : Int) = nameplatelaw01_LabelUnlike.l0 k a0 a1 x5 x7 y ((i + 1 : Nat) : Int) ∧ bytesOf y = bytesOf x9 ++ numI (rd (bytesOf a0) (i : Int)) := by
  have hb := rd_byt (byt_bytesOf a0) (i : Int)
  have hbt : bt a0 (i : Int) = rd (bytesOf a0) (i : Int) := bt_rd _ _
  generalize rd (bytesOf a0) (i : Int) = c at hb hbt
  have e1 : Int.tdiv c 100 % 256 = c / 100 := by rw [Int.tdiv_eq_ediv_of_nonneg hb.1]; omega
  have e1' : (c / 100 + 1) % 256 = c / 100 + 1 := by omega
  have e2 : Int.tdiv c 10 % 256 % 10 = c / 10 % 10 := by rw [Int.tdiv_eq_ediv_of_nonneg hb.1]; omega
  have e3 : Int.tmod c 10 = c % 10 := Int.tmod_eq_emod_of_nonneg hb.1
  have e3' : (c % 10 + 1) % 256 = c % 10 + 1 := by omega
  have s1 := digit_cut_size (c / 100) (by omega) (by omega)
  have s2 := digit_cut_size (c / 10 % 10) (by omega) (by omega)
  have s3 := digit_cut_size (c % 10) (by omega) (by omega)
  have z1 : (x9 ++ (⟨#[92]⟩ : ByteArray)).size = x9.size + 1 := by rw [ByteArray.size_append]; rfl
  refine ⟨((x9 ++ (⟨#[92]⟩ : ByteArray)) ++ digs.extract (c / 100).toNat (c / 100 + 1).toNat ++ digs.extract (c / 10 % 10).toNat (c / 10 % 10 + 1).toNat) ++ digs.extract (c % 10).toNat (c % 10 + 1).toNat, ?_, ?_⟩
  · rw [nameplatelaw01_LabelUnlike.l0, if_pos (by omega), if_pos (by omega), if_pos (by omega), hbt, e1, e1', e2, e3, e3', if_pos (by omega), if_pos (by omega), if_pos (by omega)]
    have z2 : ((x9 ++ (⟨#[92]⟩ : ByteArray)) ++ digs.extract (c / 100).toNat (c / 100 + 1).toNat).size = x9.size + 2 := by rw [ByteArray.size_append, z1, s1]
    have z3 : (((x9 ++ (⟨#[92]⟩ : ByteArray)) ++ digs.extract (c / 100).toNat (c / 100 + 1).toNat) ++ digs.extract (c / 10 % 10).toNat (c / 10 % 10 + 1).toNat).size = x9.size + 3 := by rw [ByteArray.size_append, z2, s2]
    change (if (x9 ++ (⟨#[92]⟩ : ByteArray)).size + (digs.extract (c / 100).toNat (c / 100 + 1).toNat).size ≤ 9223372036854775807 then _ else _) = _
    rw [if_pos (by omega), if_pos (by omega), if_pos (by omega), if_pos (by omega)]
    change (if ((x9 ++ (⟨#[92]⟩ : ByteArray)) ++ digs.extract (c / 100).toNat (c / 100 + 1).toNat).size + (digs.extract (c / 10 % 10).toNat (c / 10 % 10 + 1).toNat).size ≤ 9223372036854775807 then _ else _) = _
    rw [if_pos (by omega), if_pos (by omega), if_pos (by omega), if_pos (by omega)]
    change (if (((x9 ++ (⟨#[92]⟩ : ByteArray)) ++ digs.extract (c / 100).toNat (c / 100 + 1).toNat) ++ digs.extract (c / 10 % 10).toNat (c / 10 % 10 + 1).toNat).size + (digs.extract (c % 10).toNat (c % 10 + 1).toNat).size ≤ 9223372036854775807 then _ else _) = _
    rw [if_pos (by omega), wrap_id (by omega) (by omega), show (i : Int) + 1 = ((i + 1 : Nat) : Int) by omega]
    rfl
  · rw [bytesOf_append, bytesOf_append, bytesOf_append, bytesOf_append, digit_cut _ (by omega) (by omega), digit_cut _ (by omega) (by omega), digit_cut _ (by omega) (by omega)]
    simp [numI]
    rfl

theorem unlike_loop (a0 a1 x5 x7 : ByteArray) (hn : a0.size ≤ 63) (K : Nat) (R : Option Bool)
    (he : ∀ k y, K ≤ k → bytesOf y = (bytesOf a0).flatMap numI → nameplatelaw01_LabelUnlike.l0 (k + 1) a0 a1 x5 x7 y (a0.size : Int) = R) (d : Nat) : ∀ (k i : Nat) (x9 : ByteArray), i + d = a0.size → K + d < k → bytesOf x9 = ((bytesOf a0).take i).flatMap numI →
    nameplatelaw01_LabelUnlike.l0 k a0 a1 x5 x7 x9 (i : Int) = R := by
  have hl := len_bytes a0
  induction d with
  | zero =>
    intro k i x9 hi hk hx
    obtain ⟨k, rfl⟩ : ∃ m, k = m + 1 := ⟨k - 1, by omega⟩
    rw [List.take_of_length_le (by omega)] at hx
    rw [show i = a0.size by omega]
    exact he k x9 (by omega) hx
  | succ d ih =>
    intro k i x9 hi hk hx
    obtain ⟨k, rfl⟩ : ∃ m, k = m + 1 := ⟨k - 1, by omega⟩
    have h9 : x9.size ≤ 1000 := by
      rw [← len_bytes, hx, flat_length, List.length_take]
      omega
    obtain ⟨y, e, hy⟩ := unlike_step k a0 a1 x5 x7 x9 i (by omega) hn h9
    rw [e]
    exact ih k (i + 1) y (by omega) (by omega) (by rw [hy, hx, flat_step (by omega)])

theorem unlike_end (k : Nat) (a0 a1 x5 x7 y : ByteArray) (hk : 700 ≤ k) (h0 : 0 < a0.size) (hn : a0.size ≤ 63) (hy : bytesOf y = (bytesOf a0).flatMap numI) (he : x5 = x7 ↔ a0 = a1) :
    nameplatelaw01_LabelUnlike.l0 (k + 1) a0 a1 x5 x7 y (a0.size : Int) = some true := by
  have hl := len_bytes a0
  have hys : y.size = 4 * a0.size := by rw [← len_bytes, hy, flat_length, hl]
  have hr : label_Read.f k y 0 = some (a0, (y.size : Int), 0) := by
    have h := label_Read_in y (by omega) 0 (by omega) k (by omega)
    rw [List.drop_zero, hy, readTo_num (byt_bytesOf a0) _ _ _ (by simp; omega) (by omega), List.nil_append, readEnd_some (by omega), str_bytesOf] at h
    rw [show ((0 : Nat) : Int) = 0 from rfl] at h
    rw [h, hys]
    congr 3
    omega
  rw [nameplatelaw01_LabelUnlike.l0, if_neg (by omega), hr, Option.bind_some]
  have hb : ((x5.toList == x7.toList) == (a0.toList == a1.toList)) = true := by
    rw [beq_iff_eq, Bool.eq_iff_iff, beq_iff_eq, beq_iff_eq, toList_inj, toList_inj]
    exact he
  rw [if_pos hb]
  show (if (0 : Int) = 0 then (if a0.toList = a0.toList then (some ((y.size : Int) == (y.size : Int))) else (some false)) else (some false)) = some true
  rw [if_pos rfl, if_pos rfl, beq_self_eq_true]

theorem LabelUnlike : nameplatelaw01_LabelUnlike.Pure := by
  intro a0 a1 h0 h1
  obtain ⟨K, hK⟩ : ∃ K : Nat, 3000 ≤ K := ⟨3000, Nat.le_refl _⟩
  refine ⟨K + 1, ?_⟩
  unfold nameplatelaw01_LabelUnlike.f
  rw [lives_k (by omega)]
  simp only [Option.bind_some, if_true]
  rcases text_cases a0 (K + 1) (by omega) with ⟨p0, p1, e0⟩ | ⟨e, he, e0⟩
  · rcases text_cases a1 (K + 1) (by omega) with ⟨q0, q1, e1⟩ | ⟨e, he, e1⟩
    · rw [e0, e1]
      simp only [Option.bind_some, if_true]
      rw [nameplatelaw01_LabelUnlike.j0, if_neg (by decide)]
      have hl0 := len_bytes a0
      have hl1 := len_bytes a1
      refine unlike_loop a0 a1 _ _ p1 700 (some true) (fun k y hk hy => unlike_end k a0 a1 _ _ y hk p0 p1 hy ?_) a0.size K 0 ⟨#[]⟩ (by omega) (by omega) rfl
      constructor
      · intro h
        have h2 := congrArg bytesOf h
        rw [bytesOf_str (textI_byt (byt_bytesOf a0)), bytesOf_str (textI_byt (byt_bytesOf a1))] at h2
        exact bytesOf_inj (textI_inj (byt_bytesOf a0) (byt_bytesOf a1) (by omega) (by omega) (by omega) (by omega) h2)
      · rintro rfl
        rfl
    · rw [e0, e1]
      simp only [Option.bind_some, if_true]
      rw [nameplatelaw01_LabelUnlike.j0, if_pos (by simpa using he)]
  · rcases text_cases a1 (K + 1) (by omega) with ⟨q0, q1, e1⟩ | ⟨e', he', e1⟩
    · rw [e0, e1]
      simp only [Option.bind_some]
      rw [if_neg he, nameplatelaw01_LabelUnlike.j0, if_pos rfl]
    · rw [e0, e1]
      simp only [Option.bind_some]
      rw [if_neg he, nameplatelaw01_LabelUnlike.j0, if_pos rfl]

end Go.Proofs.Ytnbjogebdjjepac.Pure
