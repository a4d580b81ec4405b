/- This text proves, about strings of bytes alone, what the law LabelRows asks: two labels' texts with a dot between are read one behind the other; for all labels. -/
import Derived.Test.YtnbjogebdjjepacLabelFns
import Derived.Test.YtnbjogebdjjepacOAllx3
namespace Go.Proofs.Ytnbjogebdjjepac.Pure
open Go.RowKit Go.Proofs.Ytnbjogebdjjepac.OAll Go.Proofs.YtnbjogebdjjepacW.PrintWords Go.Proofs.YtnbjogebdjjepacW.PrintLast Go.Proofs.YtnbjogebdjjepacW.PrintMore

theorem lives_true : nameplatelaw01_lives.f 300 = some true := by decide +kernel
theorem lives_k {k : Nat} (h : 300 ≤ k) : nameplatelaw01_lives.f k = some true := at_rounds nameplatelaw01_lives.mono h lives_true
/-- What a label's text comes to: it is told, or an error is. -/
theorem text_cases (s : ByteArray) (k : Nat) (hk : 200 ≤ k) : (0 < s.size ∧ s.size ≤ 63 ∧ label_Text.f k s = some (strOfNums (textI (bytesOf s)), 0)) ∨ ∃ e, e ≠ 0 ∧ label_Text.f k s = some (⟨#[]⟩, e) := by
  by_cases hz : s.size = 0
  · exact .inr ⟨2, by decide, label_Text_zero hz k⟩
  by_cases hl : 63 < s.size
  · exact .inr ⟨3, by decide, label_Text_long hl k⟩
  exact .inl ⟨by omega, by omega, label_Text_ok (by omega) (by omega) k hk⟩

theorem rows_core (x5 x7 s a0 a1 : ByteArray) (k : Nat) (he : (x5 ++ (⟨#[46]⟩ : ByteArray)) ++ x7 = s) (h5 : x5.size ≤ 1000) (h7 : x7.size ≤ 1000)
    (r0 : label_Read.f k s 0 = some (a0, (x5.size : Int), 0)) (r1 : label_Read.f k s ((x5.size : Int) + 1) = some (a1, (s.size : Int), 0)) :
    nameplatelaw01_LabelRows.j0 (k + 1) a0 a1 x5 x7 false = some true := by
  have hs : (x5 ++ (⟨#[46]⟩ : ByteArray)).size = x5.size + 1 := by rw [ByteArray.size_append]; rfl
  rw [nameplatelaw01_LabelRows.j0, if_neg (by decide), if_pos (by omega), if_pos (by omega), he, r0, Option.bind_some]
  have e : wrap64 (((a0, (x5.size : Int), (0 : Int)) : ByteArray × Int × Int).2.1 + 1) = (x5.size : Int) + 1 := wrap_id (by show _ ≤ (x5.size : Int) + 1; omega) (by show (x5.size : Int) + 1 ≤ _; omega)
  rw [e, r1, Option.bind_some]
  show (if (0 : Int) = 0 then (if a0.toList = a0.toList then (if (x5.size : Int) = (x5.size : Int) then (if (0 : Int) = 0 then (if a1.toList = a1.toList then (some ((s.size : Int) == (s.size : Int))) else (some false)) else (some false)) else (some false)) else (some false)) else (some false)) = some true
  rw [if_pos rfl, if_pos rfl, if_pos rfl, if_pos rfl, if_pos rfl, beq_self_eq_true]

theorem LabelRows : nameplatelaw01_LabelRows.Pure := by
  intro a0 a1 h0 h1
  obtain ⟨K, hK⟩ : ∃ K : Nat, 3000 ≤ K := ⟨3000, Nat.le_refl _⟩
  refine ⟨K + 1, ?_⟩
  unfold nameplatelaw01_LabelRows.f
  rw [lives_k (by omega)]
  simp only [Option.bind_some, if_true]
  rcases text_cases a0 (K + 1) (by omega) with ⟨p0, p1, e0⟩ | ⟨e, he, e0⟩
  · rcases text_cases a1 (K + 1) (by omega) with ⟨q0, q1, e1⟩ | ⟨e, he, e1⟩
    · rw [e0, e1]
      simp only [Option.bind_some, if_true]
      have l0 := len_bytes a0
      have l1 := len_bytes a1
      have t0 := textI_length (bytesOf a0)
      have t1 := textI_length (bytesOf a1)
      have b0 := textI_byt (byt_bytesOf a0)
      have b1 := textI_byt (byt_bytesOf a1)
      have s0 : (strOfNums (textI (bytesOf a0))).size = (textI (bytesOf a0)).length := strOfNums_size _
      have s1 : (strOfNums (textI (bytesOf a1))).size = (textI (bytesOf a1)).length := strOfNums_size _
      have sz1 : (strOfNums (textI (bytesOf a0)) ++ (⟨#[46]⟩ : ByteArray)).size = (textI (bytesOf a0)).length + 1 := by rw [ByteArray.size_append, s0]; rfl
      have sz2 : ((strOfNums (textI (bytesOf a0)) ++ (⟨#[46]⟩ : ByteArray)) ++ strOfNums (textI (bytesOf a1))).size = (textI (bytesOf a0)).length + 1 + (textI (bytesOf a1)).length := by rw [ByteArray.size_append, sz1, s1]
      have bs : bytesOf ((strOfNums (textI (bytesOf a0)) ++ (⟨#[46]⟩ : ByteArray)) ++ strOfNums (textI (bytesOf a1))) = textI (bytesOf a0) ++ 46 :: textI (bytesOf a1) := by
        rw [bytesOf_append, bytesOf_append, bytesOf_str b0, bytesOf_str b1, List.append_assoc]; rfl
      have r0 := label_Read_text (s := (strOfNums (textI (bytesOf a0)) ++ (⟨#[46]⟩ : ByteArray)) ++ strOfNums (textI (bytesOf a1))) (l := a0) (by omega) p0 p1 0 (by omega) (46 :: textI (bytesOf a1)) (.inr ⟨_, rfl⟩) (by
        rw [List.drop_zero, bs]) K (by omega)
      simp only [Int.ofNat_zero, Int.zero_add] at r0
      have r1 := label_Read_text (s := (strOfNums (textI (bytesOf a0)) ++ (⟨#[46]⟩ : ByteArray)) ++ strOfNums (textI (bytesOf a1))) (l := a1) (by omega) q0 q1 ((textI (bytesOf a0)).length + 1) (by omega) [] (.inl rfl) (by
        rw [bs, List.append_nil, List.drop_append, List.drop_eq_nil_of_le (by omega), List.nil_append, show (textI (bytesOf a0)).length + 1 - (textI (bytesOf a0)).length = 1 by omega]; rfl) K (by omega)
      refine rows_core _ _ _ a0 a1 K rfl (by omega) (by omega) (by rw [r0, s0]) ?_
      rw [s0, sz2, show ((textI (bytesOf a0)).length : Int) + 1 = (((textI (bytesOf a0)).length + 1 : Nat) : Int) by omega, r1]
      congr 3
    · rw [e0, e1]
      simp only [Option.bind_some, if_true]
      rw [nameplatelaw01_LabelRows.j0, if_pos (by simpa using he)]
  · rcases text_cases a1 (K + 1) (by omega) with ⟨q0, q1, e1⟩ | ⟨e', he', e1⟩
    · rw [e0, e1]
      simp only [Option.bind_some]
      rw [if_neg he, nameplatelaw01_LabelRows.j0, if_pos rfl]
    · rw [e0, e1]
      simp only [Option.bind_some]
      rw [if_neg he, nameplatelaw01_LabelRows.j0, if_pos rfl]

end Go.Proofs.Ytnbjogebdjjepac.Pure
