/- This text proves, about strings of bytes alone, what the law LabelBack asks: a label's text can be seen, and is read as the label, up to the end or to a dot; for all labels and all that stands behind, of at most 300 octets. -/
import Derived.Test.YtnbjogebdjjepacLabelFns
import Derived.Test.YtnbjogebdjjepacOAllx2
namespace Go.Proofs.Ytnbjogebdjjepac.Pure
open Go.RowKit Go.Proofs.Ytnbjogebdjjepac.OAll Go.Proofs.YtnbjogebdjjepacW.PrintWords Go.Proofs.YtnbjogebdjjepacW.PrintLast Go.Proofs.YtnbjogebdjjepacW.PrintMore

theorem lives_true : nameplatelaw01_lives.f 300 = some true := by decide +kernel
theorem lives_k {k : Nat} (h : 300 ≤ k) : nameplatelaw01_lives.f k = some true := at_rounds nameplatelaw01_lives.mono h lives_true

theorem back_loop (a0 a1 t : ByteArray) (ht : t.size ≤ 1000) (hs : ∀ x ∈ bytesOf t, 33 ≤ x ∧ x ≤ 126) (r : Option Bool) (K : Nat)
    (he : ∀ k, K ≤ k → nameplatelaw01_LabelBack.l0 (k + 1) a0 a1 t (t.size : Int) = r) (d : Nat) : ∀ (k i : Nat), i + d = t.size → K + d < k → nameplatelaw01_LabelBack.l0 k a0 a1 t (i : Int) = r := by
  induction d with
  | zero =>
    intro k i hi hk
    obtain ⟨k, rfl⟩ : ∃ m, k = m + 1 := ⟨k - 1, by omega⟩
    rw [show i = t.size by omega]
    exact he k (by omega)
  | succ d ih =>
    intro k i hi hk
    obtain ⟨k, rfl⟩ : ∃ m, k = m + 1 := ⟨k - 1, by omega⟩
    have h := ih k (i + 1) (by omega) (by omega)
    have hx : 33 ≤ bt t (i : Int) ∧ bt t (i : Int) ≤ 126 := by
      rw [bt_rd, rd_getD, List.getD_eq_getElem?_getD, List.getElem?_eq_getElem (by rw [len_bytes]; omega)]
      exact hs _ (List.getElem_mem _)
    simp only [nameplatelaw01_LabelBack.l0]
    rw [if_pos (by omega), if_pos (by omega), if_neg (by omega), if_neg (by omega), wrap_id (by omega) (by omega), show (i : Int) + 1 = ((i + 1 : Nat) : Int) by omega, h]

theorem LabelBack : nameplatelaw01_LabelBack.Pure := by
  intro a0 a1 h0 h1
  refine ⟨4001, ?_⟩
  unfold nameplatelaw01_LabelBack.f
  rw [lives_k (by omega)]
  simp only [Option.bind_some, if_true]
  by_cases hb0 : (a0.size : Int) > 300
  · rw [if_pos hb0]; rfl
  rw [if_neg hb0]
  by_cases hb1 : (a1.size : Int) > 300
  · rw [decide_eq_true hb1]; rfl
  rw [decide_eq_false hb1, nameplatelaw01_LabelBack.j0, if_neg (by decide)]
  by_cases hz : a0.size = 0
  · rw [label_Text_zero hz, label_Check_zero hz]
    simp only [Option.bind_some]
    rw [if_neg (by decide), if_pos trivial, ByteArray.toList_eq]; rfl
  by_cases hl : 63 < a0.size
  · rw [label_Text_long hl, label_Check_long hl]
    simp only [Option.bind_some]
    rw [if_neg (by decide), if_pos trivial, ByteArray.toList_eq]; rfl
  have hlen := len_bytes a0
  have htl := textI_length (bytesOf a0)
  have hbt := textI_byt (byt_bytesOf a0)
  have hts : (strOfNums (textI (bytesOf a0))).size = (textI (bytesOf a0)).length := strOfNums_size _
  rw [label_Text_ok (by omega) (by omega) _ (by omega)]
  simp only [Option.bind_some, if_true]
  refine back_loop a0 a1 _ (by omega) (by rw [bytesOf_str hbt]; exact textI_seen (byt_bytesOf a0)) _ 3000 ?_ (strOfNums (textI (bytesOf a0))).size 4000 0 (by omega) (by omega)
  intro k hk
  simp only [nameplatelaw01_LabelBack.l0]
  rw [if_neg (by omega)]
  have hr0 : label_Read.f k (strOfNums (textI (bytesOf a0))) 0 = some (a0, ((strOfNums (textI (bytesOf a0))).size : Int), 0) := by
    have h := label_Read_text (s := strOfNums (textI (bytesOf a0))) (l := a0) (by omega) (by omega) (by omega) 0 (by omega) [] (.inl rfl) (by rw [bytesOf_str hbt]; simp) k (by omega)
    simp only [Int.ofNat_zero, Int.zero_add] at h
    rw [hts]
    exact h
  have hsz1 : (strOfNums (textI (bytesOf a0)) ++ (⟨#[46]⟩ : ByteArray)).size = (textI (bytesOf a0)).length + 1 := by rw [ByteArray.size_append, hts]; rfl
  have hsz2 : ((strOfNums (textI (bytesOf a0)) ++ (⟨#[46]⟩ : ByteArray)) ++ a1).size = (textI (bytesOf a0)).length + 1 + a1.size := by rw [ByteArray.size_append, hsz1]
  have hr1 : label_Read.f k ((strOfNums (textI (bytesOf a0)) ++ (⟨#[46]⟩ : ByteArray)) ++ a1) 0 = some (a0, ((strOfNums (textI (bytesOf a0))).size : Int), 0) := by
    have h := label_Read_text (s := (strOfNums (textI (bytesOf a0)) ++ (⟨#[46]⟩ : ByteArray)) ++ a1) (l := a0) (by omega) (by omega) (by omega) 0 (by omega) (46 :: bytesOf a1) (.inr ⟨_, rfl⟩) (by
      rw [List.drop_zero, bytesOf_append, bytesOf_append, bytesOf_str hbt, List.append_assoc]; rfl) k (by omega)
    simp only [Int.ofNat_zero, Int.zero_add] at h
    rw [hts]
    exact h
  rw [hr0]
  simp only [Option.bind_some]
  rw [if_pos (by omega), if_pos (by omega), hr1]
  simp

end Go.Proofs.Ytnbjogebdjjepac.Pure
