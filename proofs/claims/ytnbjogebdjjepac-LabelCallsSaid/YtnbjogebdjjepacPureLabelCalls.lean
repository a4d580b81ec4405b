/- This text proves, about strings of bytes alone, what the law LabelCalls asks: the program looks at labels, tells and reads them as the reference does; for all texts of at most 300 octets, and all places. -/
import Derived.Test.YtnbjogebdjjepacLabelRef
import Derived.Test.YtnbjogebdjjepacOAllx5
namespace Go.Proofs.Ytnbjogebdjjepac.Pure
open Go.RowKit Go.Proofs.Ytnbjogebdjjepac.OAll Go.Proofs.YtnbjogebdjjepacW.PrintWords Go.Proofs.YtnbjogebdjjepacW.PrintLast Go.Proofs.YtnbjogebdjjepacW.PrintMore

theorem lives_true : nameplatelaw01_lives.f 300 = some true := by decide +kernel
theorem lives_k {k : Nat} (h : 300 ≤ k) : nameplatelaw01_lives.f k = some true := at_rounds nameplatelaw01_lives.mono h lives_true
theorem text_some (s : ByteArray) (k : Nat) (hk : 200 ≤ k) : ∃ r, label_Text.f k s = some r := by
  by_cases hz : s.size = 0
  · exact ⟨_, label_Text_zero hz k⟩
  by_cases hl : 63 < s.size
  · exact ⟨_, label_Text_long hl k⟩
  exact ⟨_, label_Text_ok (by omega) (by omega) k hk⟩
theorem check_some (s : ByteArray) : ∃ r, label_Check.f s = some r := by
  unfold label_Check.f
  repeat' split
  all_goals exact ⟨_, rfl⟩

theorem LabelCalls : nameplatelaw01_LabelCalls.Pure := by
  intro a b n h0 h1 _
  obtain ⟨K, hK⟩ : ∃ K : Nat, 3000 ≤ K := ⟨3000, Nat.le_refl _⟩
  refine ⟨K + 1, ?_⟩
  unfold nameplatelaw01_LabelCalls.f
  rw [lives_k (by omega)]
  simp only [Option.bind_some, if_true]
  by_cases ha : (a.size : Int) > 300
  · rw [if_pos ha]; rfl
  rw [if_neg ha]
  by_cases hb : (b.size : Int) > 300
  · rw [decide_eq_true hb]; rfl
  rw [decide_eq_false hb, nameplatelaw01_LabelCalls.j0, if_neg (by decide)]
  have na : a.size ≤ 1000 := by omega
  have nb : b.size ≤ 1000 := by omega
  obtain ⟨r1, e1⟩ := text_some a K (by omega)
  have e2 := ref01_Text_eq a K (by omega)
  rw [e1] at e2
  obtain ⟨r2, e3, e4⟩ := ref01_Read_eq b h1 n K (by omega)
  obtain ⟨r3, e5⟩ := check_some a
  rw [e1, e2, e3, e4, e5, ref01_Check_eq, e5, label_Fold_eq na, ref01_Fold_eq na, label_Same_eq na nb, ref01_Same_eq na nb, label_Compare_eq na nb, ref01_Compare_eq na nb K (by omega)]
  simp

end Go.Proofs.Ytnbjogebdjjepac.Pure
