/- This text proves, about names alone, what the law NameBack asks: a name is read of its text, with its last dot or without; for all names. -/
import Derived.Test.YthimngabaliapaaNameFnsC
import Derived.Test.YthimngabaliapaaOSevenx9
namespace Go.Proofs.Ythimngabaliapaa.Pure
open Go.RowKit Go.Proofs.Ythimngabaliapaa.OSeven Go.Proofs.YthimngabaliapaaW.PrintWords Go.Proofs.YthimngabaliapaaW.PrintLast Go.Proofs.Ythimngabaliapaa.NameFns

theorem lives_true : nameplatelaw02_lives.f 300 = some true := by decide +kernel
theorem lives_at (k : Nat) (h : 300 ≤ k) : nameplatelaw02_lives.f k = some true := at_rounds nameplatelaw02_lives.mono h lives_true
theorem NameBack : nameplatelaw02_NameBack.Pure := by
  intro a _
  refine ⟨9000, ?_⟩
  generalize hK : (9000 : Nat) = K
  have hk : 9000 ≤ K := by omega
  unfold nameplatelaw02_NameBack.f
  rw [lives_at K (by omega), Option.bind_some, if_pos rfl]
  by_cases h1 : (a.size : Int) > 400
  · rw [if_pos h1]
  rw [if_neg h1]
  by_cases c1 : chkS a = 0
  · obtain ⟨L, hL, rfl, lL⟩ := chkS_zero.1 c1
    obtain ⟨k, rfl⟩ : ∃ m, K = m + 1 := ⟨K - 1, by omega⟩
    by_cases hn : L = []
    · subst hn
      rw [show joinS [] = ⟨#[]⟩ from rfl, text_nil _ (by omega), Option.bind_some, if_pos rfl]
      have hr : name_Read.f (k + 1) (⟨#[46]⟩ : ByteArray) = some (⟨#[]⟩, 0) := by
        unfold name_Read.f
        rw [if_neg (by rw [ByteArray.toList_eq]; decide), if_pos (by rw [ByteArray.toList_eq])]
      have hl := labels_join (L := []) okL_nil (by decide) (k + 1) (by omega)
      rw [show joinS [] = ⟨#[]⟩ from rfl] at hl
      have hm := make_join (L := []) okL_nil (by decide)
      rw [show joinS [] = ⟨#[]⟩ from rfl] at hm
      rw [hr, Option.bind_some, hl, Option.bind_some, hm, Option.bind_some, if_pos rfl, if_pos rfl, if_pos rfl, if_pos rfl, if_neg (by decide), if_pos (by decide +kernel), if_pos (by decide +kernel), show (bt ((⟨#[46]⟩ : ByteArray), (0 : Int)).1 (wrap64 ((((⟨#[46]⟩ : ByteArray), (0 : Int)).1.size : Int) - 1)) != 46) = false from by decide +kernel]
      simp only [nameplatelaw02_NameBack.j0]
      rw [if_neg (by decide), if_pos (by rw [ByteArray.toList_eq]), ByteArray.toList_eq]
      rfl
    · have hb : bytesOf (strOfNums (txt L)) = txt L := bytesOf_str (txt_byt L)
      have hz : (strOfNums (txt L)).size = (txt L).length := by rw [← bytesOf_length, hb]
      have tl := txt_len L
      have te := txt_last hn
      have tp : (txt L).length = (txt L).dropLast.length + 1 := by
        have := congrArg List.length te
        rw [List.length_append] at this
        exact this
      rw [text_join hL lL hn _ (by omega), Option.bind_some, if_pos rfl, read_text hL lL hn (.inl hb) _ (by omega), Option.bind_some, labels_join hL lL _ (by omega), Option.bind_some, make_join hL lL, Option.bind_some, if_pos rfl, if_pos rfl, if_pos rfl, if_pos rfl]
      dsimp only
      rw [if_neg (by omega), wrap_id (by omega) (by omega), if_pos (by omega), if_pos (by omega)]
      have hlast : bt (strOfNums (txt L)) (((strOfNums (txt L)).size : Int) - 1) = 46 := by
        rw [bt_rd, hb, show ((strOfNums (txt L)).size : Int) - 1 = ((txt L).dropLast.length : Int) by omega, te, rd_getD, List.dropLast_concat, List.getD_eq_getElem?_getD, List.getElem?_append_right (Nat.le_refl _), Nat.sub_self]
        rfl
      rw [hlast, show ((46 : Int) != 46) = false from rfl]
      simp only [nameplatelaw02_NameBack.j0]
      have hj := joinS_size hL
      have hj2 := joinI_len L
      have hp : 0 < L.length := List.length_pos_iff.2 hn
      rw [if_neg (by decide), if_neg (fun e => by have := size_nil.1 e; omega), wrap_id (by omega) (by omega), if_pos (by omega), if_pos (by omega)]
      have hx : bytesOf ((strOfNums (txt L)).extract 0 (((strOfNums (txt L)).size : Int) - 1).toNat) = (txt L).dropLast := by
        rw [bytesOf_extract, hb, List.drop_zero, show (((strOfNums (txt L)).size : Int) - 1).toNat = (txt L).length - 1 by omega, List.dropLast_eq_take]
      rw [read_text hL lL hn (.inr hx) k (by omega), Option.bind_some, if_pos rfl]
      simp
  · rw [text_bad c1 K (by omega), Option.bind_some, if_neg c1, check_eq a K (by omega), Option.bind_some, if_pos rfl, labels_bad c1 K (by omega), if_pos (by rw [ByteArray.toList_eq])]
    rfl
end Go.Proofs.Ythimngabaliapaa.Pure
