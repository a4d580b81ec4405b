/- Words that the printed texts of this claim use (lists, memory, orders), out of the print's own, less what nothing here names. -/
/- Plain laws on bytes, texts of labels and their folding, without any program: what the proofs of the label's and the name's laws share. -/
import Derived.Test.YtbalmnkbodcigaaGreatDoorHandWords
import Derived.Lib.Bytealg
namespace Go.Proofs.YtbalmnkbodcigaaGreatDoorW.PrintWords
open Go.RowKit

/-! ### Strings and their bytes -/
def Byt (xs : List Int) : Prop := ∀ x ∈ xs, 0 ≤ x ∧ x ≤ 255
theorem byt_bytesOf (s : ByteArray) : Byt (bytesOf s) := by
  intro x hx
  simp [bytesOf] at hx
  obtain ⟨b, _, rfl⟩ := hx
  have := b.toNat_lt
  omega
theorem bytesOf_str {xs : List Int} (h : Byt xs) : bytesOf (strOfNums xs) = xs := by
  unfold bytesOf
  rw [strOfNums_data, List.map_map]
  conv => rhs; rw [← List.map_id xs]
  apply List.map_congr_left
  intro x hx
  have := h x hx
  simp
  omega
theorem str_bytesOf (s : ByteArray) : strOfNums (bytesOf s) = s := by
  cases s with
  | mk d =>
    unfold strOfNums bytesOf
    congr 1
    rw [List.map_map]
    have : (d.toList.map ((fun n : Int => UInt8.ofNat n.toNat) ∘ fun b : UInt8 => (b.toNat : Int))) = d.toList := by
      conv => rhs; rw [← List.map_id d.toList]
      apply List.map_congr_left
      intro x _
      simp
    show (List.map _ d.toList).toArray = d
    rw [this]
theorem bytesOf_inj {s t : ByteArray} (h : bytesOf s = bytesOf t) : s = t := by rw [← str_bytesOf s, h, str_bytesOf]
theorem bytesOf_extract (s : ByteArray) (i j : Nat) : bytesOf (s.extract i j) = ((bytesOf s).take j).drop i := by
  unfold bytesOf
  rw [← List.map_take, ← List.map_drop]
  congr 1
  rw [ByteArray.data_extract, Array.toList_extract, List.extract_eq_take_drop, List.drop_take]
theorem bt_rd (s : ByteArray) (i : Int) : bt s i = rd (bytesOf s) i := (rd_bytesOf s i).symm
/-! ### Texts of labels -/
/-! ### Names -/
/-! ### Folding -/
theorem foldI_byt {c : Int} (h : 0 ≤ c ∧ c ≤ 255) : 0 ≤ foldI c ∧ foldI c ≤ 255 := by
  unfold foldI
  split
  · split <;> omega
  · omega
theorem fold_byt {xs : List Int} (h : Byt xs) : Byt (xs.map foldI) := by
  intro x hx
  obtain ⟨c, hc, rfl⟩ := List.mem_map.1 hx
  exact foldI_byt (h c hc)
theorem bytesOf_foldS (s : ByteArray) : bytesOf (foldS s) = (bytesOf s).map foldI := bytesOf_str (fold_byt (byt_bytesOf s))
theorem foldS_size (s : ByteArray) : (foldS s).size = s.size := by rw [← bytesOf_length, bytesOf_foldS, List.length_map, bytesOf_length]

/-! ### Comparing -/
end Go.Proofs.YtbalmnkbodcigaaGreatDoorW.PrintWords
