/- Words that the printed texts of this claim use (lists, memory, orders), out of the print's own, less what nothing here names. -/
/- Plain laws on bytes, texts of labels and their folding, without any program: what the proofs of the label's and the name's laws share. -/
import Derived.Test.YtilobbjnmnnmnaaDoorHandWords
import Derived.Lib.Bytealg
namespace Go.Proofs.YtilobbjnmnnmnaaDoorW.PrintWords
open Go.RowKit

/-! ### Strings and their bytes -/
theorem str_bytesOf (s : ByteArray) : strOfNums (bytesOf s) = s := by
  cases s with
  | mk d =>
    unfold strOfNums bytesOf
    congr 1
    rw [List.map_map]
    have : (d.toList.map ((fun n : Int => UInt8.ofNat n.toNat) ∘ fun b : UInt8 => (b.toNat : Int))) = d.toList := by
      conv => rhs; rw [← List.map_id d.toList]
      apply List.map_congr_left
      intro x _
      simp
    show (List.map _ d.toList).toArray = d
    rw [this]
theorem bt_rd (s : ByteArray) (i : Int) : bt s i = rd (bytesOf s) i := (rd_bytesOf s i).symm
theorem wrap_id {n : Int} (h : -9223372036854775808 ≤ n) (h' : n ≤ 9223372036854775807) : wrap64 n = n := by
  unfold wrap64
  omega
/-! ### Texts of labels -/
/-! ### Names -/
/-! ### Folding -/
/-! ### Comparing -/
end Go.Proofs.YtilobbjnmnnmnaaDoorW.PrintWords
