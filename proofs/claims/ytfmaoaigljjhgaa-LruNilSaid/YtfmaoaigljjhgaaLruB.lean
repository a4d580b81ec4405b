/- What an lru list that nobody made answers. -/
import Derived.Test.YtfmaoaigljjhgaaLruA
namespace Go.Proofs.Ytfmaoaigljjhgaa.Lru
open Go Go.RowKit Go.Maps Go.Proofs.YtfmaoaigljjhgaaW.PrintWords

set_option maxHeartbeats 4000000 in
set_option maxRecDepth 100000 in
theorem Look_nil (w : World) (s : ByteArray) : Calls Try.prog 14 #[.pointer none, .string s] w fun e w' => e = .returned (.tuple #[vl 0, .bool false]) ∧ w' = w := by
  unfold vl
  go_enter Try.func14, Try.ntmps14
  go_wp2
  go_ret2
  exact ⟨rfl, rfl⟩
set_option maxHeartbeats 4000000 in
set_option maxRecDepth 100000 in
theorem Get_nil (w : World) (s : ByteArray) : Calls Try.prog 16 #[.pointer none, .string s] w fun e w' => e = .returned (.tuple #[vl 0, .bool false]) ∧ w' = w := by
  have h := Look_nil w s
  unfold vl at *
  go_enter Try.func16, Try.ntmps16
  go_wp2_with (go_at_call 14; refine h.mono ?_; rintro e w' ⟨rfl, rfl⟩)
  go_ret2
  exact ⟨rfl, rfl⟩
set_option maxHeartbeats 4000000 in
set_option maxRecDepth 100000 in
theorem Put_nil (w : World) (s : ByteArray) (v : Int) : Calls Try.prog 11 #[.pointer none, .string s, vl v] w fun e w' => e = .returned (.tuple #[.string ⟨#[]⟩, .bool false, .int .i64 1]) ∧ w' = w := by
  unfold vl
  go_enter Try.func11, Try.ntmps11
  go_wp2
  go_ret3
  exact ⟨rfl, rfl⟩
set_option maxHeartbeats 4000000 in
set_option maxRecDepth 100000 in
theorem Clear_nil (w : World) : Calls Try.prog 33 #[.pointer none] w fun e w' => (∃ v, e = .returned v) ∧ w' = w := by
  go_enter Try.func33, Try.ntmps33
  go_wp2
  (try simp only [Exit.inBlock, Exit.then])
  refine bodyPost_ret (results_none rfl _ _ _) rfl ?_
  exact ⟨⟨_, rfl⟩, rfl⟩
set_option maxHeartbeats 4000000 in
set_option maxRecDepth 100000 in
theorem Drop_nil (w : World) (s : ByteArray) : Calls Try.prog 19 #[.pointer none, .string s] w fun e w' => e = .returned (.bool false) ∧ w' = w := by
  go_enter Try.func19, Try.ntmps19
  go_wp2
  go_ret
  exact ⟨rfl, rfl⟩
set_option maxHeartbeats 4000000 in
set_option maxRecDepth 100000 in
theorem Len_nil (w : World) : Calls Try.prog 17 #[.pointer none] w fun e w' => e = .returned (.int .i64 0) ∧ w' = w := by
  go_enter Try.func17, Try.ntmps17
  go_wp2
  go_ret
  exact ⟨rfl, rfl⟩
set_option maxHeartbeats 4000000 in
set_option maxRecDepth 100000 in
theorem nodes_nil (w : World) : Calls Try.prog 36 #[.pointer none] w fun e w' => e = .returned (.slice none 0 0) ∧ w' = w := by
  go_enter Try.func36, Try.ntmps36
  go_wp2
  go_ret
  exact ⟨rfl, rfl⟩
set_option maxHeartbeats 4000000 in
set_option maxRecDepth 100000 in
theorem Keys_nil (w : World) : Calls Try.prog 12 #[.pointer none] w fun e w' => e = .returned (.slice none 0 0) ∧ w' = w := by
  have h := nodes_nil w
  go_enter Try.func12, Try.ntmps12
  go_wp2_with (go_at_call 36; refine h.mono ?_; rintro e w1 ⟨rfl, rfl⟩)
  go_loopg [3, 9] 0 (fun kq v3 v9 w' => v3 = .slice none 0 0 ∧ v9 = .int .i64 0 ∧ w' = w1)
  case atStart => exact ⟨rfl, rfl, rfl⟩
  case round =>
    obtain ⟨rfl, rfl, rfl⟩ := hrel
    go_wp2
    go_ret
    exact ⟨rfl, rfl⟩
theorem nodes_nil' (w : World) : Calls Try.prog 36 #[.pointer none] w fun e w' => ∃ v ns, e = .returned v ∧ Kd.R kN NT w' w.heap.size (fun _ => True) v ns ∧ nkv ns = [] ∧ Below w.heap.size w w' := by
  refine (nodes_nil w).mono ?_
  rintro e w' ⟨rfl, rfl⟩
  exact ⟨_, [], rfl, Kd.R_nil _ _ _ _ _, rfl, Below.refl _ _⟩
end Go.Proofs.Ytfmaoaigljjhgaa.Lru
