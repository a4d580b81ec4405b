/- The law LruNil, walked: a list that nobody made answers ErrNil, and nothing. -/
import Derived.Test.YtfmaoaigljjhgaaLruB
import Derived.Shelf.Abstract
import Derived.Test.YtfmaoaigljjhgaaLru9
namespace Go.Proofs.Ytfmaoaigljjhgaa.Lru
open Go Go.RowKit Go.Maps Go.Proofs.YtfmaoaigljjhgaaW.PrintWords

set_option maxHeartbeats 8000000 in
set_option maxRecDepth 100000 in
theorem LruNil_in (n : Nat) (hn : 5 ≤ n) (a0 : ByteArray) (a1 : Int) (w : World) :
    CallsIn Fence.wide n Try.prog 8 #[.string a0, .int .i64 a1] w fun e W' => e = .returned (.bool true) ∧ Below w.heap.size w W' := by
  have h1 : 1 ≤ n := by omega
  refine callsIn_of_wp_marks Try.func8 rfl trivial ?_ rfl
  simp only [Try.ntmps8, List.size_toArray, List.length_cons, List.length_nil, Nat.reduceAdd, Nat.reduceSub, Array.replicate_succ, Array.replicate_zero, List.push_toArray, List.append_toArray, List.nil_append, List.cons_append]
  have hfn := run_func_there
  gi_wp2_with (first
    | (refine ⟨trivial, ?_⟩; gi_at_call 9; (refine (callsIn_wide.2 (lives_calls _)).mono ?_); rintro e w1 ⟨rfl, hb1⟩; have HB1 := Aside0.mk hb1; clear hb1)
    | (refine ⟨trivial, ?_⟩; gi_at_call 16; (refine (callsIn_wide.2 (Get_nil _ a0)).mono ?_); rintro e w2 ⟨rfl, rfl⟩; unfold vl)
    | (refine ⟨trivial, ?_⟩; gi_at_call 14; (refine (callsIn_wide.2 (Look_nil _ a0)).mono ?_); rintro e w3 ⟨rfl, rfl⟩; unfold vl)
    | (refine ⟨trivial, ?_⟩; gi_at_call 11; (refine (callsIn_wide.2 (Put_nil _ a0 a1)).mono ?_); rintro e w4 ⟨rfl, rfl⟩)
    | (refine ⟨trivial, ?_⟩; gi_at_call 33; (refine (callsIn_wide.2 (Clear_nil _)).mono ?_); rintro e w5 ⟨⟨v5, rfl⟩, rfl⟩)
    | (refine ⟨trivial, ?_⟩; gi_at_call 18; (refine (All_calls (n - 1) none _).mono ?_); rintro e w6 ⟨rfl, rfl⟩))
  clear hfn
  have hbx : ((w5.alloc (.cells #[.int .i64 0] 3)).alloc (.cells #[.pointer none] 24)).cell? ⟨w5.heap.size + 1, 0, none⟩ = some (.pointer none) := by
    simp
  have hb0 : Boxed ((w5.alloc (.cells #[.int .i64 0] 3)).alloc (.cells #[.pointer none] 24)) w5.heap.size 3 (.int .i64 0) := (Boxed.new w5 3 (.int .i64 0)).kept (World.grownBy_alloc _ _ none) (by simp)
  have hB0 : Below w.heap.size w ((w5.alloc (.cells #[.int .i64 0] 3)).alloc (.cells #[.pointer none] 24)) := (HB1.out.alloc HB1.out.size _).alloc (by have := HB1.out.size; simp; omega) _
  have hseq := all1_stops (n - 1) (by omega) (w5.heap.size + 1) none [] (by simp) ((w5.alloc (.cells #[.int .i64 0] 3)).alloc (.cells #[.pointer none] 24)) (by simp) hbx (fun W _ => nodes_nil' W)
  refine wp_range_skip rfl h1 (gf := 38) (lb := #[.pointer (some ⟨w5.heap.size + 1, 0, none⟩)]) rfl trivial (enters_of Try.func38 (by kernel_rfl) rfl) hseq (fun a b => a.trans b) (fun W l o o' _ hl hc _ => KpC.put W l o o' hl hc) (Below.refl _ _) (fun _ => rfl)
    (fun pre W => Boxed W w5.heap.size 3 (.int .i64 0) ∧ Below w.heap.size w W)
    (fun _ _ _ => False)
    (OwnFrom.and (Own.from (boxed_own _ _ _) _) (ownFrom_below (Nat.le_refl _) (by have := HB1.out.size; simp; omega)))
    (fun _ _ _ _ _ hs _ _ => hs)
    ⟨hb0, hB0⟩
    ?body ?done ?stop
  case body =>
    intro l pre x W _ hlt
    exact absurd hlt (by simp)
  case done =>
    rintro D ys W hD hys ⟨hv, hB⟩ hK
    have hc := hv.cell
    gi_wp2_with (first
      | (refine ⟨trivial, ?_⟩; gi_at_call 19; (refine (callsIn_wide.2 (Drop_nil _ a0)).mono ?_); rintro e w7 ⟨rfl, rfl⟩)
      | (refine ⟨trivial, ?_⟩; gi_at_call 17; (refine (callsIn_wide.2 (Len_nil _)).mono ?_); rintro e w8 ⟨rfl, rfl⟩)
      | (refine ⟨trivial, ?_⟩; gi_at_call 12; (refine (callsIn_wide.2 (Keys_nil _)).mono ?_); rintro e w9 ⟨rfl, rfl⟩))
    refine ⟨by simp, .inl ⟨_, _, rfl, run_takeDeferred hK, ?_⟩⟩
    exact ⟨_, results_tmp rfl _ _ _, rfl, hB.trans (belowK_b (w := w) (Nat.le_refl _) _ D _ _ (by have := HB1.out.size; simp at hD; omega) hK rfl rfl)⟩
  case stop =>
    rintro D c pre W _ _ h _
    exact h.elim
theorem LruNil_calls (a0 : ByteArray) (a1 : Int) (w : World) : Calls Try.prog 8 #[.string a0, .int .i64 a1] w fun e W' => e = .returned (.bool true) ∧ Below w.heap.size w W' := callsIn_wide.1 (LruNil_in 5 (Nat.le_refl _) a0 a1 w)
end Go.Proofs.Ytfmaoaigljjhgaa.Lru
