/- The walk of the law ClockNames: a call of it, which takes no argument, returns true in whatever memory. Its callees are taken by their printed contracts. -/
import Derived.Test.YtnbjogebdjjepaaPClockNamesx1
namespace Go.Proofs.Ytnbjogebdjjepaa.PClockNames
open Go.RowKit Go.Proofs.YtnbjogebdjjepaaW.PrintWords Go.Proofs.YtnbjogebdjjepaaW.PrintLast Go.Proofs.YtnbjogebdjjepaaW.PrintMore
theorem e1 : nameplatelaw12_lives.f = some true := by decide +kernel
theorem e2 : clock_Add.f 9 1099511627775 1 = some (1099511627776, 0) := by decide +kernel
theorem e3 : clock_Add.f 9 1099511627776 1 = some (0, 3) := by decide +kernel
theorem e4 : clock_Add.f 9 0 (-1) = some (0, 2) := by decide +kernel
theorem e5 : clock_Age.f 5 4 = some (0, 2) := by decide +kernel
theorem e6 : clock_Age.f 4 9 = some (5, 0) := by decide +kernel
theorem e7 : clock_Left.f 5 10 9 = some (0, false) := by decide +kernel
theorem e8 : clock_First.f 9 [3, 1, 2, 1] = some (1, true) := by decide +kernel
theorem e9 : clock_First.f 9 [] = some (0, false) := by decide +kernel
theorem e10 : clock_Past.f 5 5 = some true := by decide +kernel
theorem e11 : clock_Past.f 5 4 = some false := by decide +kernel
theorem e12 : clock_Check.f (-1) = some 2 := by decide +kernel
theorem e13 : clock_Check.f 1099511627776 = some 0 := by decide +kernel
theorem e14 : clock_Clamp.f 0 3 9 = some 3 := by decide +kernel

theorem row4 (W : World) (e : TypeId) (g : Nat) (hg : g = W.heap.size) : Kd.C (Kd.int .i64) (W.alloc (.cells #[.int .i64 3, .int .i64 1, .int .i64 2, .int .i64 1] e)) (some ⟨g, 0, none⟩) ([3, 1, 2, 1] : List Int).length [3, 1, 2, 1] := by
  subst hg
  have h := own_lit_of (enc := Value.int .i64) W 0 e ([3, 1, 2, 1] : List Int) (Nat.zero_le _) (by decide)
  obtain ⟨A, c, e, hr⟩ := own_reads_of (d := 0) h
  cases e
  exact Kd.C_of_reads (d := 0) hr

theorem first_nil (w : World) : Calls Try.prog 15 #[.slice none 0 0] w fun e w' => e = .returned (.tuple #[.int .i64 0, .bool false]) ∧ Below w.heap.size w w' :=
  clock_First.calls 9 none 0 [] 0 false w (Kd.C_nil _ _) (Nat.le_refl _) e9
theorem first_four (g : Nat) (W : World) (e : TypeId) (hg : g = W.heap.size) :
    Calls Try.prog 15 #[.slice (some ⟨g, 0, none⟩) 4 4] (W.alloc (.cells #[.int .i64 3, .int .i64 1, .int .i64 2, .int .i64 1] e)) fun e' w' => e' = .returned (.tuple #[.int .i64 1, .bool true]) ∧ Below (W.alloc (.cells #[.int .i64 3, .int .i64 1, .int .i64 2, .int .i64 1] e)).heap.size (W.alloc (.cells #[.int .i64 3, .int .i64 1, .int .i64 2, .int .i64 1] e)) w' :=
  clock_First.calls 9 _ 4 [3, 1, 2, 1] 1 true _ (row4 W e g hg) (Nat.le_refl _) e8

set_option maxHeartbeats 1000000 in
set_option maxRecDepth 100000 in
theorem walk_ (w : World) : Calls Try.prog 7 #[] w fun e w' => e = .returned (.bool true) ∧ Below w.heap.size w w' := by
  have HB := Aside0.mk (Below.refl w.heap.size w)
  go_enter Try.func7, Try.ntmps7
  go_wp2_with (first
    | (go_at_call 9; (with_reducible refine (nameplatelaw12_lives.calls true _ e1).mono ?_); rintro e w' ⟨rfl, hb⟩; have n0_ := Aside0.mk (below_step (by repeat (first | (with_reducible first | exact HB.out | apply below_alloc | apply pw_below_drewN | apply below_drew1) | exact HB.out)) hb); clear HB hb; have HB := n0_; clear n0_)
    | (go_at_call 11; (with_reducible refine (clock_Add.calls 9 1099511627775 1 _ _ _ e2).mono ?_); rintro e w' ⟨rfl, ⟨nd, rfl⟩⟩)
    | (go_at_call 11; (with_reducible refine (clock_Add.calls 9 1099511627776 1 _ _ _ e3).mono ?_); rintro e w' ⟨rfl, ⟨nd, rfl⟩⟩)
    | (go_at_call 11; (with_reducible refine (clock_Add.calls 9 0 (-1) _ _ _ e4).mono ?_); rintro e w' ⟨rfl, ⟨nd, rfl⟩⟩)
    | (go_at_call 12; (with_reducible refine (clock_Age.calls 5 4 _ _ _ e5).mono ?_); rintro e w' ⟨rfl, ⟨nd, rfl⟩⟩)
    | (go_at_call 12; (with_reducible refine (clock_Age.calls 4 9 _ _ _ e6).mono ?_); rintro e w' ⟨rfl, ⟨nd, rfl⟩⟩)
    | (go_at_call 13; (with_reducible refine (clock_Left.calls 5 10 9 _ _ _ e7).mono ?_); rintro e w' ⟨rfl, ⟨nd, rfl⟩⟩)
    | (go_at_call 15; (with_reducible refine (first_four _ _ 2 ?hg).mono ?_); (case hg => simp); rintro e w' ⟨rfl, hb⟩; have n0_ := Aside0.mk (below_step (by repeat (first | (with_reducible first | exact HB.out | apply below_alloc | apply pw_below_drewN | apply below_drew1) | exact HB.out)) hb); clear HB hb; have HB := n0_; clear n0_)
    | (go_at_call 15; (with_reducible refine (first_nil _).mono ?_); rintro e w' ⟨rfl, hb⟩; have n0_ := Aside0.mk (below_step (by repeat (first | (with_reducible first | exact HB.out | apply below_alloc | apply pw_below_drewN | apply below_drew1) | exact HB.out)) hb); clear HB hb; have HB := n0_; clear n0_)
    | (go_at_call 14; (with_reducible refine (clock_Past.calls 5 5 _ _ e10).mono ?_); rintro e w' ⟨rfl, ⟨nd, rfl⟩⟩)
    | (go_at_call 14; (with_reducible refine (clock_Past.calls 5 4 _ _ e11).mono ?_); rintro e w' ⟨rfl, ⟨nd, rfl⟩⟩)
    | (go_at_call 16; (with_reducible refine (clock_Check.calls (-1) _ _ e12).mono ?_); rintro e w' ⟨rfl, ⟨nd, rfl⟩⟩)
    | (go_at_call 16; (with_reducible refine (clock_Check.calls 1099511627776 _ _ e13).mono ?_); rintro e w' ⟨rfl, ⟨nd, rfl⟩⟩)
    | (go_at_call 10; (with_reducible refine (clock_Clamp.calls 0 3 9 _ _ e14).mono ?_); rintro e w' ⟨rfl, hb⟩; have n0_ := Aside0.mk (below_step (by repeat (first | (with_reducible first | exact HB.out | apply below_alloc | apply pw_below_drewN | apply below_drew1) | exact HB.out)) hb); clear HB hb; have HB := n0_; clear n0_))
  go_ret
  exact ⟨rfl, by repeat (first | (with_reducible first | exact HB.out | apply below_alloc | apply pw_below_drewN | apply below_drew1) | exact HB.out)⟩
end Go.Proofs.Ytnbjogebdjjepaa.PClockNames
