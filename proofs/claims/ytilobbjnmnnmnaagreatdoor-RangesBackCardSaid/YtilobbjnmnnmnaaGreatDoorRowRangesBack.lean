/- The row of the law RangesBack, and its card: whatever the arguments, its call returns true, and nothing that was there before has turned. Condition: the listed variables of Go's library read as they are laid; the card ties them to the program's text. -/
import Derived.Test.YtilobbjnmnnmnaaGreatDoorRows
import Derived.Test.YtilobbjnmnnmnaaGreatDoorCards
import Derived.Test.YtilobbjnmnnmnaaGreatDoorTie
import Derived.Test.YtilobbjnmnnmnaaGreatDoorPureRangesBack
import Derived.Test.YtilobbjnmnnmnaaGreatDoorAddrCard
import Derived.Test.YtilobbjnmnnmnaaGreatDoorRangeOpen
import Derived.WalkKit
import Derived.ProofKit
import Derived.OpenShut
import Derived.ShutString
import Derived.ChangeOld
import Derived.Below
import Derived.SizedLaws
import Derived.LaidMore
import Derived.Lay
import Derived.SevenTiedAt
import Derived.Stop.Joined
namespace Go.Proofs.YtilobbjnmnnmnaaGreatDoor.rangesBack
open Go.ChangeShapes Go.WideShapes Go.ChangeAt Go.RowKit
open Go.ChangeMaps (open_string shut_string)
set_option linter.unusedVariables false
theorem own : ownKnob Tryz.prog.godebug = none := by kernel_rfl
theorem laidOut : laidOutB Tryz.prog = true := by kernel_rfl
set_option maxRecDepth 100000 in
theorem lifted (os : Os) (started : os.Started) (H : Type) (enc : TypeId × Value → H) :
    ReturnsInHanded {} Tryz.checked os 5 .any (fun w args => (Rows.rangesBackSpec.pre enc Tryz.prog Tryz.f5 Rows.rangesBackRow.domain false w args ∧ laidMetH Tryz.prog Rows.rangesBackRow.laid w) ∧ sizedMet enc Tryz.prog Tryz.f5 (OpenSpec.ofChange Rows.rangesBackSpec) false w args) (Rows.rangesBackSpec.post enc Tryz.prog Tryz.f5 false true false false) := by
  refine AddrLib.handed_shaped (C := Tryz.checked) (X := (fun w _ => laidMetH Tryz.prog Rows.rangesBackRow.laid w)) (fun _ _ _ hh h => h.of_heap hh) own started (by kernel_rfl) Tryz.func5
    (ChangeSpec.witness_shaped (enc := enc) (C := Tryz.checked) (os := os) (X := (fun w _ => laidMetH Tryz.prog Rows.rangesBackRow.laid w)) false (World.laidAll Tryz.prog os Rows.rangesBackRow.laid) #[.agg #[.bool false, .int .u64 0, .int .u64 0, .int .i64 0], .int .i64 0] 8 (World.laidAll_os _ _ _)
      (World.shaped_of_ZipB (by kernel_rfl) (by kernel_rfl)) (by kernel_rfl) (by kernel_rfl) (by kernel_rfl)
      (by rw [MakeChecks.laidMetH_plain _ _ _ (by kernel_rfl)]; exact laidMet_laidAll _ (by kernel_rfl) (by kernel_rfl))) ?_
  intro W base args ds gs before hval0 hW hcnd hsz0 hL hS _
  have hval : ∀ (j : Nat) t v, Tryz.f5.params[j]? = some t → args[j]? = some v → Value.okWide Tryz.prog W .any base t v := hval0
  have hW' := hW
  obtain ⟨p, q, hA0, hV, rfl, hfz, hnd⟩ := hW
  have hA : DataW.TrodAll enc Tryz.prog W 0 (fun _ => true) true Tryz.f5.params.toList args.toList ds p := hA0
  rw [Tryz.params5] at hA hval
  obtain ⟨v0, vs0, d0, ds0, p0, q0, hargs, rfl, rfl, h0, r0⟩ := trodAll_cons hA
  obtain ⟨v1, vs1, d1, ds1, p1, q1, rfl, rfl, rfl, h1, r1⟩ := trodAll_cons r0
  obtain ⟨rfl, rfl, rfl⟩ := trodAll_nil r1
  obtain rfl : args = #[v0, v1] := by cases args; simp_all
  obtain ⟨rfl, rfl⟩ := trodVars_none hV
  have k0 := h0
  have lt0 : ∀ x ∈ p0, x.block < W.heap.size := by obtain ⟨m, hm⟩ := k0; exact DataW.trod_lt m _ _ _ hm
  obtain ⟨s0, x0, y0, b0, rfl, ux0, uy0, ub0⟩ := RangeOpen.open_range (hval 0 26 v0 rfl rfl) h0
  obtain ⟨a1, rfl, rfl, rfl, w1⟩ := open_int Tryz.underlying3 (hval 1 3 v1 rfl rfl) h1
  clear hA0 hval0 hsz0
  refine (RangeFns.calls_row s0 x0 y0 b0 a1 W (AddrLib.G_of hL (by kernel_rfl) (.tail _ (.head _)) (.tail _ (.tail _ (.head _))) hS) ux0 uy0 ub0 (RangeOpen.wf_i64 w1)).mono fun e W' ⟨he, bel⟩ => ?_
  subst he
  exact ⟨_, rfl, _, _, _, [], _, [], hW', trodAll_mk1 (shut_bool Tryz.underlying4 _), (trodAll_cons_mk (Below.trod laidOut (by kernel_rfl) (of_decide_eq_true (by kernel_rfl)) k0 bel lt0) (trodAll_cons_mk (shut_int Tryz.underlying3 w1) trodAll_mk0)), rfl, bel.frame _, fun h => by cases h⟩
theorem over : Rows.rangesBackRow.holds Tryz.pinned (OpenSpec.ofChange Rows.rangesBackSpec) :=
  OpenClaim.holds_of_wide 5 Tryz.f5 rfl rfl rfl rfl rfl rfl rfl ⟨rfl, rfl, rfl, rfl, rfl⟩ rfl rfl rfl rfl rfl (by kernel_rfl) Tryz.func5 (by kernel_rfl)
    (of_decide_eq_true (by kernel_rfl)) (by unfold Func.isWrapper; first | (rw [if_pos (by decide +kernel)]; kernel_rfl) | (rw [if_neg (by decide +kernel)]; exact ⟨rfl, rfl⟩))
    (fun os started H enc _ => lifted os started H enc)
theorem proved : Rows.RangesBackCardSaid :=
  Claim7.holds_tied_plain_at .later [] [.data, .data, .data, .data, .sentinel, .sentinel, .pinned, .pinned] true (true, "dc1db9fd7855f0792e11684efd5e72d0e347d8426c08a81858de443ebdfcabce") true over (fun _ h => by cases h) (by kernel_rfl) (fun _ h => by cases h) rangesBack_row_tie rfl ⟨rfl, rfl⟩ (by kernel_rfl) rfl
    (fun f fn hf hfn => by
      obtain rfl : f = 5 := Option.some.inj ((show Tryz.prog.funcNamed "nameplate/nameplatelaw05.RangesBack" = some 5 by kernel_rfl).symm.trans hf) |>.symm
      obtain rfl : fn = Tryz.f5 := (Option.some.inj (Tryz.func5.symm.trans hfn)).symm
      exact ⟨by kernel_rfl, fun j t ht => by
        rw [Tryz.params5] at ht
        have hm : t ∈ ([26, 3] : List Nat) := by simpa using Array.mem_of_getElem? ht
        have hall : (([26, 3] : List Nat).all fun u => !Tryz.prog.wantsStandIn u) = true := by kernel_rfl
        exact (show Tryz.prog.wantsStandIn t = false by simpa using List.all_eq_true.1 hall t hm)⟩)
    (by kernel_rfl)
#print axioms proved
end Go.Proofs.YtilobbjnmnnmnaaGreatDoor.rangesBack
namespace Go.Proofs.YtilobbjnmnnmnaaGreatDoor
/-- The card, under a short name, for the claim. -/
theorem rangesBack_holds : Rows.RangesBackCardSaid := rangesBack.proved
end Go.Proofs.YtilobbjnmnnmnaaGreatDoor
