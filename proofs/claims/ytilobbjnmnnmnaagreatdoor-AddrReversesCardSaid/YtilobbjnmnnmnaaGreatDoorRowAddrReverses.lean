/- The row of the law AddrReverses, and its card: whatever the arguments, its call returns true, and nothing that was there before has turned. Condition: the listed variables of Go's library read as they are laid; the card ties them to the program's text. -/
import Derived.Test.YtilobbjnmnnmnaaGreatDoorRows
import Derived.Test.YtilobbjnmnnmnaaGreatDoorCards
import Derived.Test.YtilobbjnmnnmnaaGreatDoorTie
import Derived.Test.YtilobbjnmnnmnaaGreatDoorPureAddrReverses
import Derived.Test.YtilobbjnmnnmnaaGreatDoorAddrCard
import Derived.Test.YtilobbjnmnnmnaaGreatDoorRangeOpen
import Derived.WalkKit
import Derived.ProofKit
import Derived.OpenShut
import Derived.ShutString
import Derived.ChangeOld
import Derived.Below
import Derived.SizedLaws
import Derived.LaidMore
import Derived.Lay
import Derived.SevenTiedAt
import Derived.Stop.Joined
namespace Go.Proofs.YtilobbjnmnnmnaaGreatDoor.addrReverses
open Go.ChangeShapes Go.WideShapes Go.ChangeAt Go.RowKit
open Go.ChangeMaps (open_string shut_string)
set_option linter.unusedVariables false
theorem own : ownKnob Tryz.prog.godebug = none := by kernel_rfl
theorem laidOut : laidOutB Tryz.prog = true := by kernel_rfl
set_option maxRecDepth 100000 in
theorem lifted (os : Os) (started : os.Started) (H : Type) (enc : TypeId × Value → H) :
    ReturnsInHanded {} Tryz.checked os 8 .any (fun w args => (Rows.addrReversesSpec.pre enc Tryz.prog Tryz.f8 Rows.addrReversesRow.domain false w args ∧ laidMetH Tryz.prog Rows.addrReversesRow.laid w) ∧ sizedMet enc Tryz.prog Tryz.f8 (OpenSpec.ofChange Rows.addrReversesSpec) false w args) (Rows.addrReversesSpec.post enc Tryz.prog Tryz.f8 false true false false) := by
  refine AddrLib.handed_shaped (C := Tryz.checked) (X := (fun w _ => laidMetH Tryz.prog Rows.addrReversesRow.laid w)) (fun _ _ _ hh h => h.of_heap hh) own started (by kernel_rfl) Tryz.func8
    (ChangeSpec.witness_shaped (enc := enc) (C := Tryz.checked) (os := os) (X := (fun w _ => laidMetH Tryz.prog Rows.addrReversesRow.laid w)) false (World.laidAll Tryz.prog os Rows.addrReversesRow.laid) #[.agg #[.bool false, .int .u64 0, .int .u64 0], .agg #[.bool false, .int .u64 0, .int .u64 0]] 8 (World.laidAll_os _ _ _)
      (World.shaped_of_ZipB (by kernel_rfl) (by kernel_rfl)) (by kernel_rfl) (by kernel_rfl) (by kernel_rfl)
      (by rw [MakeChecks.laidMetH_plain _ _ _ (by kernel_rfl)]; exact laidMet_laidAll _ (by kernel_rfl) (by kernel_rfl))) ?_
  intro W base args ds gs before hval0 hW hcnd hsz0 hL hS _
  have hval : ∀ (j : Nat) t v, Tryz.f8.params[j]? = some t → args[j]? = some v → Value.okWide Tryz.prog W .any base t v := hval0
  have hW' := hW
  obtain ⟨p, q, hA0, hV, rfl, hfz, hnd⟩ := hW
  have hA : DataW.TrodAll enc Tryz.prog W 0 (fun _ => true) true Tryz.f8.params.toList args.toList ds p := hA0
  rw [Tryz.params8] at hA hval
  obtain ⟨v0, vs0, d0, ds0, p0, q0, hargs, rfl, rfl, h0, r0⟩ := trodAll_cons hA
  obtain ⟨v1, vs1, d1, ds1, p1, q1, rfl, rfl, rfl, h1, r1⟩ := trodAll_cons r0
  obtain ⟨rfl, rfl, rfl⟩ := trodAll_nil r1
  obtain rfl : args = #[v0, v1] := by cases args; simp_all
  obtain ⟨rfl, rfl⟩ := trodVars_none hV
  have k0 := h0
  have lt0 : ∀ x ∈ p0, x.block < W.heap.size := by obtain ⟨m, hm⟩ := k0; exact DataW.trod_lt m _ _ _ hm
  obtain ⟨s0, x0, y0, rfl, ux0, uy0⟩ := RangeOpen.open_addr (hval 0 24 v0 rfl rfl) h0
  have k1 := h1
  have lt1 : ∀ x ∈ p1, x.block < W.heap.size := by obtain ⟨m, hm⟩ := k1; exact DataW.trod_lt m _ _ _ hm
  obtain ⟨s1, x1, y1, rfl, ux1, uy1⟩ := RangeOpen.open_addr (hval 1 24 v1 rfl rfl) h1
  clear hA0 hval0 hsz0
  refine (AddrFns.calls_row s0 x0 y0 s1 x1 y1 W (AddrLib.G_of hL (by kernel_rfl) (.tail _ (.head _)) (.tail _ (.tail _ (.head _))) hS) ux0 uy0 ux1 uy1).mono fun e W' ⟨he, bel⟩ => ?_
  subst he
  exact ⟨_, rfl, _, _, _, [], _, [], hW', trodAll_mk1 (shut_bool Tryz.underlying4 _), (trodAll_cons_mk (Below.trod laidOut (by kernel_rfl) (of_decide_eq_true (by kernel_rfl)) k0 bel lt0) (trodAll_cons_mk (Below.trod laidOut (by kernel_rfl) (of_decide_eq_true (by kernel_rfl)) k1 bel lt1) trodAll_mk0)), rfl, bel.frame _, fun h => by cases h⟩
theorem over : Rows.addrReversesRow.holds Tryz.pinned (OpenSpec.ofChange Rows.addrReversesSpec) :=
  OpenClaim.holds_of_wide 8 Tryz.f8 rfl rfl rfl rfl rfl rfl rfl ⟨rfl, rfl, rfl, rfl, rfl⟩ rfl rfl rfl rfl rfl (by kernel_rfl) Tryz.func8 (by kernel_rfl)
    (of_decide_eq_true (by kernel_rfl)) (by unfold Func.isWrapper; first | (rw [if_pos (by decide +kernel)]; kernel_rfl) | (rw [if_neg (by decide +kernel)]; exact ⟨rfl, rfl⟩))
    (fun os started H enc _ => lifted os started H enc)
theorem proved : Rows.AddrReversesCardSaid :=
  Claim7.holds_tied_plain_at .later [] [.data, .data, .data, .data, .sentinel, .sentinel, .pinned, .pinned] true (true, "dc1db9fd7855f0792e11684efd5e72d0e347d8426c08a81858de443ebdfcabce") true over (fun _ h => by cases h) (by kernel_rfl) (fun _ h => by cases h) addrReverses_row_tie rfl ⟨rfl, rfl⟩ (by kernel_rfl) rfl
    (fun f fn hf hfn => by
      obtain rfl : f = 8 := Option.some.inj ((show Tryz.prog.funcNamed "nameplate/nameplatelaw04.AddrReverses" = some 8 by kernel_rfl).symm.trans hf) |>.symm
      obtain rfl : fn = Tryz.f8 := (Option.some.inj (Tryz.func8.symm.trans hfn)).symm
      exact ⟨by kernel_rfl, fun j t ht => by
        rw [Tryz.params8] at ht
        have hm : t ∈ ([24, 24] : List Nat) := by simpa using Array.mem_of_getElem? ht
        have hall : (([24, 24] : List Nat).all fun u => !Tryz.prog.wantsStandIn u) = true := by kernel_rfl
        exact (show Tryz.prog.wantsStandIn t = false by simpa using List.all_eq_true.1 hall t hm)⟩)
    (by kernel_rfl)
#print axioms proved
end Go.Proofs.YtilobbjnmnnmnaaGreatDoor.addrReverses
namespace Go.Proofs.YtilobbjnmnnmnaaGreatDoor
/-- The card, under a short name, for the claim. -/
theorem addrReverses_holds : Rows.AddrReversesCardSaid := addrReverses.proved
end Go.Proofs.YtilobbjnmnnmnaaGreatDoor
