/- This text proves, for each Go function named below, which plain Lean function its call computes, in whatever memory; a program of this session has written it. -/
import Derived.Test.YtfpdmmpjoejmiaaOCallsx0
import Derived.Test.YtfpdmmpjoejmiaaOCallsx1
import Derived.Test.YtfpdmmpjoejmiaaOCallsx2
import Derived.Test.YtfpdmmpjoejmiaaOCallsx3
import Derived.Test.YtfpdmmpjoejmiaaOCallsx4
import Derived.Test.YtfpdmmpjoejmiaaOCallsx5
import Derived.Test.YtfpdmmpjoejmiaaOCallsx6
import Derived.Test.YtfpdmmpjoejmiaaOCallsx8
import Derived.Test.YtfpdmmpjoejmiaaOCallsx9
import Derived.Test.YtfpdmmpjoejmiaaOCallsx10
import Derived.Test.YtfpdmmpjoejmiaaOCallsx11
import Derived.Test.YtfpdmmpjoejmiaaOCallsx12
namespace Go.Proofs.Ytfpdmmpjoejmiaa.OCalls
open Go.RowKit Go.Proofs.YtfpdmmpjoejmiaaW.PrintWords Go.Proofs.YtfpdmmpjoejmiaaW.PrintLast Go.Proofs.YtfpdmmpjoejmiaaW.PrintMore
attribute [local go_sem] max2_int min2_int max_two min_two max_three min_three max_four min_four   -- for this text's walks alone
set_option linter.unusedVariables false
set_option linter.unusedSimpArgs false

/-! ### nameplatelaw02_NameCalls: function 3 -/
mutual
def nameplatelaw02_NameCalls.j0 : Nat → ByteArray → ByteArray → List ByteArray → ByteArray → Bool → Option (Bool)
  | 0, _, _, _, _, _ => none
  | k + 1, x0, x1, x2, x3, x49 => if x49 = true then (some true) else (nameplatelaw02_NameCalls.l0 k x0 x1 x2 x3 0)
def nameplatelaw02_NameCalls.l0 : Nat → ByteArray → ByteArray → List ByteArray → ByteArray → Int → Option (Bool)
  | 0, _, _, _, _, _ => none
  | k + 1, x0, x1, x2, x3, x9 => if x9 < (x2.length : Int) then (if 0 ≤ x9 then (if ((rdOf ByteArray.empty x2 x9).size : Int) > 400 then (some true) else (nameplatelaw02_NameCalls.l0 k x0 x1 x2 x3 (wrap64 (x9 + 1)))) else (none)) else ((name_Make.f x2).bind fun bt301 => ((nameplateref02_Make.f k x2).bind fun bt303 => ((name_Text.f k x0).bind fun bt305 => ((nameplateref02_Text.f k x0).bind fun bt307 => ((name_Read.f k x3).bind fun bt309 => ((nameplateref02_Read.f k x3).bind fun bt311 => ((name_Parent.f k x0).bind fun bt313 => ((nameplateref02_Parent.f k x0).bind fun bt315 => ((name_Join.f k x0 x1).bind fun bt317 => ((nameplateref02_Join.f k x0 x1).bind fun bt319 => (if bt301.1.toList = bt303.1.toList then (if bt301.2 = bt303.2 then (if bt305.1.toList = bt307.1.toList then (if bt305.2 = bt307.2 then (if bt309.1.toList = bt311.1.toList then (if bt309.2 = bt311.2 then (if bt313.1.toList = bt315.1.toList then (if (bt313.2 != bt315.2) = true then (nameplatelaw02_NameCalls.j2 k x0 x1 true) else (if bt317.1.toList = bt319.1.toList then (nameplatelaw02_NameCalls.j2 k x0 x1 (bt317.2 != bt319.2)) else (nameplatelaw02_NameCalls.j2 k x0 x1 true))) else (nameplatelaw02_NameCalls.j2 k x0 x1 true)) else (nameplatelaw02_NameCalls.j2 k x0 x1 true)) else (nameplatelaw02_NameCalls.j2 k x0 x1 true)) else (nameplatelaw02_NameCalls.j2 k x0 x1 true)) else (nameplatelaw02_NameCalls.j2 k x0 x1 true)) else (nameplatelaw02_NameCalls.j2 k x0 x1 true)) else (nameplatelaw02_NameCalls.j2 k x0 x1 true))))))))))))
def nameplatelaw02_NameCalls.j2 : Nat → ByteArray → ByteArray → Bool → Option (Bool)
  | 0, _, _, _ => none
  | k + 1, x0, x1, x161 => if x161 = true then (some false) else ((name_Check.f k x0).bind fun t321 => ((nameplateref02_Check.f k x0).bind fun t322 => (if t321 = t322 then ((name_Labels.f k x0).bind fun t323 => ((nameplateref02_Labels.f k x0).bind fun t326 => ((nameplatekit_Same_string.f k t323 t326).bind fun t329 => (if t329 = true then ((name_Fold.f k x0).bind fun t330 => ((nameplateref02_Fold.f k x0).bind fun t331 => (if t330.toList = t331.toList then ((name_Same.f k x0 x1).bind fun t332 => ((nameplateref02_Same.f k x0 x1).bind fun t333 => (if (t332 == t333) = true then ((name_Compare.f k x0 x1).bind fun t334 => ((nameplateref02_Compare.f k x0 x1).bind fun t335 => (if t334 = t335 then ((name_Under.f k x0 x1).bind fun t336 => ((nameplateref02_Under.f k x0 x1).bind fun t337 => (if (t336 == t337) = true then ((name_Wild.f k x0).bind fun t338 => ((nameplateref02_Wild.f k x0).bind fun t339 => (if (t338 == t339) = true then ((name_Matches.f k x0 x1).bind fun t340 => ((nameplateref02_Matches.f k x0 x1).bind fun t341 => (some (t340 == t341)))) else (some false)))) else (some false)))) else (some false)))) else (some false)))) else (some false)))) else (some false))))) else (some false))))
end
def nameplatelaw02_NameCalls.f (k : Nat) (a0 : ByteArray) (a1 : ByteArray) (l2 : List ByteArray) (a3 : ByteArray) : Option (Bool) := (nameplatelaw02_lives.f k).bind fun t299 => (if t299 = true then (if (a0.size : Int) > 400 then (nameplatelaw02_NameCalls.j0 k a0 a1 l2 a3 true) else (if (a1.size : Int) > 400 then (nameplatelaw02_NameCalls.j0 k a0 a1 l2 a3 true) else (if (l2.length : Int) > 140 then (nameplatelaw02_NameCalls.j0 k a0 a1 l2 a3 true) else (nameplatelaw02_NameCalls.j0 k a0 a1 l2 a3 (decide ((a3.size : Int) > 1600)))))) else (some false))
theorem nameplatelaw02_NameCalls.mono_l : ∀ k, (∀ y0 y1 y2 y3 y4, LeO (nameplatelaw02_NameCalls.j0 k y0 y1 y2 y3 y4) (nameplatelaw02_NameCalls.j0 (k + 1) y0 y1 y2 y3 y4)) ∧ (∀ y0 y1 y2 y3 y4, LeO (nameplatelaw02_NameCalls.l0 k y0 y1 y2 y3 y4) (nameplatelaw02_NameCalls.l0 (k + 1) y0 y1 y2 y3 y4)) ∧ (∀ y0 y1 y2, LeO (nameplatelaw02_NameCalls.j2 k y0 y1 y2) (nameplatelaw02_NameCalls.j2 (k + 1) y0 y1 y2))
  | 0 => ⟨fun _ _ _ _ _ r h => by simp [nameplatelaw02_NameCalls.j0] at h, fun _ _ _ _ _ r h => by simp [nameplatelaw02_NameCalls.l0] at h, fun _ _ _ r h => by simp [nameplatelaw02_NameCalls.j2] at h⟩
  | k + 1 => by
    obtain ⟨ih0, ih1, ih2⟩ := nameplatelaw02_NameCalls.mono_l k
    refine ⟨?_, ?_, ?_⟩
    · intro y0 y1 y2 y3 y4
      unfold nameplatelaw02_NameCalls.j0
      repeat' first
      | (with_reducible exact ih0 _ _ _ _ _)
      | (with_reducible exact ih1 _ _ _ _ _)
      | (with_reducible exact ih2 _ _ _)
      | (with_reducible exact name_Check.mono _ _)
      | (with_reducible exact name_Compare.mono _ _ _)
      | (with_reducible exact name_Fold.mono _ _)
      | (with_reducible exact name_Join.mono _ _ _)
      | (with_reducible exact name_Labels.mono _ _)
      | (with_reducible exact name_Matches.mono _ _ _)
      | (with_reducible exact name_Parent.mono _ _)
      | (with_reducible exact name_Read.mono _ _)
      | (with_reducible exact name_Same.mono _ _ _)
      | (with_reducible exact name_Text.mono _ _)
      | (with_reducible exact name_Under.mono _ _ _)
      | (with_reducible exact name_Wild.mono _ _)
      | (with_reducible exact nameplatekit_Same_string.mono _ _ _)
      | (with_reducible exact nameplatelaw02_lives.mono _)
      | (with_reducible exact nameplateref02_Check.mono _ _)
      | (with_reducible exact nameplateref02_Compare.mono _ _ _)
      | (with_reducible exact nameplateref02_Fold.mono _ _)
      | (with_reducible exact nameplateref02_Join.mono _ _ _)
      | (with_reducible exact nameplateref02_Labels.mono _ _)
      | (with_reducible exact nameplateref02_Make.mono _ _)
      | (with_reducible exact nameplateref02_Matches.mono _ _ _)
      | (with_reducible exact nameplateref02_Parent.mono _ _)
      | (with_reducible exact nameplateref02_Read.mono _ _)
      | (with_reducible exact nameplateref02_Same.mono _ _ _)
      | (with_reducible exact nameplateref02_Text.mono _ _)
      | (with_reducible exact nameplateref02_Under.mono _ _ _)
      | (with_reducible exact nameplateref02_Wild.mono _ _)
      | (with_reducible exact LeO.refl _)
      | (with_reducible exact LeO.none _)
      | (with_reducible refine LeO.ite ?_ ?_)
      | (with_reducible refine LeO.bind ?_ (fun _ => ?_))
      | exact ih0 _ _ _ _ _
      | exact ih1 _ _ _ _ _
      | exact ih2 _ _ _
      | exact name_Check.mono _ _
      | exact name_Compare.mono _ _ _
      | exact name_Fold.mono _ _
      | exact name_Join.mono _ _ _
      | exact name_Labels.mono _ _
      | exact name_Matches.mono _ _ _
      | exact name_Parent.mono _ _
      | exact name_Read.mono _ _
      | exact name_Same.mono _ _ _
      | exact name_Text.mono _ _
      | exact name_Under.mono _ _ _
      | exact name_Wild.mono _ _
      | exact nameplatekit_Same_string.mono _ _ _
      | exact nameplatelaw02_lives.mono _
      | exact nameplateref02_Check.mono _ _
      | exact nameplateref02_Compare.mono _ _ _
      | exact nameplateref02_Fold.mono _ _
      | exact nameplateref02_Join.mono _ _ _
      | exact nameplateref02_Labels.mono _ _
      | exact nameplateref02_Make.mono _ _
      | exact nameplateref02_Matches.mono _ _ _
      | exact nameplateref02_Parent.mono _ _
      | exact nameplateref02_Read.mono _ _
      | exact nameplateref02_Same.mono _ _ _
      | exact nameplateref02_Text.mono _ _
      | exact nameplateref02_Under.mono _ _ _
      | exact nameplateref02_Wild.mono _ _
      | exact LeO.none _
      | refine LeO.ite ?_ ?_
      | refine LeO.bind ?_ (fun _ => ?_)
    · intro y0 y1 y2 y3 y4
      unfold nameplatelaw02_NameCalls.l0
      repeat' first
      | (with_reducible exact ih0 _ _ _ _ _)
      | (with_reducible exact ih1 _ _ _ _ _)
      | (with_reducible exact ih2 _ _ _)
      | (with_reducible exact name_Check.mono _ _)
      | (with_reducible exact name_Compare.mono _ _ _)
      | (with_reducible exact name_Fold.mono _ _)
      | (with_reducible exact name_Join.mono _ _ _)
      | (with_reducible exact name_Labels.mono _ _)
      | (with_reducible exact name_Matches.mono _ _ _)
      | (with_reducible exact name_Parent.mono _ _)
      | (with_reducible exact name_Read.mono _ _)
      | (with_reducible exact name_Same.mono _ _ _)
      | (with_reducible exact name_Text.mono _ _)
      | (with_reducible exact name_Under.mono _ _ _)
      | (with_reducible exact name_Wild.mono _ _)
      | (with_reducible exact nameplatekit_Same_string.mono _ _ _)
      | (with_reducible exact nameplatelaw02_lives.mono _)
      | (with_reducible exact nameplateref02_Check.mono _ _)
      | (with_reducible exact nameplateref02_Compare.mono _ _ _)
      | (with_reducible exact nameplateref02_Fold.mono _ _)
      | (with_reducible exact nameplateref02_Join.mono _ _ _)
      | (with_reducible exact nameplateref02_Labels.mono _ _)
      | (with_reducible exact nameplateref02_Make.mono _ _)
      | (with_reducible exact nameplateref02_Matches.mono _ _ _)
      | (with_reducible exact nameplateref02_Parent.mono _ _)
      | (with_reducible exact nameplateref02_Read.mono _ _)
      | (with_reducible exact nameplateref02_Same.mono _ _ _)
      | (with_reducible exact nameplateref02_Text.mono _ _)
      | (with_reducible exact nameplateref02_Under.mono _ _ _)
      | (with_reducible exact nameplateref02_Wild.mono _ _)
      | (with_reducible exact LeO.refl _)
      | (with_reducible exact LeO.none _)
      | (with_reducible refine LeO.ite ?_ ?_)
      | (with_reducible refine LeO.bind ?_ (fun _ => ?_))
      | exact ih0 _ _ _ _ _
      | exact ih1 _ _ _ _ _
      | exact ih2 _ _ _
      | exact name_Check.mono _ _
      | exact name_Compare.mono _ _ _
      | exact name_Fold.mono _ _
      | exact name_Join.mono _ _ _
      | exact name_Labels.mono _ _
      | exact name_Matches.mono _ _ _
      | exact name_Parent.mono _ _
      | exact name_Read.mono _ _
      | exact name_Same.mono _ _ _
      | exact name_Text.mono _ _
      | exact name_Under.mono _ _ _
      | exact name_Wild.mono _ _
      | exact nameplatekit_Same_string.mono _ _ _
      | exact nameplatelaw02_lives.mono _
      | exact nameplateref02_Check.mono _ _
      | exact nameplateref02_Compare.mono _ _ _
      | exact nameplateref02_Fold.mono _ _
      | exact nameplateref02_Join.mono _ _ _
      | exact nameplateref02_Labels.mono _ _
      | exact nameplateref02_Make.mono _ _
      | exact nameplateref02_Matches.mono _ _ _
      | exact nameplateref02_Parent.mono _ _
      | exact nameplateref02_Read.mono _ _
      | exact nameplateref02_Same.mono _ _ _
      | exact nameplateref02_Text.mono _ _
      | exact nameplateref02_Under.mono _ _ _
      | exact nameplateref02_Wild.mono _ _
      | exact LeO.none _
      | refine LeO.ite ?_ ?_
      | refine LeO.bind ?_ (fun _ => ?_)
    · intro y0 y1 y2
      unfold nameplatelaw02_NameCalls.j2
      repeat' first
      | (with_reducible exact ih0 _ _ _ _ _)
      | (with_reducible exact ih1 _ _ _ _ _)
      | (with_reducible exact ih2 _ _ _)
      | (with_reducible exact name_Check.mono _ _)
      | (with_reducible exact name_Compare.mono _ _ _)
      | (with_reducible exact name_Fold.mono _ _)
      | (with_reducible exact name_Join.mono _ _ _)
      | (with_reducible exact name_Labels.mono _ _)
      | (with_reducible exact name_Matches.mono _ _ _)
      | (with_reducible exact name_Parent.mono _ _)
      | (with_reducible exact name_Read.mono _ _)
      | (with_reducible exact name_Same.mono _ _ _)
      | (with_reducible exact name_Text.mono _ _)
      | (with_reducible exact name_Under.mono _ _ _)
      | (with_reducible exact name_Wild.mono _ _)
      | (with_reducible exact nameplatekit_Same_string.mono _ _ _)
      | (with_reducible exact nameplatelaw02_lives.mono _)
      | (with_reducible exact nameplateref02_Check.mono _ _)
      | (with_reducible exact nameplateref02_Compare.mono _ _ _)
      | (with_reducible exact nameplateref02_Fold.mono _ _)
      | (with_reducible exact nameplateref02_Join.mono _ _ _)
      | (with_reducible exact nameplateref02_Labels.mono _ _)
      | (with_reducible exact nameplateref02_Make.mono _ _)
      | (with_reducible exact nameplateref02_Matches.mono _ _ _)
      | (with_reducible exact nameplateref02_Parent.mono _ _)
      | (with_reducible exact nameplateref02_Read.mono _ _)
      | (with_reducible exact nameplateref02_Same.mono _ _ _)
      | (with_reducible exact nameplateref02_Text.mono _ _)
      | (with_reducible exact nameplateref02_Under.mono _ _ _)
      | (with_reducible exact nameplateref02_Wild.mono _ _)
      | (with_reducible exact LeO.refl _)
      | (with_reducible exact LeO.none _)
      | (with_reducible refine LeO.ite ?_ ?_)
      | (with_reducible refine LeO.bind ?_ (fun _ => ?_))
      | exact ih0 _ _ _ _ _
      | exact ih1 _ _ _ _ _
      | exact ih2 _ _ _
      | exact name_Check.mono _ _
      | exact name_Compare.mono _ _ _
      | exact name_Fold.mono _ _
      | exact name_Join.mono _ _ _
      | exact name_Labels.mono _ _
      | exact name_Matches.mono _ _ _
      | exact name_Parent.mono _ _
      | exact name_Read.mono _ _
      | exact name_Same.mono _ _ _
      | exact name_Text.mono _ _
      | exact name_Under.mono _ _ _
      | exact name_Wild.mono _ _
      | exact nameplatekit_Same_string.mono _ _ _
      | exact nameplatelaw02_lives.mono _
      | exact nameplateref02_Check.mono _ _
      | exact nameplateref02_Compare.mono _ _ _
      | exact nameplateref02_Fold.mono _ _
      | exact nameplateref02_Join.mono _ _ _
      | exact nameplateref02_Labels.mono _ _
      | exact nameplateref02_Make.mono _ _
      | exact nameplateref02_Matches.mono _ _ _
      | exact nameplateref02_Parent.mono _ _
      | exact nameplateref02_Read.mono _ _
      | exact nameplateref02_Same.mono _ _ _
      | exact nameplateref02_Text.mono _ _
      | exact nameplateref02_Under.mono _ _ _
      | exact nameplateref02_Wild.mono _ _
      | exact LeO.none _
      | refine LeO.ite ?_ ?_
      | refine LeO.bind ?_ (fun _ => ?_)
theorem nameplatelaw02_NameCalls.mono : ∀ a0 a1 a2 a3 k, LeO (nameplatelaw02_NameCalls.f k a0 a1 a2 a3) (nameplatelaw02_NameCalls.f (k + 1) a0 a1 a2 a3) := by
  intro a0 a1 a2 a3 k
  obtain ⟨ih0, ih1, ih2⟩ := nameplatelaw02_NameCalls.mono_l k
  unfold nameplatelaw02_NameCalls.f
  repeat' first
      | (with_reducible exact ih0 _ _ _ _ _)
      | (with_reducible exact ih1 _ _ _ _ _)
      | (with_reducible exact ih2 _ _ _)
      | (with_reducible exact name_Check.mono _ _)
      | (with_reducible exact name_Compare.mono _ _ _)
      | (with_reducible exact name_Fold.mono _ _)
      | (with_reducible exact name_Join.mono _ _ _)
      | (with_reducible exact name_Labels.mono _ _)
      | (with_reducible exact name_Matches.mono _ _ _)
      | (with_reducible exact name_Parent.mono _ _)
      | (with_reducible exact name_Read.mono _ _)
      | (with_reducible exact name_Same.mono _ _ _)
      | (with_reducible exact name_Text.mono _ _)
      | (with_reducible exact name_Under.mono _ _ _)
      | (with_reducible exact name_Wild.mono _ _)
      | (with_reducible exact nameplatekit_Same_string.mono _ _ _)
      | (with_reducible exact nameplatelaw02_lives.mono _)
      | (with_reducible exact nameplateref02_Check.mono _ _)
      | (with_reducible exact nameplateref02_Compare.mono _ _ _)
      | (with_reducible exact nameplateref02_Fold.mono _ _)
      | (with_reducible exact nameplateref02_Join.mono _ _ _)
      | (with_reducible exact nameplateref02_Labels.mono _ _)
      | (with_reducible exact nameplateref02_Make.mono _ _)
      | (with_reducible exact nameplateref02_Matches.mono _ _ _)
      | (with_reducible exact nameplateref02_Parent.mono _ _)
      | (with_reducible exact nameplateref02_Read.mono _ _)
      | (with_reducible exact nameplateref02_Same.mono _ _ _)
      | (with_reducible exact nameplateref02_Text.mono _ _)
      | (with_reducible exact nameplateref02_Under.mono _ _ _)
      | (with_reducible exact nameplateref02_Wild.mono _ _)
      | (with_reducible exact LeO.refl _)
      | (with_reducible exact LeO.none _)
      | (with_reducible refine LeO.ite ?_ ?_)
      | (with_reducible refine LeO.bind ?_ (fun _ => ?_))
      | exact ih0 _ _ _ _ _
      | exact ih1 _ _ _ _ _
      | exact ih2 _ _ _
      | exact name_Check.mono _ _
      | exact name_Compare.mono _ _ _
      | exact name_Fold.mono _ _
      | exact name_Join.mono _ _ _
      | exact name_Labels.mono _ _
      | exact name_Matches.mono _ _ _
      | exact name_Parent.mono _ _
      | exact name_Read.mono _ _
      | exact name_Same.mono _ _ _
      | exact name_Text.mono _ _
      | exact name_Under.mono _ _ _
      | exact name_Wild.mono _ _
      | exact nameplatekit_Same_string.mono _ _ _
      | exact nameplatelaw02_lives.mono _
      | exact nameplateref02_Check.mono _ _
      | exact nameplateref02_Compare.mono _ _ _
      | exact nameplateref02_Fold.mono _ _
      | exact nameplateref02_Join.mono _ _ _
      | exact nameplateref02_Labels.mono _ _
      | exact nameplateref02_Make.mono _ _
      | exact nameplateref02_Matches.mono _ _ _
      | exact nameplateref02_Parent.mono _ _
      | exact nameplateref02_Read.mono _ _
      | exact nameplateref02_Same.mono _ _ _
      | exact nameplateref02_Text.mono _ _
      | exact nameplateref02_Under.mono _ _ _
      | exact nameplateref02_Wild.mono _ _
      | exact LeO.none _
      | refine LeO.ite ?_ ?_
      | refine LeO.bind ?_ (fun _ => ?_)
set_option maxHeartbeats 8000000 in
set_option maxRecDepth 100000 in
theorem nameplatelaw02_NameCalls.calls (k : Nat) (a0 : ByteArray) (a1 : ByteArray) (A2 : Option Addr) (c2 : Nat) (l2 : List ByteArray) (a3 : ByteArray) (r : Bool) (w : World) (hr2 : Kd.C Kd.string w A2 l2.length l2) (hc2 : l2.length ≤ c2) (hr_ : Aside0 (r = true)) (h : nameplatelaw02_NameCalls.f k a0 a1 l2 a3 = some r) :
    Calls Try.prog 3 #[.string a0, .string a1, .slice A2 l2.length c2, .string a3] w fun e w' => e = .returned (.bool r) ∧ Below w.heap.size w w' := by
  have HR2 := Aside0.mk hr2
  have HC2 := Aside0.mk hc2
  clear hr2 hc2
  have HB := Aside0.mk (Below.refl w.heap.size w)
  have H : ((nameplatelaw02_lives.f k).bind fun t299 => (if t299 = true then (if (a0.size : Int) > 400 then (nameplatelaw02_NameCalls.j0 k a0 a1 l2 a3 true) else (if (a1.size : Int) > 400 then (nameplatelaw02_NameCalls.j0 k a0 a1 l2 a3 true) else (if (l2.length : Int) > 140 then (nameplatelaw02_NameCalls.j0 k a0 a1 l2 a3 true) else (nameplatelaw02_NameCalls.j0 k a0 a1 l2 a3 (decide ((a3.size : Int) > 1600)))))) else (some false))) = some r := h
  clear h
  replace H := Option.bind_eq_some_iff.mp H
  obtain ⟨t299, A50, H⟩ := H
  replace H : (if t299 = true then (if (a0.size : Int) > 400 then (nameplatelaw02_NameCalls.j0 k a0 a1 l2 a3 true) else (if (a1.size : Int) > 400 then (nameplatelaw02_NameCalls.j0 k a0 a1 l2 a3 true) else (if (l2.length : Int) > 140 then (nameplatelaw02_NameCalls.j0 k a0 a1 l2 a3 true) else (nameplatelaw02_NameCalls.j0 k a0 a1 l2 a3 (decide ((a3.size : Int) > 1600)))))) else (some false)) = some r := H
  have A5 := Aside0.mk A50
  clear A50
  by_cases c6 : t299 = true
  · subst c6
    have H1 : (if (a0.size : Int) > 400 then (nameplatelaw02_NameCalls.j0 k a0 a1 l2 a3 true) else (if (a1.size : Int) > 400 then (nameplatelaw02_NameCalls.j0 k a0 a1 l2 a3 true) else (if (l2.length : Int) > 140 then (nameplatelaw02_NameCalls.j0 k a0 a1 l2 a3 true) else (nameplatelaw02_NameCalls.j0 k a0 a1 l2 a3 (decide ((a3.size : Int) > 1600)))))) = some r := by rw [if_pos rfl] at H; exact H
    clear H
    have H := H1
    clear H1
    have HC7 := Aside0.mk H
    clear H
    go_enter Try.func3, Try.ntmps3
    go_upto_region 3 with (first | ((with_reducible refine gate_callee (f := 4) rfl ?_); refine goesL_ (some 30) rfl rfl Try.func4 (by kernel_rfl) rfl #[] rfl (by (try simp only [List.map_toArray, List.map_cons, List.map_nil]); first | done | rfl | (simp only [List.length_drop, List.length_take]; rfl)) ?_; (with_reducible refine (nameplatelaw02_lives.calls k  true _ A5.out).mono ?_); rintro e w8 ⟨rfl, hb⟩; refine ⟨_, rfl, ?_⟩; have n0_ := Aside0.mk (below_step (by repeat (first | (with_reducible first | exact HB.out | apply below_alloc | apply pw_below_drewN | apply below_drew1) | exact HB.out)) hb); clear HB; have HB := n0_; clear n0_; (try clear hb); (try clear hb2); (try clear hk); (try clear hi)))
    (try simp only [Act.put, List.setIfInBounds_toArray, List.set_cons_zero, List.set_cons_succ])
    go_cut [49] (fun v49 wc => ∃ (kq : Nat) (x49_6 : Bool), v49 = .bool x49_6 ∧ Aside0 (nameplatelaw02_NameCalls.j0 kq a0 a1 l2 a3 x49_6 = some r) ∧ Aside0 (kq ≤ k) ∧ Aside0 (Below w.heap.size w wc))
    case first => as_aux_lemma =>
      have H := HC7.out
      clear HC7
      by_cases c9 : (a0.size : Int) > 400
      · rw [if_pos c9] at H
        have c9b0 : decide (400 < (a0.size : Int)) = true := decide_eq_true c9
        have c9b1 : decide (400 < a0.size) = true := decide_eq_true (by omega)
        clear c9
        (first | rw [c9b0] | (simp only [i64_w, i32_w]; rw [c9b0]) | skip)
        have H' := Aside0.mk H
        clear H
        go_wp2
        go_meet
        case rel => exact ⟨_, (true), (by first | rfl | (simp; done) | (simp [*]; done)), H', ⟨by first | omega | exact Nat.le_refl _⟩, ⟨by repeat (first | (with_reducible first | exact HB.out | apply below_alloc | apply pw_below_drewN | apply below_drew1) | exact HB.out)⟩⟩
      · rw [if_neg c9] at H
        have c9b0 : decide (400 < (a0.size : Int)) = false := decide_eq_false c9
        have c9b1 : decide (400 < a0.size) = false := decide_eq_false (by omega)
        clear c9
        (first | rw [c9b0] | (simp only [i64_w, i32_w]; rw [c9b0]) | skip)
        by_cases c10 : (a1.size : Int) > 400
        · rw [if_pos c10] at H
          have c10b0 : decide (400 < (a1.size : Int)) = true := decide_eq_true c10
          have c10b1 : decide (400 < a1.size) = true := decide_eq_true (by omega)
          clear c10
          have H' := Aside0.mk H
          clear H
          go_wp2
          go_meet
          case rel => exact ⟨_, (true), (by first | rfl | (simp; done) | (simp [*]; done)), H', ⟨by first | omega | exact Nat.le_refl _⟩, ⟨by repeat (first | (with_reducible first | exact HB.out | apply below_alloc | apply pw_below_drewN | apply below_drew1) | exact HB.out)⟩⟩
        · rw [if_neg c10] at H
          have c10b0 : decide (400 < (a1.size : Int)) = false := decide_eq_false c10
          have c10b1 : decide (400 < a1.size) = false := decide_eq_false (by omega)
          clear c10
          by_cases c11 : (l2.length : Int) > 140
          · rw [if_pos c11] at H
            have c11b0 : decide (140 < (l2.length : Int)) = true := decide_eq_true c11
            have c11b1 : decide (140 < l2.length) = true := decide_eq_true (by omega)
            clear c11
            have H' := Aside0.mk H
            clear H
            go_wp2
            go_meet
            case rel => exact ⟨_, (true), (by first | rfl | (simp; done) | (simp [*]; done)), H', ⟨by first | omega | exact Nat.le_refl _⟩, ⟨by repeat (first | (with_reducible first | exact HB.out | apply below_alloc | apply pw_below_drewN | apply below_drew1) | exact HB.out)⟩⟩
          · rw [if_neg c11] at H
            have c11b0 : decide (140 < (l2.length : Int)) = false := decide_eq_false c11
            have c11b1 : decide (140 < l2.length) = false := decide_eq_false (by omega)
            clear c11
            have H' := Aside0.mk H
            clear H
            go_wp2
            go_meet
            case rel => exact ⟨_, (decide ((a3.size : Int) > 1600)), (by first | rfl | (simp; done) | (simp [*]; done)), H', ⟨by first | omega | exact Nat.le_refl _⟩, ⟨by repeat (first | (with_reducible first | exact HB.out | apply below_alloc | apply pw_below_drewN | apply below_drew1) | exact HB.out)⟩⟩
    case rest => as_aux_lemma =>
      clear HC7
      try clear c1
      try clear c2
      try clear p2
      try clear c3
      try clear c4
      try clear c6
      try clear c9
      try clear c9b0
      try clear c9b1
      try clear c10
      try clear c10b0
      try clear c10b1
      try clear c11
      try clear c11b0
      try clear c11b1
      obtain ⟨kq, x49_6, rfl, HA, HJ6, HB⟩ := hcut
      cases kq with
      | zero => exact absurd HA.out (by simp [nameplatelaw02_NameCalls.j0])
      | succ kj6 =>
        have H := HA.out
        clear HA
        simp only [nameplatelaw02_NameCalls.j0] at H
        by_cases c12 : x49_6 = true
        · subst c12
          have H1 : (some true) = some r := by rw [if_pos rfl] at H; exact H
          clear H
          have H := H1
          clear H1
          obtain rfl := Option.some.inj H
          go_wp2
          go_ret
          exact ⟨by first | rfl | (simp [errW_none, errW_some] <;> rfl) | (simp [*, errW_none, errW_some] <;> rfl), by repeat (first | (with_reducible first | exact HB.out | apply below_alloc | apply pw_below_drewN | apply below_drew1) | exact HB.out)⟩
        · replace c12 := Bool.eq_false_iff.mpr c12
          subst c12
          have H1 : (nameplatelaw02_NameCalls.l0 kj6 a0 a1 l2 a3 0) = some r := by rw [if_neg (show ¬ (false = true) by decide)] at H; exact H
          clear H
          have H := H1
          clear H1
          have H' := Aside0.mk H
          clear H
          go_wp2
          go_loopg [9] kj6 (fun kq v9 w' => ∃ (x9_2 : Int), v9 = .int .i64 x9_2 ∧ Aside0 (nameplatelaw02_NameCalls.l0 kq a0 a1 l2 a3 x9_2 = some r) ∧ Aside0 (kq ≤ kj6) ∧ Aside0 (Below w.heap.size w w'))
          case atStart => exact ⟨(0), (by first | rfl | (simp; done) | (simp [*]; done)), H', ⟨Nat.le_refl _⟩, ⟨by repeat (first | (with_reducible first | exact HB.out | apply below_alloc | apply pw_below_drewN | apply below_drew1) | exact HB.out)⟩⟩
          case round => as_aux_lemma =>
            clear H'
            try clear c1
            try clear c2
            try clear p2
            try clear c3
            try clear c4
            try clear c6
            try clear c9
            try clear c9b0
            try clear c9b1
            try clear c10
            try clear c10b0
            try clear c10b1
            try clear c11
            try clear c11b0
            try clear c11b1
            try clear c12
            try clear p2
            obtain ⟨x9_2, rfl, HA, HK2, HB⟩ := hrel
            cases gk with
            | zero => exact absurd HA.out (by simp [nameplatelaw02_NameCalls.l0])
            | succ k2 =>
              have H := HA.out
              clear HA
              simp only [nameplatelaw02_NameCalls.l0] at H
              by_cases c13 : x9_2 < (l2.length : Int)
              · rw [if_pos c13] at H
                have c13b0 : decide (x9_2 < (l2.length : Int)) = true := decide_eq_true c13
                clear c13
                by_cases c14 : 0 ≤ x9_2
                · rw [if_pos c14] at H
                  have c14b0 : decide (0 ≤ x9_2) = true := decide_eq_true c14
                  clear c14
                  by_cases c15 : ((rdOf ByteArray.empty l2 x9_2).size : Int) > 400
                  · rw [if_pos c15] at H
                    have c15b0 : decide (400 < ((rdOf ByteArray.empty l2 x9_2).size : Int)) = true := decide_eq_true c15
                    have c15b1 : decide (400 < (rdOf ByteArray.empty l2 x9_2).size) = true := decide_eq_true (by omega)
                    clear c15
                    obtain rfl := Option.some.inj H
                    have p300 : 0 ≤ (x9_2 : Int) := of_decide_eq_true (by first | (with_reducible assumption) | assumption)
                    have q300 : x9_2 < (l2.length : Int) := of_decide_eq_true (by first | (with_reducible assumption) | assumption)
                    obtain ⟨ad300, e300, hx300_0⟩ := Kd.at_string HR2.out x9_2 p300 q300
                    cases e300
                    replace hx300_0 := (HB.out.cell (World.block_lt_of_cell? w _ hx300_0)).trans hx300_0
                    replace p300 := eq_true p300
                    replace q300 := eq_true q300
                    go_wp2
                    go_ret
                    exact ⟨by first | rfl | (simp [errW_none, errW_some] <;> rfl) | (simp [*, errW_none, errW_some] <;> rfl), by repeat (first | (with_reducible first | exact HB.out | apply below_alloc | apply pw_below_drewN | apply below_drew1) | exact HB.out)⟩
                  · rw [if_neg c15] at H
                    have c15b0 : decide (400 < ((rdOf ByteArray.empty l2 x9_2).size : Int)) = false := decide_eq_false c15
                    have c15b1 : decide (400 < (rdOf ByteArray.empty l2 x9_2).size) = false := decide_eq_false (by omega)
                    clear c15
                    have H' := Aside0.mk H
                    clear H
                    have p300 : 0 ≤ (x9_2 : Int) := of_decide_eq_true (by first | (with_reducible assumption) | assumption)
                    have q300 : x9_2 < (l2.length : Int) := of_decide_eq_true (by first | (with_reducible assumption) | assumption)
                    obtain ⟨ad300, e300, hx300_0⟩ := Kd.at_string HR2.out x9_2 p300 q300
                    cases e300
                    replace hx300_0 := (HB.out.cell (World.block_lt_of_cell? w _ hx300_0)).trans hx300_0
                    replace p300 := eq_true p300
                    replace q300 := eq_true q300
                    go_wp2
                    go_roundg k2
                    case measure => have := HJ6.out; have := HK2.out; omega
                    case rel => exact ⟨(wrap64 (x9_2 + 1)), (by first | rfl | (simp; done) | (simp [*]; done)), H', ⟨by have := HJ6.out; have := HK2.out; omega⟩, ⟨by repeat (first | (with_reducible first | exact HB.out | apply below_alloc | apply pw_below_drewN | apply below_drew1) | exact HB.out)⟩⟩
                · rw [if_neg c14] at H
                  exact absurd H (by simp)
              · rw [if_neg c13] at H
                have c13b0 : decide (x9_2 < (l2.length : Int)) = false := decide_eq_false c13
                clear c13
                replace H := Option.bind_eq_some_iff.mp H
                obtain ⟨⟨t301, t302⟩, A160, H⟩ := H
                replace H : ((nameplateref02_Make.f k2 l2).bind fun bt303 => ((name_Text.f k2 a0).bind fun bt305 => ((nameplateref02_Text.f k2 a0).bind fun bt307 => ((name_Read.f k2 a3).bind fun bt309 => ((nameplateref02_Read.f k2 a3).bind fun bt311 => ((name_Parent.f k2 a0).bind fun bt313 => ((nameplateref02_Parent.f k2 a0).bind fun bt315 => ((name_Join.f k2 a0 a1).bind fun bt317 => ((nameplateref02_Join.f k2 a0 a1).bind fun bt319 => (if t301.toList = bt303.1.toList then (if t302 = bt303.2 then (if bt305.1.toList = bt307.1.toList then (if bt305.2 = bt307.2 then (if bt309.1.toList = bt311.1.toList then (if bt309.2 = bt311.2 then (if bt313.1.toList = bt315.1.toList then (if (bt313.2 != bt315.2) = true then (nameplatelaw02_NameCalls.j2 k2 a0 a1 true) else (if bt317.1.toList = bt319.1.toList then (nameplatelaw02_NameCalls.j2 k2 a0 a1 (bt317.2 != bt319.2)) else (nameplatelaw02_NameCalls.j2 k2 a0 a1 true))) else (nameplatelaw02_NameCalls.j2 k2 a0 a1 true)) else (nameplatelaw02_NameCalls.j2 k2 a0 a1 true)) else (nameplatelaw02_NameCalls.j2 k2 a0 a1 true)) else (nameplatelaw02_NameCalls.j2 k2 a0 a1 true)) else (nameplatelaw02_NameCalls.j2 k2 a0 a1 true)) else (nameplatelaw02_NameCalls.j2 k2 a0 a1 true)) else (nameplatelaw02_NameCalls.j2 k2 a0 a1 true))))))))))) = some r := H
                have A16 := Aside0.mk A160
                clear A160
                replace H := Option.bind_eq_some_iff.mp H
                obtain ⟨⟨t303, t304⟩, A170, H⟩ := H
                replace H : ((name_Text.f k2 a0).bind fun bt305 => ((nameplateref02_Text.f k2 a0).bind fun bt307 => ((name_Read.f k2 a3).bind fun bt309 => ((nameplateref02_Read.f k2 a3).bind fun bt311 => ((name_Parent.f k2 a0).bind fun bt313 => ((nameplateref02_Parent.f k2 a0).bind fun bt315 => ((name_Join.f k2 a0 a1).bind fun bt317 => ((nameplateref02_Join.f k2 a0 a1).bind fun bt319 => (if t301.toList = t303.toList then (if t302 = t304 then (if bt305.1.toList = bt307.1.toList then (if bt305.2 = bt307.2 then (if bt309.1.toList = bt311.1.toList then (if bt309.2 = bt311.2 then (if bt313.1.toList = bt315.1.toList then (if (bt313.2 != bt315.2) = true then (nameplatelaw02_NameCalls.j2 k2 a0 a1 true) else (if bt317.1.toList = bt319.1.toList then (nameplatelaw02_NameCalls.j2 k2 a0 a1 (bt317.2 != bt319.2)) else (nameplatelaw02_NameCalls.j2 k2 a0 a1 true))) else (nameplatelaw02_NameCalls.j2 k2 a0 a1 true)) else (nameplatelaw02_NameCalls.j2 k2 a0 a1 true)) else (nameplatelaw02_NameCalls.j2 k2 a0 a1 true)) else (nameplatelaw02_NameCalls.j2 k2 a0 a1 true)) else (nameplatelaw02_NameCalls.j2 k2 a0 a1 true)) else (nameplatelaw02_NameCalls.j2 k2 a0 a1 true)) else (nameplatelaw02_NameCalls.j2 k2 a0 a1 true)))))))))) = some r := H
                have A17 := Aside0.mk A170
                clear A170
                replace H := Option.bind_eq_some_iff.mp H
                obtain ⟨⟨t305, t306⟩, A180, H⟩ := H
                replace H : ((nameplateref02_Text.f k2 a0).bind fun bt307 => ((name_Read.f k2 a3).bind fun bt309 => ((nameplateref02_Read.f k2 a3).bind fun bt311 => ((name_Parent.f k2 a0).bind fun bt313 => ((nameplateref02_Parent.f k2 a0).bind fun bt315 => ((name_Join.f k2 a0 a1).bind fun bt317 => ((nameplateref02_Join.f k2 a0 a1).bind fun bt319 => (if t301.toList = t303.toList then (if t302 = t304 then (if t305.toList = bt307.1.toList then (if t306 = bt307.2 then (if bt309.1.toList = bt311.1.toList then (if bt309.2 = bt311.2 then (if bt313.1.toList = bt315.1.toList then (if (bt313.2 != bt315.2) = true then (nameplatelaw02_NameCalls.j2 k2 a0 a1 true) else (if bt317.1.toList = bt319.1.toList then (nameplatelaw02_NameCalls.j2 k2 a0 a1 (bt317.2 != bt319.2)) else (nameplatelaw02_NameCalls.j2 k2 a0 a1 true))) else (nameplatelaw02_NameCalls.j2 k2 a0 a1 true)) else (nameplatelaw02_NameCalls.j2 k2 a0 a1 true)) else (nameplatelaw02_NameCalls.j2 k2 a0 a1 true)) else (nameplatelaw02_NameCalls.j2 k2 a0 a1 true)) else (nameplatelaw02_NameCalls.j2 k2 a0 a1 true)) else (nameplatelaw02_NameCalls.j2 k2 a0 a1 true)) else (nameplatelaw02_NameCalls.j2 k2 a0 a1 true))))))))) = some r := H
                have A18 := Aside0.mk A180
                clear A180
                replace H := Option.bind_eq_some_iff.mp H
                obtain ⟨⟨t307, t308⟩, A190, H⟩ := H
                replace H : ((name_Read.f k2 a3).bind fun bt309 => ((nameplateref02_Read.f k2 a3).bind fun bt311 => ((name_Parent.f k2 a0).bind fun bt313 => ((nameplateref02_Parent.f k2 a0).bind fun bt315 => ((name_Join.f k2 a0 a1).bind fun bt317 => ((nameplateref02_Join.f k2 a0 a1).bind fun bt319 => (if t301.toList = t303.toList then (if t302 = t304 then (if t305.toList = t307.toList then (if t306 = t308 then (if bt309.1.toList = bt311.1.toList then (if bt309.2 = bt311.2 then (if bt313.1.toList = bt315.1.toList then (if (bt313.2 != bt315.2) = true then (nameplatelaw02_NameCalls.j2 k2 a0 a1 true) else (if bt317.1.toList = bt319.1.toList then (nameplatelaw02_NameCalls.j2 k2 a0 a1 (bt317.2 != bt319.2)) else (nameplatelaw02_NameCalls.j2 k2 a0 a1 true))) else (nameplatelaw02_NameCalls.j2 k2 a0 a1 true)) else (nameplatelaw02_NameCalls.j2 k2 a0 a1 true)) else (nameplatelaw02_NameCalls.j2 k2 a0 a1 true)) else (nameplatelaw02_NameCalls.j2 k2 a0 a1 true)) else (nameplatelaw02_NameCalls.j2 k2 a0 a1 true)) else (nameplatelaw02_NameCalls.j2 k2 a0 a1 true)) else (nameplatelaw02_NameCalls.j2 k2 a0 a1 true)))))))) = some r := H
                have A19 := Aside0.mk A190
                clear A190
                replace H := Option.bind_eq_some_iff.mp H
                obtain ⟨⟨t309, t310⟩, A200, H⟩ := H
                replace H : ((nameplateref02_Read.f k2 a3).bind fun bt311 => ((name_Parent.f k2 a0).bind fun bt313 => ((nameplateref02_Parent.f k2 a0).bind fun bt315 => ((name_Join.f k2 a0 a1).bind fun bt317 => ((nameplateref02_Join.f k2 a0 a1).bind fun bt319 => (if t301.toList = t303.toList then (if t302 = t304 then (if t305.toList = t307.toList then (if t306 = t308 then (if t309.toList = bt311.1.toList then (if t310 = bt311.2 then (if bt313.1.toList = bt315.1.toList then (if (bt313.2 != bt315.2) = true then (nameplatelaw02_NameCalls.j2 k2 a0 a1 true) else (if bt317.1.toList = bt319.1.toList then (nameplatelaw02_NameCalls.j2 k2 a0 a1 (bt317.2 != bt319.2)) else (nameplatelaw02_NameCalls.j2 k2 a0 a1 true))) else (nameplatelaw02_NameCalls.j2 k2 a0 a1 true)) else (nameplatelaw02_NameCalls.j2 k2 a0 a1 true)) else (nameplatelaw02_NameCalls.j2 k2 a0 a1 true)) else (nameplatelaw02_NameCalls.j2 k2 a0 a1 true)) else (nameplatelaw02_NameCalls.j2 k2 a0 a1 true)) else (nameplatelaw02_NameCalls.j2 k2 a0 a1 true)) else (nameplatelaw02_NameCalls.j2 k2 a0 a1 true))))))) = some r := H
                have A20 := Aside0.mk A200
                clear A200
                replace H := Option.bind_eq_some_iff.mp H
                obtain ⟨⟨t311, t312⟩, A210, H⟩ := H
                replace H : ((name_Parent.f k2 a0).bind fun bt313 => ((nameplateref02_Parent.f k2 a0).bind fun bt315 => ((name_Join.f k2 a0 a1).bind fun bt317 => ((nameplateref02_Join.f k2 a0 a1).bind fun bt319 => (if t301.toList = t303.toList then (if t302 = t304 then (if t305.toList = t307.toList then (if t306 = t308 then (if t309.toList = t311.toList then (if t310 = t312 then (if bt313.1.toList = bt315.1.toList then (if (bt313.2 != bt315.2) = true then (nameplatelaw02_NameCalls.j2 k2 a0 a1 true) else (if bt317.1.toList = bt319.1.toList then (nameplatelaw02_NameCalls.j2 k2 a0 a1 (bt317.2 != bt319.2)) else (nameplatelaw02_NameCalls.j2 k2 a0 a1 true))) else (nameplatelaw02_NameCalls.j2 k2 a0 a1 true)) else (nameplatelaw02_NameCalls.j2 k2 a0 a1 true)) else (nameplatelaw02_NameCalls.j2 k2 a0 a1 true)) else (nameplatelaw02_NameCalls.j2 k2 a0 a1 true)) else (nameplatelaw02_NameCalls.j2 k2 a0 a1 true)) else (nameplatelaw02_NameCalls.j2 k2 a0 a1 true)) else (nameplatelaw02_NameCalls.j2 k2 a0 a1 true)))))) = some r := H
                have A21 := Aside0.mk A210
                clear A210
                replace H := Option.bind_eq_some_iff.mp H
                obtain ⟨⟨t313, t314⟩, A220, H⟩ := H
                replace H : ((nameplateref02_Parent.f k2 a0).bind fun bt315 => ((name_Join.f k2 a0 a1).bind fun bt317 => ((nameplateref02_Join.f k2 a0 a1).bind fun bt319 => (if t301.toList = t303.toList then (if t302 = t304 then (if t305.toList = t307.toList then (if t306 = t308 then (if t309.toList = t311.toList then (if t310 = t312 then (if t313.toList = bt315.1.toList then (if (t314 != bt315.2) = true then (nameplatelaw02_NameCalls.j2 k2 a0 a1 true) else (if bt317.1.toList = bt319.1.toList then (nameplatelaw02_NameCalls.j2 k2 a0 a1 (bt317.2 != bt319.2)) else (nameplatelaw02_NameCalls.j2 k2 a0 a1 true))) else (nameplatelaw02_NameCalls.j2 k2 a0 a1 true)) else (nameplatelaw02_NameCalls.j2 k2 a0 a1 true)) else (nameplatelaw02_NameCalls.j2 k2 a0 a1 true)) else (nameplatelaw02_NameCalls.j2 k2 a0 a1 true)) else (nameplatelaw02_NameCalls.j2 k2 a0 a1 true)) else (nameplatelaw02_NameCalls.j2 k2 a0 a1 true)) else (nameplatelaw02_NameCalls.j2 k2 a0 a1 true))))) = some r := H
                have A22 := Aside0.mk A220
                clear A220
                replace H := Option.bind_eq_some_iff.mp H
                obtain ⟨⟨t315, t316⟩, A230, H⟩ := H
                replace H : ((name_Join.f k2 a0 a1).bind fun bt317 => ((nameplateref02_Join.f k2 a0 a1).bind fun bt319 => (if t301.toList = t303.toList then (if t302 = t304 then (if t305.toList = t307.toList then (if t306 = t308 then (if t309.toList = t311.toList then (if t310 = t312 then (if t313.toList = t315.toList then (if (t314 != t316) = true then (nameplatelaw02_NameCalls.j2 k2 a0 a1 true) else (if bt317.1.toList = bt319.1.toList then (nameplatelaw02_NameCalls.j2 k2 a0 a1 (bt317.2 != bt319.2)) else (nameplatelaw02_NameCalls.j2 k2 a0 a1 true))) else (nameplatelaw02_NameCalls.j2 k2 a0 a1 true)) else (nameplatelaw02_NameCalls.j2 k2 a0 a1 true)) else (nameplatelaw02_NameCalls.j2 k2 a0 a1 true)) else (nameplatelaw02_NameCalls.j2 k2 a0 a1 true)) else (nameplatelaw02_NameCalls.j2 k2 a0 a1 true)) else (nameplatelaw02_NameCalls.j2 k2 a0 a1 true)) else (nameplatelaw02_NameCalls.j2 k2 a0 a1 true)))) = some r := H
                have A23 := Aside0.mk A230
                clear A230
                replace H := Option.bind_eq_some_iff.mp H
                obtain ⟨⟨t317, t318⟩, A240, H⟩ := H
                replace H : ((nameplateref02_Join.f k2 a0 a1).bind fun bt319 => (if t301.toList = t303.toList then (if t302 = t304 then (if t305.toList = t307.toList then (if t306 = t308 then (if t309.toList = t311.toList then (if t310 = t312 then (if t313.toList = t315.toList then (if (t314 != t316) = true then (nameplatelaw02_NameCalls.j2 k2 a0 a1 true) else (if t317.toList = bt319.1.toList then (nameplatelaw02_NameCalls.j2 k2 a0 a1 (t318 != bt319.2)) else (nameplatelaw02_NameCalls.j2 k2 a0 a1 true))) else (nameplatelaw02_NameCalls.j2 k2 a0 a1 true)) else (nameplatelaw02_NameCalls.j2 k2 a0 a1 true)) else (nameplatelaw02_NameCalls.j2 k2 a0 a1 true)) else (nameplatelaw02_NameCalls.j2 k2 a0 a1 true)) else (nameplatelaw02_NameCalls.j2 k2 a0 a1 true)) else (nameplatelaw02_NameCalls.j2 k2 a0 a1 true)) else (nameplatelaw02_NameCalls.j2 k2 a0 a1 true))) = some r := H
                have A24 := Aside0.mk A240
                clear A240
                replace H := Option.bind_eq_some_iff.mp H
                obtain ⟨⟨t319, t320⟩, A250, H⟩ := H
                replace H : (if t301.toList = t303.toList then (if t302 = t304 then (if t305.toList = t307.toList then (if t306 = t308 then (if t309.toList = t311.toList then (if t310 = t312 then (if t313.toList = t315.toList then (if (t314 != t316) = true then (nameplatelaw02_NameCalls.j2 k2 a0 a1 true) else (if t317.toList = t319.toList then (nameplatelaw02_NameCalls.j2 k2 a0 a1 (t318 != t320)) else (nameplatelaw02_NameCalls.j2 k2 a0 a1 true))) else (nameplatelaw02_NameCalls.j2 k2 a0 a1 true)) else (nameplatelaw02_NameCalls.j2 k2 a0 a1 true)) else (nameplatelaw02_NameCalls.j2 k2 a0 a1 true)) else (nameplatelaw02_NameCalls.j2 k2 a0 a1 true)) else (nameplatelaw02_NameCalls.j2 k2 a0 a1 true)) else (nameplatelaw02_NameCalls.j2 k2 a0 a1 true)) else (nameplatelaw02_NameCalls.j2 k2 a0 a1 true)) = some r := H
                have A25 := Aside0.mk A250
                clear A250
                have HC26 := Aside0.mk H
                clear H
                go_upto_region 20 with (first | ((with_reducible refine gate_callee (f := 5) rfl ?_); refine goesL_ (some 64) rfl rfl Try.func5 (by kernel_rfl) rfl #[.slice A2 l2.length c2] rfl (by (try simp only [List.map_toArray, List.map_cons, List.map_nil]); first | done | rfl | (simp only [List.length_drop, List.length_take]; rfl)) ?_; (with_reducible refine (name_Make.calls _ _ l2 t301 t302 _ ?side1 ?side2 A16.out).mono ?_); (case side1 => repeat (first | exact (Kd.C_below HR2.out HB.out) | (with_reducible refine Kd.C_alloc ?_ _) | (with_reducible refine Kd.C_drewN ?_ _) | (with_reducible refine Kd.C_drew ?_))); (case side2 => exact HC2.out); rintro e w27 ⟨rfl, hb⟩; refine ⟨_, rfl, ?_⟩; have n0_ := Aside0.mk (below_step (by repeat (first | (with_reducible first | exact HB.out | apply below_alloc | apply pw_below_drewN | apply below_drew1) | exact HB.out)) hb); clear HB; have HB := n0_; clear n0_; (try clear hb); (try clear hb2); (try clear hk); (try clear hi)) | ((with_reducible refine gate_callee (f := 6) rfl ?_); refine goesL_ (some 69) rfl rfl Try.func6 (by kernel_rfl) rfl #[.slice A2 l2.length c2] rfl (by (try simp only [List.map_toArray, List.map_cons, List.map_nil]); first | done | rfl | (simp only [List.length_drop, List.length_take]; rfl)) ?_; (with_reducible refine (nameplateref02_Make.calls k2 _ _ l2 t303 t304 _ ?side1 ?side2 A17.out).mono ?_); (case side1 => repeat (first | exact (Kd.C_below HR2.out HB.out) | (with_reducible refine Kd.C_alloc ?_ _) | (with_reducible refine Kd.C_drewN ?_ _) | (with_reducible refine Kd.C_drew ?_))); (case side2 => exact HC2.out); rintro e w28 ⟨rfl, hb⟩; refine ⟨_, rfl, ?_⟩; have n0_ := Aside0.mk (below_step (by repeat (first | (with_reducible first | exact HB.out | apply below_alloc | apply pw_below_drewN | apply below_drew1) | exact HB.out)) hb); clear HB; have HB := n0_; clear n0_; (try clear hb); (try clear hb2); (try clear hk); (try clear hi)) | ((with_reducible refine gate_callee (f := 7) rfl ?_); refine goesL_ (some 74) rfl rfl Try.func7 (by kernel_rfl) rfl #[.string a0] rfl (by (try simp only [List.map_toArray, List.map_cons, List.map_nil]); first | done | rfl | (simp only [List.length_drop, List.length_take]; rfl)) ?_; (with_reducible refine (name_Text.calls k2 a0 t305 t306 _ A18.out).mono ?_); rintro e w29 ⟨rfl, hb⟩; refine ⟨_, rfl, ?_⟩; have n0_ := Aside0.mk (below_step (by repeat (first | (with_reducible first | exact HB.out | apply below_alloc | apply pw_below_drewN | apply below_drew1) | exact HB.out)) hb); clear HB; have HB := n0_; clear n0_; (try clear hb); (try clear hb2); (try clear hk); (try clear hi)) | ((with_reducible refine gate_callee (f := 8) rfl ?_); refine goesL_ (some 79) rfl rfl Try.func8 (by kernel_rfl) rfl #[.string a0] rfl (by (try simp only [List.map_toArray, List.map_cons, List.map_nil]); first | done | rfl | (simp only [List.length_drop, List.length_take]; rfl)) ?_; (with_reducible refine (nameplateref02_Text.calls k2 a0 t307 t308 _ A19.out).mono ?_); rintro e w30 ⟨rfl, hb⟩; refine ⟨_, rfl, ?_⟩; have n0_ := Aside0.mk (below_step (by repeat (first | (with_reducible first | exact HB.out | apply below_alloc | apply pw_below_drewN | apply below_drew1) | exact HB.out)) hb); clear HB; have HB := n0_; clear n0_; (try clear hb); (try clear hb2); (try clear hk); (try clear hi)) | ((with_reducible refine gate_callee (f := 9) rfl ?_); refine goesL_ (some 84) rfl rfl Try.func9 (by kernel_rfl) rfl #[.string a3] rfl (by (try simp only [List.map_toArray, List.map_cons, List.map_nil]); first | done | rfl | (simp only [List.length_drop, List.length_take]; rfl)) ?_; (with_reducible refine (name_Read.calls k2 a3 t309 t310 _ A20.out).mono ?_); rintro e w31 ⟨rfl, hb⟩; refine ⟨_, rfl, ?_⟩; have n0_ := Aside0.mk (below_step (by repeat (first | (with_reducible first | exact HB.out | apply below_alloc | apply pw_below_drewN | apply below_drew1) | exact HB.out)) hb); clear HB; have HB := n0_; clear n0_; (try clear hb); (try clear hb2); (try clear hk); (try clear hi)) | ((with_reducible refine gate_callee (f := 10) rfl ?_); refine goesL_ (some 89) rfl rfl Try.func10 (by kernel_rfl) rfl #[.string a3] rfl (by (try simp only [List.map_toArray, List.map_cons, List.map_nil]); first | done | rfl | (simp only [List.length_drop, List.length_take]; rfl)) ?_; (with_reducible refine (nameplateref02_Read.calls k2 a3 t311 t312 _ A21.out).mono ?_); rintro e w32 ⟨rfl, hb⟩; refine ⟨_, rfl, ?_⟩; have n0_ := Aside0.mk (below_step (by repeat (first | (with_reducible first | exact HB.out | apply below_alloc | apply pw_below_drewN | apply below_drew1) | exact HB.out)) hb); clear HB; have HB := n0_; clear n0_; (try clear hb); (try clear hb2); (try clear hk); (try clear hi)) | ((with_reducible refine gate_callee (f := 11) rfl ?_); refine goesL_ (some 94) rfl rfl Try.func11 (by kernel_rfl) rfl #[.string a0] rfl (by (try simp only [List.map_toArray, List.map_cons, List.map_nil]); first | done | rfl | (simp only [List.length_drop, List.length_take]; rfl)) ?_; (with_reducible refine (name_Parent.calls k2 a0 t313 t314 _ A22.out).mono ?_); rintro e w' ⟨rfl, ⟨nd, rfl⟩⟩; refine ⟨_, rfl, ?_⟩) | ((with_reducible refine gate_callee (f := 12) rfl ?_); refine goesL_ (some 99) rfl rfl Try.func12 (by kernel_rfl) rfl #[.string a0] rfl (by (try simp only [List.map_toArray, List.map_cons, List.map_nil]); first | done | rfl | (simp only [List.length_drop, List.length_take]; rfl)) ?_; (with_reducible refine (nameplateref02_Parent.calls k2 a0 t315 t316 _ A23.out).mono ?_); rintro e w' ⟨rfl, ⟨nd, rfl⟩⟩; refine ⟨_, rfl, ?_⟩) | ((with_reducible refine gate_callee (f := 13) rfl ?_); refine goesL_ (some 105) rfl rfl Try.func13 (by kernel_rfl) rfl #[.string a0, .string a1] rfl (by (try simp only [List.map_toArray, List.map_cons, List.map_nil]); first | done | rfl | (simp only [List.length_drop, List.length_take]; rfl)) ?_; (with_reducible refine (name_Join.calls k2 a0 a1 t317 t318 _ A24.out).mono ?_); rintro e w33 ⟨rfl, hb⟩; refine ⟨_, rfl, ?_⟩; have n0_ := Aside0.mk (below_step (by repeat (first | (with_reducible first | exact HB.out | apply below_alloc | apply pw_below_drewN | apply below_drew1) | exact HB.out)) hb); clear HB; have HB := n0_; clear n0_; (try clear hb); (try clear hb2); (try clear hk); (try clear hi)) | ((with_reducible refine gate_callee (f := 14) rfl ?_); refine goesL_ (some 111) rfl rfl Try.func14 (by kernel_rfl) rfl #[.string a0, .string a1] rfl (by (try simp only [List.map_toArray, List.map_cons, List.map_nil]); first | done | rfl | (simp only [List.length_drop, List.length_take]; rfl)) ?_; (with_reducible refine (nameplateref02_Join.calls k2 a0 a1 t319 t320 _ A25.out).mono ?_); rintro e w' ⟨rfl, ⟨nd, rfl⟩⟩; refine ⟨_, rfl, ?_⟩))
                (try simp only [Act.put, List.setIfInBounds_toArray, List.set_cons_zero, List.set_cons_succ])
                go_cut [161] (fun v161 wc => ∃ (kq : Nat) (x161_25 : Bool), v161 = .bool x161_25 ∧ Aside0 (nameplatelaw02_NameCalls.j2 kq a0 a1 x161_25 = some r) ∧ Aside0 (kq ≤ k2) ∧ Aside0 (Below w.heap.size w wc))
                case first => as_aux_lemma =>
                  have H := HC26.out
                  clear HC26
                  by_cases c34 : t301.toList = t303.toList
                  · rw [if_pos c34] at H
                    have c34b0 : (t301.toList == t303.toList) = true := beq_iff_eq.mpr c34
                    have c34b1 : (t301.toList != t303.toList) = false := bne_eq_false_iff_eq.mpr c34
                    clear c34
                    (first | rw [c34b0] | (simp only [i64_w, i32_w]; rw [c34b0]) | skip)
                    by_cases c35 : t302 = t304
                    · rw [if_pos c35] at H
                      have c35b0 : (t302 == t304) = true := beq_iff_eq.mpr c35
                      have c35b1 : (t302 != t304) = false := bne_eq_false_iff_eq.mpr c35
                      clear c35
                      by_cases c36 : t305.toList = t307.toList
                      · rw [if_pos c36] at H
                        have c36b0 : (t305.toList == t307.toList) = true := beq_iff_eq.mpr c36
                        have c36b1 : (t305.toList != t307.toList) = false := bne_eq_false_iff_eq.mpr c36
                        clear c36
                        by_cases c37 : t306 = t308
                        · rw [if_pos c37] at H
                          have c37b0 : (t306 == t308) = true := beq_iff_eq.mpr c37
                          have c37b1 : (t306 != t308) = false := bne_eq_false_iff_eq.mpr c37
                          clear c37
                          by_cases c38 : t309.toList = t311.toList
                          · rw [if_pos c38] at H
                            have c38b0 : (t309.toList == t311.toList) = true := beq_iff_eq.mpr c38
                            have c38b1 : (t309.toList != t311.toList) = false := bne_eq_false_iff_eq.mpr c38
                            clear c38
                            by_cases c39 : t310 = t312
                            · rw [if_pos c39] at H
                              have c39b0 : (t310 == t312) = true := beq_iff_eq.mpr c39
                              have c39b1 : (t310 != t312) = false := bne_eq_false_iff_eq.mpr c39
                              clear c39
                              by_cases c40 : t313.toList = t315.toList
                              · rw [if_pos c40] at H
                                have c40b0 : (t313.toList == t315.toList) = true := beq_iff_eq.mpr c40
                                have c40b1 : (t313.toList != t315.toList) = false := bne_eq_false_iff_eq.mpr c40
                                clear c40
                                by_cases c41 : (t314 != t316) = true
                                · rw [if_pos c41] at H
                                  have c41b0 : (t314 != t316) = true := c41
                                  (try (have c41b1 : decide (t314 = t316) = false := by simpa using c41))
                                  (try (have c41b2 : (t314 == t316) = false := by simpa using c41))
                                  (try (have c41b3 : ¬ (t314 = t316) := by simpa using c41))
                                  clear c41
                                  have H' := Aside0.mk H
                                  clear H
                                  go_wp2
                                  go_meet
                                  case rel => exact ⟨_, (true), (by first | rfl | (simp; done) | (simp [*]; done)), H', ⟨by have := HJ6.out; have := HK2.out; first | omega | exact Nat.le_refl _⟩, ⟨by repeat (first | (with_reducible first | exact HB.out | apply below_alloc | apply pw_below_drewN | apply below_drew1) | exact HB.out)⟩⟩
                                · rw [if_neg c41] at H
                                  have c41b0 : (t314 != t316) = false := by simpa using c41
                                  (try (have c41b9 : (t314 = t316) = True := eq_true (bne_eq_false_iff_eq.1 c41b0)))
                                  (try (have c41b1 : decide (t314 = t316) = true := by simpa using c41))
                                  (try (have c41b2 : (t314 == t316) = true := by simpa using c41))
                                  clear c41
                                  by_cases c42 : t317.toList = t319.toList
                                  · rw [if_pos c42] at H
                                    have c42b0 : (t317.toList == t319.toList) = true := beq_iff_eq.mpr c42
                                    have c42b1 : (t317.toList != t319.toList) = false := bne_eq_false_iff_eq.mpr c42
                                    clear c42
                                    have H' := Aside0.mk H
                                    clear H
                                    go_wp2
                                    (try (have e_ : t314 = t316 := bne_eq_false_iff_eq.1 c41b0; subst e_))
                                    go_meet
                                    case rel => exact ⟨_, ((t318 != t320)), (by first | rfl | (simp; done) | (simp [*]; done)), H', ⟨by have := HJ6.out; have := HK2.out; first | omega | exact Nat.le_refl _⟩, ⟨by repeat (first | (with_reducible first | exact HB.out | apply below_alloc | apply pw_below_drewN | apply below_drew1) | exact HB.out)⟩⟩
                                  · rw [if_neg c42] at H
                                    have c42b0 : (t317.toList == t319.toList) = false := beq_eq_false_iff_ne.mpr c42
                                    have c42b1 : (t317.toList != t319.toList) = true := bne_iff_ne.mpr c42
                                    have H' := Aside0.mk H
                                    clear H
                                    go_wp2
                                    (try (have e_ : t314 = t316 := bne_eq_false_iff_eq.1 c41b0; subst e_))
                                    go_meet
                                    case rel => exact ⟨_, (true), (by first | rfl | (simp; done) | (simp [*]; done)), H', ⟨by have := HJ6.out; have := HK2.out; first | omega | exact Nat.le_refl _⟩, ⟨by repeat (first | (with_reducible first | exact HB.out | apply below_alloc | apply pw_below_drewN | apply below_drew1) | exact HB.out)⟩⟩
                              · rw [if_neg c40] at H
                                have c40b0 : (t313.toList == t315.toList) = false := beq_eq_false_iff_ne.mpr c40
                                have c40b1 : (t313.toList != t315.toList) = true := bne_iff_ne.mpr c40
                                have H' := Aside0.mk H
                                clear H
                                go_wp2
                                go_meet
                                case rel => exact ⟨_, (true), (by first | rfl | (simp; done) | (simp [*]; done)), H', ⟨by have := HJ6.out; have := HK2.out; first | omega | exact Nat.le_refl _⟩, ⟨by repeat (first | (with_reducible first | exact HB.out | apply below_alloc | apply pw_below_drewN | apply below_drew1) | exact HB.out)⟩⟩
                            · rw [if_neg c39] at H
                              have c39b0 : (t310 == t312) = false := beq_eq_false_iff_ne.mpr c39
                              have c39b1 : (t310 != t312) = true := bne_iff_ne.mpr c39
                              have H' := Aside0.mk H
                              clear H
                              go_wp2
                              go_meet
                              case rel => exact ⟨_, (true), (by first | rfl | (simp; done) | (simp [*]; done)), H', ⟨by have := HJ6.out; have := HK2.out; first | omega | exact Nat.le_refl _⟩, ⟨by repeat (first | (with_reducible first | exact HB.out | apply below_alloc | apply pw_below_drewN | apply below_drew1) | exact HB.out)⟩⟩
                          · rw [if_neg c38] at H
                            have c38b0 : (t309.toList == t311.toList) = false := beq_eq_false_iff_ne.mpr c38
                            have c38b1 : (t309.toList != t311.toList) = true := bne_iff_ne.mpr c38
                            have H' := Aside0.mk H
                            clear H
                            go_wp2
                            go_meet
                            case rel => exact ⟨_, (true), (by first | rfl | (simp; done) | (simp [*]; done)), H', ⟨by have := HJ6.out; have := HK2.out; first | omega | exact Nat.le_refl _⟩, ⟨by repeat (first | (with_reducible first | exact HB.out | apply below_alloc | apply pw_below_drewN | apply below_drew1) | exact HB.out)⟩⟩
                        · rw [if_neg c37] at H
                          have c37b0 : (t306 == t308) = false := beq_eq_false_iff_ne.mpr c37
                          have c37b1 : (t306 != t308) = true := bne_iff_ne.mpr c37
                          have H' := Aside0.mk H
                          clear H
                          go_wp2
                          go_meet
                          case rel => exact ⟨_, (true), (by first | rfl | (simp; done) | (simp [*]; done)), H', ⟨by have := HJ6.out; have := HK2.out; first | omega | exact Nat.le_refl _⟩, ⟨by repeat (first | (with_reducible first | exact HB.out | apply below_alloc | apply pw_below_drewN | apply below_drew1) | exact HB.out)⟩⟩
                      · rw [if_neg c36] at H
                        have c36b0 : (t305.toList == t307.toList) = false := beq_eq_false_iff_ne.mpr c36
                        have c36b1 : (t305.toList != t307.toList) = true := bne_iff_ne.mpr c36
                        have H' := Aside0.mk H
                        clear H
                        go_wp2
                        go_meet
                        case rel => exact ⟨_, (true), (by first | rfl | (simp; done) | (simp [*]; done)), H', ⟨by have := HJ6.out; have := HK2.out; first | omega | exact Nat.le_refl _⟩, ⟨by repeat (first | (with_reducible first | exact HB.out | apply below_alloc | apply pw_below_drewN | apply below_drew1) | exact HB.out)⟩⟩
                    · rw [if_neg c35] at H
                      have c35b0 : (t302 == t304) = false := beq_eq_false_iff_ne.mpr c35
                      have c35b1 : (t302 != t304) = true := bne_iff_ne.mpr c35
                      have H' := Aside0.mk H
                      clear H
                      go_wp2
                      go_meet
                      case rel => exact ⟨_, (true), (by first | rfl | (simp; done) | (simp [*]; done)), H', ⟨by have := HJ6.out; have := HK2.out; first | omega | exact Nat.le_refl _⟩, ⟨by repeat (first | (with_reducible first | exact HB.out | apply below_alloc | apply pw_below_drewN | apply below_drew1) | exact HB.out)⟩⟩
                  · rw [if_neg c34] at H
                    have c34b0 : (t301.toList == t303.toList) = false := beq_eq_false_iff_ne.mpr c34
                    have c34b1 : (t301.toList != t303.toList) = true := bne_iff_ne.mpr c34
                    (first | rw [c34b0] | (simp only [i64_w, i32_w]; rw [c34b0]) | skip)
                    have H' := Aside0.mk H
                    clear H
                    go_wp2
                    go_meet
                    case rel => exact ⟨_, (true), (by first | rfl | (simp; done) | (simp [*]; done)), H', ⟨by have := HJ6.out; have := HK2.out; first | omega | exact Nat.le_refl _⟩, ⟨by repeat (first | (with_reducible first | exact HB.out | apply below_alloc | apply pw_below_drewN | apply below_drew1) | exact HB.out)⟩⟩
                case rest => as_aux_lemma =>
                  clear HC26
                  try clear c1
                  try clear c2
                  try clear p2
                  try clear c3
                  try clear p3
                  try clear q3
                  try clear hx3
                  try clear c4
                  try clear c5
                  try clear c6
                  try clear p6
                  try clear c7
                  try clear c8
                  try clear c9
                  try clear c9b0
                  try clear c9b1
                  try clear c10
                  try clear c10b0
                  try clear c10b1
                  try clear c11
                  try clear c11b0
                  try clear c11b1
                  try clear c12
                  try clear c13
                  try clear c13b0
                  try clear c14
                  try clear c14b0
                  try clear c15
                  try clear c15b0
                  try clear c15b1
                  try clear p30
                  try clear q30
                  try clear hx30
                  try clear c34
                  try clear c34b0
                  try clear c34b1
                  try clear c35
                  try clear c35b0
                  try clear c35b1
                  try clear c36
                  try clear c36b0
                  try clear c36b1
                  try clear c37
                  try clear c37b0
                  try clear c37b1
                  try clear c38
                  try clear c38b0
                  try clear c38b1
                  try clear c39
                  try clear c39b0
                  try clear c39b1
                  try clear c40
                  try clear c40b0
                  try clear c40b1
                  try clear c41
                  try clear c41b0
                  try clear c41b1
                  try clear c41b2
                  try clear c42
                  try clear c42b0
                  try clear c42b1
                  try clear hx300_0
                  try clear p2
                  try clear p300
                  try clear q300
                  obtain ⟨kq, x161_25, rfl, HA, HJ25, HB⟩ := hcut
                  cases kq with
                  | zero => exact absurd HA.out (by simp [nameplatelaw02_NameCalls.j2])
                  | succ kj25 =>
                    have H := HA.out
                    clear HA
                    simp only [nameplatelaw02_NameCalls.j2] at H
                    by_cases c43 : x161_25 = true
                    · subst c43
                      have H1 : (some false) = some r := by rw [if_pos rfl] at H; exact H
                      clear H
                      have H := H1
                      clear H1
                      exact absurd ((Option.some.inj H).trans hr_.out) (by decide)
                    · replace c43 := Bool.eq_false_iff.mpr c43
                      subst c43
                      have H1 : ((name_Check.f kj25 a0).bind fun t321 => ((nameplateref02_Check.f kj25 a0).bind fun t322 => (if t321 = t322 then ((name_Labels.f kj25 a0).bind fun t323 => ((nameplateref02_Labels.f kj25 a0).bind fun t326 => ((nameplatekit_Same_string.f kj25 t323 t326).bind fun t329 => (if t329 = true then ((name_Fold.f kj25 a0).bind fun t330 => ((nameplateref02_Fold.f kj25 a0).bind fun t331 => (if t330.toList = t331.toList then ((name_Same.f kj25 a0 a1).bind fun t332 => ((nameplateref02_Same.f kj25 a0 a1).bind fun t333 => (if (t332 == t333) = true then ((name_Compare.f kj25 a0 a1).bind fun t334 => ((nameplateref02_Compare.f kj25 a0 a1).bind fun t335 => (if t334 = t335 then ((name_Under.f kj25 a0 a1).bind fun t336 => ((nameplateref02_Under.f kj25 a0 a1).bind fun t337 => (if (t336 == t337) = true then ((name_Wild.f kj25 a0).bind fun t338 => ((nameplateref02_Wild.f kj25 a0).bind fun t339 => (if (t338 == t339) = true then ((name_Matches.f kj25 a0 a1).bind fun t340 => ((nameplateref02_Matches.f kj25 a0 a1).bind fun t341 => (some (t340 == t341)))) else (some false)))) else (some false)))) else (some false)))) else (some false)))) else (some false)))) else (some false))))) else (some false)))) = some r := by rw [if_neg (show ¬ (false = true) by decide)] at H; exact H
                      clear H
                      have H := H1
                      clear H1
                      replace H := Option.bind_eq_some_iff.mp H
                      obtain ⟨t321, A440, H⟩ := H
                      replace H : ((nameplateref02_Check.f kj25 a0).bind fun t322 => (if t321 = t322 then ((name_Labels.f kj25 a0).bind fun t323 => ((nameplateref02_Labels.f kj25 a0).bind fun t326 => ((nameplatekit_Same_string.f kj25 t323 t326).bind fun t329 => (if t329 = true then ((name_Fold.f kj25 a0).bind fun t330 => ((nameplateref02_Fold.f kj25 a0).bind fun t331 => (if t330.toList = t331.toList then ((name_Same.f kj25 a0 a1).bind fun t332 => ((nameplateref02_Same.f kj25 a0 a1).bind fun t333 => (if (t332 == t333) = true then ((name_Compare.f kj25 a0 a1).bind fun t334 => ((nameplateref02_Compare.f kj25 a0 a1).bind fun t335 => (if t334 = t335 then ((name_Under.f kj25 a0 a1).bind fun t336 => ((nameplateref02_Under.f kj25 a0 a1).bind fun t337 => (if (t336 == t337) = true then ((name_Wild.f kj25 a0).bind fun t338 => ((nameplateref02_Wild.f kj25 a0).bind fun t339 => (if (t338 == t339) = true then ((name_Matches.f kj25 a0 a1).bind fun t340 => ((nameplateref02_Matches.f kj25 a0 a1).bind fun t341 => (some (t340 == t341)))) else (some false)))) else (some false)))) else (some false)))) else (some false)))) else (some false)))) else (some false))))) else (some false))) = some r := H
                      have A44 := Aside0.mk A440
                      clear A440
                      replace H := Option.bind_eq_some_iff.mp H
                      obtain ⟨t322, A450, H⟩ := H
                      replace H : (if t321 = t322 then ((name_Labels.f kj25 a0).bind fun t323 => ((nameplateref02_Labels.f kj25 a0).bind fun t326 => ((nameplatekit_Same_string.f kj25 t323 t326).bind fun t329 => (if t329 = true then ((name_Fold.f kj25 a0).bind fun t330 => ((nameplateref02_Fold.f kj25 a0).bind fun t331 => (if t330.toList = t331.toList then ((name_Same.f kj25 a0 a1).bind fun t332 => ((nameplateref02_Same.f kj25 a0 a1).bind fun t333 => (if (t332 == t333) = true then ((name_Compare.f kj25 a0 a1).bind fun t334 => ((nameplateref02_Compare.f kj25 a0 a1).bind fun t335 => (if t334 = t335 then ((name_Under.f kj25 a0 a1).bind fun t336 => ((nameplateref02_Under.f kj25 a0 a1).bind fun t337 => (if (t336 == t337) = true then ((name_Wild.f kj25 a0).bind fun t338 => ((nameplateref02_Wild.f kj25 a0).bind fun t339 => (if (t338 == t339) = true then ((name_Matches.f kj25 a0 a1).bind fun t340 => ((nameplateref02_Matches.f kj25 a0 a1).bind fun t341 => (some (t340 == t341)))) else (some false)))) else (some false)))) else (some false)))) else (some false)))) else (some false)))) else (some false))))) else (some false)) = some r := H
                      have A45 := Aside0.mk A450
                      clear A450
                      by_cases c46 : t321 = t322
                      · rw [if_pos c46] at H
                        have c46b0 : (t321 == t322) = true := beq_iff_eq.mpr c46
                        have c46b1 : (t321 != t322) = false := bne_eq_false_iff_eq.mpr c46
                        clear c46
                        replace H := Option.bind_eq_some_iff.mp H
                        obtain ⟨t323, A470, H⟩ := H
                        replace H : ((nameplateref02_Labels.f kj25 a0).bind fun t326 => ((nameplatekit_Same_string.f kj25 t323 t326).bind fun t329 => (if t329 = true then ((name_Fold.f kj25 a0).bind fun t330 => ((nameplateref02_Fold.f kj25 a0).bind fun t331 => (if t330.toList = t331.toList then ((name_Same.f kj25 a0 a1).bind fun t332 => ((nameplateref02_Same.f kj25 a0 a1).bind fun t333 => (if (t332 == t333) = true then ((name_Compare.f kj25 a0 a1).bind fun t334 => ((nameplateref02_Compare.f kj25 a0 a1).bind fun t335 => (if t334 = t335 then ((name_Under.f kj25 a0 a1).bind fun t336 => ((nameplateref02_Under.f kj25 a0 a1).bind fun t337 => (if (t336 == t337) = true then ((name_Wild.f kj25 a0).bind fun t338 => ((nameplateref02_Wild.f kj25 a0).bind fun t339 => (if (t338 == t339) = true then ((name_Matches.f kj25 a0 a1).bind fun t340 => ((nameplateref02_Matches.f kj25 a0 a1).bind fun t341 => (some (t340 == t341)))) else (some false)))) else (some false)))) else (some false)))) else (some false)))) else (some false)))) else (some false)))) = some r := H
                        have A47 := Aside0.mk A470
                        clear A470
                        replace H := Option.bind_eq_some_iff.mp H
                        obtain ⟨t326, A480, H⟩ := H
                        replace H : ((nameplatekit_Same_string.f kj25 t323 t326).bind fun t329 => (if t329 = true then ((name_Fold.f kj25 a0).bind fun t330 => ((nameplateref02_Fold.f kj25 a0).bind fun t331 => (if t330.toList = t331.toList then ((name_Same.f kj25 a0 a1).bind fun t332 => ((nameplateref02_Same.f kj25 a0 a1).bind fun t333 => (if (t332 == t333) = true then ((name_Compare.f kj25 a0 a1).bind fun t334 => ((nameplateref02_Compare.f kj25 a0 a1).bind fun t335 => (if t334 = t335 then ((name_Under.f kj25 a0 a1).bind fun t336 => ((nameplateref02_Under.f kj25 a0 a1).bind fun t337 => (if (t336 == t337) = true then ((name_Wild.f kj25 a0).bind fun t338 => ((nameplateref02_Wild.f kj25 a0).bind fun t339 => (if (t338 == t339) = true then ((name_Matches.f kj25 a0 a1).bind fun t340 => ((nameplateref02_Matches.f kj25 a0 a1).bind fun t341 => (some (t340 == t341)))) else (some false)))) else (some false)))) else (some false)))) else (some false)))) else (some false)))) else (some false))) = some r := H
                        have A48 := Aside0.mk A480
                        clear A480
                        replace H := Option.bind_eq_some_iff.mp H
                        obtain ⟨t329, A490, H⟩ := H
                        replace H : (if t329 = true then ((name_Fold.f kj25 a0).bind fun t330 => ((nameplateref02_Fold.f kj25 a0).bind fun t331 => (if t330.toList = t331.toList then ((name_Same.f kj25 a0 a1).bind fun t332 => ((nameplateref02_Same.f kj25 a0 a1).bind fun t333 => (if (t332 == t333) = true then ((name_Compare.f kj25 a0 a1).bind fun t334 => ((nameplateref02_Compare.f kj25 a0 a1).bind fun t335 => (if t334 = t335 then ((name_Under.f kj25 a0 a1).bind fun t336 => ((nameplateref02_Under.f kj25 a0 a1).bind fun t337 => (if (t336 == t337) = true then ((name_Wild.f kj25 a0).bind fun t338 => ((nameplateref02_Wild.f kj25 a0).bind fun t339 => (if (t338 == t339) = true then ((name_Matches.f kj25 a0 a1).bind fun t340 => ((nameplateref02_Matches.f kj25 a0 a1).bind fun t341 => (some (t340 == t341)))) else (some false)))) else (some false)))) else (some false)))) else (some false)))) else (some false)))) else (some false)) = some r := H
                        have A49 := Aside0.mk A490
                        clear A490
                        by_cases c50 : t329 = true
                        · subst c50
                          have H1 : ((name_Fold.f kj25 a0).bind fun t330 => ((nameplateref02_Fold.f kj25 a0).bind fun t331 => (if t330.toList = t331.toList then ((name_Same.f kj25 a0 a1).bind fun t332 => ((nameplateref02_Same.f kj25 a0 a1).bind fun t333 => (if (t332 == t333) = true then ((name_Compare.f kj25 a0 a1).bind fun t334 => ((nameplateref02_Compare.f kj25 a0 a1).bind fun t335 => (if t334 = t335 then ((name_Under.f kj25 a0 a1).bind fun t336 => ((nameplateref02_Under.f kj25 a0 a1).bind fun t337 => (if (t336 == t337) = true then ((name_Wild.f kj25 a0).bind fun t338 => ((nameplateref02_Wild.f kj25 a0).bind fun t339 => (if (t338 == t339) = true then ((name_Matches.f kj25 a0 a1).bind fun t340 => ((nameplateref02_Matches.f kj25 a0 a1).bind fun t341 => (some (t340 == t341)))) else (some false)))) else (some false)))) else (some false)))) else (some false)))) else (some false)))) = some r := by rw [if_pos rfl] at H; exact H
                          clear H
                          have H := H1
                          clear H1
                          replace H := Option.bind_eq_some_iff.mp H
                          obtain ⟨t330, A510, H⟩ := H
                          replace H : ((nameplateref02_Fold.f kj25 a0).bind fun t331 => (if t330.toList = t331.toList then ((name_Same.f kj25 a0 a1).bind fun t332 => ((nameplateref02_Same.f kj25 a0 a1).bind fun t333 => (if (t332 == t333) = true then ((name_Compare.f kj25 a0 a1).bind fun t334 => ((nameplateref02_Compare.f kj25 a0 a1).bind fun t335 => (if t334 = t335 then ((name_Under.f kj25 a0 a1).bind fun t336 => ((nameplateref02_Under.f kj25 a0 a1).bind fun t337 => (if (t336 == t337) = true then ((name_Wild.f kj25 a0).bind fun t338 => ((nameplateref02_Wild.f kj25 a0).bind fun t339 => (if (t338 == t339) = true then ((name_Matches.f kj25 a0 a1).bind fun t340 => ((nameplateref02_Matches.f kj25 a0 a1).bind fun t341 => (some (t340 == t341)))) else (some false)))) else (some false)))) else (some false)))) else (some false)))) else (some false))) = some r := H
                          have A51 := Aside0.mk A510
                          clear A510
                          replace H := Option.bind_eq_some_iff.mp H
                          obtain ⟨t331, A520, H⟩ := H
                          replace H : (if t330.toList = t331.toList then ((name_Same.f kj25 a0 a1).bind fun t332 => ((nameplateref02_Same.f kj25 a0 a1).bind fun t333 => (if (t332 == t333) = true then ((name_Compare.f kj25 a0 a1).bind fun t334 => ((nameplateref02_Compare.f kj25 a0 a1).bind fun t335 => (if t334 = t335 then ((name_Under.f kj25 a0 a1).bind fun t336 => ((nameplateref02_Under.f kj25 a0 a1).bind fun t337 => (if (t336 == t337) = true then ((name_Wild.f kj25 a0).bind fun t338 => ((nameplateref02_Wild.f kj25 a0).bind fun t339 => (if (t338 == t339) = true then ((name_Matches.f kj25 a0 a1).bind fun t340 => ((nameplateref02_Matches.f kj25 a0 a1).bind fun t341 => (some (t340 == t341)))) else (some false)))) else (some false)))) else (some false)))) else (some false)))) else (some false)) = some r := H
                          have A52 := Aside0.mk A520
                          clear A520
                          by_cases c53 : t330.toList = t331.toList
                          · rw [if_pos c53] at H
                            have c53b0 : (t330.toList == t331.toList) = true := beq_iff_eq.mpr c53
                            have c53b1 : (t330.toList != t331.toList) = false := bne_eq_false_iff_eq.mpr c53
                            clear c53
                            replace H := Option.bind_eq_some_iff.mp H
                            obtain ⟨t332, A540, H⟩ := H
                            replace H : ((nameplateref02_Same.f kj25 a0 a1).bind fun t333 => (if (t332 == t333) = true then ((name_Compare.f kj25 a0 a1).bind fun t334 => ((nameplateref02_Compare.f kj25 a0 a1).bind fun t335 => (if t334 = t335 then ((name_Under.f kj25 a0 a1).bind fun t336 => ((nameplateref02_Under.f kj25 a0 a1).bind fun t337 => (if (t336 == t337) = true then ((name_Wild.f kj25 a0).bind fun t338 => ((nameplateref02_Wild.f kj25 a0).bind fun t339 => (if (t338 == t339) = true then ((name_Matches.f kj25 a0 a1).bind fun t340 => ((nameplateref02_Matches.f kj25 a0 a1).bind fun t341 => (some (t340 == t341)))) else (some false)))) else (some false)))) else (some false)))) else (some false))) = some r := H
                            have A54 := Aside0.mk A540
                            clear A540
                            replace H := Option.bind_eq_some_iff.mp H
                            obtain ⟨t333, A550, H⟩ := H
                            replace H : (if (t332 == t333) = true then ((name_Compare.f kj25 a0 a1).bind fun t334 => ((nameplateref02_Compare.f kj25 a0 a1).bind fun t335 => (if t334 = t335 then ((name_Under.f kj25 a0 a1).bind fun t336 => ((nameplateref02_Under.f kj25 a0 a1).bind fun t337 => (if (t336 == t337) = true then ((name_Wild.f kj25 a0).bind fun t338 => ((nameplateref02_Wild.f kj25 a0).bind fun t339 => (if (t338 == t339) = true then ((name_Matches.f kj25 a0 a1).bind fun t340 => ((nameplateref02_Matches.f kj25 a0 a1).bind fun t341 => (some (t340 == t341)))) else (some false)))) else (some false)))) else (some false)))) else (some false)) = some r := H
                            have A55 := Aside0.mk A550
                            clear A550
                            by_cases c56 : (t332 == t333) = true
                            · rw [if_pos c56] at H
                              have c56b0 : (t332 == t333) = true := c56
                              (try (have c56b1 : decide (t332 = t333) = true := by simpa using c56))
                              (try (have c56b2 : (t332 == t333) = true := by simpa using c56))
                              clear c56
                              replace H := Option.bind_eq_some_iff.mp H
                              obtain ⟨t334, A570, H⟩ := H
                              replace H : ((nameplateref02_Compare.f kj25 a0 a1).bind fun t335 => (if t334 = t335 then ((name_Under.f kj25 a0 a1).bind fun t336 => ((nameplateref02_Under.f kj25 a0 a1).bind fun t337 => (if (t336 == t337) = true then ((name_Wild.f kj25 a0).bind fun t338 => ((nameplateref02_Wild.f kj25 a0).bind fun t339 => (if (t338 == t339) = true then ((name_Matches.f kj25 a0 a1).bind fun t340 => ((nameplateref02_Matches.f kj25 a0 a1).bind fun t341 => (some (t340 == t341)))) else (some false)))) else (some false)))) else (some false))) = some r := H
                              have A57 := Aside0.mk A570
                              clear A570
                              replace H := Option.bind_eq_some_iff.mp H
                              obtain ⟨t335, A580, H⟩ := H
                              replace H : (if t334 = t335 then ((name_Under.f kj25 a0 a1).bind fun t336 => ((nameplateref02_Under.f kj25 a0 a1).bind fun t337 => (if (t336 == t337) = true then ((name_Wild.f kj25 a0).bind fun t338 => ((nameplateref02_Wild.f kj25 a0).bind fun t339 => (if (t338 == t339) = true then ((name_Matches.f kj25 a0 a1).bind fun t340 => ((nameplateref02_Matches.f kj25 a0 a1).bind fun t341 => (some (t340 == t341)))) else (some false)))) else (some false)))) else (some false)) = some r := H
                              have A58 := Aside0.mk A580
                              clear A580
                              by_cases c59 : t334 = t335
                              · rw [if_pos c59] at H
                                have c59b0 : (t334 == t335) = true := beq_iff_eq.mpr c59
                                have c59b1 : (t334 != t335) = false := bne_eq_false_iff_eq.mpr c59
                                clear c59
                                replace H := Option.bind_eq_some_iff.mp H
                                obtain ⟨t336, A600, H⟩ := H
                                replace H : ((nameplateref02_Under.f kj25 a0 a1).bind fun t337 => (if (t336 == t337) = true then ((name_Wild.f kj25 a0).bind fun t338 => ((nameplateref02_Wild.f kj25 a0).bind fun t339 => (if (t338 == t339) = true then ((name_Matches.f kj25 a0 a1).bind fun t340 => ((nameplateref02_Matches.f kj25 a0 a1).bind fun t341 => (some (t340 == t341)))) else (some false)))) else (some false))) = some r := H
                                have A60 := Aside0.mk A600
                                clear A600
                                replace H := Option.bind_eq_some_iff.mp H
                                obtain ⟨t337, A610, H⟩ := H
                                replace H : (if (t336 == t337) = true then ((name_Wild.f kj25 a0).bind fun t338 => ((nameplateref02_Wild.f kj25 a0).bind fun t339 => (if (t338 == t339) = true then ((name_Matches.f kj25 a0 a1).bind fun t340 => ((nameplateref02_Matches.f kj25 a0 a1).bind fun t341 => (some (t340 == t341)))) else (some false)))) else (some false)) = some r := H
                                have A61 := Aside0.mk A610
                                clear A610
                                by_cases c62 : (t336 == t337) = true
                                · rw [if_pos c62] at H
                                  have c62b0 : (t336 == t337) = true := c62
                                  (try (have c62b1 : decide (t336 = t337) = true := by simpa using c62))
                                  (try (have c62b2 : (t336 == t337) = true := by simpa using c62))
                                  clear c62
                                  replace H := Option.bind_eq_some_iff.mp H
                                  obtain ⟨t338, A630, H⟩ := H
                                  replace H : ((nameplateref02_Wild.f kj25 a0).bind fun t339 => (if (t338 == t339) = true then ((name_Matches.f kj25 a0 a1).bind fun t340 => ((nameplateref02_Matches.f kj25 a0 a1).bind fun t341 => (some (t340 == t341)))) else (some false))) = some r := H
                                  have A63 := Aside0.mk A630
                                  clear A630
                                  replace H := Option.bind_eq_some_iff.mp H
                                  obtain ⟨t339, A640, H⟩ := H
                                  replace H : (if (t338 == t339) = true then ((name_Matches.f kj25 a0 a1).bind fun t340 => ((nameplateref02_Matches.f kj25 a0 a1).bind fun t341 => (some (t340 == t341)))) else (some false)) = some r := H
                                  have A64 := Aside0.mk A640
                                  clear A640
                                  by_cases c65 : (t338 == t339) = true
                                  · rw [if_pos c65] at H
                                    have c65b0 : (t338 == t339) = true := c65
                                    (try (have c65b1 : decide (t338 = t339) = true := by simpa using c65))
                                    (try (have c65b2 : (t338 == t339) = true := by simpa using c65))
                                    clear c65
                                    replace H := Option.bind_eq_some_iff.mp H
                                    obtain ⟨t340, A660, H⟩ := H
                                    replace H : ((nameplateref02_Matches.f kj25 a0 a1).bind fun t341 => (some (t340 == t341))) = some r := H
                                    have A66 := Aside0.mk A660
                                    clear A660
                                    replace H := Option.bind_eq_some_iff.mp H
                                    obtain ⟨t341, A670, H⟩ := H
                                    replace H : (some (t340 == t341)) = some r := H
                                    have A67 := Aside0.mk A670
                                    clear A670
                                    obtain rfl := Option.some.inj H
                                    go_wp2_with (first | ((with_reducible refine gate_callee (f := 15) rfl ?_); refine goesL_ (some 163) rfl rfl Try.func15 (by kernel_rfl) rfl #[.string a0] rfl (by (try simp only [List.map_toArray, List.map_cons, List.map_nil]); first | done | rfl | (simp only [List.length_drop, List.length_take]; rfl)) ?_; (with_reducible refine (name_Check.calls kj25 a0 t321 _ A44.out).mono ?_); rintro e w' ⟨rfl, ⟨nd, rfl⟩⟩; refine ⟨_, rfl, ?_⟩) | ((with_reducible refine gate_callee (f := 16) rfl ?_); refine goesL_ (some 165) rfl rfl Try.func16 (by kernel_rfl) rfl #[.string a0] rfl (by (try simp only [List.map_toArray, List.map_cons, List.map_nil]); first | done | rfl | (simp only [List.length_drop, List.length_take]; rfl)) ?_; (with_reducible refine (nameplateref02_Check.calls kj25 a0 t322 _ A45.out).mono ?_); rintro e w' ⟨rfl, ⟨nd, rfl⟩⟩; refine ⟨_, rfl, ?_⟩) | (go_at_call 18; (with_reducible refine (name_Labels.calls kj25 a0 t323 _ A47.out).mono ?_); rintro e w68 ⟨v324, rfl, ho0, hb⟩; have n0_ := Aside0.mk (Kd.R_lower ho0 (below_size (by repeat (first | (with_reducible first | exact HB.out | apply below_alloc | apply pw_below_drewN | apply below_drew1) | exact HB.out)))); have n1_ := Aside0.mk (below_step (by repeat (first | (with_reducible first | exact HB.out | apply below_alloc | apply pw_below_drewN | apply below_drew1) | exact HB.out)) hb); clear HB; have HO325 := n0_; have HB := n1_; clear n0_ n1_; (try clear hb); (try clear hb2); (try clear hk); (try clear hi); (try clear ho0)) | (go_at_call 19; (with_reducible refine (nameplateref02_Labels.calls kj25 a0 t326 _ A48.out).mono ?_); rintro e w69 ⟨v327, rfl, ho0, hb⟩; have n0_ := Aside0.mk (Kd.R_elder' (by (with_reducible repeat (first | apply Kd.R_alloc | apply Kd.R_drewN | apply Kd.R_drew)); exact HO325.out) (Kd.R_base ho0) hb); have n1_ := Aside0.mk (Kd.R_lower (Kd.R_new' ho0 (Kd.R_lt (by (with_reducible repeat (first | apply Kd.R_alloc | apply Kd.R_drewN | apply Kd.R_drew)); exact HO325.out))) (below_size (by repeat (first | (with_reducible first | exact HB.out | apply below_alloc | apply pw_below_drewN | apply below_drew1) | exact HB.out)))); have n2_ := Aside0.mk (below_step (by repeat (first | (with_reducible first | exact HB.out | apply below_alloc | apply pw_below_drewN | apply below_drew1) | exact HB.out)) hb); clear HO325; clear HB; have HO325 := n0_; have HO328 := n1_; have HB := n2_; clear n0_ n1_ n2_; (try clear hb); (try clear hb2); (try clear hk); (try clear hi); (try clear ho0); obtain ⟨Ao70, co70, eo70⟩ := Kd.R_slice HO325.out; subst eo70; obtain ⟨Ao71, co71, eo71⟩ := Kd.R_slice HO328.out; subst eo71) | (go_at_call 17; (with_reducible refine (nameplatekit_Same_string.calls kj25 _ _ t323 _ _ t326 true _ ?side1 ?side2 ?side3 ?side4 A49.out).mono ?_); (case side1 => repeat (first | exact (Kd.R_reads' HO325.out).2.2 | (with_reducible refine Kd.C_alloc ?_ _) | (with_reducible refine Kd.C_drewN ?_ _) | (with_reducible refine Kd.C_drew ?_))); (case side2 => exact (Kd.R_reads' HO325.out).2.1); (case side3 => repeat (first | exact (Kd.R_reads' HO328.out).2.2 | (with_reducible refine Kd.C_alloc ?_ _) | (with_reducible refine Kd.C_drewN ?_ _) | (with_reducible refine Kd.C_drew ?_))); (case side4 => exact (Kd.R_reads' HO328.out).2.1); rintro e w' ⟨rfl, ⟨nd, rfl⟩⟩) | (go_at_call 20; (with_reducible refine (name_Fold.calls kj25 a0 t330 _ A51.out).mono ?_); rintro e w72 ⟨rfl, hb⟩; have n0_ := Aside0.mk (Kd.R_below (by (with_reducible repeat (first | apply Kd.R_alloc | apply Kd.R_drewN | apply Kd.R_drew)); exact HO325.out) hb); have n1_ := Aside0.mk (Kd.R_below (by (with_reducible repeat (first | apply Kd.R_alloc | apply Kd.R_drewN | apply Kd.R_drew)); exact HO328.out) hb); have n2_ := Aside0.mk (below_step (by repeat (first | (with_reducible first | exact HB.out | apply below_alloc | apply pw_below_drewN | apply below_drew1) | exact HB.out)) hb); clear HO325; clear HO328; clear HB; have HO325 := n0_; have HO328 := n1_; have HB := n2_; clear n0_ n1_ n2_; (try clear hb); (try clear hb2); (try clear hk); (try clear hi)) | (go_at_call 21; (with_reducible refine (nameplateref02_Fold.calls kj25 a0 t331 _ A52.out).mono ?_); rintro e w73 ⟨rfl, hb⟩; have n0_ := Aside0.mk (Kd.R_below (by (with_reducible repeat (first | apply Kd.R_alloc | apply Kd.R_drewN | apply Kd.R_drew)); exact HO325.out) hb); have n1_ := Aside0.mk (Kd.R_below (by (with_reducible repeat (first | apply Kd.R_alloc | apply Kd.R_drewN | apply Kd.R_drew)); exact HO328.out) hb); have n2_ := Aside0.mk (below_step (by repeat (first | (with_reducible first | exact HB.out | apply below_alloc | apply pw_below_drewN | apply below_drew1) | exact HB.out)) hb); clear HO325; clear HO328; clear HB; have HO325 := n0_; have HO328 := n1_; have HB := n2_; clear n0_ n1_ n2_; (try clear hb); (try clear hb2); (try clear hk); (try clear hi)) | (go_at_call 22; (with_reducible refine (name_Same.calls kj25 a0 a1 t332 _ A54.out).mono ?_); rintro e w74 ⟨rfl, hb⟩; have n0_ := Aside0.mk (Kd.R_below (by (with_reducible repeat (first | apply Kd.R_alloc | apply Kd.R_drewN | apply Kd.R_drew)); exact HO325.out) hb); have n1_ := Aside0.mk (Kd.R_below (by (with_reducible repeat (first | apply Kd.R_alloc | apply Kd.R_drewN | apply Kd.R_drew)); exact HO328.out) hb); have n2_ := Aside0.mk (below_step (by repeat (first | (with_reducible first | exact HB.out | apply below_alloc | apply pw_below_drewN | apply below_drew1) | exact HB.out)) hb); clear HO325; clear HO328; clear HB; have HO325 := n0_; have HO328 := n1_; have HB := n2_; clear n0_ n1_ n2_; (try clear hb); (try clear hb2); (try clear hk); (try clear hi)) | (go_at_call 23; (with_reducible refine (nameplateref02_Same.calls kj25 a0 a1 t333 _ A55.out).mono ?_); rintro e w75 ⟨rfl, hb⟩; have n0_ := Aside0.mk (Kd.R_below (by (with_reducible repeat (first | apply Kd.R_alloc | apply Kd.R_drewN | apply Kd.R_drew)); exact HO325.out) hb); have n1_ := Aside0.mk (Kd.R_below (by (with_reducible repeat (first | apply Kd.R_alloc | apply Kd.R_drewN | apply Kd.R_drew)); exact HO328.out) hb); have n2_ := Aside0.mk (below_step (by repeat (first | (with_reducible first | exact HB.out | apply below_alloc | apply pw_below_drewN | apply below_drew1) | exact HB.out)) hb); clear HO325; clear HO328; clear HB; have HO325 := n0_; have HO328 := n1_; have HB := n2_; clear n0_ n1_ n2_; (try clear hb); (try clear hb2); (try clear hk); (try clear hi)) | (go_at_call 24; (with_reducible refine (name_Compare.calls kj25 a0 a1 t334 _ A57.out).mono ?_); rintro e w76 ⟨rfl, hb⟩; have n0_ := Aside0.mk (Kd.R_below (by (with_reducible repeat (first | apply Kd.R_alloc | apply Kd.R_drewN | apply Kd.R_drew)); exact HO325.out) hb); have n1_ := Aside0.mk (Kd.R_below (by (with_reducible repeat (first | apply Kd.R_alloc | apply Kd.R_drewN | apply Kd.R_drew)); exact HO328.out) hb); have n2_ := Aside0.mk (below_step (by repeat (first | (with_reducible first | exact HB.out | apply below_alloc | apply pw_below_drewN | apply below_drew1) | exact HB.out)) hb); clear HO325; clear HO328; clear HB; have HO325 := n0_; have HO328 := n1_; have HB := n2_; clear n0_ n1_ n2_; (try clear hb); (try clear hb2); (try clear hk); (try clear hi)) | (go_at_call 25; (with_reducible refine (nameplateref02_Compare.calls kj25 a0 a1 t335 _ A58.out).mono ?_); rintro e w77 ⟨rfl, hb⟩; have n0_ := Aside0.mk (Kd.R_below (by (with_reducible repeat (first | apply Kd.R_alloc | apply Kd.R_drewN | apply Kd.R_drew)); exact HO325.out) hb); have n1_ := Aside0.mk (Kd.R_below (by (with_reducible repeat (first | apply Kd.R_alloc | apply Kd.R_drewN | apply Kd.R_drew)); exact HO328.out) hb); have n2_ := Aside0.mk (below_step (by repeat (first | (with_reducible first | exact HB.out | apply below_alloc | apply pw_below_drewN | apply below_drew1) | exact HB.out)) hb); clear HO325; clear HO328; clear HB; have HO325 := n0_; have HO328 := n1_; have HB := n2_; clear n0_ n1_ n2_; (try clear hb); (try clear hb2); (try clear hk); (try clear hi)) | (go_at_call 26; (with_reducible refine (name_Under.calls kj25 a0 a1 t336 _ A60.out).mono ?_); rintro e w78 ⟨rfl, hb⟩; have n0_ := Aside0.mk (Kd.R_below (by (with_reducible repeat (first | apply Kd.R_alloc | apply Kd.R_drewN | apply Kd.R_drew)); exact HO325.out) hb); have n1_ := Aside0.mk (Kd.R_below (by (with_reducible repeat (first | apply Kd.R_alloc | apply Kd.R_drewN | apply Kd.R_drew)); exact HO328.out) hb); have n2_ := Aside0.mk (below_step (by repeat (first | (with_reducible first | exact HB.out | apply below_alloc | apply pw_below_drewN | apply below_drew1) | exact HB.out)) hb); clear HO325; clear HO328; clear HB; have HO325 := n0_; have HO328 := n1_; have HB := n2_; clear n0_ n1_ n2_; (try clear hb); (try clear hb2); (try clear hk); (try clear hi)) | (go_at_call 27; (with_reducible refine (nameplateref02_Under.calls kj25 a0 a1 t337 _ A61.out).mono ?_); rintro e w79 ⟨rfl, hb⟩; have n0_ := Aside0.mk (Kd.R_below (by (with_reducible repeat (first | apply Kd.R_alloc | apply Kd.R_drewN | apply Kd.R_drew)); exact HO325.out) hb); have n1_ := Aside0.mk (Kd.R_below (by (with_reducible repeat (first | apply Kd.R_alloc | apply Kd.R_drewN | apply Kd.R_drew)); exact HO328.out) hb); have n2_ := Aside0.mk (below_step (by repeat (first | (with_reducible first | exact HB.out | apply below_alloc | apply pw_below_drewN | apply below_drew1) | exact HB.out)) hb); clear HO325; clear HO328; clear HB; have HO325 := n0_; have HO328 := n1_; have HB := n2_; clear n0_ n1_ n2_; (try clear hb); (try clear hb2); (try clear hk); (try clear hi)) | (go_at_call 28; (with_reducible refine (name_Wild.calls kj25 a0 t338 _ A63.out).mono ?_); rintro e w' ⟨rfl, ⟨nd, rfl⟩⟩) | (go_at_call 29; (with_reducible refine (nameplateref02_Wild.calls kj25 a0 t339 _ A64.out).mono ?_); rintro e w' ⟨rfl, ⟨nd, rfl⟩⟩) | (go_at_call 30; (with_reducible refine (name_Matches.calls kj25 a0 a1 t340 _ A66.out).mono ?_); rintro e w80 ⟨rfl, hb⟩; have n0_ := Aside0.mk (Kd.R_below (by (with_reducible repeat (first | apply Kd.R_alloc | apply Kd.R_drewN | apply Kd.R_drew)); exact HO325.out) hb); have n1_ := Aside0.mk (Kd.R_below (by (with_reducible repeat (first | apply Kd.R_alloc | apply Kd.R_drewN | apply Kd.R_drew)); exact HO328.out) hb); have n2_ := Aside0.mk (below_step (by repeat (first | (with_reducible first | exact HB.out | apply below_alloc | apply pw_below_drewN | apply below_drew1) | exact HB.out)) hb); clear HO325; clear HO328; clear HB; have HO325 := n0_; have HO328 := n1_; have HB := n2_; clear n0_ n1_ n2_; (try clear hb); (try clear hb2); (try clear hk); (try clear hi)) | (go_at_call 31; (with_reducible refine (nameplateref02_Matches.calls kj25 a0 a1 t341 _ A67.out).mono ?_); rintro e w81 ⟨rfl, hb⟩; have n0_ := Aside0.mk (Kd.R_below (by (with_reducible repeat (first | apply Kd.R_alloc | apply Kd.R_drewN | apply Kd.R_drew)); exact HO325.out) hb); have n1_ := Aside0.mk (Kd.R_below (by (with_reducible repeat (first | apply Kd.R_alloc | apply Kd.R_drewN | apply Kd.R_drew)); exact HO328.out) hb); have n2_ := Aside0.mk (below_step (by repeat (first | (with_reducible first | exact HB.out | apply below_alloc | apply pw_below_drewN | apply below_drew1) | exact HB.out)) hb); clear HO325; clear HO328; clear HB; have HO325 := n0_; have HO328 := n1_; have HB := n2_; clear n0_ n1_ n2_; (try clear hb); (try clear hb2); (try clear hk); (try clear hi)))
                                    go_ret
                                    exact ⟨by first | rfl | (simp [errW_none, errW_some] <;> rfl) | (simp [*, errW_none, errW_some] <;> rfl), by repeat (first | (with_reducible first | exact HB.out | apply below_alloc | apply pw_below_drewN | apply below_drew1) | exact HB.out)⟩
                                  · rw [if_neg c65] at H
                                    have c65b0 : (t338 == t339) = false := by simpa using c65
                                    (try (have c65b1 : decide (t338 = t339) = false := by simpa using c65))
                                    (try (have c65b2 : (t338 == t339) = false := by simpa using c65))
                                    (try (have c65b3 : ¬ (t338 = t339) := by simpa using c65))
                                    clear c65
                                    exact absurd ((Option.some.inj H).trans hr_.out) (by decide)
                                · rw [if_neg c62] at H
                                  have c62b0 : (t336 == t337) = false := by simpa using c62
                                  (try (have c62b1 : decide (t336 = t337) = false := by simpa using c62))
                                  (try (have c62b2 : (t336 == t337) = false := by simpa using c62))
                                  (try (have c62b3 : ¬ (t336 = t337) := by simpa using c62))
                                  clear c62
                                  exact absurd ((Option.some.inj H).trans hr_.out) (by decide)
                              · rw [if_neg c59] at H
                                have c59b0 : (t334 == t335) = false := beq_eq_false_iff_ne.mpr c59
                                have c59b1 : (t334 != t335) = true := bne_iff_ne.mpr c59
                                exact absurd ((Option.some.inj H).trans hr_.out) (by decide)
                            · rw [if_neg c56] at H
                              have c56b0 : (t332 == t333) = false := by simpa using c56
                              (try (have c56b1 : decide (t332 = t333) = false := by simpa using c56))
                              (try (have c56b2 : (t332 == t333) = false := by simpa using c56))
                              (try (have c56b3 : ¬ (t332 = t333) := by simpa using c56))
                              clear c56
                              exact absurd ((Option.some.inj H).trans hr_.out) (by decide)
                          · rw [if_neg c53] at H
                            have c53b0 : (t330.toList == t331.toList) = false := beq_eq_false_iff_ne.mpr c53
                            have c53b1 : (t330.toList != t331.toList) = true := bne_iff_ne.mpr c53
                            exact absurd ((Option.some.inj H).trans hr_.out) (by decide)
                        · replace c50 := Bool.eq_false_iff.mpr c50
                          subst c50
                          have H1 : (some false) = some r := by rw [if_neg (show ¬ (false = true) by decide)] at H; exact H
                          clear H
                          have H := H1
                          clear H1
                          exact absurd ((Option.some.inj H).trans hr_.out) (by decide)
                      · rw [if_neg c46] at H
                        have c46b0 : (t321 == t322) = false := beq_eq_false_iff_ne.mpr c46
                        have c46b1 : (t321 != t322) = true := bne_iff_ne.mpr c46
                        exact absurd ((Option.some.inj H).trans hr_.out) (by decide)
  · replace c6 := Bool.eq_false_iff.mpr c6
    subst c6
    have H1 : (some false) = some r := by rw [if_neg (show ¬ (false = true) by decide)] at H; exact H
    clear H
    have H := H1
    clear H1
    exact absurd ((Option.some.inj H).trans hr_.out) (by decide)

end Go.Proofs.Ytfpdmmpjoejmiaa.OCalls
