/- This text proves, for each Go function named below, which plain Lean function its call computes, in whatever memory; a program of this session has written it. -/
import Derived.Test.YtnbjogebdjjepacOLabelNamesx0
import Derived.Test.YtnbjogebdjjepacOLabelNamesx1
import Derived.Test.YtnbjogebdjjepacOLabelNamesx2
namespace Go.Proofs.Ytnbjogebdjjepac.OLabelNames
open Go.RowKit Go.Proofs.YtnbjogebdjjepacW.PrintWords Go.Proofs.YtnbjogebdjjepacW.PrintLast Go.Proofs.YtnbjogebdjjepacW.PrintMore
attribute [local go_sem] max2_int min2_int max_two min_two max_three min_three max_four min_four   -- for this text's walks alone
set_option linter.unusedVariables false
set_option linter.unusedSimpArgs false

/-! ### nameplatelaw01_LabelNames: function 6 -/
def nameplatelaw01_LabelNames.f (k : Nat)  : Option (Bool) := (nameplatelaw01_lives.f k).bind fun t155 => (if t155 = true then ((label_Read.f k (⟨#[97, 92]⟩ : ByteArray) 0).bind fun bt156 => ((label_Read.f k (⟨#[97, 92, 50, 53]⟩ : ByteArray) 0).bind fun bt159 => ((label_Read.f k (⟨#[97, 92, 50, 53, 54]⟩ : ByteArray) 0).bind fun bt162 => ((label_Read.f k (⟨#[97, 32, 98]⟩ : ByteArray) 0).bind fun bt165 => ((nameplatekit_Times.f k (⟨#[97]⟩ : ByteArray) 64).bind fun t168 => ((label_Read.f k t168 0).bind fun bt169 => ((label_Read.f k (⟨#[120, 92, 48, 54, 53, 92, 32, 92, 92]⟩ : ByteArray) 1).bind fun bt172 => ((label_Read.f k (⟨#[]⟩ : ByteArray) 0).bind fun bt175 => ((label_Read.f k (⟨#[97]⟩ : ByteArray) 2).bind fun bt178 => ((nameplatelaw01_lives.f k).bind fun t181 => (if t181 = true then (if bt156.2.2 = 7 then (if bt159.2.2 = 7 then (if bt162.2.2 = 7 then (if bt165.2.2 = 7 then (if bt169.2.2 = 3 then (if bt172.2.2 = 0 then (if bt172.1.toList = ([65, 32, 92] : List UInt8) then (if bt172.2.1 = 9 then (if bt175.2.2 = 2 then (if bt178.2.2 = 2 then ((label_Check.f (⟨#[]⟩ : ByteArray)).bind fun t182 => (if t182 = 2 then ((nameplatekit_Times.f k (⟨#[97]⟩ : ByteArray) 64).bind fun t183 => ((label_Check.f t183).bind fun t184 => (if t184 = 3 then ((nameplatekit_Times.f k (⟨#[97]⟩ : ByteArray) 63).bind fun t185 => ((label_Check.f t185).bind fun t186 => (if t186 = 0 then ((label_Fold.f (⟨#[65, 122, 90, 91, 64, 193]⟩ : ByteArray)).bind fun t187 => (if t187.toList = ([97, 122, 122, 91, 64, 193] : List UInt8) then ((label_Same.f (⟨#[97, 66]⟩ : ByteArray) (⟨#[65, 98]⟩ : ByteArray)).bind fun t188 => (if t188 = true then ((label_Compare.f (⟨#[97]⟩ : ByteArray) (⟨#[66]⟩ : ByteArray)).bind fun t189 => (if t189 = (-1) then ((label_Compare.f (⟨#[97, 98]⟩ : ByteArray) (⟨#[65]⟩ : ByteArray)).bind fun t190 => (if t190 = 1 then ((label_Compare.f (⟨#[81]⟩ : ByteArray) (⟨#[113]⟩ : ByteArray)).bind fun t191 => (some (t191 == 0))) else (some false))) else (some false))) else (some false))) else (some false))) else (some false)))) else (some false)))) else (some false))) else (some false)) else (some false)) else (some false)) else (some false)) else (some false)) else (some false)) else (some false)) else (some false)) else (some false)) else (some false)) else (some false)))))))))))) else (some false))
theorem nameplatelaw01_LabelNames.mono : ∀ k, LeO (nameplatelaw01_LabelNames.f k ) (nameplatelaw01_LabelNames.f (k + 1) ) := by
  intro  k
  unfold nameplatelaw01_LabelNames.f
  repeat' first
      | (with_reducible exact label_Read.mono _ _ _)
      | (with_reducible exact nameplatekit_Times.mono _ _ _)
      | (with_reducible exact nameplatelaw01_lives.mono _)
      | (with_reducible exact LeO.refl _)
      | (with_reducible exact LeO.none _)
      | (with_reducible refine LeO.ite ?_ ?_)
      | (with_reducible refine LeO.bind ?_ (fun _ => ?_))
      | exact label_Read.mono _ _ _
      | exact nameplatekit_Times.mono _ _ _
      | exact nameplatelaw01_lives.mono _
      | exact LeO.none _
      | refine LeO.ite ?_ ?_
      | refine LeO.bind ?_ (fun _ => ?_)
set_option maxHeartbeats 8000000 in
set_option maxRecDepth 100000 in
theorem nameplatelaw01_LabelNames.calls (k : Nat)  (r : Bool) (w : World) (hr_ : Aside0 (r = true)) (h : nameplatelaw01_LabelNames.f k  = some r) :
    Calls Try.prog 6 #[] w fun e w' => e = .returned (.bool r) ∧ Below w.heap.size w w' := by
  have HB := Aside0.mk (Below.refl w.heap.size w)
  have H : ((nameplatelaw01_lives.f k).bind fun t155 => (if t155 = true then ((label_Read.f k (⟨#[97, 92]⟩ : ByteArray) 0).bind fun bt156 => ((label_Read.f k (⟨#[97, 92, 50, 53]⟩ : ByteArray) 0).bind fun bt159 => ((label_Read.f k (⟨#[97, 92, 50, 53, 54]⟩ : ByteArray) 0).bind fun bt162 => ((label_Read.f k (⟨#[97, 32, 98]⟩ : ByteArray) 0).bind fun bt165 => ((nameplatekit_Times.f k (⟨#[97]⟩ : ByteArray) 64).bind fun t168 => ((label_Read.f k t168 0).bind fun bt169 => ((label_Read.f k (⟨#[120, 92, 48, 54, 53, 92, 32, 92, 92]⟩ : ByteArray) 1).bind fun bt172 => ((label_Read.f k (⟨#[]⟩ : ByteArray) 0).bind fun bt175 => ((label_Read.f k (⟨#[97]⟩ : ByteArray) 2).bind fun bt178 => ((nameplatelaw01_lives.f k).bind fun t181 => (if t181 = true then (if bt156.2.2 = 7 then (if bt159.2.2 = 7 then (if bt162.2.2 = 7 then (if bt165.2.2 = 7 then (if bt169.2.2 = 3 then (if bt172.2.2 = 0 then (if bt172.1.toList = ([65, 32, 92] : List UInt8) then (if bt172.2.1 = 9 then (if bt175.2.2 = 2 then (if bt178.2.2 = 2 then ((label_Check.f (⟨#[]⟩ : ByteArray)).bind fun t182 => (if t182 = 2 then ((nameplatekit_Times.f k (⟨#[97]⟩ : ByteArray) 64).bind fun t183 => ((label_Check.f t183).bind fun t184 => (if t184 = 3 then ((nameplatekit_Times.f k (⟨#[97]⟩ : ByteArray) 63).bind fun t185 => ((label_Check.f t185).bind fun t186 => (if t186 = 0 then ((label_Fold.f (⟨#[65, 122, 90, 91, 64, 193]⟩ : ByteArray)).bind fun t187 => (if t187.toList = ([97, 122, 122, 91, 64, 193] : List UInt8) then ((label_Same.f (⟨#[97, 66]⟩ : ByteArray) (⟨#[65, 98]⟩ : ByteArray)).bind fun t188 => (if t188 = true then ((label_Compare.f (⟨#[97]⟩ : ByteArray) (⟨#[66]⟩ : ByteArray)).bind fun t189 => (if t189 = (-1) then ((label_Compare.f (⟨#[97, 98]⟩ : ByteArray) (⟨#[65]⟩ : ByteArray)).bind fun t190 => (if t190 = 1 then ((label_Compare.f (⟨#[81]⟩ : ByteArray) (⟨#[113]⟩ : ByteArray)).bind fun t191 => (some (t191 == 0))) else (some false))) else (some false))) else (some false))) else (some false))) else (some false)))) else (some false)))) else (some false))) else (some false)) else (some false)) else (some false)) else (some false)) else (some false)) else (some false)) else (some false)) else (some false)) else (some false)) else (some false)) else (some false)))))))))))) else (some false))) = some r := h
  clear h
  replace H := Option.bind_eq_some_iff.mp H
  obtain ⟨t155, A10, H⟩ := H
  replace H : (if t155 = true then ((label_Read.f k (⟨#[97, 92]⟩ : ByteArray) 0).bind fun bt156 => ((label_Read.f k (⟨#[97, 92, 50, 53]⟩ : ByteArray) 0).bind fun bt159 => ((label_Read.f k (⟨#[97, 92, 50, 53, 54]⟩ : ByteArray) 0).bind fun bt162 => ((label_Read.f k (⟨#[97, 32, 98]⟩ : ByteArray) 0).bind fun bt165 => ((nameplatekit_Times.f k (⟨#[97]⟩ : ByteArray) 64).bind fun t168 => ((label_Read.f k t168 0).bind fun bt169 => ((label_Read.f k (⟨#[120, 92, 48, 54, 53, 92, 32, 92, 92]⟩ : ByteArray) 1).bind fun bt172 => ((label_Read.f k (⟨#[]⟩ : ByteArray) 0).bind fun bt175 => ((label_Read.f k (⟨#[97]⟩ : ByteArray) 2).bind fun bt178 => ((nameplatelaw01_lives.f k).bind fun t181 => (if t181 = true then (if bt156.2.2 = 7 then (if bt159.2.2 = 7 then (if bt162.2.2 = 7 then (if bt165.2.2 = 7 then (if bt169.2.2 = 3 then (if bt172.2.2 = 0 then (if bt172.1.toList = ([65, 32, 92] : List UInt8) then (if bt172.2.1 = 9 then (if bt175.2.2 = 2 then (if bt178.2.2 = 2 then ((label_Check.f (⟨#[]⟩ : ByteArray)).bind fun t182 => (if t182 = 2 then ((nameplatekit_Times.f k (⟨#[97]⟩ : ByteArray) 64).bind fun t183 => ((label_Check.f t183).bind fun t184 => (if t184 = 3 then ((nameplatekit_Times.f k (⟨#[97]⟩ : ByteArray) 63).bind fun t185 => ((label_Check.f t185).bind fun t186 => (if t186 = 0 then ((label_Fold.f (⟨#[65, 122, 90, 91, 64, 193]⟩ : ByteArray)).bind fun t187 => (if t187.toList = ([97, 122, 122, 91, 64, 193] : List UInt8) then ((label_Same.f (⟨#[97, 66]⟩ : ByteArray) (⟨#[65, 98]⟩ : ByteArray)).bind fun t188 => (if t188 = true then ((label_Compare.f (⟨#[97]⟩ : ByteArray) (⟨#[66]⟩ : ByteArray)).bind fun t189 => (if t189 = (-1) then ((label_Compare.f (⟨#[97, 98]⟩ : ByteArray) (⟨#[65]⟩ : ByteArray)).bind fun t190 => (if t190 = 1 then ((label_Compare.f (⟨#[81]⟩ : ByteArray) (⟨#[113]⟩ : ByteArray)).bind fun t191 => (some (t191 == 0))) else (some false))) else (some false))) else (some false))) else (some false))) else (some false)))) else (some false)))) else (some false))) else (some false)) else (some false)) else (some false)) else (some false)) else (some false)) else (some false)) else (some false)) else (some false)) else (some false)) else (some false)) else (some false)))))))))))) else (some false)) = some r := H
  have A1 := Aside0.mk A10
  clear A10
  by_cases c2 : t155 = true
  · subst c2
    have H1 : ((label_Read.f k (⟨#[97, 92]⟩ : ByteArray) 0).bind fun bt156 => ((label_Read.f k (⟨#[97, 92, 50, 53]⟩ : ByteArray) 0).bind fun bt159 => ((label_Read.f k (⟨#[97, 92, 50, 53, 54]⟩ : ByteArray) 0).bind fun bt162 => ((label_Read.f k (⟨#[97, 32, 98]⟩ : ByteArray) 0).bind fun bt165 => ((nameplatekit_Times.f k (⟨#[97]⟩ : ByteArray) 64).bind fun t168 => ((label_Read.f k t168 0).bind fun bt169 => ((label_Read.f k (⟨#[120, 92, 48, 54, 53, 92, 32, 92, 92]⟩ : ByteArray) 1).bind fun bt172 => ((label_Read.f k (⟨#[]⟩ : ByteArray) 0).bind fun bt175 => ((label_Read.f k (⟨#[97]⟩ : ByteArray) 2).bind fun bt178 => ((nameplatelaw01_lives.f k).bind fun t181 => (if t181 = true then (if bt156.2.2 = 7 then (if bt159.2.2 = 7 then (if bt162.2.2 = 7 then (if bt165.2.2 = 7 then (if bt169.2.2 = 3 then (if bt172.2.2 = 0 then (if bt172.1.toList = ([65, 32, 92] : List UInt8) then (if bt172.2.1 = 9 then (if bt175.2.2 = 2 then (if bt178.2.2 = 2 then ((label_Check.f (⟨#[]⟩ : ByteArray)).bind fun t182 => (if t182 = 2 then ((nameplatekit_Times.f k (⟨#[97]⟩ : ByteArray) 64).bind fun t183 => ((label_Check.f t183).bind fun t184 => (if t184 = 3 then ((nameplatekit_Times.f k (⟨#[97]⟩ : ByteArray) 63).bind fun t185 => ((label_Check.f t185).bind fun t186 => (if t186 = 0 then ((label_Fold.f (⟨#[65, 122, 90, 91, 64, 193]⟩ : ByteArray)).bind fun t187 => (if t187.toList = ([97, 122, 122, 91, 64, 193] : List UInt8) then ((label_Same.f (⟨#[97, 66]⟩ : ByteArray) (⟨#[65, 98]⟩ : ByteArray)).bind fun t188 => (if t188 = true then ((label_Compare.f (⟨#[97]⟩ : ByteArray) (⟨#[66]⟩ : ByteArray)).bind fun t189 => (if t189 = (-1) then ((label_Compare.f (⟨#[97, 98]⟩ : ByteArray) (⟨#[65]⟩ : ByteArray)).bind fun t190 => (if t190 = 1 then ((label_Compare.f (⟨#[81]⟩ : ByteArray) (⟨#[113]⟩ : ByteArray)).bind fun t191 => (some (t191 == 0))) else (some false))) else (some false))) else (some false))) else (some false))) else (some false)))) else (some false)))) else (some false))) else (some false)) else (some false)) else (some false)) else (some false)) else (some false)) else (some false)) else (some false)) else (some false)) else (some false)) else (some false)) else (some false)))))))))))) = some r := by rw [if_pos rfl] at H; exact H
    clear H
    have H := H1
    clear H1
    replace H := Option.bind_eq_some_iff.mp H
    obtain ⟨⟨t156, t157, t158⟩, A30, H⟩ := H
    replace H : ((label_Read.f k (⟨#[97, 92, 50, 53]⟩ : ByteArray) 0).bind fun bt159 => ((label_Read.f k (⟨#[97, 92, 50, 53, 54]⟩ : ByteArray) 0).bind fun bt162 => ((label_Read.f k (⟨#[97, 32, 98]⟩ : ByteArray) 0).bind fun bt165 => ((nameplatekit_Times.f k (⟨#[97]⟩ : ByteArray) 64).bind fun t168 => ((label_Read.f k t168 0).bind fun bt169 => ((label_Read.f k (⟨#[120, 92, 48, 54, 53, 92, 32, 92, 92]⟩ : ByteArray) 1).bind fun bt172 => ((label_Read.f k (⟨#[]⟩ : ByteArray) 0).bind fun bt175 => ((label_Read.f k (⟨#[97]⟩ : ByteArray) 2).bind fun bt178 => ((nameplatelaw01_lives.f k).bind fun t181 => (if t181 = true then (if t158 = 7 then (if bt159.2.2 = 7 then (if bt162.2.2 = 7 then (if bt165.2.2 = 7 then (if bt169.2.2 = 3 then (if bt172.2.2 = 0 then (if bt172.1.toList = ([65, 32, 92] : List UInt8) then (if bt172.2.1 = 9 then (if bt175.2.2 = 2 then (if bt178.2.2 = 2 then ((label_Check.f (⟨#[]⟩ : ByteArray)).bind fun t182 => (if t182 = 2 then ((nameplatekit_Times.f k (⟨#[97]⟩ : ByteArray) 64).bind fun t183 => ((label_Check.f t183).bind fun t184 => (if t184 = 3 then ((nameplatekit_Times.f k (⟨#[97]⟩ : ByteArray) 63).bind fun t185 => ((label_Check.f t185).bind fun t186 => (if t186 = 0 then ((label_Fold.f (⟨#[65, 122, 90, 91, 64, 193]⟩ : ByteArray)).bind fun t187 => (if t187.toList = ([97, 122, 122, 91, 64, 193] : List UInt8) then ((label_Same.f (⟨#[97, 66]⟩ : ByteArray) (⟨#[65, 98]⟩ : ByteArray)).bind fun t188 => (if t188 = true then ((label_Compare.f (⟨#[97]⟩ : ByteArray) (⟨#[66]⟩ : ByteArray)).bind fun t189 => (if t189 = (-1) then ((label_Compare.f (⟨#[97, 98]⟩ : ByteArray) (⟨#[65]⟩ : ByteArray)).bind fun t190 => (if t190 = 1 then ((label_Compare.f (⟨#[81]⟩ : ByteArray) (⟨#[113]⟩ : ByteArray)).bind fun t191 => (some (t191 == 0))) else (some false))) else (some false))) else (some false))) else (some false))) else (some false)))) else (some false)))) else (some false))) else (some false)) else (some false)) else (some false)) else (some false)) else (some false)) else (some false)) else (some false)) else (some false)) else (some false)) else (some false)) else (some false))))))))))) = some r := H
    have A3 := Aside0.mk A30
    clear A30
    replace H := Option.bind_eq_some_iff.mp H
    obtain ⟨⟨t159, t160, t161⟩, A40, H⟩ := H
    replace H : ((label_Read.f k (⟨#[97, 92, 50, 53, 54]⟩ : ByteArray) 0).bind fun bt162 => ((label_Read.f k (⟨#[97, 32, 98]⟩ : ByteArray) 0).bind fun bt165 => ((nameplatekit_Times.f k (⟨#[97]⟩ : ByteArray) 64).bind fun t168 => ((label_Read.f k t168 0).bind fun bt169 => ((label_Read.f k (⟨#[120, 92, 48, 54, 53, 92, 32, 92, 92]⟩ : ByteArray) 1).bind fun bt172 => ((label_Read.f k (⟨#[]⟩ : ByteArray) 0).bind fun bt175 => ((label_Read.f k (⟨#[97]⟩ : ByteArray) 2).bind fun bt178 => ((nameplatelaw01_lives.f k).bind fun t181 => (if t181 = true then (if t158 = 7 then (if t161 = 7 then (if bt162.2.2 = 7 then (if bt165.2.2 = 7 then (if bt169.2.2 = 3 then (if bt172.2.2 = 0 then (if bt172.1.toList = ([65, 32, 92] : List UInt8) then (if bt172.2.1 = 9 then (if bt175.2.2 = 2 then (if bt178.2.2 = 2 then ((label_Check.f (⟨#[]⟩ : ByteArray)).bind fun t182 => (if t182 = 2 then ((nameplatekit_Times.f k (⟨#[97]⟩ : ByteArray) 64).bind fun t183 => ((label_Check.f t183).bind fun t184 => (if t184 = 3 then ((nameplatekit_Times.f k (⟨#[97]⟩ : ByteArray) 63).bind fun t185 => ((label_Check.f t185).bind fun t186 => (if t186 = 0 then ((label_Fold.f (⟨#[65, 122, 90, 91, 64, 193]⟩ : ByteArray)).bind fun t187 => (if t187.toList = ([97, 122, 122, 91, 64, 193] : List UInt8) then ((label_Same.f (⟨#[97, 66]⟩ : ByteArray) (⟨#[65, 98]⟩ : ByteArray)).bind fun t188 => (if t188 = true then ((label_Compare.f (⟨#[97]⟩ : ByteArray) (⟨#[66]⟩ : ByteArray)).bind fun t189 => (if t189 = (-1) then ((label_Compare.f (⟨#[97, 98]⟩ : ByteArray) (⟨#[65]⟩ : ByteArray)).bind fun t190 => (if t190 = 1 then ((label_Compare.f (⟨#[81]⟩ : ByteArray) (⟨#[113]⟩ : ByteArray)).bind fun t191 => (some (t191 == 0))) else (some false))) else (some false))) else (some false))) else (some false))) else (some false)))) else (some false)))) else (some false))) else (some false)) else (some false)) else (some false)) else (some false)) else (some false)) else (some false)) else (some false)) else (some false)) else (some false)) else (some false)) else (some false)))))))))) = some r := H
    have A4 := Aside0.mk A40
    clear A40
    replace H := Option.bind_eq_some_iff.mp H
    obtain ⟨⟨t162, t163, t164⟩, A50, H⟩ := H
    replace H : ((label_Read.f k (⟨#[97, 32, 98]⟩ : ByteArray) 0).bind fun bt165 => ((nameplatekit_Times.f k (⟨#[97]⟩ : ByteArray) 64).bind fun t168 => ((label_Read.f k t168 0).bind fun bt169 => ((label_Read.f k (⟨#[120, 92, 48, 54, 53, 92, 32, 92, 92]⟩ : ByteArray) 1).bind fun bt172 => ((label_Read.f k (⟨#[]⟩ : ByteArray) 0).bind fun bt175 => ((label_Read.f k (⟨#[97]⟩ : ByteArray) 2).bind fun bt178 => ((nameplatelaw01_lives.f k).bind fun t181 => (if t181 = true then (if t158 = 7 then (if t161 = 7 then (if t164 = 7 then (if bt165.2.2 = 7 then (if bt169.2.2 = 3 then (if bt172.2.2 = 0 then (if bt172.1.toList = ([65, 32, 92] : List UInt8) then (if bt172.2.1 = 9 then (if bt175.2.2 = 2 then (if bt178.2.2 = 2 then ((label_Check.f (⟨#[]⟩ : ByteArray)).bind fun t182 => (if t182 = 2 then ((nameplatekit_Times.f k (⟨#[97]⟩ : ByteArray) 64).bind fun t183 => ((label_Check.f t183).bind fun t184 => (if t184 = 3 then ((nameplatekit_Times.f k (⟨#[97]⟩ : ByteArray) 63).bind fun t185 => ((label_Check.f t185).bind fun t186 => (if t186 = 0 then ((label_Fold.f (⟨#[65, 122, 90, 91, 64, 193]⟩ : ByteArray)).bind fun t187 => (if t187.toList = ([97, 122, 122, 91, 64, 193] : List UInt8) then ((label_Same.f (⟨#[97, 66]⟩ : ByteArray) (⟨#[65, 98]⟩ : ByteArray)).bind fun t188 => (if t188 = true then ((label_Compare.f (⟨#[97]⟩ : ByteArray) (⟨#[66]⟩ : ByteArray)).bind fun t189 => (if t189 = (-1) then ((label_Compare.f (⟨#[97, 98]⟩ : ByteArray) (⟨#[65]⟩ : ByteArray)).bind fun t190 => (if t190 = 1 then ((label_Compare.f (⟨#[81]⟩ : ByteArray) (⟨#[113]⟩ : ByteArray)).bind fun t191 => (some (t191 == 0))) else (some false))) else (some false))) else (some false))) else (some false))) else (some false)))) else (some false)))) else (some false))) else (some false)) else (some false)) else (some false)) else (some false)) else (some false)) else (some false)) else (some false)) else (some false)) else (some false)) else (some false)) else (some false))))))))) = some r := H
    have A5 := Aside0.mk A50
    clear A50
    replace H := Option.bind_eq_some_iff.mp H
    obtain ⟨⟨t165, t166, t167⟩, A60, H⟩ := H
    replace H : ((nameplatekit_Times.f k (⟨#[97]⟩ : ByteArray) 64).bind fun t168 => ((label_Read.f k t168 0).bind fun bt169 => ((label_Read.f k (⟨#[120, 92, 48, 54, 53, 92, 32, 92, 92]⟩ : ByteArray) 1).bind fun bt172 => ((label_Read.f k (⟨#[]⟩ : ByteArray) 0).bind fun bt175 => ((label_Read.f k (⟨#[97]⟩ : ByteArray) 2).bind fun bt178 => ((nameplatelaw01_lives.f k).bind fun t181 => (if t181 = true then (if t158 = 7 then (if t161 = 7 then (if t164 = 7 then (if t167 = 7 then (if bt169.2.2 = 3 then (if bt172.2.2 = 0 then (if bt172.1.toList = ([65, 32, 92] : List UInt8) then (if bt172.2.1 = 9 then (if bt175.2.2 = 2 then (if bt178.2.2 = 2 then ((label_Check.f (⟨#[]⟩ : ByteArray)).bind fun t182 => (if t182 = 2 then ((nameplatekit_Times.f k (⟨#[97]⟩ : ByteArray) 64).bind fun t183 => ((label_Check.f t183).bind fun t184 => (if t184 = 3 then ((nameplatekit_Times.f k (⟨#[97]⟩ : ByteArray) 63).bind fun t185 => ((label_Check.f t185).bind fun t186 => (if t186 = 0 then ((label_Fold.f (⟨#[65, 122, 90, 91, 64, 193]⟩ : ByteArray)).bind fun t187 => (if t187.toList = ([97, 122, 122, 91, 64, 193] : List UInt8) then ((label_Same.f (⟨#[97, 66]⟩ : ByteArray) (⟨#[65, 98]⟩ : ByteArray)).bind fun t188 => (if t188 = true then ((label_Compare.f (⟨#[97]⟩ : ByteArray) (⟨#[66]⟩ : ByteArray)).bind fun t189 => (if t189 = (-1) then ((label_Compare.f (⟨#[97, 98]⟩ : ByteArray) (⟨#[65]⟩ : ByteArray)).bind fun t190 => (if t190 = 1 then ((label_Compare.f (⟨#[81]⟩ : ByteArray) (⟨#[113]⟩ : ByteArray)).bind fun t191 => (some (t191 == 0))) else (some false))) else (some false))) else (some false))) else (some false))) else (some false)))) else (some false)))) else (some false))) else (some false)) else (some false)) else (some false)) else (some false)) else (some false)) else (some false)) else (some false)) else (some false)) else (some false)) else (some false)) else (some false)))))))) = some r := H
    have A6 := Aside0.mk A60
    clear A60
    replace H := Option.bind_eq_some_iff.mp H
    obtain ⟨t168, A70, H⟩ := H
    replace H : ((label_Read.f k t168 0).bind fun bt169 => ((label_Read.f k (⟨#[120, 92, 48, 54, 53, 92, 32, 92, 92]⟩ : ByteArray) 1).bind fun bt172 => ((label_Read.f k (⟨#[]⟩ : ByteArray) 0).bind fun bt175 => ((label_Read.f k (⟨#[97]⟩ : ByteArray) 2).bind fun bt178 => ((nameplatelaw01_lives.f k).bind fun t181 => (if t181 = true then (if t158 = 7 then (if t161 = 7 then (if t164 = 7 then (if t167 = 7 then (if bt169.2.2 = 3 then (if bt172.2.2 = 0 then (if bt172.1.toList = ([65, 32, 92] : List UInt8) then (if bt172.2.1 = 9 then (if bt175.2.2 = 2 then (if bt178.2.2 = 2 then ((label_Check.f (⟨#[]⟩ : ByteArray)).bind fun t182 => (if t182 = 2 then ((nameplatekit_Times.f k (⟨#[97]⟩ : ByteArray) 64).bind fun t183 => ((label_Check.f t183).bind fun t184 => (if t184 = 3 then ((nameplatekit_Times.f k (⟨#[97]⟩ : ByteArray) 63).bind fun t185 => ((label_Check.f t185).bind fun t186 => (if t186 = 0 then ((label_Fold.f (⟨#[65, 122, 90, 91, 64, 193]⟩ : ByteArray)).bind fun t187 => (if t187.toList = ([97, 122, 122, 91, 64, 193] : List UInt8) then ((label_Same.f (⟨#[97, 66]⟩ : ByteArray) (⟨#[65, 98]⟩ : ByteArray)).bind fun t188 => (if t188 = true then ((label_Compare.f (⟨#[97]⟩ : ByteArray) (⟨#[66]⟩ : ByteArray)).bind fun t189 => (if t189 = (-1) then ((label_Compare.f (⟨#[97, 98]⟩ : ByteArray) (⟨#[65]⟩ : ByteArray)).bind fun t190 => (if t190 = 1 then ((label_Compare.f (⟨#[81]⟩ : ByteArray) (⟨#[113]⟩ : ByteArray)).bind fun t191 => (some (t191 == 0))) else (some false))) else (some false))) else (some false))) else (some false))) else (some false)))) else (some false)))) else (some false))) else (some false)) else (some false)) else (some false)) else (some false)) else (some false)) else (some false)) else (some false)) else (some false)) else (some false)) else (some false)) else (some false))))))) = some r := H
    have A7 := Aside0.mk A70
    clear A70
    replace H := Option.bind_eq_some_iff.mp H
    obtain ⟨⟨t169, t170, t171⟩, A80, H⟩ := H
    replace H : ((label_Read.f k (⟨#[120, 92, 48, 54, 53, 92, 32, 92, 92]⟩ : ByteArray) 1).bind fun bt172 => ((label_Read.f k (⟨#[]⟩ : ByteArray) 0).bind fun bt175 => ((label_Read.f k (⟨#[97]⟩ : ByteArray) 2).bind fun bt178 => ((nameplatelaw01_lives.f k).bind fun t181 => (if t181 = true then (if t158 = 7 then (if t161 = 7 then (if t164 = 7 then (if t167 = 7 then (if t171 = 3 then (if bt172.2.2 = 0 then (if bt172.1.toList = ([65, 32, 92] : List UInt8) then (if bt172.2.1 = 9 then (if bt175.2.2 = 2 then (if bt178.2.2 = 2 then ((label_Check.f (⟨#[]⟩ : ByteArray)).bind fun t182 => (if t182 = 2 then ((nameplatekit_Times.f k (⟨#[97]⟩ : ByteArray) 64).bind fun t183 => ((label_Check.f t183).bind fun t184 => (if t184 = 3 then ((nameplatekit_Times.f k (⟨#[97]⟩ : ByteArray) 63).bind fun t185 => ((label_Check.f t185).bind fun t186 => (if t186 = 0 then ((label_Fold.f (⟨#[65, 122, 90, 91, 64, 193]⟩ : ByteArray)).bind fun t187 => (if t187.toList = ([97, 122, 122, 91, 64, 193] : List UInt8) then ((label_Same.f (⟨#[97, 66]⟩ : ByteArray) (⟨#[65, 98]⟩ : ByteArray)).bind fun t188 => (if t188 = true then ((label_Compare.f (⟨#[97]⟩ : ByteArray) (⟨#[66]⟩ : ByteArray)).bind fun t189 => (if t189 = (-1) then ((label_Compare.f (⟨#[97, 98]⟩ : ByteArray) (⟨#[65]⟩ : ByteArray)).bind fun t190 => (if t190 = 1 then ((label_Compare.f (⟨#[81]⟩ : ByteArray) (⟨#[113]⟩ : ByteArray)).bind fun t191 => (some (t191 == 0))) else (some false))) else (some false))) else (some false))) else (some false))) else (some false)))) else (some false)))) else (some false))) else (some false)) else (some false)) else (some false)) else (some false)) else (some false)) else (some false)) else (some false)) else (some false)) else (some false)) else (some false)) else (some false)))))) = some r := H
    have A8 := Aside0.mk A80
    clear A80
    replace H := Option.bind_eq_some_iff.mp H
    obtain ⟨⟨t172, t173, t174⟩, A90, H⟩ := H
    replace H : ((label_Read.f k (⟨#[]⟩ : ByteArray) 0).bind fun bt175 => ((label_Read.f k (⟨#[97]⟩ : ByteArray) 2).bind fun bt178 => ((nameplatelaw01_lives.f k).bind fun t181 => (if t181 = true then (if t158 = 7 then (if t161 = 7 then (if t164 = 7 then (if t167 = 7 then (if t171 = 3 then (if t174 = 0 then (if t172.toList = ([65, 32, 92] : List UInt8) then (if t173 = 9 then (if bt175.2.2 = 2 then (if bt178.2.2 = 2 then ((label_Check.f (⟨#[]⟩ : ByteArray)).bind fun t182 => (if t182 = 2 then ((nameplatekit_Times.f k (⟨#[97]⟩ : ByteArray) 64).bind fun t183 => ((label_Check.f t183).bind fun t184 => (if t184 = 3 then ((nameplatekit_Times.f k (⟨#[97]⟩ : ByteArray) 63).bind fun t185 => ((label_Check.f t185).bind fun t186 => (if t186 = 0 then ((label_Fold.f (⟨#[65, 122, 90, 91, 64, 193]⟩ : ByteArray)).bind fun t187 => (if t187.toList = ([97, 122, 122, 91, 64, 193] : List UInt8) then ((label_Same.f (⟨#[97, 66]⟩ : ByteArray) (⟨#[65, 98]⟩ : ByteArray)).bind fun t188 => (if t188 = true then ((label_Compare.f (⟨#[97]⟩ : ByteArray) (⟨#[66]⟩ : ByteArray)).bind fun t189 => (if t189 = (-1) then ((label_Compare.f (⟨#[97, 98]⟩ : ByteArray) (⟨#[65]⟩ : ByteArray)).bind fun t190 => (if t190 = 1 then ((label_Compare.f (⟨#[81]⟩ : ByteArray) (⟨#[113]⟩ : ByteArray)).bind fun t191 => (some (t191 == 0))) else (some false))) else (some false))) else (some false))) else (some false))) else (some false)))) else (some false)))) else (some false))) else (some false)) else (some false)) else (some false)) else (some false)) else (some false)) else (some false)) else (some false)) else (some false)) else (some false)) else (some false)) else (some false))))) = some r := H
    have A9 := Aside0.mk A90
    clear A90
    replace H := Option.bind_eq_some_iff.mp H
    obtain ⟨⟨t175, t176, t177⟩, A100, H⟩ := H
    replace H : ((label_Read.f k (⟨#[97]⟩ : ByteArray) 2).bind fun bt178 => ((nameplatelaw01_lives.f k).bind fun t181 => (if t181 = true then (if t158 = 7 then (if t161 = 7 then (if t164 = 7 then (if t167 = 7 then (if t171 = 3 then (if t174 = 0 then (if t172.toList = ([65, 32, 92] : List UInt8) then (if t173 = 9 then (if t177 = 2 then (if bt178.2.2 = 2 then ((label_Check.f (⟨#[]⟩ : ByteArray)).bind fun t182 => (if t182 = 2 then ((nameplatekit_Times.f k (⟨#[97]⟩ : ByteArray) 64).bind fun t183 => ((label_Check.f t183).bind fun t184 => (if t184 = 3 then ((nameplatekit_Times.f k (⟨#[97]⟩ : ByteArray) 63).bind fun t185 => ((label_Check.f t185).bind fun t186 => (if t186 = 0 then ((label_Fold.f (⟨#[65, 122, 90, 91, 64, 193]⟩ : ByteArray)).bind fun t187 => (if t187.toList = ([97, 122, 122, 91, 64, 193] : List UInt8) then ((label_Same.f (⟨#[97, 66]⟩ : ByteArray) (⟨#[65, 98]⟩ : ByteArray)).bind fun t188 => (if t188 = true then ((label_Compare.f (⟨#[97]⟩ : ByteArray) (⟨#[66]⟩ : ByteArray)).bind fun t189 => (if t189 = (-1) then ((label_Compare.f (⟨#[97, 98]⟩ : ByteArray) (⟨#[65]⟩ : ByteArray)).bind fun t190 => (if t190 = 1 then ((label_Compare.f (⟨#[81]⟩ : ByteArray) (⟨#[113]⟩ : ByteArray)).bind fun t191 => (some (t191 == 0))) else (some false))) else (some false))) else (some false))) else (some false))) else (some false)))) else (some false)))) else (some false))) else (some false)) else (some false)) else (some false)) else (some false)) else (some false)) else (some false)) else (some false)) else (some false)) else (some false)) else (some false)) else (some false)))) = some r := H
    have A10 := Aside0.mk A100
    clear A100
    replace H := Option.bind_eq_some_iff.mp H
    obtain ⟨⟨t178, t179, t180⟩, A110, H⟩ := H
    replace H : ((nameplatelaw01_lives.f k).bind fun t181 => (if t181 = true then (if t158 = 7 then (if t161 = 7 then (if t164 = 7 then (if t167 = 7 then (if t171 = 3 then (if t174 = 0 then (if t172.toList = ([65, 32, 92] : List UInt8) then (if t173 = 9 then (if t177 = 2 then (if t180 = 2 then ((label_Check.f (⟨#[]⟩ : ByteArray)).bind fun t182 => (if t182 = 2 then ((nameplatekit_Times.f k (⟨#[97]⟩ : ByteArray) 64).bind fun t183 => ((label_Check.f t183).bind fun t184 => (if t184 = 3 then ((nameplatekit_Times.f k (⟨#[97]⟩ : ByteArray) 63).bind fun t185 => ((label_Check.f t185).bind fun t186 => (if t186 = 0 then ((label_Fold.f (⟨#[65, 122, 90, 91, 64, 193]⟩ : ByteArray)).bind fun t187 => (if t187.toList = ([97, 122, 122, 91, 64, 193] : List UInt8) then ((label_Same.f (⟨#[97, 66]⟩ : ByteArray) (⟨#[65, 98]⟩ : ByteArray)).bind fun t188 => (if t188 = true then ((label_Compare.f (⟨#[97]⟩ : ByteArray) (⟨#[66]⟩ : ByteArray)).bind fun t189 => (if t189 = (-1) then ((label_Compare.f (⟨#[97, 98]⟩ : ByteArray) (⟨#[65]⟩ : ByteArray)).bind fun t190 => (if t190 = 1 then ((label_Compare.f (⟨#[81]⟩ : ByteArray) (⟨#[113]⟩ : ByteArray)).bind fun t191 => (some (t191 == 0))) else (some false))) else (some false))) else (some false))) else (some false))) else (some false)))) else (some false)))) else (some false))) else (some false)) else (some false)) else (some false)) else (some false)) else (some false)) else (some false)) else (some false)) else (some false)) else (some false)) else (some false)) else (some false))) = some r := H
    have A11 := Aside0.mk A110
    clear A110
    replace H := Option.bind_eq_some_iff.mp H
    obtain ⟨t181, A120, H⟩ := H
    replace H : (if t181 = true then (if t158 = 7 then (if t161 = 7 then (if t164 = 7 then (if t167 = 7 then (if t171 = 3 then (if t174 = 0 then (if t172.toList = ([65, 32, 92] : List UInt8) then (if t173 = 9 then (if t177 = 2 then (if t180 = 2 then ((label_Check.f (⟨#[]⟩ : ByteArray)).bind fun t182 => (if t182 = 2 then ((nameplatekit_Times.f k (⟨#[97]⟩ : ByteArray) 64).bind fun t183 => ((label_Check.f t183).bind fun t184 => (if t184 = 3 then ((nameplatekit_Times.f k (⟨#[97]⟩ : ByteArray) 63).bind fun t185 => ((label_Check.f t185).bind fun t186 => (if t186 = 0 then ((label_Fold.f (⟨#[65, 122, 90, 91, 64, 193]⟩ : ByteArray)).bind fun t187 => (if t187.toList = ([97, 122, 122, 91, 64, 193] : List UInt8) then ((label_Same.f (⟨#[97, 66]⟩ : ByteArray) (⟨#[65, 98]⟩ : ByteArray)).bind fun t188 => (if t188 = true then ((label_Compare.f (⟨#[97]⟩ : ByteArray) (⟨#[66]⟩ : ByteArray)).bind fun t189 => (if t189 = (-1) then ((label_Compare.f (⟨#[97, 98]⟩ : ByteArray) (⟨#[65]⟩ : ByteArray)).bind fun t190 => (if t190 = 1 then ((label_Compare.f (⟨#[81]⟩ : ByteArray) (⟨#[113]⟩ : ByteArray)).bind fun t191 => (some (t191 == 0))) else (some false))) else (some false))) else (some false))) else (some false))) else (some false)))) else (some false)))) else (some false))) else (some false)) else (some false)) else (some false)) else (some false)) else (some false)) else (some false)) else (some false)) else (some false)) else (some false)) else (some false)) else (some false)) = some r := H
    have A12 := Aside0.mk A120
    clear A120
    by_cases c13 : t181 = true
    · subst c13
      have H1 : (if t158 = 7 then (if t161 = 7 then (if t164 = 7 then (if t167 = 7 then (if t171 = 3 then (if t174 = 0 then (if t172.toList = ([65, 32, 92] : List UInt8) then (if t173 = 9 then (if t177 = 2 then (if t180 = 2 then ((label_Check.f (⟨#[]⟩ : ByteArray)).bind fun t182 => (if t182 = 2 then ((nameplatekit_Times.f k (⟨#[97]⟩ : ByteArray) 64).bind fun t183 => ((label_Check.f t183).bind fun t184 => (if t184 = 3 then ((nameplatekit_Times.f k (⟨#[97]⟩ : ByteArray) 63).bind fun t185 => ((label_Check.f t185).bind fun t186 => (if t186 = 0 then ((label_Fold.f (⟨#[65, 122, 90, 91, 64, 193]⟩ : ByteArray)).bind fun t187 => (if t187.toList = ([97, 122, 122, 91, 64, 193] : List UInt8) then ((label_Same.f (⟨#[97, 66]⟩ : ByteArray) (⟨#[65, 98]⟩ : ByteArray)).bind fun t188 => (if t188 = true then ((label_Compare.f (⟨#[97]⟩ : ByteArray) (⟨#[66]⟩ : ByteArray)).bind fun t189 => (if t189 = (-1) then ((label_Compare.f (⟨#[97, 98]⟩ : ByteArray) (⟨#[65]⟩ : ByteArray)).bind fun t190 => (if t190 = 1 then ((label_Compare.f (⟨#[81]⟩ : ByteArray) (⟨#[113]⟩ : ByteArray)).bind fun t191 => (some (t191 == 0))) else (some false))) else (some false))) else (some false))) else (some false))) else (some false)))) else (some false)))) else (some false))) else (some false)) else (some false)) else (some false)) else (some false)) else (some false)) else (some false)) else (some false)) else (some false)) else (some false)) else (some false)) = some r := by rw [if_pos rfl] at H; exact H
      clear H
      have H := H1
      clear H1
      by_cases c14 : t158 = 7
      · rw [if_pos c14] at H
        have c14b0 : (t158 == 7) = true := beq_iff_eq.mpr c14
        have c14b1 : (t158 != 7) = false := bne_eq_false_iff_eq.mpr c14
        clear c14
        by_cases c15 : t161 = 7
        · rw [if_pos c15] at H
          have c15b0 : (t161 == 7) = true := beq_iff_eq.mpr c15
          have c15b1 : (t161 != 7) = false := bne_eq_false_iff_eq.mpr c15
          clear c15
          by_cases c16 : t164 = 7
          · rw [if_pos c16] at H
            have c16b0 : (t164 == 7) = true := beq_iff_eq.mpr c16
            have c16b1 : (t164 != 7) = false := bne_eq_false_iff_eq.mpr c16
            clear c16
            by_cases c17 : t167 = 7
            · rw [if_pos c17] at H
              have c17b0 : (t167 == 7) = true := beq_iff_eq.mpr c17
              have c17b1 : (t167 != 7) = false := bne_eq_false_iff_eq.mpr c17
              clear c17
              by_cases c18 : t171 = 3
              · rw [if_pos c18] at H
                have c18b0 : (t171 == 3) = true := beq_iff_eq.mpr c18
                have c18b1 : (t171 != 3) = false := bne_eq_false_iff_eq.mpr c18
                clear c18
                by_cases c19 : t174 = 0
                · rw [if_pos c19] at H
                  have c19b0 : (t174 == 0) = true := beq_iff_eq.mpr c19
                  have c19b1 : (t174 != 0) = false := bne_eq_false_iff_eq.mpr c19
                  clear c19
                  by_cases c20 : t172.toList = ([65, 32, 92] : List UInt8)
                  · rw [if_pos c20] at H
                    have c20b0 : (t172.toList == ([65, 32, 92] : List UInt8)) = true := beq_iff_eq.mpr c20
                    have c20b1 : (t172.toList != ([65, 32, 92] : List UInt8)) = false := bne_eq_false_iff_eq.mpr c20
                    clear c20
                    by_cases c21 : t173 = 9
                    · rw [if_pos c21] at H
                      have c21b0 : (t173 == 9) = true := beq_iff_eq.mpr c21
                      have c21b1 : (t173 != 9) = false := bne_eq_false_iff_eq.mpr c21
                      clear c21
                      by_cases c22 : t177 = 2
                      · rw [if_pos c22] at H
                        have c22b0 : (t177 == 2) = true := beq_iff_eq.mpr c22
                        have c22b1 : (t177 != 2) = false := bne_eq_false_iff_eq.mpr c22
                        clear c22
                        by_cases c23 : t180 = 2
                        · rw [if_pos c23] at H
                          have c23b0 : (t180 == 2) = true := beq_iff_eq.mpr c23
                          have c23b1 : (t180 != 2) = false := bne_eq_false_iff_eq.mpr c23
                          clear c23
                          replace H := Option.bind_eq_some_iff.mp H
                          obtain ⟨t182, A240, H⟩ := H
                          replace H : (if t182 = 2 then ((nameplatekit_Times.f k (⟨#[97]⟩ : ByteArray) 64).bind fun t183 => ((label_Check.f t183).bind fun t184 => (if t184 = 3 then ((nameplatekit_Times.f k (⟨#[97]⟩ : ByteArray) 63).bind fun t185 => ((label_Check.f t185).bind fun t186 => (if t186 = 0 then ((label_Fold.f (⟨#[65, 122, 90, 91, 64, 193]⟩ : ByteArray)).bind fun t187 => (if t187.toList = ([97, 122, 122, 91, 64, 193] : List UInt8) then ((label_Same.f (⟨#[97, 66]⟩ : ByteArray) (⟨#[65, 98]⟩ : ByteArray)).bind fun t188 => (if t188 = true then ((label_Compare.f (⟨#[97]⟩ : ByteArray) (⟨#[66]⟩ : ByteArray)).bind fun t189 => (if t189 = (-1) then ((label_Compare.f (⟨#[97, 98]⟩ : ByteArray) (⟨#[65]⟩ : ByteArray)).bind fun t190 => (if t190 = 1 then ((label_Compare.f (⟨#[81]⟩ : ByteArray) (⟨#[113]⟩ : ByteArray)).bind fun t191 => (some (t191 == 0))) else (some false))) else (some false))) else (some false))) else (some false))) else (some false)))) else (some false)))) else (some false)) = some r := H
                          have A24 := Aside0.mk A240
                          clear A240
                          by_cases c25 : t182 = 2
                          · rw [if_pos c25] at H
                            have c25b0 : (t182 == 2) = true := beq_iff_eq.mpr c25
                            have c25b1 : (t182 != 2) = false := bne_eq_false_iff_eq.mpr c25
                            clear c25
                            replace H := Option.bind_eq_some_iff.mp H
                            obtain ⟨t183, A260, H⟩ := H
                            replace H : ((label_Check.f t183).bind fun t184 => (if t184 = 3 then ((nameplatekit_Times.f k (⟨#[97]⟩ : ByteArray) 63).bind fun t185 => ((label_Check.f t185).bind fun t186 => (if t186 = 0 then ((label_Fold.f (⟨#[65, 122, 90, 91, 64, 193]⟩ : ByteArray)).bind fun t187 => (if t187.toList = ([97, 122, 122, 91, 64, 193] : List UInt8) then ((label_Same.f (⟨#[97, 66]⟩ : ByteArray) (⟨#[65, 98]⟩ : ByteArray)).bind fun t188 => (if t188 = true then ((label_Compare.f (⟨#[97]⟩ : ByteArray) (⟨#[66]⟩ : ByteArray)).bind fun t189 => (if t189 = (-1) then ((label_Compare.f (⟨#[97, 98]⟩ : ByteArray) (⟨#[65]⟩ : ByteArray)).bind fun t190 => (if t190 = 1 then ((label_Compare.f (⟨#[81]⟩ : ByteArray) (⟨#[113]⟩ : ByteArray)).bind fun t191 => (some (t191 == 0))) else (some false))) else (some false))) else (some false))) else (some false))) else (some false)))) else (some false))) = some r := H
                            have A26 := Aside0.mk A260
                            clear A260
                            replace H := Option.bind_eq_some_iff.mp H
                            obtain ⟨t184, A270, H⟩ := H
                            replace H : (if t184 = 3 then ((nameplatekit_Times.f k (⟨#[97]⟩ : ByteArray) 63).bind fun t185 => ((label_Check.f t185).bind fun t186 => (if t186 = 0 then ((label_Fold.f (⟨#[65, 122, 90, 91, 64, 193]⟩ : ByteArray)).bind fun t187 => (if t187.toList = ([97, 122, 122, 91, 64, 193] : List UInt8) then ((label_Same.f (⟨#[97, 66]⟩ : ByteArray) (⟨#[65, 98]⟩ : ByteArray)).bind fun t188 => (if t188 = true then ((label_Compare.f (⟨#[97]⟩ : ByteArray) (⟨#[66]⟩ : ByteArray)).bind fun t189 => (if t189 = (-1) then ((label_Compare.f (⟨#[97, 98]⟩ : ByteArray) (⟨#[65]⟩ : ByteArray)).bind fun t190 => (if t190 = 1 then ((label_Compare.f (⟨#[81]⟩ : ByteArray) (⟨#[113]⟩ : ByteArray)).bind fun t191 => (some (t191 == 0))) else (some false))) else (some false))) else (some false))) else (some false))) else (some false)))) else (some false)) = some r := H
                            have A27 := Aside0.mk A270
                            clear A270
                            by_cases c28 : t184 = 3
                            · rw [if_pos c28] at H
                              have c28b0 : (t184 == 3) = true := beq_iff_eq.mpr c28
                              have c28b1 : (t184 != 3) = false := bne_eq_false_iff_eq.mpr c28
                              clear c28
                              replace H := Option.bind_eq_some_iff.mp H
                              obtain ⟨t185, A290, H⟩ := H
                              replace H : ((label_Check.f t185).bind fun t186 => (if t186 = 0 then ((label_Fold.f (⟨#[65, 122, 90, 91, 64, 193]⟩ : ByteArray)).bind fun t187 => (if t187.toList = ([97, 122, 122, 91, 64, 193] : List UInt8) then ((label_Same.f (⟨#[97, 66]⟩ : ByteArray) (⟨#[65, 98]⟩ : ByteArray)).bind fun t188 => (if t188 = true then ((label_Compare.f (⟨#[97]⟩ : ByteArray) (⟨#[66]⟩ : ByteArray)).bind fun t189 => (if t189 = (-1) then ((label_Compare.f (⟨#[97, 98]⟩ : ByteArray) (⟨#[65]⟩ : ByteArray)).bind fun t190 => (if t190 = 1 then ((label_Compare.f (⟨#[81]⟩ : ByteArray) (⟨#[113]⟩ : ByteArray)).bind fun t191 => (some (t191 == 0))) else (some false))) else (some false))) else (some false))) else (some false))) else (some false))) = some r := H
                              have A29 := Aside0.mk A290
                              clear A290
                              replace H := Option.bind_eq_some_iff.mp H
                              obtain ⟨t186, A300, H⟩ := H
                              replace H : (if t186 = 0 then ((label_Fold.f (⟨#[65, 122, 90, 91, 64, 193]⟩ : ByteArray)).bind fun t187 => (if t187.toList = ([97, 122, 122, 91, 64, 193] : List UInt8) then ((label_Same.f (⟨#[97, 66]⟩ : ByteArray) (⟨#[65, 98]⟩ : ByteArray)).bind fun t188 => (if t188 = true then ((label_Compare.f (⟨#[97]⟩ : ByteArray) (⟨#[66]⟩ : ByteArray)).bind fun t189 => (if t189 = (-1) then ((label_Compare.f (⟨#[97, 98]⟩ : ByteArray) (⟨#[65]⟩ : ByteArray)).bind fun t190 => (if t190 = 1 then ((label_Compare.f (⟨#[81]⟩ : ByteArray) (⟨#[113]⟩ : ByteArray)).bind fun t191 => (some (t191 == 0))) else (some false))) else (some false))) else (some false))) else (some false))) else (some false)) = some r := H
                              have A30 := Aside0.mk A300
                              clear A300
                              by_cases c31 : t186 = 0
                              · rw [if_pos c31] at H
                                have c31b0 : (t186 == 0) = true := beq_iff_eq.mpr c31
                                have c31b1 : (t186 != 0) = false := bne_eq_false_iff_eq.mpr c31
                                clear c31
                                replace H := Option.bind_eq_some_iff.mp H
                                obtain ⟨t187, A320, H⟩ := H
                                replace H : (if t187.toList = ([97, 122, 122, 91, 64, 193] : List UInt8) then ((label_Same.f (⟨#[97, 66]⟩ : ByteArray) (⟨#[65, 98]⟩ : ByteArray)).bind fun t188 => (if t188 = true then ((label_Compare.f (⟨#[97]⟩ : ByteArray) (⟨#[66]⟩ : ByteArray)).bind fun t189 => (if t189 = (-1) then ((label_Compare.f (⟨#[97, 98]⟩ : ByteArray) (⟨#[65]⟩ : ByteArray)).bind fun t190 => (if t190 = 1 then ((label_Compare.f (⟨#[81]⟩ : ByteArray) (⟨#[113]⟩ : ByteArray)).bind fun t191 => (some (t191 == 0))) else (some false))) else (some false))) else (some false))) else (some false)) = some r := H
                                have A32 := Aside0.mk A320
                                clear A320
                                by_cases c33 : t187.toList = ([97, 122, 122, 91, 64, 193] : List UInt8)
                                · rw [if_pos c33] at H
                                  have c33b0 : (t187.toList == ([97, 122, 122, 91, 64, 193] : List UInt8)) = true := beq_iff_eq.mpr c33
                                  have c33b1 : (t187.toList != ([97, 122, 122, 91, 64, 193] : List UInt8)) = false := bne_eq_false_iff_eq.mpr c33
                                  clear c33
                                  replace H := Option.bind_eq_some_iff.mp H
                                  obtain ⟨t188, A340, H⟩ := H
                                  replace H : (if t188 = true then ((label_Compare.f (⟨#[97]⟩ : ByteArray) (⟨#[66]⟩ : ByteArray)).bind fun t189 => (if t189 = (-1) then ((label_Compare.f (⟨#[97, 98]⟩ : ByteArray) (⟨#[65]⟩ : ByteArray)).bind fun t190 => (if t190 = 1 then ((label_Compare.f (⟨#[81]⟩ : ByteArray) (⟨#[113]⟩ : ByteArray)).bind fun t191 => (some (t191 == 0))) else (some false))) else (some false))) else (some false)) = some r := H
                                  have A34 := Aside0.mk A340
                                  clear A340
                                  by_cases c35 : t188 = true
                                  · subst c35
                                    have H1 : ((label_Compare.f (⟨#[97]⟩ : ByteArray) (⟨#[66]⟩ : ByteArray)).bind fun t189 => (if t189 = (-1) then ((label_Compare.f (⟨#[97, 98]⟩ : ByteArray) (⟨#[65]⟩ : ByteArray)).bind fun t190 => (if t190 = 1 then ((label_Compare.f (⟨#[81]⟩ : ByteArray) (⟨#[113]⟩ : ByteArray)).bind fun t191 => (some (t191 == 0))) else (some false))) else (some false))) = some r := by rw [if_pos rfl] at H; exact H
                                    clear H
                                    have H := H1
                                    clear H1
                                    replace H := Option.bind_eq_some_iff.mp H
                                    obtain ⟨t189, A360, H⟩ := H
                                    replace H : (if t189 = (-1) then ((label_Compare.f (⟨#[97, 98]⟩ : ByteArray) (⟨#[65]⟩ : ByteArray)).bind fun t190 => (if t190 = 1 then ((label_Compare.f (⟨#[81]⟩ : ByteArray) (⟨#[113]⟩ : ByteArray)).bind fun t191 => (some (t191 == 0))) else (some false))) else (some false)) = some r := H
                                    have A36 := Aside0.mk A360
                                    clear A360
                                    by_cases c37 : t189 = (-1)
                                    · rw [if_pos c37] at H
                                      have c37b0 : (t189 == (-1)) = true := beq_iff_eq.mpr c37
                                      have c37b1 : (t189 != (-1)) = false := bne_eq_false_iff_eq.mpr c37
                                      clear c37
                                      replace H := Option.bind_eq_some_iff.mp H
                                      obtain ⟨t190, A380, H⟩ := H
                                      replace H : (if t190 = 1 then ((label_Compare.f (⟨#[81]⟩ : ByteArray) (⟨#[113]⟩ : ByteArray)).bind fun t191 => (some (t191 == 0))) else (some false)) = some r := H
                                      have A38 := Aside0.mk A380
                                      clear A380
                                      by_cases c39 : t190 = 1
                                      · rw [if_pos c39] at H
                                        have c39b0 : (t190 == 1) = true := beq_iff_eq.mpr c39
                                        have c39b1 : (t190 != 1) = false := bne_eq_false_iff_eq.mpr c39
                                        clear c39
                                        replace H := Option.bind_eq_some_iff.mp H
                                        obtain ⟨t191, A400, H⟩ := H
                                        replace H : (some (t191 == 0)) = some r := H
                                        have A40 := Aside0.mk A400
                                        clear A400
                                        obtain rfl := Option.some.inj H
                                        go_enter Try.func6, Try.ntmps6
                                        go_wp2_with (first | ((with_reducible refine gate_callee (f := 9) rfl ?_); refine goesL_ (some 25) rfl rfl Try.func9 (by kernel_rfl) rfl #[] rfl (by (try simp only [List.map_toArray, List.map_cons, List.map_nil]); first | done | rfl | (simp only [List.length_drop, List.length_take]; rfl)) ?_; (with_reducible refine (nameplatelaw01_lives.calls k  true _ A1.out).mono ?_); rintro e w41 ⟨rfl, hb⟩; refine ⟨_, rfl, ?_⟩; have n0_ := Aside0.mk (below_step (by repeat (first | (with_reducible first | exact HB.out | apply below_alloc | apply pw_below_drewN | apply below_drew1) | exact HB.out)) hb); clear HB; have HB := n0_; clear n0_; (try clear hb); (try clear hb2); (try clear hk); (try clear hi)) | (go_at_call 9; (with_reducible refine (nameplatelaw01_lives.calls k  true _ A1.out).mono ?_); rintro e w41 ⟨rfl, hb⟩; have n0_ := Aside0.mk (below_step (by repeat (first | (with_reducible first | exact HB.out | apply below_alloc | apply pw_below_drewN | apply below_drew1) | exact HB.out)) hb); clear HB; have HB := n0_; clear n0_; (try clear hb); (try clear hb2); (try clear hk); (try clear hi)) | ((with_reducible refine gate_callee (f := 12) rfl ?_); refine goesL_ (some 28) rfl rfl Try.func12 (by kernel_rfl) rfl #[.string (⟨#[97, 92]⟩ : ByteArray), .int .i64 0] rfl (by (try simp only [List.map_toArray, List.map_cons, List.map_nil]); first | done | rfl | (simp only [List.length_drop, List.length_take]; rfl)) ?_; (with_reducible refine (label_Read.calls k (⟨#[97, 92]⟩ : ByteArray) 0 t156 t157 t158 _ A3.out).mono ?_); rintro e w42 ⟨rfl, hb⟩; refine ⟨_, rfl, ?_⟩; have n0_ := Aside0.mk (below_step (by repeat (first | (with_reducible first | exact HB.out | apply below_alloc | apply pw_below_drewN | apply below_drew1) | exact HB.out)) hb); clear HB; have HB := n0_; clear n0_; (try clear hb); (try clear hb2); (try clear hk); (try clear hi)) | ((with_reducible refine gate_callee (f := 12) rfl ?_); refine goesL_ (some 33) rfl rfl Try.func12 (by kernel_rfl) rfl #[.string (⟨#[97, 92, 50, 53]⟩ : ByteArray), .int .i64 0] rfl (by (try simp only [List.map_toArray, List.map_cons, List.map_nil]); first | done | rfl | (simp only [List.length_drop, List.length_take]; rfl)) ?_; (with_reducible refine (label_Read.calls k (⟨#[97, 92, 50, 53]⟩ : ByteArray) 0 t159 t160 t161 _ A4.out).mono ?_); rintro e w43 ⟨rfl, hb⟩; refine ⟨_, rfl, ?_⟩; have n0_ := Aside0.mk (below_step (by repeat (first | (with_reducible first | exact HB.out | apply below_alloc | apply pw_below_drewN | apply below_drew1) | exact HB.out)) hb); clear HB; have HB := n0_; clear n0_; (try clear hb); (try clear hb2); (try clear hk); (try clear hi)) | ((with_reducible refine gate_callee (f := 12) rfl ?_); refine goesL_ (some 38) rfl rfl Try.func12 (by kernel_rfl) rfl #[.string (⟨#[97, 92, 50, 53, 54]⟩ : ByteArray), .int .i64 0] rfl (by (try simp only [List.map_toArray, List.map_cons, List.map_nil]); first | done | rfl | (simp only [List.length_drop, List.length_take]; rfl)) ?_; (with_reducible refine (label_Read.calls k (⟨#[97, 92, 50, 53, 54]⟩ : ByteArray) 0 t162 t163 t164 _ A5.out).mono ?_); rintro e w44 ⟨rfl, hb⟩; refine ⟨_, rfl, ?_⟩; have n0_ := Aside0.mk (below_step (by repeat (first | (with_reducible first | exact HB.out | apply below_alloc | apply pw_below_drewN | apply below_drew1) | exact HB.out)) hb); clear HB; have HB := n0_; clear n0_; (try clear hb); (try clear hb2); (try clear hk); (try clear hi)) | ((with_reducible refine gate_callee (f := 12) rfl ?_); refine goesL_ (some 43) rfl rfl Try.func12 (by kernel_rfl) rfl #[.string (⟨#[97, 32, 98]⟩ : ByteArray), .int .i64 0] rfl (by (try simp only [List.map_toArray, List.map_cons, List.map_nil]); first | done | rfl | (simp only [List.length_drop, List.length_take]; rfl)) ?_; (with_reducible refine (label_Read.calls k (⟨#[97, 32, 98]⟩ : ByteArray) 0 t165 t166 t167 _ A6.out).mono ?_); rintro e w45 ⟨rfl, hb⟩; refine ⟨_, rfl, ?_⟩; have n0_ := Aside0.mk (below_step (by repeat (first | (with_reducible first | exact HB.out | apply below_alloc | apply pw_below_drewN | apply below_drew1) | exact HB.out)) hb); clear HB; have HB := n0_; clear n0_; (try clear hb); (try clear hb2); (try clear hk); (try clear hi)) | ((with_reducible refine gate_callee (f := 13) rfl ?_); refine goesL_ (some 48) rfl rfl Try.func13 (by kernel_rfl) rfl #[.string (⟨#[97]⟩ : ByteArray), .int .i64 64] rfl (by (try simp only [List.map_toArray, List.map_cons, List.map_nil]); first | done | rfl | (simp only [List.length_drop, List.length_take]; rfl)) ?_; (with_reducible refine (nameplatekit_Times.calls k (⟨#[97]⟩ : ByteArray) 64 t168 _ A7.out).mono ?_); rintro e w' ⟨rfl, ⟨nd, rfl⟩⟩; refine ⟨_, rfl, ?_⟩) | ((with_reducible refine gate_callee (f := 12) rfl ?_); refine goesL_ (some 49) rfl rfl Try.func12 (by kernel_rfl) rfl #[.string t168, .int .i64 0] rfl (by (try simp only [List.map_toArray, List.map_cons, List.map_nil]); first | done | rfl | (simp only [List.length_drop, List.length_take]; rfl)) ?_; (with_reducible refine (label_Read.calls k t168 0 t169 t170 t171 _ A8.out).mono ?_); rintro e w46 ⟨rfl, hb⟩; refine ⟨_, rfl, ?_⟩; have n0_ := Aside0.mk (below_step (by repeat (first | (with_reducible first | exact HB.out | apply below_alloc | apply pw_below_drewN | apply below_drew1) | exact HB.out)) hb); clear HB; have HB := n0_; clear n0_; (try clear hb); (try clear hb2); (try clear hk); (try clear hi)) | ((with_reducible refine gate_callee (f := 12) rfl ?_); refine goesL_ (some 54) rfl rfl Try.func12 (by kernel_rfl) rfl #[.string (⟨#[120, 92, 48, 54, 53, 92, 32, 92, 92]⟩ : ByteArray), .int .i64 1] rfl (by (try simp only [List.map_toArray, List.map_cons, List.map_nil]); first | done | rfl | (simp only [List.length_drop, List.length_take]; rfl)) ?_; (with_reducible refine (label_Read.calls k (⟨#[120, 92, 48, 54, 53, 92, 32, 92, 92]⟩ : ByteArray) 1 t172 t173 t174 _ A9.out).mono ?_); rintro e w47 ⟨rfl, hb⟩; refine ⟨_, rfl, ?_⟩; have n0_ := Aside0.mk (below_step (by repeat (first | (with_reducible first | exact HB.out | apply below_alloc | apply pw_below_drewN | apply below_drew1) | exact HB.out)) hb); clear HB; have HB := n0_; clear n0_; (try clear hb); (try clear hb2); (try clear hk); (try clear hi)) | ((with_reducible refine gate_callee (f := 12) rfl ?_); refine goesL_ (some 59) rfl rfl Try.func12 (by kernel_rfl) rfl #[.string (⟨#[]⟩ : ByteArray), .int .i64 0] rfl (by (try simp only [List.map_toArray, List.map_cons, List.map_nil]); first | done | rfl | (simp only [List.length_drop, List.length_take]; rfl)) ?_; (with_reducible refine (label_Read.calls k (⟨#[]⟩ : ByteArray) 0 t175 t176 t177 _ A10.out).mono ?_); rintro e w48 ⟨rfl, hb⟩; refine ⟨_, rfl, ?_⟩; have n0_ := Aside0.mk (below_step (by repeat (first | (with_reducible first | exact HB.out | apply below_alloc | apply pw_below_drewN | apply below_drew1) | exact HB.out)) hb); clear HB; have HB := n0_; clear n0_; (try clear hb); (try clear hb2); (try clear hk); (try clear hi)) | ((with_reducible refine gate_callee (f := 12) rfl ?_); refine goesL_ (some 64) rfl rfl Try.func12 (by kernel_rfl) rfl #[.string (⟨#[97]⟩ : ByteArray), .int .i64 2] rfl (by (try simp only [List.map_toArray, List.map_cons, List.map_nil]); first | done | rfl | (simp only [List.length_drop, List.length_take]; rfl)) ?_; (with_reducible refine (label_Read.calls k (⟨#[97]⟩ : ByteArray) 2 t178 t179 t180 _ A11.out).mono ?_); rintro e w49 ⟨rfl, hb⟩; refine ⟨_, rfl, ?_⟩; have n0_ := Aside0.mk (below_step (by repeat (first | (with_reducible first | exact HB.out | apply below_alloc | apply pw_below_drewN | apply below_drew1) | exact HB.out)) hb); clear HB; have HB := n0_; clear n0_; (try clear hb); (try clear hb2); (try clear hk); (try clear hi)) | ((with_reducible refine gate_callee (f := 9) rfl ?_); refine goesL_ (some 68) rfl rfl Try.func9 (by kernel_rfl) rfl #[] rfl (by (try simp only [List.map_toArray, List.map_cons, List.map_nil]); first | done | rfl | (simp only [List.length_drop, List.length_take]; rfl)) ?_; (with_reducible refine (nameplatelaw01_lives.calls k  true _ A12.out).mono ?_); rintro e w50 ⟨rfl, hb⟩; refine ⟨_, rfl, ?_⟩; have n0_ := Aside0.mk (below_step (by repeat (first | (with_reducible first | exact HB.out | apply below_alloc | apply pw_below_drewN | apply below_drew1) | exact HB.out)) hb); clear HB; have HB := n0_; clear n0_; (try clear hb); (try clear hb2); (try clear hk); (try clear hi)) | (go_at_call 9; (with_reducible refine (nameplatelaw01_lives.calls k  true _ A12.out).mono ?_); rintro e w50 ⟨rfl, hb⟩; have n0_ := Aside0.mk (below_step (by repeat (first | (with_reducible first | exact HB.out | apply below_alloc | apply pw_below_drewN | apply below_drew1) | exact HB.out)) hb); clear HB; have HB := n0_; clear n0_; (try clear hb); (try clear hb2); (try clear hk); (try clear hi)) | (go_at_call 11; (with_reducible refine (label_Check.calls (⟨#[]⟩ : ByteArray) t182 _ A24.out).mono ?_); rintro e w' ⟨rfl, ⟨nd, rfl⟩⟩) | (go_at_call 13; (with_reducible refine (nameplatekit_Times.calls k (⟨#[97]⟩ : ByteArray) 64 t183 _ A26.out).mono ?_); rintro e w' ⟨rfl, ⟨nd, rfl⟩⟩) | (go_at_call 11; (with_reducible refine (label_Check.calls t183 t184 _ A27.out).mono ?_); rintro e w' ⟨rfl, ⟨nd, rfl⟩⟩) | (go_at_call 13; (with_reducible refine (nameplatekit_Times.calls k (⟨#[97]⟩ : ByteArray) 63 t185 _ A29.out).mono ?_); rintro e w' ⟨rfl, ⟨nd, rfl⟩⟩) | (go_at_call 11; (with_reducible refine (label_Check.calls t185 t186 _ A30.out).mono ?_); rintro e w' ⟨rfl, ⟨nd, rfl⟩⟩) | (go_at_call 14; (with_reducible refine (label_Fold.calls (⟨#[65, 122, 90, 91, 64, 193]⟩ : ByteArray) t187 _ A32.out).mono ?_); rintro e w51 ⟨rfl, hb⟩; have n0_ := Aside0.mk (below_step (by repeat (first | (with_reducible first | exact HB.out | apply below_alloc | apply pw_below_drewN | apply below_drew1) | exact HB.out)) hb); clear HB; have HB := n0_; clear n0_; (try clear hb); (try clear hb2); (try clear hk); (try clear hi)) | (go_at_call 15; (with_reducible refine (label_Same.calls (⟨#[97, 66]⟩ : ByteArray) (⟨#[65, 98]⟩ : ByteArray) true _ A34.out).mono ?_); rintro e w52 ⟨rfl, hb⟩; have n0_ := Aside0.mk (below_step (by repeat (first | (with_reducible first | exact HB.out | apply below_alloc | apply pw_below_drewN | apply below_drew1) | exact HB.out)) hb); clear HB; have HB := n0_; clear n0_; (try clear hb); (try clear hb2); (try clear hk); (try clear hi)) | (go_at_call 16; (with_reducible refine (label_Compare.calls (⟨#[97]⟩ : ByteArray) (⟨#[66]⟩ : ByteArray) t189 _ A36.out).mono ?_); rintro e w53 ⟨rfl, hb⟩; have n0_ := Aside0.mk (below_step (by repeat (first | (with_reducible first | exact HB.out | apply below_alloc | apply pw_below_drewN | apply below_drew1) | exact HB.out)) hb); clear HB; have HB := n0_; clear n0_; (try clear hb); (try clear hb2); (try clear hk); (try clear hi)) | (go_at_call 16; (with_reducible refine (label_Compare.calls (⟨#[97, 98]⟩ : ByteArray) (⟨#[65]⟩ : ByteArray) t190 _ A38.out).mono ?_); rintro e w54 ⟨rfl, hb⟩; have n0_ := Aside0.mk (below_step (by repeat (first | (with_reducible first | exact HB.out | apply below_alloc | apply pw_below_drewN | apply below_drew1) | exact HB.out)) hb); clear HB; have HB := n0_; clear n0_; (try clear hb); (try clear hb2); (try clear hk); (try clear hi)) | (go_at_call 16; (with_reducible refine (label_Compare.calls (⟨#[81]⟩ : ByteArray) (⟨#[113]⟩ : ByteArray) t191 _ A40.out).mono ?_); rintro e w55 ⟨rfl, hb⟩; have n0_ := Aside0.mk (below_step (by repeat (first | (with_reducible first | exact HB.out | apply below_alloc | apply pw_below_drewN | apply below_drew1) | exact HB.out)) hb); clear HB; have HB := n0_; clear n0_; (try clear hb); (try clear hb2); (try clear hk); (try clear hi)))
                                        go_ret
                                        exact ⟨by first | rfl | (simp [errW_none, errW_some] <;> rfl) | (simp [*, errW_none, errW_some] <;> rfl), by repeat (first | (with_reducible first | exact HB.out | apply below_alloc | apply pw_below_drewN | apply below_drew1) | exact HB.out)⟩
                                      · rw [if_neg c39] at H
                                        have c39b0 : (t190 == 1) = false := beq_eq_false_iff_ne.mpr c39
                                        have c39b1 : (t190 != 1) = true := bne_iff_ne.mpr c39
                                        exact absurd ((Option.some.inj H).trans hr_.out) (by decide)
                                    · rw [if_neg c37] at H
                                      have c37b0 : (t189 == (-1)) = false := beq_eq_false_iff_ne.mpr c37
                                      have c37b1 : (t189 != (-1)) = true := bne_iff_ne.mpr c37
                                      exact absurd ((Option.some.inj H).trans hr_.out) (by decide)
                                  · replace c35 := Bool.eq_false_iff.mpr c35
                                    subst c35
                                    have H1 : (some false) = some r := by rw [if_neg (show ¬ (false = true) by decide)] at H; exact H
                                    clear H
                                    have H := H1
                                    clear H1
                                    exact absurd ((Option.some.inj H).trans hr_.out) (by decide)
                                · rw [if_neg c33] at H
                                  have c33b0 : (t187.toList == ([97, 122, 122, 91, 64, 193] : List UInt8)) = false := beq_eq_false_iff_ne.mpr c33
                                  have c33b1 : (t187.toList != ([97, 122, 122, 91, 64, 193] : List UInt8)) = true := bne_iff_ne.mpr c33
                                  exact absurd ((Option.some.inj H).trans hr_.out) (by decide)
                              · rw [if_neg c31] at H
                                have c31b0 : (t186 == 0) = false := beq_eq_false_iff_ne.mpr c31
                                have c31b1 : (t186 != 0) = true := bne_iff_ne.mpr c31
                                exact absurd ((Option.some.inj H).trans hr_.out) (by decide)
                            · rw [if_neg c28] at H
                              have c28b0 : (t184 == 3) = false := beq_eq_false_iff_ne.mpr c28
                              have c28b1 : (t184 != 3) = true := bne_iff_ne.mpr c28
                              exact absurd ((Option.some.inj H).trans hr_.out) (by decide)
                          · rw [if_neg c25] at H
                            have c25b0 : (t182 == 2) = false := beq_eq_false_iff_ne.mpr c25
                            have c25b1 : (t182 != 2) = true := bne_iff_ne.mpr c25
                            exact absurd ((Option.some.inj H).trans hr_.out) (by decide)
                        · rw [if_neg c23] at H
                          have c23b0 : (t180 == 2) = false := beq_eq_false_iff_ne.mpr c23
                          have c23b1 : (t180 != 2) = true := bne_iff_ne.mpr c23
                          exact absurd ((Option.some.inj H).trans hr_.out) (by decide)
                      · rw [if_neg c22] at H
                        have c22b0 : (t177 == 2) = false := beq_eq_false_iff_ne.mpr c22
                        have c22b1 : (t177 != 2) = true := bne_iff_ne.mpr c22
                        exact absurd ((Option.some.inj H).trans hr_.out) (by decide)
                    · rw [if_neg c21] at H
                      have c21b0 : (t173 == 9) = false := beq_eq_false_iff_ne.mpr c21
                      have c21b1 : (t173 != 9) = true := bne_iff_ne.mpr c21
                      exact absurd ((Option.some.inj H).trans hr_.out) (by decide)
                  · rw [if_neg c20] at H
                    have c20b0 : (t172.toList == ([65, 32, 92] : List UInt8)) = false := beq_eq_false_iff_ne.mpr c20
                    have c20b1 : (t172.toList != ([65, 32, 92] : List UInt8)) = true := bne_iff_ne.mpr c20
                    exact absurd ((Option.some.inj H).trans hr_.out) (by decide)
                · rw [if_neg c19] at H
                  have c19b0 : (t174 == 0) = false := beq_eq_false_iff_ne.mpr c19
                  have c19b1 : (t174 != 0) = true := bne_iff_ne.mpr c19
                  exact absurd ((Option.some.inj H).trans hr_.out) (by decide)
              · rw [if_neg c18] at H
                have c18b0 : (t171 == 3) = false := beq_eq_false_iff_ne.mpr c18
                have c18b1 : (t171 != 3) = true := bne_iff_ne.mpr c18
                exact absurd ((Option.some.inj H).trans hr_.out) (by decide)
            · rw [if_neg c17] at H
              have c17b0 : (t167 == 7) = false := beq_eq_false_iff_ne.mpr c17
              have c17b1 : (t167 != 7) = true := bne_iff_ne.mpr c17
              exact absurd ((Option.some.inj H).trans hr_.out) (by decide)
          · rw [if_neg c16] at H
            have c16b0 : (t164 == 7) = false := beq_eq_false_iff_ne.mpr c16
            have c16b1 : (t164 != 7) = true := bne_iff_ne.mpr c16
            exact absurd ((Option.some.inj H).trans hr_.out) (by decide)
        · rw [if_neg c15] at H
          have c15b0 : (t161 == 7) = false := beq_eq_false_iff_ne.mpr c15
          have c15b1 : (t161 != 7) = true := bne_iff_ne.mpr c15
          exact absurd ((Option.some.inj H).trans hr_.out) (by decide)
      · rw [if_neg c14] at H
        have c14b0 : (t158 == 7) = false := beq_eq_false_iff_ne.mpr c14
        have c14b1 : (t158 != 7) = true := bne_iff_ne.mpr c14
        exact absurd ((Option.some.inj H).trans hr_.out) (by decide)
    · replace c13 := Bool.eq_false_iff.mpr c13
      subst c13
      have H1 : (some false) = some r := by rw [if_neg (show ¬ (false = true) by decide)] at H; exact H
      clear H
      have H := H1
      clear H1
      exact absurd ((Option.some.inj H).trans hr_.out) (by decide)
  · replace c2 := Bool.eq_false_iff.mpr c2
    subst c2
    have H1 : (some false) = some r := by rw [if_neg (show ¬ (false = true) by decide)] at H; exact H
    clear H
    have H := H1
    clear H1
    exact absurd ((Option.some.inj H).trans hr_.out) (by decide)

/-- THE ONE PURE STATEMENT of nameplatelaw01_LabelNames: yours. -/
def nameplatelaw01_LabelNames.Pure : Prop := ∃ k, nameplatelaw01_LabelNames.f k  = some true
theorem nameplatelaw01_LabelNames.walk (P : nameplatelaw01_LabelNames.Pure)  (w : World)  :
    Calls Try.prog 6 #[] w fun e w' => e = .returned (.bool true) ∧ Below w.heap.size w w' := by
  obtain ⟨k, h⟩ := P  
  refine (nameplatelaw01_LabelNames.calls k  true w ⟨rfl⟩ h).mono ?_
  rintro e w' ⟨rfl, hd⟩
  exact ⟨rfl, hd⟩

end Go.Proofs.Ytnbjogebdjjepac.OLabelNames
