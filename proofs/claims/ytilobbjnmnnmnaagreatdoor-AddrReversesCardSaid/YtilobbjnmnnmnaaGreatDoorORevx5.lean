/- This text proves, for each Go function named below, which plain Lean function its call computes, in whatever memory; a program of this session has written it. -/
import Derived.Test.YtilobbjnmnnmnaaGreatDoorORevx0
import Derived.Test.YtilobbjnmnnmnaaGreatDoorORevx1
import Derived.Test.YtilobbjnmnnmnaaGreatDoorORevx3
import Derived.Test.YtilobbjnmnnmnaaGreatDoorORevx4
namespace Go.Proofs.YtilobbjnmnnmnaaGreatDoor.ORev
open Go.RowKit Go.Proofs.YtilobbjnmnnmnaaGreatDoorW.PrintWords Go.Proofs.YtilobbjnmnnmnaaGreatDoorW.PrintLast Go.Proofs.YtilobbjnmnnmnaaGreatDoorW.PrintMore
attribute [local go_sem] max2_int min2_int max_two min_two max_three min_three max_four min_four   -- for this text's walks alone
set_option linter.unusedVariables false
set_option linter.unusedSimpArgs false

attribute [local go_sem high] eqA24
/-! ### nameplatelaw04_AddrReverses: function 8 -/
mutual
def nameplatelaw04_AddrReverses.j0 : Nat → ByteArray → ByteArray → Bool → Bool → Int → Int → Bool → Int → Int → Option (Bool)
  | 0, _, _, _, _, _, _, _, _, _ => none
  | k + 1, x5, x7, x33, x202000, x202001, x202002, x203000, x203001, x203002 => if x33 = true then (some true) else ((name_Labels.f k x5).bind fun t208 => (if (t208.length : Int) < 3 then (nameplatelaw04_AddrReverses.j1 k t208 true x202000 x202001 x202002) else (if 0 ≤ (wrap64 ((t208.length : Int) - 1)) then (if (wrap64 ((t208.length : Int) - 1)) < (t208.length : Int) then (if (rdOf ByteArray.empty t208 (wrap64 ((t208.length : Int) - 1))).toList = ([97, 114, 112, 97] : List UInt8) then (if ((x5.toList == x7.toList) != (x202000 == x203000 && (x202001 == x203001 && (x202002 == x203002)))) = true then (nameplatelaw04_AddrReverses.j1 k t208 true x202000 x202001 x202002) else (if (x202000 != ((t208.length : Int) == 34)) = true then (nameplatelaw04_AddrReverses.j1 k t208 true x202000 x202001 x202002) else (nameplatelaw04_AddrReverses.j1 k t208 ((!x202000) != ((t208.length : Int) == 6)) x202000 x202001 x202002))) else (nameplatelaw04_AddrReverses.j1 k t208 true x202000 x202001 x202002)) else (none)) else (none))))
def nameplatelaw04_AddrReverses.j1 : Nat → List ByteArray → Bool → Bool → Int → Int → Option (Bool)
  | 0, _, _, _, _, _ => none
  | k + 1, x9, x73, x202000, x202001, x202002 => if x73 = true then (some false) else (if x202000 = true then (nameplatelaw04_AddrReverses.l0 k x9 (⟨#[]⟩ : ByteArray) 31 x202000 x202001 x202002) else ((addr_Text.f k x202000 x202001 x202002).bind fun bt212 => (if 3 < (x9.length : Int) then (if (rdOf ByteArray.empty x9 3).size + 1 ≤ 9223372036854775807 then (if 2 < (x9.length : Int) then (if ((rdOf ByteArray.empty x9 3) ++ (⟨#[46]⟩ : ByteArray)).size + (rdOf ByteArray.empty x9 2).size ≤ 9223372036854775807 then (if (((rdOf ByteArray.empty x9 3) ++ (⟨#[46]⟩ : ByteArray)) ++ (rdOf ByteArray.empty x9 2)).size + 1 ≤ 9223372036854775807 then (if 1 < (x9.length : Int) then (if ((((rdOf ByteArray.empty x9 3) ++ (⟨#[46]⟩ : ByteArray)) ++ (rdOf ByteArray.empty x9 2)) ++ (⟨#[46]⟩ : ByteArray)).size + (rdOf ByteArray.empty x9 1).size ≤ 9223372036854775807 then (if (((((rdOf ByteArray.empty x9 3) ++ (⟨#[46]⟩ : ByteArray)) ++ (rdOf ByteArray.empty x9 2)) ++ (⟨#[46]⟩ : ByteArray)) ++ (rdOf ByteArray.empty x9 1)).size + 1 ≤ 9223372036854775807 then (if 0 < (x9.length : Int) then (if ((((((rdOf ByteArray.empty x9 3) ++ (⟨#[46]⟩ : ByteArray)) ++ (rdOf ByteArray.empty x9 2)) ++ (⟨#[46]⟩ : ByteArray)) ++ (rdOf ByteArray.empty x9 1)) ++ (⟨#[46]⟩ : ByteArray)).size + (rdOf ByteArray.empty x9 0).size ≤ 9223372036854775807 then (if (((((((rdOf ByteArray.empty x9 3) ++ (⟨#[46]⟩ : ByteArray)) ++ (rdOf ByteArray.empty x9 2)) ++ (⟨#[46]⟩ : ByteArray)) ++ (rdOf ByteArray.empty x9 1)) ++ (⟨#[46]⟩ : ByteArray)) ++ (rdOf ByteArray.empty x9 0)).toList = bt212.1.toList then (if 4 < (x9.length : Int) then (some ((rdOf ByteArray.empty x9 4).toList == ([105, 110, 45, 97, 100, 100, 114] : List UInt8))) else (none)) else (some false)) else (none)) else (none)) else (none)) else (none)) else (none)) else (none)) else (none)) else (none)) else (none)) else (none))))
def nameplatelaw04_AddrReverses.l0 : Nat → List ByteArray → ByteArray → Int → Bool → Int → Int → Option (Bool)
  | 0, _, _, _, _, _, _ => none
  | k + 1, x9, x12, x13, x202000, x202001, x202002 => if x13 ≥ 0 then (if 0 ≤ x13 then (if x13 < (x9.length : Int) then (if x12.size + (rdOf ByteArray.empty x9 x13).size ≤ 9223372036854775807 then (if (Int.tmod x13 4) = 0 then (if x13 > 0 then (if (x12 ++ (rdOf ByteArray.empty x9 x13)).size + 1 ≤ 9223372036854775807 then (nameplatelaw04_AddrReverses.l0 k x9 ((x12 ++ (rdOf ByteArray.empty x9 x13)) ++ (⟨#[58]⟩ : ByteArray)) (wrap64 (x13 - 1)) x202000 x202001 x202002) else (none)) else (nameplatelaw04_AddrReverses.l0 k x9 (x12 ++ (rdOf ByteArray.empty x9 x13)) (wrap64 (x13 - 1)) x202000 x202001 x202002)) else (nameplatelaw04_AddrReverses.l0 k x9 (x12 ++ (rdOf ByteArray.empty x9 x13)) (wrap64 (x13 - 1)) x202000 x202001 x202002)) else (none)) else (none)) else (none)) else ((addr_Read.f k x12).bind fun bt220 => (if bt220.2.2.2 = 0 then (if (bt220.1 == x202000 && (bt220.2.1 == x202001 && (bt220.2.2.1 == x202002))) = true then (if 32 < (x9.length : Int) then (some ((rdOf ByteArray.empty x9 32).toList == ([105, 112, 54] : List UInt8))) else (none)) else (some false)) else (some false)))
end
def nameplatelaw04_AddrReverses.f (k : Nat) (a0_0 : Bool) (a0_1 : Int) (a0_2 : Int) (a1_0 : Bool) (a1_1 : Int) (a1_2 : Int) : Option (Bool) := (nameplatelaw04_lives.f k).bind fun t203 => (if t203 = true then ((addr_Reverse.f k a0_0 a0_1 a0_2).bind fun bt204 => ((addr_Reverse.f k a1_0 a1_1 a1_2).bind fun bt206 => (if bt204.2 = 0 then (nameplatelaw04_AddrReverses.j0 k bt204.1 bt206.1 (bt206.2 != 0) a0_0 a0_1 a0_2 a1_0 a1_1 a1_2) else (nameplatelaw04_AddrReverses.j0 k bt204.1 bt206.1 true a0_0 a0_1 a0_2 a1_0 a1_1 a1_2)))) else (some false))
theorem nameplatelaw04_AddrReverses.mono_l : ∀ k, (∀ y0 y1 y2 y3 y4 y5 y6 y7 y8, LeO (nameplatelaw04_AddrReverses.j0 k y0 y1 y2 y3 y4 y5 y6 y7 y8) (nameplatelaw04_AddrReverses.j0 (k + 1) y0 y1 y2 y3 y4 y5 y6 y7 y8)) ∧ (∀ y0 y1 y2 y3 y4, LeO (nameplatelaw04_AddrReverses.j1 k y0 y1 y2 y3 y4) (nameplatelaw04_AddrReverses.j1 (k + 1) y0 y1 y2 y3 y4)) ∧ (∀ y0 y1 y2 y3 y4 y5, LeO (nameplatelaw04_AddrReverses.l0 k y0 y1 y2 y3 y4 y5) (nameplatelaw04_AddrReverses.l0 (k + 1) y0 y1 y2 y3 y4 y5))
  | 0 => ⟨fun _ _ _ _ _ _ _ _ _ r h => by simp [nameplatelaw04_AddrReverses.j0] at h, fun _ _ _ _ _ r h => by simp [nameplatelaw04_AddrReverses.j1] at h, fun _ _ _ _ _ _ r h => by simp [nameplatelaw04_AddrReverses.l0] at h⟩
  | k + 1 => by
    obtain ⟨ih0, ih1, ih2⟩ := nameplatelaw04_AddrReverses.mono_l k
    refine ⟨?_, ?_, ?_⟩
    · intro y0 y1 y2 y3 y4 y5 y6 y7 y8
      unfold nameplatelaw04_AddrReverses.j0
      repeat' first
      | (with_reducible exact ih0 _ _ _ _ _ _ _ _ _)
      | (with_reducible exact ih1 _ _ _ _ _)
      | (with_reducible exact ih2 _ _ _ _ _ _)
      | (with_reducible exact addr_Read.mono _ _)
      | (with_reducible exact addr_Reverse.mono _ _ _ _)
      | (with_reducible exact addr_Text.mono _ _ _ _)
      | (with_reducible exact name_Labels.mono _ _)
      | (with_reducible exact nameplatelaw04_lives.mono _)
      | (with_reducible exact LeO.refl _)
      | (with_reducible exact LeO.none _)
      | (with_reducible refine LeO.ite ?_ ?_)
      | (with_reducible refine LeO.bind ?_ (fun _ => ?_))
      | exact ih0 _ _ _ _ _ _ _ _ _
      | exact ih1 _ _ _ _ _
      | exact ih2 _ _ _ _ _ _
      | exact addr_Read.mono _ _
      | exact addr_Reverse.mono _ _ _ _
      | exact addr_Text.mono _ _ _ _
      | exact name_Labels.mono _ _
      | exact nameplatelaw04_lives.mono _
      | exact LeO.none _
      | refine LeO.ite ?_ ?_
      | refine LeO.bind ?_ (fun _ => ?_)
    · intro y0 y1 y2 y3 y4
      unfold nameplatelaw04_AddrReverses.j1
      repeat' first
      | (with_reducible exact ih0 _ _ _ _ _ _ _ _ _)
      | (with_reducible exact ih1 _ _ _ _ _)
      | (with_reducible exact ih2 _ _ _ _ _ _)
      | (with_reducible exact addr_Read.mono _ _)
      | (with_reducible exact addr_Reverse.mono _ _ _ _)
      | (with_reducible exact addr_Text.mono _ _ _ _)
      | (with_reducible exact name_Labels.mono _ _)
      | (with_reducible exact nameplatelaw04_lives.mono _)
      | (with_reducible exact LeO.refl _)
      | (with_reducible exact LeO.none _)
      | (with_reducible refine LeO.ite ?_ ?_)
      | (with_reducible refine LeO.bind ?_ (fun _ => ?_))
      | exact ih0 _ _ _ _ _ _ _ _ _
      | exact ih1 _ _ _ _ _
      | exact ih2 _ _ _ _ _ _
      | exact addr_Read.mono _ _
      | exact addr_Reverse.mono _ _ _ _
      | exact addr_Text.mono _ _ _ _
      | exact name_Labels.mono _ _
      | exact nameplatelaw04_lives.mono _
      | exact LeO.none _
      | refine LeO.ite ?_ ?_
      | refine LeO.bind ?_ (fun _ => ?_)
    · intro y0 y1 y2 y3 y4 y5
      unfold nameplatelaw04_AddrReverses.l0
      repeat' first
      | (with_reducible exact ih0 _ _ _ _ _ _ _ _ _)
      | (with_reducible exact ih1 _ _ _ _ _)
      | (with_reducible exact ih2 _ _ _ _ _ _)
      | (with_reducible exact addr_Read.mono _ _)
      | (with_reducible exact addr_Reverse.mono _ _ _ _)
      | (with_reducible exact addr_Text.mono _ _ _ _)
      | (with_reducible exact name_Labels.mono _ _)
      | (with_reducible exact nameplatelaw04_lives.mono _)
      | (with_reducible exact LeO.refl _)
      | (with_reducible exact LeO.none _)
      | (with_reducible refine LeO.ite ?_ ?_)
      | (with_reducible refine LeO.bind ?_ (fun _ => ?_))
      | exact ih0 _ _ _ _ _ _ _ _ _
      | exact ih1 _ _ _ _ _
      | exact ih2 _ _ _ _ _ _
      | exact addr_Read.mono _ _
      | exact addr_Reverse.mono _ _ _ _
      | exact addr_Text.mono _ _ _ _
      | exact name_Labels.mono _ _
      | exact nameplatelaw04_lives.mono _
      | exact LeO.none _
      | refine LeO.ite ?_ ?_
      | refine LeO.bind ?_ (fun _ => ?_)
theorem nameplatelaw04_AddrReverses.mono : ∀ a0 a1 a2 a3 a4 a5 k, LeO (nameplatelaw04_AddrReverses.f k a0 a1 a2 a3 a4 a5) (nameplatelaw04_AddrReverses.f (k + 1) a0 a1 a2 a3 a4 a5) := by
  intro a0 a1 a2 a3 a4 a5 k
  obtain ⟨ih0, ih1, ih2⟩ := nameplatelaw04_AddrReverses.mono_l k
  unfold nameplatelaw04_AddrReverses.f
  repeat' first
      | (with_reducible exact ih0 _ _ _ _ _ _ _ _ _)
      | (with_reducible exact ih1 _ _ _ _ _)
      | (with_reducible exact ih2 _ _ _ _ _ _)
      | (with_reducible exact addr_Read.mono _ _)
      | (with_reducible exact addr_Reverse.mono _ _ _ _)
      | (with_reducible exact addr_Text.mono _ _ _ _)
      | (with_reducible exact name_Labels.mono _ _)
      | (with_reducible exact nameplatelaw04_lives.mono _)
      | (with_reducible exact LeO.refl _)
      | (with_reducible exact LeO.none _)
      | (with_reducible refine LeO.ite ?_ ?_)
      | (with_reducible refine LeO.bind ?_ (fun _ => ?_))
      | exact ih0 _ _ _ _ _ _ _ _ _
      | exact ih1 _ _ _ _ _
      | exact ih2 _ _ _ _ _ _
      | exact addr_Read.mono _ _
      | exact addr_Reverse.mono _ _ _ _
      | exact addr_Text.mono _ _ _ _
      | exact name_Labels.mono _ _
      | exact nameplatelaw04_lives.mono _
      | exact LeO.none _
      | refine LeO.ite ?_ ?_
      | refine LeO.bind ?_ (fun _ => ?_)
set_option maxHeartbeats 8000000 in
set_option maxRecDepth 100000 in
theorem nameplatelaw04_AddrReverses.calls (k : Nat) (a0_0 : Bool) (a0_1 : Int) (a0_2 : Int) (a1_0 : Bool) (a1_1 : Int) (a1_2 : Int) (r : Bool) (w : World) (hG_ : Aside0 (AddrLib.G w)) (hr_ : Aside0 (r = true)) (h : nameplatelaw04_AddrReverses.f k a0_0 a0_1 a0_2 a1_0 a1_1 a1_2 = some r) :
    Calls Tryz.prog 8 #[.agg #[.bool a0_0, .int .u64 a0_1, .int .u64 a0_2], .agg #[.bool a1_0, .int .u64 a1_1, .int .u64 a1_2]] w fun e w' => e = .returned (.bool r) ∧ Below w.heap.size w w' := by
  have hu24 := Tryz.underlying24
  have HB := Aside0.mk (Below.refl w.heap.size w)
  have H : ((nameplatelaw04_lives.f k).bind fun t203 => (if t203 = true then ((addr_Reverse.f k a0_0 a0_1 a0_2).bind fun bt204 => ((addr_Reverse.f k a1_0 a1_1 a1_2).bind fun bt206 => (if bt204.2 = 0 then (nameplatelaw04_AddrReverses.j0 k bt204.1 bt206.1 (bt206.2 != 0) a0_0 a0_1 a0_2 a1_0 a1_1 a1_2) else (nameplatelaw04_AddrReverses.j0 k bt204.1 bt206.1 true a0_0 a0_1 a0_2 a1_0 a1_1 a1_2)))) else (some false))) = some r := h
  clear h
  replace H := Option.bind_eq_some_iff.mp H
  obtain ⟨t203, A30, H⟩ := H
  replace H : (if t203 = true then ((addr_Reverse.f k a0_0 a0_1 a0_2).bind fun bt204 => ((addr_Reverse.f k a1_0 a1_1 a1_2).bind fun bt206 => (if bt204.2 = 0 then (nameplatelaw04_AddrReverses.j0 k bt204.1 bt206.1 (bt206.2 != 0) a0_0 a0_1 a0_2 a1_0 a1_1 a1_2) else (nameplatelaw04_AddrReverses.j0 k bt204.1 bt206.1 true a0_0 a0_1 a0_2 a1_0 a1_1 a1_2)))) else (some false)) = some r := H
  have A3 := Aside0.mk A30
  clear A30
  by_cases c4 : t203 = true
  · subst c4
    have H1 : ((addr_Reverse.f k a0_0 a0_1 a0_2).bind fun bt204 => ((addr_Reverse.f k a1_0 a1_1 a1_2).bind fun bt206 => (if bt204.2 = 0 then (nameplatelaw04_AddrReverses.j0 k bt204.1 bt206.1 (bt206.2 != 0) a0_0 a0_1 a0_2 a1_0 a1_1 a1_2) else (nameplatelaw04_AddrReverses.j0 k bt204.1 bt206.1 true a0_0 a0_1 a0_2 a1_0 a1_1 a1_2)))) = some r := by rw [if_pos rfl] at H; exact H
    clear H
    have H := H1
    clear H1
    replace H := Option.bind_eq_some_iff.mp H
    obtain ⟨⟨t204, t205⟩, A50, H⟩ := H
    replace H : ((addr_Reverse.f k a1_0 a1_1 a1_2).bind fun bt206 => (if t205 = 0 then (nameplatelaw04_AddrReverses.j0 k t204 bt206.1 (bt206.2 != 0) a0_0 a0_1 a0_2 a1_0 a1_1 a1_2) else (nameplatelaw04_AddrReverses.j0 k t204 bt206.1 true a0_0 a0_1 a0_2 a1_0 a1_1 a1_2))) = some r := H
    have A5 := Aside0.mk A50
    clear A50
    replace H := Option.bind_eq_some_iff.mp H
    obtain ⟨⟨t206, t207⟩, A60, H⟩ := H
    replace H : (if t205 = 0 then (nameplatelaw04_AddrReverses.j0 k t204 t206 (t207 != 0) a0_0 a0_1 a0_2 a1_0 a1_1 a1_2) else (nameplatelaw04_AddrReverses.j0 k t204 t206 true a0_0 a0_1 a0_2 a1_0 a1_1 a1_2)) = some r := H
    have A6 := Aside0.mk A60
    clear A60
    have HC7 := Aside0.mk H
    clear H
    go_enter Tryz.func8, Tryz.ntmps8
    go_upto_region 5 with (first | ((with_reducible refine gate_dst (N := 2) rfl ?_); (try (refine gate_guard (by rfl) ?_; dsimp only)); refine box_event ?hg (N := 2) ?hd (cs := #[.bool a0_0, .int .u64 a0_1, .int .u64 a0_2]) (t := 24) ?hr ?_; (case hd => rfl); (case hg => rfl); (case hr => first | (go_simp; done) | (go_simp; rfl)); intro gb201 hg w8 hbox hb; have n0_ := Aside0.mk (below_step (by repeat (first | (with_reducible first | exact HB.out | apply below_alloc | apply pw_below_drewN | apply below_drew1) | exact HB.out)) hb); have n1_ := Aside0.mk (hbox); have n2_ := Aside0.mk ((by rw [hg]; exact (below_size (by repeat (first | (with_reducible first | exact HB.out | apply below_alloc | apply pw_below_drewN | apply below_drew1) | exact HB.out))) : w.heap.size ≤ gb201)); have n3_ := Aside0.mk ((by rw [hg]; exact (below_size (by repeat (first | (with_reducible first | exact HB.out | apply below_alloc | apply pw_below_drewN | apply below_drew1) | exact HB.out))) : w.heap.size ≤ gb201)); clear HB; have HB := n0_; have BK201 := n1_; have GW201 := n2_; have GE201 := n3_; clear n0_ n1_ n2_ n3_; clear hb hbox hg) | ((with_reducible refine gate_dst (N := 3) rfl ?_); (try (refine gate_guard (by rfl) ?_; dsimp only)); refine box_event ?hg (N := 3) ?hd (cs := #[.bool a1_0, .int .u64 a1_1, .int .u64 a1_2]) (t := 24) ?hr ?_; (case hd => rfl); (case hg => rfl); (case hr => first | (go_simp; done) | (go_simp; rfl)); intro gb202 hg w9 hbox hb; have n0_ := Aside0.mk (blk_below (g := gb201) (o := .cells #[.bool a0_0, .int .u64 a0_1, .int .u64 a0_2] 24 (0, 0)) (by (with_reducible repeat (first | refine blk_drewN ?_ _ | refine blk_drew ?_ | refine blk_alloc ?_ _)); exact BK201.out) hb); have n1_ := Aside0.mk (below_step (by repeat (first | (with_reducible first | exact HB.out | apply below_alloc | apply pw_below_drewN | apply below_drew1 | refine below_set ?_ GE201.out) | exact HB.out)) hb); have n2_ := Aside0.mk (hbox); have n3_ := Aside0.mk ((by rw [hg]; exact (below_size (by repeat (first | (with_reducible first | exact HB.out | apply below_alloc | apply pw_below_drewN | apply below_drew1 | refine below_set ?_ GE201.out) | exact HB.out))) : w.heap.size ≤ gb202)); have n4_ := Aside0.mk ((by rw [hg]; exact (below_size (by repeat (first | (with_reducible first | exact HB.out | apply below_alloc | apply pw_below_drewN | apply below_drew1 | refine below_set ?_ GE201.out) | exact HB.out))) : w.heap.size ≤ gb202)); have n5_ := Aside0.mk ((by rw [hg]; exact Nat.ne_of_lt (blk_lt (g := gb201) (o := .cells #[.bool a0_0, .int .u64 a0_1, .int .u64 a0_2] 24 (0, 0)) (by (with_reducible repeat (first | refine blk_drewN ?_ _ | refine blk_drew ?_ | refine blk_alloc ?_ _)); exact BK201.out)) : gb201 ≠ gb202)); have n6_ := Aside0.mk ((by rw [hg]; exact Nat.ne_of_gt (blk_lt (g := gb201) (o := .cells #[.bool a0_0, .int .u64 a0_1, .int .u64 a0_2] 24 (0, 0)) (by (with_reducible repeat (first | refine blk_drewN ?_ _ | refine blk_drew ?_ | refine blk_alloc ?_ _)); exact BK201.out)) : gb202 ≠ gb201)); clear BK201; clear HB; have BK201 := n0_; have HB := n1_; have BK202 := n2_; have GW202 := n3_; have GE202 := n4_; have NB201_202 := n5_; have NB202_201 := n6_; clear n0_ n1_ n2_ n3_ n4_ n5_ n6_; clear hb hbox hg) | (go_at_call 35; (with_reducible refine (nameplatelaw04_lives.calls k  true _ ⟨hG_.out.below (by repeat (first | (with_reducible first | exact HB.out | apply below_alloc | apply pw_below_drewN | apply below_drew1 | refine below_set ?_ GE201.out | refine below_set ?_ GE202.out | refine below_set ?_ GE224.out) | exact HB.out | exact Below.refl _ _))⟩ A3.out).mono ?_); rintro e w10 ⟨rfl, hb⟩; have n0_ := Aside0.mk (blk_below (g := gb201) (o := .cells #[.bool a0_0, .int .u64 a0_1, .int .u64 a0_2] 24 (0, 0)) (by (with_reducible repeat (first | refine blk_drewN ?_ _ | refine blk_drew ?_ | refine blk_alloc ?_ _)); exact BK201.out) hb); have n1_ := Aside0.mk (blk_below (g := gb202) (o := .cells #[.bool a1_0, .int .u64 a1_1, .int .u64 a1_2] 24 (0, 0)) (by (with_reducible repeat (first | refine blk_drewN ?_ _ | refine blk_drew ?_ | refine blk_alloc ?_ _)); exact BK202.out) hb); have n2_ := Aside0.mk (below_step (by repeat (first | (with_reducible first | exact HB.out | apply below_alloc | apply pw_below_drewN | apply below_drew1 | refine below_set ?_ GE201.out | refine below_set ?_ GE202.out) | exact HB.out)) hb); clear BK201; clear BK202; clear HB; have BK201 := n0_; have BK202 := n1_; have HB := n2_; clear n0_ n1_ n2_; (try clear hb); (try clear hb2); (try clear hk); (try clear hi); have hnb11 := NB201_202.out; have hnc11 := NB202_201.out; have hcz12_0 : w10.cell? ⟨gb201, 0, none⟩ = some (.bool a0_0) := (blk_cell BK201.out 0).trans rfl; have hcz12_1 : w10.cell? ⟨gb201, 1, none⟩ = some (.int .u64 a0_1) := (blk_cell BK201.out 1).trans rfl; have hcz12_2 : w10.cell? ⟨gb201, 2, none⟩ = some (.int .u64 a0_2) := (blk_cell BK201.out 2).trans rfl; have hfz12_0 := blk_frozen BK201.out 0; have hfz12_1 := blk_frozen BK201.out 1; have hfz12_2 := blk_frozen BK201.out 2) | (go_at_call 36; (with_reducible refine (addr_Reverse.calls k a0_0 a0_1 a0_2 t204 t205 _ ⟨hG_.out.below (by repeat (first | (with_reducible first | exact HB.out | apply below_alloc | apply pw_below_drewN | apply below_drew1 | refine below_set ?_ GE201.out | refine below_set ?_ GE202.out | refine below_set ?_ GE224.out) | exact HB.out | exact Below.refl _ _))⟩ A5.out).mono ?_); rintro e w13 ⟨rfl, hb⟩; have n0_ := Aside0.mk (blk_below (g := gb201) (o := .cells #[.bool a0_0, .int .u64 a0_1, .int .u64 a0_2] 24 (0, 0)) (by (with_reducible repeat (first | refine blk_drewN ?_ _ | refine blk_drew ?_ | refine blk_alloc ?_ _)); exact BK201.out) hb); have n1_ := Aside0.mk (blk_below (g := gb202) (o := .cells #[.bool a1_0, .int .u64 a1_1, .int .u64 a1_2] 24 (0, 0)) (by (with_reducible repeat (first | refine blk_drewN ?_ _ | refine blk_drew ?_ | refine blk_alloc ?_ _)); exact BK202.out) hb); have n2_ := Aside0.mk (below_step (by repeat (first | (with_reducible first | exact HB.out | apply below_alloc | apply pw_below_drewN | apply below_drew1 | refine below_set ?_ GE201.out | refine below_set ?_ GE202.out) | exact HB.out)) hb); clear BK201; clear BK202; clear HB; have BK201 := n0_; have BK202 := n1_; have HB := n2_; clear n0_ n1_ n2_; (try clear hb); (try clear hb2); (try clear hk); (try clear hi); have hcz14_0 : w13.cell? ⟨gb202, 0, none⟩ = some (.bool a1_0) := (blk_cell BK202.out 0).trans rfl; have hcz14_1 : w13.cell? ⟨gb202, 1, none⟩ = some (.int .u64 a1_1) := (blk_cell BK202.out 1).trans rfl; have hcz14_2 : w13.cell? ⟨gb202, 2, none⟩ = some (.int .u64 a1_2) := (blk_cell BK202.out 2).trans rfl; have hfz14_0 := blk_frozen BK202.out 0; have hfz14_1 := blk_frozen BK202.out 1; have hfz14_2 := blk_frozen BK202.out 2) | (go_at_call 36; (with_reducible refine (addr_Reverse.calls k a1_0 a1_1 a1_2 t206 t207 _ ⟨hG_.out.below (by repeat (first | (with_reducible first | exact HB.out | apply below_alloc | apply pw_below_drewN | apply below_drew1 | refine below_set ?_ GE201.out | refine below_set ?_ GE202.out | refine below_set ?_ GE224.out) | exact HB.out | exact Below.refl _ _))⟩ A6.out).mono ?_); rintro e w15 ⟨rfl, hb⟩; have n0_ := Aside0.mk (blk_below (g := gb201) (o := .cells #[.bool a0_0, .int .u64 a0_1, .int .u64 a0_2] 24 (0, 0)) (by (with_reducible repeat (first | refine blk_drewN ?_ _ | refine blk_drew ?_ | refine blk_alloc ?_ _)); exact BK201.out) hb); have n1_ := Aside0.mk (blk_below (g := gb202) (o := .cells #[.bool a1_0, .int .u64 a1_1, .int .u64 a1_2] 24 (0, 0)) (by (with_reducible repeat (first | refine blk_drewN ?_ _ | refine blk_drew ?_ | refine blk_alloc ?_ _)); exact BK202.out) hb); have n2_ := Aside0.mk (below_step (by repeat (first | (with_reducible first | exact HB.out | apply below_alloc | apply pw_below_drewN | apply below_drew1 | refine below_set ?_ GE201.out | refine below_set ?_ GE202.out) | exact HB.out)) hb); clear BK201; clear BK202; clear HB; have BK201 := n0_; have BK202 := n1_; have HB := n2_; clear n0_ n1_ n2_; (try clear hb); (try clear hb2); (try clear hk); (try clear hi)))
    repeat (go_quiet (first | ((with_reducible refine gate_dst (N := 2) rfl ?_); (try (refine gate_guard (by rfl) ?_; dsimp only)); refine box_event ?hg (N := 2) ?hd (cs := #[.bool a0_0, .int .u64 a0_1, .int .u64 a0_2]) (t := 24) ?hr ?_; (case hd => rfl); (case hg => rfl); (case hr => first | (go_simp; done) | (go_simp; rfl)); intro gb201 hg w8 hbox hb; have n0_ := Aside0.mk (below_step (by repeat (first | (with_reducible first | exact HB.out | apply below_alloc | apply pw_below_drewN | apply below_drew1) | exact HB.out)) hb); have n1_ := Aside0.mk (hbox); have n2_ := Aside0.mk ((by rw [hg]; exact (below_size (by repeat (first | (with_reducible first | exact HB.out | apply below_alloc | apply pw_below_drewN | apply below_drew1) | exact HB.out))) : w.heap.size ≤ gb201)); have n3_ := Aside0.mk ((by rw [hg]; exact (below_size (by repeat (first | (with_reducible first | exact HB.out | apply below_alloc | apply pw_below_drewN | apply below_drew1) | exact HB.out))) : w.heap.size ≤ gb201)); clear HB; have HB := n0_; have BK201 := n1_; have GW201 := n2_; have GE201 := n3_; clear n0_ n1_ n2_ n3_; clear hb hbox hg) | ((with_reducible refine gate_dst (N := 3) rfl ?_); (try (refine gate_guard (by rfl) ?_; dsimp only)); refine box_event ?hg (N := 3) ?hd (cs := #[.bool a1_0, .int .u64 a1_1, .int .u64 a1_2]) (t := 24) ?hr ?_; (case hd => rfl); (case hg => rfl); (case hr => first | (go_simp; done) | (go_simp; rfl)); intro gb202 hg w9 hbox hb; have n0_ := Aside0.mk (blk_below (g := gb201) (o := .cells #[.bool a0_0, .int .u64 a0_1, .int .u64 a0_2] 24 (0, 0)) (by (with_reducible repeat (first | refine blk_drewN ?_ _ | refine blk_drew ?_ | refine blk_alloc ?_ _)); exact BK201.out) hb); have n1_ := Aside0.mk (below_step (by repeat (first | (with_reducible first | exact HB.out | apply below_alloc | apply pw_below_drewN | apply below_drew1 | refine below_set ?_ GE201.out) | exact HB.out)) hb); have n2_ := Aside0.mk (hbox); have n3_ := Aside0.mk ((by rw [hg]; exact (below_size (by repeat (first | (with_reducible first | exact HB.out | apply below_alloc | apply pw_below_drewN | apply below_drew1 | refine below_set ?_ GE201.out) | exact HB.out))) : w.heap.size ≤ gb202)); have n4_ := Aside0.mk ((by rw [hg]; exact (below_size (by repeat (first | (with_reducible first | exact HB.out | apply below_alloc | apply pw_below_drewN | apply below_drew1 | refine below_set ?_ GE201.out) | exact HB.out))) : w.heap.size ≤ gb202)); have n5_ := Aside0.mk ((by rw [hg]; exact Nat.ne_of_lt (blk_lt (g := gb201) (o := .cells #[.bool a0_0, .int .u64 a0_1, .int .u64 a0_2] 24 (0, 0)) (by (with_reducible repeat (first | refine blk_drewN ?_ _ | refine blk_drew ?_ | refine blk_alloc ?_ _)); exact BK201.out)) : gb201 ≠ gb202)); have n6_ := Aside0.mk ((by rw [hg]; exact Nat.ne_of_gt (blk_lt (g := gb201) (o := .cells #[.bool a0_0, .int .u64 a0_1, .int .u64 a0_2] 24 (0, 0)) (by (with_reducible repeat (first | refine blk_drewN ?_ _ | refine blk_drew ?_ | refine blk_alloc ?_ _)); exact BK201.out)) : gb202 ≠ gb201)); clear BK201; clear HB; have BK201 := n0_; have HB := n1_; have BK202 := n2_; have GW202 := n3_; have GE202 := n4_; have NB201_202 := n5_; have NB202_201 := n6_; clear n0_ n1_ n2_ n3_ n4_ n5_ n6_; clear hb hbox hg) | (go_at_call 35; (with_reducible refine (nameplatelaw04_lives.calls k  true _ ⟨hG_.out.below (by repeat (first | (with_reducible first | exact HB.out | apply below_alloc | apply pw_below_drewN | apply below_drew1 | refine below_set ?_ GE201.out | refine below_set ?_ GE202.out | refine below_set ?_ GE224.out) | exact HB.out | exact Below.refl _ _))⟩ A3.out).mono ?_); rintro e w10 ⟨rfl, hb⟩; have n0_ := Aside0.mk (blk_below (g := gb201) (o := .cells #[.bool a0_0, .int .u64 a0_1, .int .u64 a0_2] 24 (0, 0)) (by (with_reducible repeat (first | refine blk_drewN ?_ _ | refine blk_drew ?_ | refine blk_alloc ?_ _)); exact BK201.out) hb); have n1_ := Aside0.mk (blk_below (g := gb202) (o := .cells #[.bool a1_0, .int .u64 a1_1, .int .u64 a1_2] 24 (0, 0)) (by (with_reducible repeat (first | refine blk_drewN ?_ _ | refine blk_drew ?_ | refine blk_alloc ?_ _)); exact BK202.out) hb); have n2_ := Aside0.mk (below_step (by repeat (first | (with_reducible first | exact HB.out | apply below_alloc | apply pw_below_drewN | apply below_drew1 | refine below_set ?_ GE201.out | refine below_set ?_ GE202.out) | exact HB.out)) hb); clear BK201; clear BK202; clear HB; have BK201 := n0_; have BK202 := n1_; have HB := n2_; clear n0_ n1_ n2_; (try clear hb); (try clear hb2); (try clear hk); (try clear hi); have hnb11 := NB201_202.out; have hnc11 := NB202_201.out; have hcz12_0 : w10.cell? ⟨gb201, 0, none⟩ = some (.bool a0_0) := (blk_cell BK201.out 0).trans rfl; have hcz12_1 : w10.cell? ⟨gb201, 1, none⟩ = some (.int .u64 a0_1) := (blk_cell BK201.out 1).trans rfl; have hcz12_2 : w10.cell? ⟨gb201, 2, none⟩ = some (.int .u64 a0_2) := (blk_cell BK201.out 2).trans rfl; have hfz12_0 := blk_frozen BK201.out 0; have hfz12_1 := blk_frozen BK201.out 1; have hfz12_2 := blk_frozen BK201.out 2) | (go_at_call 36; (with_reducible refine (addr_Reverse.calls k a0_0 a0_1 a0_2 t204 t205 _ ⟨hG_.out.below (by repeat (first | (with_reducible first | exact HB.out | apply below_alloc | apply pw_below_drewN | apply below_drew1 | refine below_set ?_ GE201.out | refine below_set ?_ GE202.out | refine below_set ?_ GE224.out) | exact HB.out | exact Below.refl _ _))⟩ A5.out).mono ?_); rintro e w13 ⟨rfl, hb⟩; have n0_ := Aside0.mk (blk_below (g := gb201) (o := .cells #[.bool a0_0, .int .u64 a0_1, .int .u64 a0_2] 24 (0, 0)) (by (with_reducible repeat (first | refine blk_drewN ?_ _ | refine blk_drew ?_ | refine blk_alloc ?_ _)); exact BK201.out) hb); have n1_ := Aside0.mk (blk_below (g := gb202) (o := .cells #[.bool a1_0, .int .u64 a1_1, .int .u64 a1_2] 24 (0, 0)) (by (with_reducible repeat (first | refine blk_drewN ?_ _ | refine blk_drew ?_ | refine blk_alloc ?_ _)); exact BK202.out) hb); have n2_ := Aside0.mk (below_step (by repeat (first | (with_reducible first | exact HB.out | apply below_alloc | apply pw_below_drewN | apply below_drew1 | refine below_set ?_ GE201.out | refine below_set ?_ GE202.out) | exact HB.out)) hb); clear BK201; clear BK202; clear HB; have BK201 := n0_; have BK202 := n1_; have HB := n2_; clear n0_ n1_ n2_; (try clear hb); (try clear hb2); (try clear hk); (try clear hi); have hcz14_0 : w13.cell? ⟨gb202, 0, none⟩ = some (.bool a1_0) := (blk_cell BK202.out 0).trans rfl; have hcz14_1 : w13.cell? ⟨gb202, 1, none⟩ = some (.int .u64 a1_1) := (blk_cell BK202.out 1).trans rfl; have hcz14_2 : w13.cell? ⟨gb202, 2, none⟩ = some (.int .u64 a1_2) := (blk_cell BK202.out 2).trans rfl; have hfz14_0 := blk_frozen BK202.out 0; have hfz14_1 := blk_frozen BK202.out 1; have hfz14_2 := blk_frozen BK202.out 2) | (go_at_call 36; (with_reducible refine (addr_Reverse.calls k a1_0 a1_1 a1_2 t206 t207 _ ⟨hG_.out.below (by repeat (first | (with_reducible first | exact HB.out | apply below_alloc | apply pw_below_drewN | apply below_drew1 | refine below_set ?_ GE201.out | refine below_set ?_ GE202.out | refine below_set ?_ GE224.out) | exact HB.out | exact Below.refl _ _))⟩ A6.out).mono ?_); rintro e w15 ⟨rfl, hb⟩; have n0_ := Aside0.mk (blk_below (g := gb201) (o := .cells #[.bool a0_0, .int .u64 a0_1, .int .u64 a0_2] 24 (0, 0)) (by (with_reducible repeat (first | refine blk_drewN ?_ _ | refine blk_drew ?_ | refine blk_alloc ?_ _)); exact BK201.out) hb); have n1_ := Aside0.mk (blk_below (g := gb202) (o := .cells #[.bool a1_0, .int .u64 a1_1, .int .u64 a1_2] 24 (0, 0)) (by (with_reducible repeat (first | refine blk_drewN ?_ _ | refine blk_drew ?_ | refine blk_alloc ?_ _)); exact BK202.out) hb); have n2_ := Aside0.mk (below_step (by repeat (first | (with_reducible first | exact HB.out | apply below_alloc | apply pw_below_drewN | apply below_drew1 | refine below_set ?_ GE201.out | refine below_set ?_ GE202.out) | exact HB.out)) hb); clear BK201; clear BK202; clear HB; have BK201 := n0_; have BK202 := n1_; have HB := n2_; clear n0_ n1_ n2_; (try clear hb); (try clear hb2); (try clear hk); (try clear hi))); go_upto_region 5 with (first | ((with_reducible refine gate_dst (N := 2) rfl ?_); (try (refine gate_guard (by rfl) ?_; dsimp only)); refine box_event ?hg (N := 2) ?hd (cs := #[.bool a0_0, .int .u64 a0_1, .int .u64 a0_2]) (t := 24) ?hr ?_; (case hd => rfl); (case hg => rfl); (case hr => first | (go_simp; done) | (go_simp; rfl)); intro gb201 hg w8 hbox hb; have n0_ := Aside0.mk (below_step (by repeat (first | (with_reducible first | exact HB.out | apply below_alloc | apply pw_below_drewN | apply below_drew1) | exact HB.out)) hb); have n1_ := Aside0.mk (hbox); have n2_ := Aside0.mk ((by rw [hg]; exact (below_size (by repeat (first | (with_reducible first | exact HB.out | apply below_alloc | apply pw_below_drewN | apply below_drew1) | exact HB.out))) : w.heap.size ≤ gb201)); have n3_ := Aside0.mk ((by rw [hg]; exact (below_size (by repeat (first | (with_reducible first | exact HB.out | apply below_alloc | apply pw_below_drewN | apply below_drew1) | exact HB.out))) : w.heap.size ≤ gb201)); clear HB; have HB := n0_; have BK201 := n1_; have GW201 := n2_; have GE201 := n3_; clear n0_ n1_ n2_ n3_; clear hb hbox hg) | ((with_reducible refine gate_dst (N := 3) rfl ?_); (try (refine gate_guard (by rfl) ?_; dsimp only)); refine box_event ?hg (N := 3) ?hd (cs := #[.bool a1_0, .int .u64 a1_1, .int .u64 a1_2]) (t := 24) ?hr ?_; (case hd => rfl); (case hg => rfl); (case hr => first | (go_simp; done) | (go_simp; rfl)); intro gb202 hg w9 hbox hb; have n0_ := Aside0.mk (blk_below (g := gb201) (o := .cells #[.bool a0_0, .int .u64 a0_1, .int .u64 a0_2] 24 (0, 0)) (by (with_reducible repeat (first | refine blk_drewN ?_ _ | refine blk_drew ?_ | refine blk_alloc ?_ _)); exact BK201.out) hb); have n1_ := Aside0.mk (below_step (by repeat (first | (with_reducible first | exact HB.out | apply below_alloc | apply pw_below_drewN | apply below_drew1 | refine below_set ?_ GE201.out) | exact HB.out)) hb); have n2_ := Aside0.mk (hbox); have n3_ := Aside0.mk ((by rw [hg]; exact (below_size (by repeat (first | (with_reducible first | exact HB.out | apply below_alloc | apply pw_below_drewN | apply below_drew1 | refine below_set ?_ GE201.out) | exact HB.out))) : w.heap.size ≤ gb202)); have n4_ := Aside0.mk ((by rw [hg]; exact (below_size (by repeat (first | (with_reducible first | exact HB.out | apply below_alloc | apply pw_below_drewN | apply below_drew1 | refine below_set ?_ GE201.out) | exact HB.out))) : w.heap.size ≤ gb202)); have n5_ := Aside0.mk ((by rw [hg]; exact Nat.ne_of_lt (blk_lt (g := gb201) (o := .cells #[.bool a0_0, .int .u64 a0_1, .int .u64 a0_2] 24 (0, 0)) (by (with_reducible repeat (first | refine blk_drewN ?_ _ | refine blk_drew ?_ | refine blk_alloc ?_ _)); exact BK201.out)) : gb201 ≠ gb202)); have n6_ := Aside0.mk ((by rw [hg]; exact Nat.ne_of_gt (blk_lt (g := gb201) (o := .cells #[.bool a0_0, .int .u64 a0_1, .int .u64 a0_2] 24 (0, 0)) (by (with_reducible repeat (first | refine blk_drewN ?_ _ | refine blk_drew ?_ | refine blk_alloc ?_ _)); exact BK201.out)) : gb202 ≠ gb201)); clear BK201; clear HB; have BK201 := n0_; have HB := n1_; have BK202 := n2_; have GW202 := n3_; have GE202 := n4_; have NB201_202 := n5_; have NB202_201 := n6_; clear n0_ n1_ n2_ n3_ n4_ n5_ n6_; clear hb hbox hg) | (go_at_call 35; (with_reducible refine (nameplatelaw04_lives.calls k  true _ ⟨hG_.out.below (by repeat (first | (with_reducible first | exact HB.out | apply below_alloc | apply pw_below_drewN | apply below_drew1 | refine below_set ?_ GE201.out | refine below_set ?_ GE202.out | refine below_set ?_ GE224.out) | exact HB.out | exact Below.refl _ _))⟩ A3.out).mono ?_); rintro e w10 ⟨rfl, hb⟩; have n0_ := Aside0.mk (blk_below (g := gb201) (o := .cells #[.bool a0_0, .int .u64 a0_1, .int .u64 a0_2] 24 (0, 0)) (by (with_reducible repeat (first | refine blk_drewN ?_ _ | refine blk_drew ?_ | refine blk_alloc ?_ _)); exact BK201.out) hb); have n1_ := Aside0.mk (blk_below (g := gb202) (o := .cells #[.bool a1_0, .int .u64 a1_1, .int .u64 a1_2] 24 (0, 0)) (by (with_reducible repeat (first | refine blk_drewN ?_ _ | refine blk_drew ?_ | refine blk_alloc ?_ _)); exact BK202.out) hb); have n2_ := Aside0.mk (below_step (by repeat (first | (with_reducible first | exact HB.out | apply below_alloc | apply pw_below_drewN | apply below_drew1 | refine below_set ?_ GE201.out | refine below_set ?_ GE202.out) | exact HB.out)) hb); clear BK201; clear BK202; clear HB; have BK201 := n0_; have BK202 := n1_; have HB := n2_; clear n0_ n1_ n2_; (try clear hb); (try clear hb2); (try clear hk); (try clear hi); have hnb11 := NB201_202.out; have hnc11 := NB202_201.out; have hcz12_0 : w10.cell? ⟨gb201, 0, none⟩ = some (.bool a0_0) := (blk_cell BK201.out 0).trans rfl; have hcz12_1 : w10.cell? ⟨gb201, 1, none⟩ = some (.int .u64 a0_1) := (blk_cell BK201.out 1).trans rfl; have hcz12_2 : w10.cell? ⟨gb201, 2, none⟩ = some (.int .u64 a0_2) := (blk_cell BK201.out 2).trans rfl; have hfz12_0 := blk_frozen BK201.out 0; have hfz12_1 := blk_frozen BK201.out 1; have hfz12_2 := blk_frozen BK201.out 2) | (go_at_call 36; (with_reducible refine (addr_Reverse.calls k a0_0 a0_1 a0_2 t204 t205 _ ⟨hG_.out.below (by repeat (first | (with_reducible first | exact HB.out | apply below_alloc | apply pw_below_drewN | apply below_drew1 | refine below_set ?_ GE201.out | refine below_set ?_ GE202.out | refine below_set ?_ GE224.out) | exact HB.out | exact Below.refl _ _))⟩ A5.out).mono ?_); rintro e w13 ⟨rfl, hb⟩; have n0_ := Aside0.mk (blk_below (g := gb201) (o := .cells #[.bool a0_0, .int .u64 a0_1, .int .u64 a0_2] 24 (0, 0)) (by (with_reducible repeat (first | refine blk_drewN ?_ _ | refine blk_drew ?_ | refine blk_alloc ?_ _)); exact BK201.out) hb); have n1_ := Aside0.mk (blk_below (g := gb202) (o := .cells #[.bool a1_0, .int .u64 a1_1, .int .u64 a1_2] 24 (0, 0)) (by (with_reducible repeat (first | refine blk_drewN ?_ _ | refine blk_drew ?_ | refine blk_alloc ?_ _)); exact BK202.out) hb); have n2_ := Aside0.mk (below_step (by repeat (first | (with_reducible first | exact HB.out | apply below_alloc | apply pw_below_drewN | apply below_drew1 | refine below_set ?_ GE201.out | refine below_set ?_ GE202.out) | exact HB.out)) hb); clear BK201; clear BK202; clear HB; have BK201 := n0_; have BK202 := n1_; have HB := n2_; clear n0_ n1_ n2_; (try clear hb); (try clear hb2); (try clear hk); (try clear hi); have hcz14_0 : w13.cell? ⟨gb202, 0, none⟩ = some (.bool a1_0) := (blk_cell BK202.out 0).trans rfl; have hcz14_1 : w13.cell? ⟨gb202, 1, none⟩ = some (.int .u64 a1_1) := (blk_cell BK202.out 1).trans rfl; have hcz14_2 : w13.cell? ⟨gb202, 2, none⟩ = some (.int .u64 a1_2) := (blk_cell BK202.out 2).trans rfl; have hfz14_0 := blk_frozen BK202.out 0; have hfz14_1 := blk_frozen BK202.out 1; have hfz14_2 := blk_frozen BK202.out 2) | (go_at_call 36; (with_reducible refine (addr_Reverse.calls k a1_0 a1_1 a1_2 t206 t207 _ ⟨hG_.out.below (by repeat (first | (with_reducible first | exact HB.out | apply below_alloc | apply pw_below_drewN | apply below_drew1 | refine below_set ?_ GE201.out | refine below_set ?_ GE202.out | refine below_set ?_ GE224.out) | exact HB.out | exact Below.refl _ _))⟩ A6.out).mono ?_); rintro e w15 ⟨rfl, hb⟩; have n0_ := Aside0.mk (blk_below (g := gb201) (o := .cells #[.bool a0_0, .int .u64 a0_1, .int .u64 a0_2] 24 (0, 0)) (by (with_reducible repeat (first | refine blk_drewN ?_ _ | refine blk_drew ?_ | refine blk_alloc ?_ _)); exact BK201.out) hb); have n1_ := Aside0.mk (blk_below (g := gb202) (o := .cells #[.bool a1_0, .int .u64 a1_1, .int .u64 a1_2] 24 (0, 0)) (by (with_reducible repeat (first | refine blk_drewN ?_ _ | refine blk_drew ?_ | refine blk_alloc ?_ _)); exact BK202.out) hb); have n2_ := Aside0.mk (below_step (by repeat (first | (with_reducible first | exact HB.out | apply below_alloc | apply pw_below_drewN | apply below_drew1 | refine below_set ?_ GE201.out | refine below_set ?_ GE202.out) | exact HB.out)) hb); clear BK201; clear BK202; clear HB; have BK201 := n0_; have BK202 := n1_; have HB := n2_; clear n0_ n1_ n2_; (try clear hb); (try clear hb2); (try clear hk); (try clear hi))))
    (try simp only [Act.put, List.setIfInBounds_toArray, List.set_cons_zero, List.set_cons_succ])
    go_cut [33] (fun v33 wc => ∃ (kq : Nat) (x33_6 : Bool), v33 = .bool x33_6 ∧ Aside0 (nameplatelaw04_AddrReverses.j0 kq t204 t206 x33_6 a0_0 a0_1 a0_2 a1_0 a1_1 a1_2 = some r) ∧ Aside0 (kq ≤ k) ∧ Aside0 (wc.heap[gb201]? = some (.cells #[.bool a0_0, .int .u64 a0_1, .int .u64 a0_2] 24 (0, 0))) ∧ Aside0 (wc.heap[gb202]? = some (.cells #[.bool a1_0, .int .u64 a1_1, .int .u64 a1_2] 24 (0, 0))) ∧ Aside0 (Below w.heap.size w wc))
    case first =>
      have H := HC7.out
      clear HC7
      by_cases c16 : t205 = 0
      · rw [if_pos c16] at H
        have c16b0 : (t205 == 0) = true := beq_iff_eq.mpr c16
        have c16b1 : (t205 != 0) = false := bne_eq_false_iff_eq.mpr c16
        clear c16
        (first | rw [c16b0] | (simp only [i64_w, i32_w]; rw [c16b0]) | skip)
        have H' := Aside0.mk H
        clear H
        go_wp2
        repeat (go_quiet (fail); try go_wp2)
        go_meet
        case rel => exact ⟨_, ((t207 != 0)), (by first | rfl | (simp; done) | (simp [*]; done)), H', ⟨by first | omega | exact Nat.le_refl _⟩, ⟨by (with_reducible repeat (first | refine blk_drewN ?_ _ | refine blk_drew ?_ | refine blk_alloc ?_ _)); exact BK201.out⟩, ⟨by (with_reducible repeat (first | refine blk_drewN ?_ _ | refine blk_drew ?_ | refine blk_alloc ?_ _)); exact BK202.out⟩, ⟨by repeat (first | (with_reducible first | exact HB.out | apply below_alloc | apply pw_below_drewN | apply below_drew1 | refine below_set ?_ GE201.out | refine below_set ?_ GE202.out) | exact HB.out)⟩⟩
      · rw [if_neg c16] at H
        have c16b0 : (t205 == 0) = false := beq_eq_false_iff_ne.mpr c16
        have c16b1 : (t205 != 0) = true := bne_iff_ne.mpr c16
        (first | rw [c16b0] | (simp only [i64_w, i32_w]; rw [c16b0]) | skip)
        have H' := Aside0.mk H
        clear H
        go_wp2
        repeat (go_quiet (fail); try go_wp2)
        go_meet
        case rel => exact ⟨_, (true), (by first | rfl | (simp; done) | (simp [*]; done)), H', ⟨by first | omega | exact Nat.le_refl _⟩, ⟨by (with_reducible repeat (first | refine blk_drewN ?_ _ | refine blk_drew ?_ | refine blk_alloc ?_ _)); exact BK201.out⟩, ⟨by (with_reducible repeat (first | refine blk_drewN ?_ _ | refine blk_drew ?_ | refine blk_alloc ?_ _)); exact BK202.out⟩, ⟨by repeat (first | (with_reducible first | exact HB.out | apply below_alloc | apply pw_below_drewN | apply below_drew1 | refine below_set ?_ GE201.out | refine below_set ?_ GE202.out) | exact HB.out)⟩⟩
    case rest =>
      clear HC7
      try clear c1
      try clear p2
      try clear c4
      try clear c8
      try clear c11
      try clear c16
      try clear c16b0
      try clear c16b1
      try clear hcz12_0
      try clear hcz12_1
      try clear hcz12_2
      try clear hcz14_0
      try clear hcz14_1
      try clear hcz14_2
      try clear hfz12_0
      try clear hfz12_1
      try clear hfz12_2
      try clear hfz14_0
      try clear hfz14_1
      try clear hfz14_2
      obtain ⟨kq, x33_6, rfl, HA, HJ6, BK201, BK202, HB⟩ := hcut
      cases kq with
      | zero => exact absurd HA.out (by simp [nameplatelaw04_AddrReverses.j0])
      | succ kj6 =>
        have H := HA.out
        clear HA
        simp only [nameplatelaw04_AddrReverses.j0] at H
        by_cases c17 : x33_6 = true
        · subst c17
          have H1 : (some true) = some r := by rw [if_pos rfl] at H; exact H
          clear H
          have H := H1
          clear H1
          obtain rfl := Option.some.inj H
          go_wp2
          repeat (go_quiet (fail); try go_wp2)
          go_ret
          exact ⟨by first | rfl | (simp [errW_none, errW_some] <;> rfl) | (simp [*, errW_none, errW_some] <;> rfl), by repeat (first | (with_reducible first | exact HB.out | apply below_alloc | apply pw_below_drewN | apply below_drew1 | refine below_set ?_ GE201.out | refine below_set ?_ GE202.out) | exact HB.out)⟩
        · replace c17 := Bool.eq_false_iff.mpr c17
          subst c17
          have H1 : ((name_Labels.f kj6 t204).bind fun t208 => (if (t208.length : Int) < 3 then (nameplatelaw04_AddrReverses.j1 kj6 t208 true a0_0 a0_1 a0_2) else (if 0 ≤ (wrap64 ((t208.length : Int) - 1)) then (if (wrap64 ((t208.length : Int) - 1)) < (t208.length : Int) then (if (rdOf ByteArray.empty t208 (wrap64 ((t208.length : Int) - 1))).toList = ([97, 114, 112, 97] : List UInt8) then (if ((t204.toList == t206.toList) != (a0_0 == a1_0 && (a0_1 == a1_1 && (a0_2 == a1_2)))) = true then (nameplatelaw04_AddrReverses.j1 kj6 t208 true a0_0 a0_1 a0_2) else (if (a0_0 != ((t208.length : Int) == 34)) = true then (nameplatelaw04_AddrReverses.j1 kj6 t208 true a0_0 a0_1 a0_2) else (nameplatelaw04_AddrReverses.j1 kj6 t208 ((!a0_0) != ((t208.length : Int) == 6)) a0_0 a0_1 a0_2))) else (nameplatelaw04_AddrReverses.j1 kj6 t208 true a0_0 a0_1 a0_2)) else (none)) else (none)))) = some r := by rw [if_neg (show ¬ (false = true) by decide)] at H; exact H
          clear H
          have H := H1
          clear H1
          replace H := Option.bind_eq_some_iff.mp H
          obtain ⟨t208, A180, H⟩ := H
          replace H : (if (t208.length : Int) < 3 then (nameplatelaw04_AddrReverses.j1 kj6 t208 true a0_0 a0_1 a0_2) else (if 0 ≤ (wrap64 ((t208.length : Int) - 1)) then (if (wrap64 ((t208.length : Int) - 1)) < (t208.length : Int) then (if (rdOf ByteArray.empty t208 (wrap64 ((t208.length : Int) - 1))).toList = ([97, 114, 112, 97] : List UInt8) then (if ((t204.toList == t206.toList) != (a0_0 == a1_0 && (a0_1 == a1_1 && (a0_2 == a1_2)))) = true then (nameplatelaw04_AddrReverses.j1 kj6 t208 true a0_0 a0_1 a0_2) else (if (a0_0 != ((t208.length : Int) == 34)) = true then (nameplatelaw04_AddrReverses.j1 kj6 t208 true a0_0 a0_1 a0_2) else (nameplatelaw04_AddrReverses.j1 kj6 t208 ((!a0_0) != ((t208.length : Int) == 6)) a0_0 a0_1 a0_2))) else (nameplatelaw04_AddrReverses.j1 kj6 t208 true a0_0 a0_1 a0_2)) else (none)) else (none))) = some r := H
          have A18 := Aside0.mk A180
          clear A180
          have HC19 := Aside0.mk H
          clear H
          go_upto_region 8 with (first | (go_at_call 37; (with_reducible refine (name_Labels.calls kj6 t204 t208 _ A18.out).mono ?_); rintro e w20 ⟨v209, rfl, ho0, hb⟩; have n0_ := Aside0.mk (Kd.R_lower ho0 (below_size (by repeat (first | (with_reducible first | exact HB.out | apply below_alloc | apply pw_below_drewN | apply below_drew1 | refine below_set ?_ GE201.out | refine below_set ?_ GE202.out) | exact HB.out)))); have n1_ := Aside0.mk (blk_below (g := gb201) (o := .cells #[.bool a0_0, .int .u64 a0_1, .int .u64 a0_2] 24 (0, 0)) (by (with_reducible repeat (first | refine blk_drewN ?_ _ | refine blk_drew ?_ | refine blk_alloc ?_ _)); exact BK201.out) hb); have n2_ := Aside0.mk (blk_below (g := gb202) (o := .cells #[.bool a1_0, .int .u64 a1_1, .int .u64 a1_2] 24 (0, 0)) (by (with_reducible repeat (first | refine blk_drewN ?_ _ | refine blk_drew ?_ | refine blk_alloc ?_ _)); exact BK202.out) hb); have n3_ := Aside0.mk (below_step (by repeat (first | (with_reducible first | exact HB.out | apply below_alloc | apply pw_below_drewN | apply below_drew1 | refine below_set ?_ GE201.out | refine below_set ?_ GE202.out) | exact HB.out)) hb); clear BK201; clear BK202; clear HB; have HO210 := n0_; have BK201 := n1_; have BK202 := n2_; have HB := n3_; clear n0_ n1_ n2_ n3_; (try clear hb); (try clear hb2); (try clear hk); (try clear hi); (try clear ho0)))
          repeat (go_quiet (first | (go_at_call 37; (with_reducible refine (name_Labels.calls kj6 t204 t208 _ A18.out).mono ?_); rintro e w20 ⟨v209, rfl, ho0, hb⟩; have n0_ := Aside0.mk (Kd.R_lower ho0 (below_size (by repeat (first | (with_reducible first | exact HB.out | apply below_alloc | apply pw_below_drewN | apply below_drew1 | refine below_set ?_ GE201.out | refine below_set ?_ GE202.out) | exact HB.out)))); have n1_ := Aside0.mk (blk_below (g := gb201) (o := .cells #[.bool a0_0, .int .u64 a0_1, .int .u64 a0_2] 24 (0, 0)) (by (with_reducible repeat (first | refine blk_drewN ?_ _ | refine blk_drew ?_ | refine blk_alloc ?_ _)); exact BK201.out) hb); have n2_ := Aside0.mk (blk_below (g := gb202) (o := .cells #[.bool a1_0, .int .u64 a1_1, .int .u64 a1_2] 24 (0, 0)) (by (with_reducible repeat (first | refine blk_drewN ?_ _ | refine blk_drew ?_ | refine blk_alloc ?_ _)); exact BK202.out) hb); have n3_ := Aside0.mk (below_step (by repeat (first | (with_reducible first | exact HB.out | apply below_alloc | apply pw_below_drewN | apply below_drew1 | refine below_set ?_ GE201.out | refine below_set ?_ GE202.out) | exact HB.out)) hb); clear BK201; clear BK202; clear HB; have HO210 := n0_; have BK201 := n1_; have BK202 := n2_; have HB := n3_; clear n0_ n1_ n2_ n3_; (try clear hb); (try clear hb2); (try clear hk); (try clear hi); (try clear ho0))); go_upto_region 8 with (first | (go_at_call 37; (with_reducible refine (name_Labels.calls kj6 t204 t208 _ A18.out).mono ?_); rintro e w20 ⟨v209, rfl, ho0, hb⟩; have n0_ := Aside0.mk (Kd.R_lower ho0 (below_size (by repeat (first | (with_reducible first | exact HB.out | apply below_alloc | apply pw_below_drewN | apply below_drew1 | refine below_set ?_ GE201.out | refine below_set ?_ GE202.out) | exact HB.out)))); have n1_ := Aside0.mk (blk_below (g := gb201) (o := .cells #[.bool a0_0, .int .u64 a0_1, .int .u64 a0_2] 24 (0, 0)) (by (with_reducible repeat (first | refine blk_drewN ?_ _ | refine blk_drew ?_ | refine blk_alloc ?_ _)); exact BK201.out) hb); have n2_ := Aside0.mk (blk_below (g := gb202) (o := .cells #[.bool a1_0, .int .u64 a1_1, .int .u64 a1_2] 24 (0, 0)) (by (with_reducible repeat (first | refine blk_drewN ?_ _ | refine blk_drew ?_ | refine blk_alloc ?_ _)); exact BK202.out) hb); have n3_ := Aside0.mk (below_step (by repeat (first | (with_reducible first | exact HB.out | apply below_alloc | apply pw_below_drewN | apply below_drew1 | refine below_set ?_ GE201.out | refine below_set ?_ GE202.out) | exact HB.out)) hb); clear BK201; clear BK202; clear HB; have HO210 := n0_; have BK201 := n1_; have BK202 := n2_; have HB := n3_; clear n0_ n1_ n2_ n3_; (try clear hb); (try clear hb2); (try clear hk); (try clear hi); (try clear ho0))))
          (try simp only [Act.put, List.setIfInBounds_toArray, List.set_cons_zero, List.set_cons_succ])
          go_cut [73] (fun v73 wc => ∃ (kq : Nat) (x73_18 : Bool), v73 = .bool x73_18 ∧ Aside0 (nameplatelaw04_AddrReverses.j1 kq t208 x73_18 a0_0 a0_1 a0_2 = some r) ∧ Aside0 (kq ≤ kj6) ∧ Aside0 (Kd.R Kd.string 9 wc w.heap.size (fun _ => True) v209 t208) ∧ Aside0 (wc.heap[gb201]? = some (.cells #[.bool a0_0, .int .u64 a0_1, .int .u64 a0_2] 24 (0, 0))) ∧ Aside0 (wc.heap[gb202]? = some (.cells #[.bool a1_0, .int .u64 a1_1, .int .u64 a1_2] 24 (0, 0))) ∧ Aside0 (Below w.heap.size w wc))
          case first =>
            have H := HC19.out
            clear HC19
            by_cases c21 : (t208.length : Int) < 3
            · rw [if_pos c21] at H
              have c21b0 : decide ((t208.length : Int) < 3) = true := decide_eq_true c21
              have c21b1 : decide (t208.length < 3) = true := decide_eq_true (by omega)
              clear c21
              (first | rw [c21b0] | (simp only [i64_w, i32_w]; rw [c21b0]) | skip)
              have H' := Aside0.mk H
              clear H
              obtain ⟨Ao22, co22, eo22⟩ := Kd.R_slice HO210.out
              subst eo22
              go_wp2
              repeat (go_quiet (fail); try go_wp2)
              go_meet
              case rel => exact ⟨_, (true), (by first | rfl | (simp; done) | (simp [*]; done)), H', ⟨by have := HJ6.out; first | omega | exact Nat.le_refl _⟩, ⟨by (with_reducible repeat (first | apply Kd.R_alloc | apply Kd.R_drewN | apply Kd.R_drew)); exact HO210.out⟩, ⟨by (with_reducible repeat (first | refine blk_drewN ?_ _ | refine blk_drew ?_ | refine blk_alloc ?_ _)); exact BK201.out⟩, ⟨by (with_reducible repeat (first | refine blk_drewN ?_ _ | refine blk_drew ?_ | refine blk_alloc ?_ _)); exact BK202.out⟩, ⟨by repeat (first | (with_reducible first | exact HB.out | apply below_alloc | apply pw_below_drewN | apply below_drew1 | refine below_set ?_ GE201.out | refine below_set ?_ GE202.out) | exact HB.out)⟩⟩
            · rw [if_neg c21] at H
              have c21b0 : decide ((t208.length : Int) < 3) = false := decide_eq_false c21
              have c21b1 : decide (t208.length < 3) = false := decide_eq_false (by omega)
              clear c21
              (first | rw [c21b0] | (simp only [i64_w, i32_w]; rw [c21b0]) | skip)
              obtain ⟨ji23, hji23⟩ : ∃ j_ : Int, (wrap64 ((t208.length : Int) - 1)) = j_ := ⟨_, rfl⟩
              replace H : (if 0 ≤ (ji23) then (if (ji23) < (t208.length : Int) then (if (rdOf ByteArray.empty t208 (ji23)).toList = ([97, 114, 112, 97] : List UInt8) then (if ((t204.toList == t206.toList) != (a0_0 == a1_0 && (a0_1 == a1_1 && (a0_2 == a1_2)))) = true then (nameplatelaw04_AddrReverses.j1 kj6 t208 true a0_0 a0_1 a0_2) else (if (a0_0 != ((t208.length : Int) == 34)) = true then (nameplatelaw04_AddrReverses.j1 kj6 t208 true a0_0 a0_1 a0_2) else (nameplatelaw04_AddrReverses.j1 kj6 t208 ((!a0_0) != ((t208.length : Int) == 6)) a0_0 a0_1 a0_2))) else (nameplatelaw04_AddrReverses.j1 kj6 t208 true a0_0 a0_1 a0_2)) else (none)) else (none)) = some r := by first | (rw [hji23] at H; exact H) | (simp only [hji23] at H ⊢; exact H)
              have hji23w : (IntKind.i64.wrap ((t208.length : Int) - 1)) = ji23 := (i64_w _).trans hji23
              by_cases c24 : 0 ≤ (ji23)
              · rw [if_pos c24] at H
                have c24b0 : decide (0 ≤ (ji23)) = true := decide_eq_true c24
                clear c24
                by_cases c25 : (ji23) < (t208.length : Int)
                · rw [if_pos c25] at H
                  have c25b0 : decide ((ji23) < (t208.length : Int)) = true := decide_eq_true c25
                  clear c25
                  by_cases c26 : (rdOf ByteArray.empty t208 (ji23)).toList = ([97, 114, 112, 97] : List UInt8)
                  · rw [if_pos c26] at H
                    have c26b0 : ((rdOf ByteArray.empty t208 (ji23)).toList == ([97, 114, 112, 97] : List UInt8)) = true := beq_iff_eq.mpr c26
                    have c26b1 : ((rdOf ByteArray.empty t208 (ji23)).toList != ([97, 114, 112, 97] : List UInt8)) = false := bne_eq_false_iff_eq.mpr c26
                    clear c26
                    by_cases c27 : ((t204.toList == t206.toList) != (a0_0 == a1_0 && (a0_1 == a1_1 && (a0_2 == a1_2)))) = true
                    · rw [if_pos c27] at H
                      have c27b0 : ((t204.toList == t206.toList) != (a0_0 == a1_0 && (a0_1 == a1_1 && (a0_2 == a1_2)))) = true := c27
                      (try (have c27b1 : decide ((t204.toList == t206.toList) = (a0_0 == a1_0 && (a0_1 == a1_1 && (a0_2 == a1_2)))) = false := by simpa using c27))
                      (try (have c27b2 : ((t204.toList == t206.toList) == (a0_0 == a1_0 && (a0_1 == a1_1 && (a0_2 == a1_2)))) = false := by simpa using c27))
                      (try (have c27b3 : ¬ ((t204.toList == t206.toList) = (a0_0 == a1_0 && (a0_1 == a1_1 && (a0_2 == a1_2)))) := by simpa using c27))
                      clear c27
                      have H' := Aside0.mk H
                      clear H
                      obtain ⟨Ao28, co28, eo28⟩ := Kd.R_slice HO210.out
                      subst eo28
                      have p211 : 0 ≤ ((ji23) : Int) := of_decide_eq_true (by first | (with_reducible assumption) | assumption)
                      have q211 : (ji23) < (t208.length : Int) := of_decide_eq_true (by first | (with_reducible assumption) | assumption)
                      obtain ⟨ad211, e211, hx211_0⟩ := Kd.at_string (Kd.R_reads' HO210.out).2.2 (ji23) p211 q211
                      cases e211
                      replace p211 := eq_true p211
                      replace q211 := eq_true q211
                      have hnb29 := NB201_202.out
                      have hnc29 := NB202_201.out
                      have hcz30_0 : w20.cell? ⟨gb201, 0, none⟩ = some (.bool a0_0) := (blk_cell BK201.out 0).trans rfl
                      have hcz30_1 : w20.cell? ⟨gb201, 1, none⟩ = some (.int .u64 a0_1) := (blk_cell BK201.out 1).trans rfl
                      have hcz30_2 : w20.cell? ⟨gb201, 2, none⟩ = some (.int .u64 a0_2) := (blk_cell BK201.out 2).trans rfl
                      have hfz30_0 := blk_frozen BK201.out 0
                      have hfz30_1 := blk_frozen BK201.out 1
                      have hfz30_2 := blk_frozen BK201.out 2
                      have hcz31_0 : w20.cell? ⟨gb202, 0, none⟩ = some (.bool a1_0) := (blk_cell BK202.out 0).trans rfl
                      have hcz31_1 : w20.cell? ⟨gb202, 1, none⟩ = some (.int .u64 a1_1) := (blk_cell BK202.out 1).trans rfl
                      have hcz31_2 : w20.cell? ⟨gb202, 2, none⟩ = some (.int .u64 a1_2) := (blk_cell BK202.out 2).trans rfl
                      have hfz31_0 := blk_frozen BK202.out 0
                      have hfz31_1 := blk_frozen BK202.out 1
                      have hfz31_2 := blk_frozen BK202.out 2
                      go_wp2
                      repeat (go_quiet (fail); try go_wp2)
                      go_meet
                      case rel => exact ⟨_, (true), (by first | rfl | (simp; done) | (simp [*]; done)), H', ⟨by have := HJ6.out; first | omega | exact Nat.le_refl _⟩, ⟨by (with_reducible repeat (first | apply Kd.R_alloc | apply Kd.R_drewN | apply Kd.R_drew)); exact HO210.out⟩, ⟨by (with_reducible repeat (first | refine blk_drewN ?_ _ | refine blk_drew ?_ | refine blk_alloc ?_ _)); exact BK201.out⟩, ⟨by (with_reducible repeat (first | refine blk_drewN ?_ _ | refine blk_drew ?_ | refine blk_alloc ?_ _)); exact BK202.out⟩, ⟨by repeat (first | (with_reducible first | exact HB.out | apply below_alloc | apply pw_below_drewN | apply below_drew1 | refine below_set ?_ GE201.out | refine below_set ?_ GE202.out) | exact HB.out)⟩⟩
                    · rw [if_neg c27] at H
                      have c27b0 : ((t204.toList == t206.toList) != (a0_0 == a1_0 && (a0_1 == a1_1 && (a0_2 == a1_2)))) = false := by simpa using c27
                      (try (have c27b1 : decide ((t204.toList == t206.toList) = (a0_0 == a1_0 && (a0_1 == a1_1 && (a0_2 == a1_2)))) = true := by simpa using c27))
                      (try (have c27b2 : ((t204.toList == t206.toList) == (a0_0 == a1_0 && (a0_1 == a1_1 && (a0_2 == a1_2)))) = true := by simpa using c27))
                      clear c27
                      by_cases c32 : (a0_0 != ((t208.length : Int) == 34)) = true
                      · rw [if_pos c32] at H
                        have c32b0 : (a0_0 != ((t208.length : Int) == 34)) = true := c32
                        (try (have c32b1 : decide (a0_0 = ((t208.length : Int) == 34)) = false := by simpa using c32))
                        (try (have c32b2 : (a0_0 == ((t208.length : Int) == 34)) = false := by simpa using c32))
                        (try (have c32b3 : ¬ (a0_0 = ((t208.length : Int) == 34)) := by simpa using c32))
                        clear c32
                        have H' := Aside0.mk H
                        clear H
                        obtain ⟨Ao33, co33, eo33⟩ := Kd.R_slice HO210.out
                        subst eo33
                        have p211 : 0 ≤ ((ji23) : Int) := of_decide_eq_true (by first | (with_reducible assumption) | assumption)
                        have q211 : (ji23) < (t208.length : Int) := of_decide_eq_true (by first | (with_reducible assumption) | assumption)
                        obtain ⟨ad211, e211, hx211_0⟩ := Kd.at_string (Kd.R_reads' HO210.out).2.2 (ji23) p211 q211
                        cases e211
                        replace p211 := eq_true p211
                        replace q211 := eq_true q211
                        have hnb34 := NB201_202.out
                        have hnc34 := NB202_201.out
                        have hcz35_0 : w20.cell? ⟨gb201, 0, none⟩ = some (.bool a0_0) := (blk_cell BK201.out 0).trans rfl
                        have hcz35_1 : w20.cell? ⟨gb201, 1, none⟩ = some (.int .u64 a0_1) := (blk_cell BK201.out 1).trans rfl
                        have hcz35_2 : w20.cell? ⟨gb201, 2, none⟩ = some (.int .u64 a0_2) := (blk_cell BK201.out 2).trans rfl
                        have hfz35_0 := blk_frozen BK201.out 0
                        have hfz35_1 := blk_frozen BK201.out 1
                        have hfz35_2 := blk_frozen BK201.out 2
                        have hcz36_0 : w20.cell? ⟨gb202, 0, none⟩ = some (.bool a1_0) := (blk_cell BK202.out 0).trans rfl
                        have hcz36_1 : w20.cell? ⟨gb202, 1, none⟩ = some (.int .u64 a1_1) := (blk_cell BK202.out 1).trans rfl
                        have hcz36_2 : w20.cell? ⟨gb202, 2, none⟩ = some (.int .u64 a1_2) := (blk_cell BK202.out 2).trans rfl
                        have hfz36_0 := blk_frozen BK202.out 0
                        have hfz36_1 := blk_frozen BK202.out 1
                        have hfz36_2 := blk_frozen BK202.out 2
                        go_wp2
                        repeat (go_quiet (fail); try go_wp2)
                        go_meet
                        case rel => exact ⟨_, (true), (by first | rfl | (simp; done) | (simp [*]; done)), H', ⟨by have := HJ6.out; first | omega | exact Nat.le_refl _⟩, ⟨by (with_reducible repeat (first | apply Kd.R_alloc | apply Kd.R_drewN | apply Kd.R_drew)); exact HO210.out⟩, ⟨by (with_reducible repeat (first | refine blk_drewN ?_ _ | refine blk_drew ?_ | refine blk_alloc ?_ _)); exact BK201.out⟩, ⟨by (with_reducible repeat (first | refine blk_drewN ?_ _ | refine blk_drew ?_ | refine blk_alloc ?_ _)); exact BK202.out⟩, ⟨by repeat (first | (with_reducible first | exact HB.out | apply below_alloc | apply pw_below_drewN | apply below_drew1 | refine below_set ?_ GE201.out | refine below_set ?_ GE202.out) | exact HB.out)⟩⟩
                      · rw [if_neg c32] at H
                        have c32b0 : (a0_0 != ((t208.length : Int) == 34)) = false := by simpa using c32
                        (try (have c32b1 : decide (a0_0 = ((t208.length : Int) == 34)) = true := by simpa using c32))
                        (try (have c32b2 : (a0_0 == ((t208.length : Int) == 34)) = true := by simpa using c32))
                        clear c32
                        have H' := Aside0.mk H
                        clear H
                        obtain ⟨Ao37, co37, eo37⟩ := Kd.R_slice HO210.out
                        subst eo37
                        have p211 : 0 ≤ ((ji23) : Int) := of_decide_eq_true (by first | (with_reducible assumption) | assumption)
                        have q211 : (ji23) < (t208.length : Int) := of_decide_eq_true (by first | (with_reducible assumption) | assumption)
                        obtain ⟨ad211, e211, hx211_0⟩ := Kd.at_string (Kd.R_reads' HO210.out).2.2 (ji23) p211 q211
                        cases e211
                        replace p211 := eq_true p211
                        replace q211 := eq_true q211
                        have hnb38 := NB201_202.out
                        have hnc38 := NB202_201.out
                        have hcz39_0 : w20.cell? ⟨gb201, 0, none⟩ = some (.bool a0_0) := (blk_cell BK201.out 0).trans rfl
                        have hcz39_1 : w20.cell? ⟨gb201, 1, none⟩ = some (.int .u64 a0_1) := (blk_cell BK201.out 1).trans rfl
                        have hcz39_2 : w20.cell? ⟨gb201, 2, none⟩ = some (.int .u64 a0_2) := (blk_cell BK201.out 2).trans rfl
                        have hfz39_0 := blk_frozen BK201.out 0
                        have hfz39_1 := blk_frozen BK201.out 1
                        have hfz39_2 := blk_frozen BK201.out 2
                        have hcz40_0 : w20.cell? ⟨gb202, 0, none⟩ = some (.bool a1_0) := (blk_cell BK202.out 0).trans rfl
                        have hcz40_1 : w20.cell? ⟨gb202, 1, none⟩ = some (.int .u64 a1_1) := (blk_cell BK202.out 1).trans rfl
                        have hcz40_2 : w20.cell? ⟨gb202, 2, none⟩ = some (.int .u64 a1_2) := (blk_cell BK202.out 2).trans rfl
                        have hfz40_0 := blk_frozen BK202.out 0
                        have hfz40_1 := blk_frozen BK202.out 1
                        have hfz40_2 := blk_frozen BK202.out 2
                        go_wp2
                        repeat (go_quiet (fail); try go_wp2)
                        go_meet
                        case rel => exact ⟨_, (((!a0_0) != ((t208.length : Int) == 6))), (by first | rfl | (simp; done) | (simp [*]; done)), H', ⟨by have := HJ6.out; first | omega | exact Nat.le_refl _⟩, ⟨by (with_reducible repeat (first | apply Kd.R_alloc | apply Kd.R_drewN | apply Kd.R_drew)); exact HO210.out⟩, ⟨by (with_reducible repeat (first | refine blk_drewN ?_ _ | refine blk_drew ?_ | refine blk_alloc ?_ _)); exact BK201.out⟩, ⟨by (with_reducible repeat (first | refine blk_drewN ?_ _ | refine blk_drew ?_ | refine blk_alloc ?_ _)); exact BK202.out⟩, ⟨by repeat (first | (with_reducible first | exact HB.out | apply below_alloc | apply pw_below_drewN | apply below_drew1 | refine below_set ?_ GE201.out | refine below_set ?_ GE202.out) | exact HB.out)⟩⟩
                  · rw [if_neg c26] at H
                    have c26b0 : ((rdOf ByteArray.empty t208 (ji23)).toList == ([97, 114, 112, 97] : List UInt8)) = false := beq_eq_false_iff_ne.mpr c26
                    have c26b1 : ((rdOf ByteArray.empty t208 (ji23)).toList != ([97, 114, 112, 97] : List UInt8)) = true := bne_iff_ne.mpr c26
                    have H' := Aside0.mk H
                    clear H
                    obtain ⟨Ao41, co41, eo41⟩ := Kd.R_slice HO210.out
                    subst eo41
                    have p211 : 0 ≤ ((ji23) : Int) := of_decide_eq_true (by first | (with_reducible assumption) | assumption)
                    have q211 : (ji23) < (t208.length : Int) := of_decide_eq_true (by first | (with_reducible assumption) | assumption)
                    obtain ⟨ad211, e211, hx211_0⟩ := Kd.at_string (Kd.R_reads' HO210.out).2.2 (ji23) p211 q211
                    cases e211
                    replace p211 := eq_true p211
                    replace q211 := eq_true q211
                    go_wp2
                    repeat (go_quiet (fail); try go_wp2)
                    go_meet
                    case rel => exact ⟨_, (true), (by first | rfl | (simp; done) | (simp [*]; done)), H', ⟨by have := HJ6.out; first | omega | exact Nat.le_refl _⟩, ⟨by (with_reducible repeat (first | apply Kd.R_alloc | apply Kd.R_drewN | apply Kd.R_drew)); exact HO210.out⟩, ⟨by (with_reducible repeat (first | refine blk_drewN ?_ _ | refine blk_drew ?_ | refine blk_alloc ?_ _)); exact BK201.out⟩, ⟨by (with_reducible repeat (first | refine blk_drewN ?_ _ | refine blk_drew ?_ | refine blk_alloc ?_ _)); exact BK202.out⟩, ⟨by repeat (first | (with_reducible first | exact HB.out | apply below_alloc | apply pw_below_drewN | apply below_drew1 | refine below_set ?_ GE201.out | refine below_set ?_ GE202.out) | exact HB.out)⟩⟩
                · rw [if_neg c25] at H
                  exact absurd H (by simp)
              · rw [if_neg c24] at H
                exact absurd H (by simp)
          case rest =>
            clear HC19
            try clear c1
            try clear c2
            try clear p2
            try clear q2
            try clear hx2
            try clear c3
            try clear c4
            try clear p6
            try clear c8
            try clear c11
            try clear c16
            try clear c16b0
            try clear c16b1
            try clear c17
            try clear c21
            try clear c21b0
            try clear c21b1
            try clear p21
            try clear q21
            try clear hx21
            try clear c24
            try clear c24b0
            try clear c25
            try clear c25b0
            try clear c26
            try clear c26b0
            try clear c26b1
            try clear c27
            try clear c27b0
            try clear c27b1
            try clear c27b2
            try clear c29
            try clear c32
            try clear c32b0
            try clear c32b1
            try clear c32b2
            try clear c34
            try clear c38
            try clear hcz12_0
            try clear hcz12_1
            try clear hcz12_2
            try clear hcz14_0
            try clear hcz14_1
            try clear hcz14_2
            try clear hcz30_0
            try clear hcz30_1
            try clear hcz30_2
            try clear hcz31_0
            try clear hcz31_1
            try clear hcz31_2
            try clear hcz35_0
            try clear hcz35_1
            try clear hcz35_2
            try clear hcz36_0
            try clear hcz36_1
            try clear hcz36_2
            try clear hcz39_0
            try clear hcz39_1
            try clear hcz39_2
            try clear hcz40_0
            try clear hcz40_1
            try clear hcz40_2
            try clear hfz12_0
            try clear hfz12_1
            try clear hfz12_2
            try clear hfz14_0
            try clear hfz14_1
            try clear hfz14_2
            try clear hfz30_0
            try clear hfz30_1
            try clear hfz30_2
            try clear hfz31_0
            try clear hfz31_1
            try clear hfz31_2
            try clear hfz35_0
            try clear hfz35_1
            try clear hfz35_2
            try clear hfz36_0
            try clear hfz36_1
            try clear hfz36_2
            try clear hfz39_0
            try clear hfz39_1
            try clear hfz39_2
            try clear hfz40_0
            try clear hfz40_1
            try clear hfz40_2
            try clear hx211_0
            try clear p2
            try clear p211
            try clear q211
            obtain ⟨kq, x73_18, rfl, HA, HJ18, HO_9, BK201, BK202, HB⟩ := hcut
            cases kq with
            | zero => exact absurd HA.out (by simp [nameplatelaw04_AddrReverses.j1])
            | succ kj18 =>
              have H := HA.out
              clear HA
              simp only [nameplatelaw04_AddrReverses.j1] at H
              by_cases c42 : x73_18 = true
              · subst c42
                have H1 : (some false) = some r := by rw [if_pos rfl] at H; exact H
                clear H
                have H := H1
                clear H1
                exact absurd ((Option.some.inj H).trans hr_.out) (by decide)
              · replace c42 := Bool.eq_false_iff.mpr c42
                subst c42
                have H1 : (if a0_0 = true then (nameplatelaw04_AddrReverses.l0 kj18 t208 (⟨#[]⟩ : ByteArray) 31 a0_0 a0_1 a0_2) else ((addr_Text.f kj18 a0_0 a0_1 a0_2).bind fun bt212 => (if 3 < (t208.length : Int) then (if (rdOf ByteArray.empty t208 3).size + 1 ≤ 9223372036854775807 then (if 2 < (t208.length : Int) then (if ((rdOf ByteArray.empty t208 3) ++ (⟨#[46]⟩ : ByteArray)).size + (rdOf ByteArray.empty t208 2).size ≤ 9223372036854775807 then (if (((rdOf ByteArray.empty t208 3) ++ (⟨#[46]⟩ : ByteArray)) ++ (rdOf ByteArray.empty t208 2)).size + 1 ≤ 9223372036854775807 then (if 1 < (t208.length : Int) then (if ((((rdOf ByteArray.empty t208 3) ++ (⟨#[46]⟩ : ByteArray)) ++ (rdOf ByteArray.empty t208 2)) ++ (⟨#[46]⟩ : ByteArray)).size + (rdOf ByteArray.empty t208 1).size ≤ 9223372036854775807 then (if (((((rdOf ByteArray.empty t208 3) ++ (⟨#[46]⟩ : ByteArray)) ++ (rdOf ByteArray.empty t208 2)) ++ (⟨#[46]⟩ : ByteArray)) ++ (rdOf ByteArray.empty t208 1)).size + 1 ≤ 9223372036854775807 then (if 0 < (t208.length : Int) then (if ((((((rdOf ByteArray.empty t208 3) ++ (⟨#[46]⟩ : ByteArray)) ++ (rdOf ByteArray.empty t208 2)) ++ (⟨#[46]⟩ : ByteArray)) ++ (rdOf ByteArray.empty t208 1)) ++ (⟨#[46]⟩ : ByteArray)).size + (rdOf ByteArray.empty t208 0).size ≤ 9223372036854775807 then (if (((((((rdOf ByteArray.empty t208 3) ++ (⟨#[46]⟩ : ByteArray)) ++ (rdOf ByteArray.empty t208 2)) ++ (⟨#[46]⟩ : ByteArray)) ++ (rdOf ByteArray.empty t208 1)) ++ (⟨#[46]⟩ : ByteArray)) ++ (rdOf ByteArray.empty t208 0)).toList = bt212.1.toList then (if 4 < (t208.length : Int) then (some ((rdOf ByteArray.empty t208 4).toList == ([105, 110, 45, 97, 100, 100, 114] : List UInt8))) else (none)) else (some false)) else (none)) else (none)) else (none)) else (none)) else (none)) else (none)) else (none)) else (none)) else (none)) else (none)))) = some r := by rw [if_neg (show ¬ (false = true) by decide)] at H; exact H
                clear H
                have H := H1
                clear H1
                by_cases c43 : a0_0 = true
                · subst c43
                  have H1 : (nameplatelaw04_AddrReverses.l0 kj18 t208 (⟨#[]⟩ : ByteArray) 31 true a0_1 a0_2) = some r := by rw [if_pos rfl] at H; exact H
                  clear H
                  have H := H1
                  clear H1
                  have H' := Aside0.mk H
                  clear H
                  have hnb44 := NB201_202.out
                  have hnc44 := NB202_201.out
                  have hcz45_0 : wc.cell? ⟨gb201, 0, none⟩ = some (.bool true) := (blk_cell BK201.out 0).trans rfl
                  have hcz45_1 : wc.cell? ⟨gb201, 1, none⟩ = some (.int .u64 a0_1) := (blk_cell BK201.out 1).trans rfl
                  have hcz45_2 : wc.cell? ⟨gb201, 2, none⟩ = some (.int .u64 a0_2) := (blk_cell BK201.out 2).trans rfl
                  have hfz45_0 := blk_frozen BK201.out 0
                  have hfz45_1 := blk_frozen BK201.out 1
                  have hfz45_2 := blk_frozen BK201.out 2
                  go_wp2
                  repeat (go_quiet (fail); try go_wp2)
                  go_loopg [12, 13] kj18 (fun kq v12 v13 w' => ∃ (x12_3 : ByteArray) (x13_3 : Int), v12 = .string x12_3 ∧ v13 = .int .i64 x13_3 ∧ Aside0 (nameplatelaw04_AddrReverses.l0 kq t208 x12_3 x13_3 true a0_1 a0_2 = some r) ∧ Aside0 (kq ≤ kj18) ∧ Aside0 (Kd.R Kd.string 9 w' w.heap.size (fun _ => True) v209 t208) ∧ Aside0 (w'.heap[gb201]? = some (.cells #[.bool true, .int .u64 a0_1, .int .u64 a0_2] 24 (0, 0))) ∧ Aside0 (w'.heap[gb202]? = some (.cells #[.bool a1_0, .int .u64 a1_1, .int .u64 a1_2] 24 (0, 0))) ∧ Aside0 (Below w.heap.size w w'))
                  case atStart => exact ⟨((⟨#[]⟩ : ByteArray)), (31), (by first | rfl | (simp; done) | (simp [*]; done)), (by first | rfl | (simp; done) | (simp [*]; done)), H', ⟨Nat.le_refl _⟩, ⟨by (with_reducible repeat (first | apply Kd.R_alloc | apply Kd.R_drewN | apply Kd.R_drew)); exact HO_9.out⟩, ⟨by (with_reducible repeat (first | refine blk_drewN ?_ _ | refine blk_drew ?_ | refine blk_alloc ?_ _)); exact BK201.out⟩, ⟨by (with_reducible repeat (first | refine blk_drewN ?_ _ | refine blk_drew ?_ | refine blk_alloc ?_ _)); exact BK202.out⟩, ⟨by repeat (first | (with_reducible first | exact HB.out | apply below_alloc | apply pw_below_drewN | apply below_drew1 | refine below_set ?_ GE201.out | refine below_set ?_ GE202.out) | exact HB.out)⟩⟩
                  case round =>
                    clear H'
                    try clear c1
                    try clear c2
                    try clear p2
                    try clear q2
                    try clear hx2
                    try clear c3
                    try clear c4
                    try clear p6
                    try clear c8
                    try clear c11
                    try clear c16
                    try clear c16b0
                    try clear c16b1
                    try clear c17
                    try clear c21
                    try clear c21b0
                    try clear c21b1
                    try clear p21
                    try clear q21
                    try clear hx21
                    try clear c24
                    try clear c24b0
                    try clear c25
                    try clear c25b0
                    try clear c26
                    try clear c26b0
                    try clear c26b1
                    try clear c27
                    try clear c27b0
                    try clear c27b1
                    try clear c27b2
                    try clear c29
                    try clear c32
                    try clear c32b0
                    try clear c32b1
                    try clear c32b2
                    try clear c34
                    try clear c38
                    try clear c42
                    try clear c43
                    try clear c44
                    try clear hcz12_0
                    try clear hcz12_1
                    try clear hcz12_2
                    try clear hcz14_0
                    try clear hcz14_1
                    try clear hcz14_2
                    try clear hcz30_0
                    try clear hcz30_1
                    try clear hcz30_2
                    try clear hcz31_0
                    try clear hcz31_1
                    try clear hcz31_2
                    try clear hcz35_0
                    try clear hcz35_1
                    try clear hcz35_2
                    try clear hcz36_0
                    try clear hcz36_1
                    try clear hcz36_2
                    try clear hcz39_0
                    try clear hcz39_1
                    try clear hcz39_2
                    try clear hcz40_0
                    try clear hcz40_1
                    try clear hcz40_2
                    try clear hcz45_0
                    try clear hcz45_1
                    try clear hcz45_2
                    try clear hfz12_0
                    try clear hfz12_1
                    try clear hfz12_2
                    try clear hfz14_0
                    try clear hfz14_1
                    try clear hfz14_2
                    try clear hfz30_0
                    try clear hfz30_1
                    try clear hfz30_2
                    try clear hfz31_0
                    try clear hfz31_1
                    try clear hfz31_2
                    try clear hfz35_0
                    try clear hfz35_1
                    try clear hfz35_2
                    try clear hfz36_0
                    try clear hfz36_1
                    try clear hfz36_2
                    try clear hfz39_0
                    try clear hfz39_1
                    try clear hfz39_2
                    try clear hfz40_0
                    try clear hfz40_1
                    try clear hfz40_2
                    try clear hfz45_0
                    try clear hfz45_1
                    try clear hfz45_2
                    try clear hx211_0
                    try clear p2
                    try clear p21
                    try clear p211
                    try clear p6
                    try clear q2
                    try clear q21
                    try clear q211
                    obtain ⟨x12_3, x13_3, rfl, rfl, HA, HK3, HO_9, BK201, BK202, HB⟩ := hrel
                    cases gk with
                    | zero => exact absurd HA.out (by simp [nameplatelaw04_AddrReverses.l0])
                    | succ k3 =>
                      have H := HA.out
                      clear HA
                      simp only [nameplatelaw04_AddrReverses.l0] at H
                      by_cases c46 : x13_3 ≥ 0
                      · rw [if_pos c46] at H
                        have c46b0 : decide (0 ≤ x13_3) = true := decide_eq_true c46
                        clear c46
                        by_cases c47 : 0 ≤ x13_3
                        · rw [if_pos c47] at H
                          have c47b0 : decide (0 ≤ x13_3) = true := decide_eq_true c47
                          clear c47
                          by_cases c48 : x13_3 < (t208.length : Int)
                          · rw [if_pos c48] at H
                            have c48b0 : decide (x13_3 < (t208.length : Int)) = true := decide_eq_true c48
                            clear c48
                            by_cases c49 : x12_3.size + (rdOf ByteArray.empty t208 x13_3).size ≤ 9223372036854775807
                            · rw [if_pos c49] at H
                              have c49b0 := eq_true c49
                              have c49b1 : decide (x12_3.size + (rdOf ByteArray.empty t208 x13_3).size ≤ 9223372036854775807) = true := decide_eq_true c49
                              try have c49b2 : (9223372036854775807 < x12_3.size + (rdOf ByteArray.empty t208 x13_3).size) = False := eq_false (Nat.not_lt.2 c49)
                              by_cases c50 : (Int.tmod x13_3 4) = 0
                              · rw [if_pos c50] at H
                                have c50b0 : ((Int.tmod x13_3 4) == 0) = true := beq_iff_eq.mpr c50
                                have c50b1 : ((Int.tmod x13_3 4) != 0) = false := bne_eq_false_iff_eq.mpr c50
                                clear c50
                                by_cases c51 : x13_3 > 0
                                · rw [if_pos c51] at H
                                  have c51b0 : decide (0 < x13_3) = true := decide_eq_true c51
                                  clear c51
                                  by_cases c52 : (x12_3 ++ (rdOf ByteArray.empty t208 x13_3)).size + 1 ≤ 9223372036854775807
                                  · rw [if_pos c52] at H
                                    have c52b0 := eq_true c52
                                    try have c52b7 : (9223372036854775807 < x12_3.size + (rdOf ByteArray.empty t208 x13_3).size + 1) = False := eq_false (by have hh_ := c52; simp only [ByteArray.size_append] at hh_; omega)
                                    try have c52b8 : decide (x12_3.size + (rdOf ByteArray.empty t208 x13_3).size + 1 ≤ 9223372036854775807) = true := decide_eq_true (by have hh_ := c52; simp only [ByteArray.size_append] at hh_; omega)
                                    have c52b1 : decide ((x12_3 ++ (rdOf ByteArray.empty t208 x13_3)).size + 1 ≤ 9223372036854775807) = true := decide_eq_true c52
                                    try have c52b2 : (9223372036854775807 < (x12_3 ++ (rdOf ByteArray.empty t208 x13_3)).size + 1) = False := eq_false (Nat.not_lt.2 c52)
                                    have H' := Aside0.mk H
                                    clear H
                                    obtain ⟨Ao53, co53, eo53⟩ := Kd.R_slice HO_9.out
                                    subst eo53
                                    have p219 : 0 ≤ (x13_3 : Int) := of_decide_eq_true (by first | (with_reducible assumption) | assumption)
                                    have q219 : x13_3 < (t208.length : Int) := of_decide_eq_true (by first | (with_reducible assumption) | assumption)
                                    obtain ⟨ad219, e219, hx219_0⟩ := Kd.at_string (Kd.R_reads' HO_9.out).2.2 x13_3 p219 q219
                                    cases e219
                                    replace p219 := eq_true p219
                                    replace q219 := eq_true q219
                                    go_wp2
                                    repeat (go_quiet (fail); try go_wp2)
                                    go_roundg k3
                                    case measure => have := HJ6.out; have := HJ18.out; have := HK3.out; omega
                                    case rel => exact ⟨((x12_3 ++ (rdOf ByteArray.empty t208 x13_3)) ++ (⟨#[58]⟩ : ByteArray)), (wrap64 (x13_3 - 1)), (by first | rfl | (simp; done) | (simp [*]; done)), (by first | rfl | (simp; done) | (simp [*]; done)), H', ⟨by have := HJ6.out; have := HJ18.out; have := HK3.out; omega⟩, ⟨by (with_reducible repeat (first | apply Kd.R_alloc | apply Kd.R_drewN | apply Kd.R_drew)); exact HO_9.out⟩, ⟨by (with_reducible repeat (first | refine blk_drewN ?_ _ | refine blk_drew ?_ | refine blk_alloc ?_ _)); exact BK201.out⟩, ⟨by (with_reducible repeat (first | refine blk_drewN ?_ _ | refine blk_drew ?_ | refine blk_alloc ?_ _)); exact BK202.out⟩, ⟨by repeat (first | (with_reducible first | exact HB.out | apply below_alloc | apply pw_below_drewN | apply below_drew1 | refine below_set ?_ GE201.out | refine below_set ?_ GE202.out) | exact HB.out)⟩⟩
                                  · rw [if_neg c52] at H
                                    exact absurd H (by simp)
                                · rw [if_neg c51] at H
                                  have c51b0 : decide (0 < x13_3) = false := decide_eq_false c51
                                  clear c51
                                  have H' := Aside0.mk H
                                  clear H
                                  obtain ⟨Ao54, co54, eo54⟩ := Kd.R_slice HO_9.out
                                  subst eo54
                                  have p219 : 0 ≤ (x13_3 : Int) := of_decide_eq_true (by first | (with_reducible assumption) | assumption)
                                  have q219 : x13_3 < (t208.length : Int) := of_decide_eq_true (by first | (with_reducible assumption) | assumption)
                                  obtain ⟨ad219, e219, hx219_0⟩ := Kd.at_string (Kd.R_reads' HO_9.out).2.2 x13_3 p219 q219
                                  cases e219
                                  replace p219 := eq_true p219
                                  replace q219 := eq_true q219
                                  go_wp2
                                  repeat (go_quiet (fail); try go_wp2)
                                  go_roundg k3
                                  case measure => have := HJ6.out; have := HJ18.out; have := HK3.out; omega
                                  case rel => exact ⟨(x12_3 ++ (rdOf ByteArray.empty t208 x13_3)), (wrap64 (x13_3 - 1)), (by first | rfl | (simp; done) | (simp [*]; done)), (by first | rfl | (simp; done) | (simp [*]; done)), H', ⟨by have := HJ6.out; have := HJ18.out; have := HK3.out; omega⟩, ⟨by (with_reducible repeat (first | apply Kd.R_alloc | apply Kd.R_drewN | apply Kd.R_drew)); exact HO_9.out⟩, ⟨by (with_reducible repeat (first | refine blk_drewN ?_ _ | refine blk_drew ?_ | refine blk_alloc ?_ _)); exact BK201.out⟩, ⟨by (with_reducible repeat (first | refine blk_drewN ?_ _ | refine blk_drew ?_ | refine blk_alloc ?_ _)); exact BK202.out⟩, ⟨by repeat (first | (with_reducible first | exact HB.out | apply below_alloc | apply pw_below_drewN | apply below_drew1 | refine below_set ?_ GE201.out | refine below_set ?_ GE202.out) | exact HB.out)⟩⟩
                              · rw [if_neg c50] at H
                                have c50b0 : ((Int.tmod x13_3 4) == 0) = false := beq_eq_false_iff_ne.mpr c50
                                have c50b1 : ((Int.tmod x13_3 4) != 0) = true := bne_iff_ne.mpr c50
                                have H' := Aside0.mk H
                                clear H
                                obtain ⟨Ao55, co55, eo55⟩ := Kd.R_slice HO_9.out
                                subst eo55
                                have p219 : 0 ≤ (x13_3 : Int) := of_decide_eq_true (by first | (with_reducible assumption) | assumption)
                                have q219 : x13_3 < (t208.length : Int) := of_decide_eq_true (by first | (with_reducible assumption) | assumption)
                                obtain ⟨ad219, e219, hx219_0⟩ := Kd.at_string (Kd.R_reads' HO_9.out).2.2 x13_3 p219 q219
                                cases e219
                                replace p219 := eq_true p219
                                replace q219 := eq_true q219
                                go_wp2
                                repeat (go_quiet (fail); try go_wp2)
                                go_roundg k3
                                case measure => have := HJ6.out; have := HJ18.out; have := HK3.out; omega
                                case rel => exact ⟨(x12_3 ++ (rdOf ByteArray.empty t208 x13_3)), (wrap64 (x13_3 - 1)), (by first | rfl | (simp; done) | (simp [*]; done)), (by first | rfl | (simp; done) | (simp [*]; done)), H', ⟨by have := HJ6.out; have := HJ18.out; have := HK3.out; omega⟩, ⟨by (with_reducible repeat (first | apply Kd.R_alloc | apply Kd.R_drewN | apply Kd.R_drew)); exact HO_9.out⟩, ⟨by (with_reducible repeat (first | refine blk_drewN ?_ _ | refine blk_drew ?_ | refine blk_alloc ?_ _)); exact BK201.out⟩, ⟨by (with_reducible repeat (first | refine blk_drewN ?_ _ | refine blk_drew ?_ | refine blk_alloc ?_ _)); exact BK202.out⟩, ⟨by repeat (first | (with_reducible first | exact HB.out | apply below_alloc | apply pw_below_drewN | apply below_drew1 | refine below_set ?_ GE201.out | refine below_set ?_ GE202.out) | exact HB.out)⟩⟩
                            · rw [if_neg c49] at H
                              exact absurd H (by simp)
                          · rw [if_neg c48] at H
                            exact absurd H (by simp)
                        · rw [if_neg c47] at H
                          exact absurd H (by simp)
                      · rw [if_neg c46] at H
                        have c46b0 : decide (0 ≤ x13_3) = false := decide_eq_false c46
                        clear c46
                        replace H := Option.bind_eq_some_iff.mp H
                        obtain ⟨⟨t220, t221, t222, t223⟩, A560, H⟩ := H
                        replace H : (if t223 = 0 then (if (t220 == true && (t221 == a0_1 && (t222 == a0_2))) = true then (if 32 < (t208.length : Int) then (some ((rdOf ByteArray.empty t208 32).toList == ([105, 112, 54] : List UInt8))) else (none)) else (some false)) else (some false)) = some r := H
                        have A56 := Aside0.mk A560
                        clear A560
                        by_cases c57 : t223 = 0
                        · rw [if_pos c57] at H
                          have c57b0 : (t223 == 0) = true := beq_iff_eq.mpr c57
                          have c57b1 : (t223 != 0) = false := bne_eq_false_iff_eq.mpr c57
                          clear c57
                          by_cases c58 : (t220 == true && (t221 == a0_1 && (t222 == a0_2))) = true
                          · rw [if_pos c58] at H
                            have c58b0 : (t220 == true && (t221 == a0_1 && (t222 == a0_2))) = true := c58
                            (try (have c58b1 : decide (t220 = true && (t221 == a0_1 && (t222 == a0_2))) = true := by simpa using c58))
                            (try (have c58b2 : (t220 == true && (t221 == a0_1 && (t222 == a0_2))) = true := by simpa using c58))
                            have EQ_ : Aside0 (t220 = true ∧ t221 = a0_1 ∧ t222 = a0_2) := ⟨by simpa using c58b0⟩
                            clear c58
                            by_cases c59 : 32 < (t208.length : Int)
                            · rw [if_pos c59] at H
                              have c59b0 : decide (32 < (t208.length : Int)) = true := decide_eq_true c59
                              have c59b1 : decide (32 < t208.length) = true := decide_eq_true (by omega)
                              clear c59
                              obtain rfl := Option.some.inj H
                              go_wp2_with (first | (go_at_call 39; (with_reducible refine (addr_Read.calls k3 x12_3 t220 t221 t222 t223 _ ⟨hG_.out.below (by repeat (first | (with_reducible first | exact HB.out | apply below_alloc | apply pw_below_drewN | apply below_drew1 | refine below_set ?_ GE201.out | refine below_set ?_ GE202.out | refine below_set ?_ GE224.out) | exact HB.out | exact Below.refl _ _))⟩ A56.out).mono ?_); rintro e w60 ⟨rfl, hb⟩; have n0_ := Aside0.mk (Kd.R_below (by (with_reducible repeat (first | apply Kd.R_alloc | apply Kd.R_drewN | apply Kd.R_drew)); exact HO_9.out) hb); have n1_ := Aside0.mk (blk_below (g := gb201) (o := .cells #[.bool true, .int .u64 a0_1, .int .u64 a0_2] 24 (0, 0)) (by (with_reducible repeat (first | refine blk_drewN ?_ _ | refine blk_drew ?_ | refine blk_alloc ?_ _)); exact BK201.out) hb); have n2_ := Aside0.mk (blk_below (g := gb202) (o := .cells #[.bool a1_0, .int .u64 a1_1, .int .u64 a1_2] 24 (0, 0)) (by (with_reducible repeat (first | refine blk_drewN ?_ _ | refine blk_drew ?_ | refine blk_alloc ?_ _)); exact BK202.out) hb); have n3_ := Aside0.mk (below_step (by repeat (first | (with_reducible first | exact HB.out | apply below_alloc | apply pw_below_drewN | apply below_drew1 | refine below_set ?_ GE201.out | refine below_set ?_ GE202.out) | exact HB.out)) hb); clear HO_9; clear BK201; clear BK202; clear HB; have HO_9 := n0_; have BK201 := n1_; have BK202 := n2_; have HB := n3_; clear n0_ n1_ n2_ n3_; (try clear hb); (try clear hb2); (try clear hk); (try clear hi)) | ((with_reducible refine gate_dst (N := 14) rfl ?_); (try (refine gate_guard (by rfl) ?_; dsimp only)); refine box_event ?hg (N := 14) ?hd (cs := #[.bool false, .int .u64 0, .int .u64 0]) (t := 24) ?hr ?_; (case hd => rfl); (case hg => rfl); (case hr => first | (go_simp; done) | (go_simp; rfl)); intro gb224 hg w61 hbox hb; have n0_ := Aside0.mk (Kd.R_below (by (with_reducible repeat (first | apply Kd.R_alloc | apply Kd.R_drewN | apply Kd.R_drew)); exact HO_9.out) hb); have n1_ := Aside0.mk (blk_below (g := gb201) (o := .cells #[.bool true, .int .u64 a0_1, .int .u64 a0_2] 24 (0, 0)) (by (with_reducible repeat (first | refine blk_drewN ?_ _ | refine blk_drew ?_ | refine blk_alloc ?_ _)); exact BK201.out) hb); have n2_ := Aside0.mk (blk_below (g := gb202) (o := .cells #[.bool a1_0, .int .u64 a1_1, .int .u64 a1_2] 24 (0, 0)) (by (with_reducible repeat (first | refine blk_drewN ?_ _ | refine blk_drew ?_ | refine blk_alloc ?_ _)); exact BK202.out) hb); have n3_ := Aside0.mk (below_step (by repeat (first | (with_reducible first | exact HB.out | apply below_alloc | apply pw_below_drewN | apply below_drew1 | refine below_set ?_ GE201.out | refine below_set ?_ GE202.out) | exact HB.out)) hb); have n4_ := Aside0.mk (hbox); have n5_ := Aside0.mk ((by rw [hg]; exact (below_size (by repeat (first | (with_reducible first | exact HB.out | apply below_alloc | apply pw_below_drewN | apply below_drew1 | refine below_set ?_ GE201.out | refine below_set ?_ GE202.out) | exact HB.out))) : w.heap.size ≤ gb224)); have n6_ := Aside0.mk ((by rw [hg]; exact (below_size (by repeat (first | (with_reducible first | exact HB.out | apply below_alloc | apply pw_below_drewN | apply below_drew1 | refine below_set ?_ GE201.out | refine below_set ?_ GE202.out) | exact HB.out))) : w.heap.size ≤ gb224)); have n7_ := Aside0.mk ((by rw [hg]; exact Nat.ne_of_lt (blk_lt (g := gb201) (o := .cells #[.bool true, .int .u64 a0_1, .int .u64 a0_2] 24 (0, 0)) (by (with_reducible repeat (first | refine blk_drewN ?_ _ | refine blk_drew ?_ | refine blk_alloc ?_ _)); exact BK201.out)) : gb201 ≠ gb224)); have n8_ := Aside0.mk ((by rw [hg]; exact Nat.ne_of_gt (blk_lt (g := gb201) (o := .cells #[.bool true, .int .u64 a0_1, .int .u64 a0_2] 24 (0, 0)) (by (with_reducible repeat (first | refine blk_drewN ?_ _ | refine blk_drew ?_ | refine blk_alloc ?_ _)); exact BK201.out)) : gb224 ≠ gb201)); have n9_ := Aside0.mk ((by rw [hg]; exact Nat.ne_of_lt (blk_lt (g := gb202) (o := .cells #[.bool a1_0, .int .u64 a1_1, .int .u64 a1_2] 24 (0, 0)) (by (with_reducible repeat (first | refine blk_drewN ?_ _ | refine blk_drew ?_ | refine blk_alloc ?_ _)); exact BK202.out)) : gb202 ≠ gb224)); have n10_ := Aside0.mk ((by rw [hg]; exact Nat.ne_of_gt (blk_lt (g := gb202) (o := .cells #[.bool a1_0, .int .u64 a1_1, .int .u64 a1_2] 24 (0, 0)) (by (with_reducible repeat (first | refine blk_drewN ?_ _ | refine blk_drew ?_ | refine blk_alloc ?_ _)); exact BK202.out)) : gb224 ≠ gb202)); clear HO_9; clear BK201; clear BK202; clear HB; have HO_9 := n0_; have BK201 := n1_; have BK202 := n2_; have HB := n3_; have BK224 := n4_; have GW224 := n5_; have GE224 := n6_; have NB201_224 := n7_; have NB224_201 := n8_; have NB202_224 := n9_; have NB224_202 := n10_; clear n0_ n1_ n2_ n3_ n4_ n5_ n6_ n7_ n8_ n9_ n10_; clear hb hbox hg; have hnb62 := NB224_201.out; have hnc62 := NB201_224.out; have hnb63 := NB224_202.out; have hnc63 := NB202_224.out; have hcz64_0 : w61.cell? ⟨gb224, 0, none⟩ = some (.bool false) := (blk_cell BK224.out 0).trans rfl; have hcz64_1 : w61.cell? ⟨gb224, 1, none⟩ = some (.int .u64 0) := (blk_cell BK224.out 1).trans rfl; have hcz64_2 : w61.cell? ⟨gb224, 2, none⟩ = some (.int .u64 0) := (blk_cell BK224.out 2).trans rfl; have hfz64_0 := blk_frozen BK224.out 0; have hfz64_1 := blk_frozen BK224.out 1; have hfz64_2 := blk_frozen BK224.out 2; have hnb65 := NB201_202.out; have hnc65 := NB202_201.out; have hcz66_0 : w61.cell? ⟨gb201, 0, none⟩ = some (.bool true) := (blk_cell BK201.out 0).trans rfl; have hcz66_1 : w61.cell? ⟨gb201, 1, none⟩ = some (.int .u64 a0_1) := (blk_cell BK201.out 1).trans rfl; have hcz66_2 : w61.cell? ⟨gb201, 2, none⟩ = some (.int .u64 a0_2) := (blk_cell BK201.out 2).trans rfl; have hfz66_0 := blk_frozen BK201.out 0; have hfz66_1 := blk_frozen BK201.out 1; have hfz66_2 := blk_frozen BK201.out 2; obtain ⟨Ao67, co67, eo67⟩ := Kd.R_slice HO_9.out; subst eo67; have p225 : 0 ≤ (32 : Int) := (by omega); have q225 : 32 < (t208.length : Int) := of_decide_eq_true (by first | (with_reducible assumption) | assumption); obtain ⟨ad225, e225, hx225_0⟩ := Kd.at_string (Kd.R_reads' HO_9.out).2.2 32 p225 q225; cases e225; (try simp only [show (32 : Int).toNat = 32 from rfl, Nat.reduceMul, Nat.reduceEqDiff, Go.Addr.add, ↓reduceIte] at hx225_0); have qi225 : (32 < t208.length) = True := eq_true (by omega); (try rw [show ((32 : Int)).toNat = 32 from rfl] at hx225_0); have hn225_0 : ad225.block ≠ gb224 := Kd.own_blk (Kd.R_ne HO_9.out BK224.out (by decide)); have hn225_1 : ad225.block ≠ gb224 := Kd.own_blk (Kd.R_ne HO_9.out BK224.out (by decide)); have hn225_2 : ad225.block ≠ gb224 := Kd.own_blk (Kd.R_ne HO_9.out BK224.out (by decide)); replace hx225_0 := (cell_far (p := ⟨gb224, 0, none⟩) (by first | (rw [add_block]; exact hn225_0) | (show (Addr.add _ _).block ≠ _; rw [add_block]; exact hn225_0) | exact hn225_0) (.bool t220)).trans hx225_0; replace hx225_0 := (cell_far (p := ⟨gb224, 1, none⟩) (by first | (rw [add_block]; exact hn225_1) | (show (Addr.add _ _).block ≠ _; rw [add_block]; exact hn225_1) | exact hn225_1) (.int .u64 t221)).trans hx225_0; replace hx225_0 := (cell_far (p := ⟨gb224, 2, none⟩) (by first | (rw [add_block]; exact hn225_2) | (show (Addr.add _ _).block ≠ _; rw [add_block]; exact hn225_2) | exact hn225_2) (.int .u64 t222)).trans hx225_0; (try have hy225_0 := fun (n_ : Nat) => (show (((((w61.drewN n_).setCell ⟨gb224, 0, none⟩ (.bool t220)).setCell ⟨gb224, 1, none⟩ (.int .u64 t221)).setCell ⟨gb224, 2, none⟩ (.int .u64 t222))).cell? _ = some _ from hx225_0)); have hv225 := hx225_0; rw [EQ_.out.1, EQ_.out.2.1, EQ_.out.2.2] at hv225; clear hn225_0; clear hn225_1; clear hn225_2; replace p225 := eq_true p225; replace q225 := eq_true q225))
                              repeat (go_quiet (first | (go_at_call 39; (with_reducible refine (addr_Read.calls k3 x12_3 t220 t221 t222 t223 _ ⟨hG_.out.below (by repeat (first | (with_reducible first | exact HB.out | apply below_alloc | apply pw_below_drewN | apply below_drew1 | refine below_set ?_ GE201.out | refine below_set ?_ GE202.out | refine below_set ?_ GE224.out) | exact HB.out | exact Below.refl _ _))⟩ A56.out).mono ?_); rintro e w60 ⟨rfl, hb⟩; have n0_ := Aside0.mk (Kd.R_below (by (with_reducible repeat (first | apply Kd.R_alloc | apply Kd.R_drewN | apply Kd.R_drew)); exact HO_9.out) hb); have n1_ := Aside0.mk (blk_below (g := gb201) (o := .cells #[.bool true, .int .u64 a0_1, .int .u64 a0_2] 24 (0, 0)) (by (with_reducible repeat (first | refine blk_drewN ?_ _ | refine blk_drew ?_ | refine blk_alloc ?_ _)); exact BK201.out) hb); have n2_ := Aside0.mk (blk_below (g := gb202) (o := .cells #[.bool a1_0, .int .u64 a1_1, .int .u64 a1_2] 24 (0, 0)) (by (with_reducible repeat (first | refine blk_drewN ?_ _ | refine blk_drew ?_ | refine blk_alloc ?_ _)); exact BK202.out) hb); have n3_ := Aside0.mk (below_step (by repeat (first | (with_reducible first | exact HB.out | apply below_alloc | apply pw_below_drewN | apply below_drew1 | refine below_set ?_ GE201.out | refine below_set ?_ GE202.out) | exact HB.out)) hb); clear HO_9; clear BK201; clear BK202; clear HB; have HO_9 := n0_; have BK201 := n1_; have BK202 := n2_; have HB := n3_; clear n0_ n1_ n2_ n3_; (try clear hb); (try clear hb2); (try clear hk); (try clear hi)) | ((with_reducible refine gate_dst (N := 14) rfl ?_); (try (refine gate_guard (by rfl) ?_; dsimp only)); refine box_event ?hg (N := 14) ?hd (cs := #[.bool false, .int .u64 0, .int .u64 0]) (t := 24) ?hr ?_; (case hd => rfl); (case hg => rfl); (case hr => first | (go_simp; done) | (go_simp; rfl)); intro gb224 hg w61 hbox hb; have n0_ := Aside0.mk (Kd.R_below (by (with_reducible repeat (first | apply Kd.R_alloc | apply Kd.R_drewN | apply Kd.R_drew)); exact HO_9.out) hb); have n1_ := Aside0.mk (blk_below (g := gb201) (o := .cells #[.bool true, .int .u64 a0_1, .int .u64 a0_2] 24 (0, 0)) (by (with_reducible repeat (first | refine blk_drewN ?_ _ | refine blk_drew ?_ | refine blk_alloc ?_ _)); exact BK201.out) hb); have n2_ := Aside0.mk (blk_below (g := gb202) (o := .cells #[.bool a1_0, .int .u64 a1_1, .int .u64 a1_2] 24 (0, 0)) (by (with_reducible repeat (first | refine blk_drewN ?_ _ | refine blk_drew ?_ | refine blk_alloc ?_ _)); exact BK202.out) hb); have n3_ := Aside0.mk (below_step (by repeat (first | (with_reducible first | exact HB.out | apply below_alloc | apply pw_below_drewN | apply below_drew1 | refine below_set ?_ GE201.out | refine below_set ?_ GE202.out) | exact HB.out)) hb); have n4_ := Aside0.mk (hbox); have n5_ := Aside0.mk ((by rw [hg]; exact (below_size (by repeat (first | (with_reducible first | exact HB.out | apply below_alloc | apply pw_below_drewN | apply below_drew1 | refine below_set ?_ GE201.out | refine below_set ?_ GE202.out) | exact HB.out))) : w.heap.size ≤ gb224)); have n6_ := Aside0.mk ((by rw [hg]; exact (below_size (by repeat (first | (with_reducible first | exact HB.out | apply below_alloc | apply pw_below_drewN | apply below_drew1 | refine below_set ?_ GE201.out | refine below_set ?_ GE202.out) | exact HB.out))) : w.heap.size ≤ gb224)); have n7_ := Aside0.mk ((by rw [hg]; exact Nat.ne_of_lt (blk_lt (g := gb201) (o := .cells #[.bool true, .int .u64 a0_1, .int .u64 a0_2] 24 (0, 0)) (by (with_reducible repeat (first | refine blk_drewN ?_ _ | refine blk_drew ?_ | refine blk_alloc ?_ _)); exact BK201.out)) : gb201 ≠ gb224)); have n8_ := Aside0.mk ((by rw [hg]; exact Nat.ne_of_gt (blk_lt (g := gb201) (o := .cells #[.bool true, .int .u64 a0_1, .int .u64 a0_2] 24 (0, 0)) (by (with_reducible repeat (first | refine blk_drewN ?_ _ | refine blk_drew ?_ | refine blk_alloc ?_ _)); exact BK201.out)) : gb224 ≠ gb201)); have n9_ := Aside0.mk ((by rw [hg]; exact Nat.ne_of_lt (blk_lt (g := gb202) (o := .cells #[.bool a1_0, .int .u64 a1_1, .int .u64 a1_2] 24 (0, 0)) (by (with_reducible repeat (first | refine blk_drewN ?_ _ | refine blk_drew ?_ | refine blk_alloc ?_ _)); exact BK202.out)) : gb202 ≠ gb224)); have n10_ := Aside0.mk ((by rw [hg]; exact Nat.ne_of_gt (blk_lt (g := gb202) (o := .cells #[.bool a1_0, .int .u64 a1_1, .int .u64 a1_2] 24 (0, 0)) (by (with_reducible repeat (first | refine blk_drewN ?_ _ | refine blk_drew ?_ | refine blk_alloc ?_ _)); exact BK202.out)) : gb224 ≠ gb202)); clear HO_9; clear BK201; clear BK202; clear HB; have HO_9 := n0_; have BK201 := n1_; have BK202 := n2_; have HB := n3_; have BK224 := n4_; have GW224 := n5_; have GE224 := n6_; have NB201_224 := n7_; have NB224_201 := n8_; have NB202_224 := n9_; have NB224_202 := n10_; clear n0_ n1_ n2_ n3_ n4_ n5_ n6_ n7_ n8_ n9_ n10_; clear hb hbox hg; have hnb62 := NB224_201.out; have hnc62 := NB201_224.out; have hnb63 := NB224_202.out; have hnc63 := NB202_224.out; have hcz64_0 : w61.cell? ⟨gb224, 0, none⟩ = some (.bool false) := (blk_cell BK224.out 0).trans rfl; have hcz64_1 : w61.cell? ⟨gb224, 1, none⟩ = some (.int .u64 0) := (blk_cell BK224.out 1).trans rfl; have hcz64_2 : w61.cell? ⟨gb224, 2, none⟩ = some (.int .u64 0) := (blk_cell BK224.out 2).trans rfl; have hfz64_0 := blk_frozen BK224.out 0; have hfz64_1 := blk_frozen BK224.out 1; have hfz64_2 := blk_frozen BK224.out 2; have hnb65 := NB201_202.out; have hnc65 := NB202_201.out; have hcz66_0 : w61.cell? ⟨gb201, 0, none⟩ = some (.bool true) := (blk_cell BK201.out 0).trans rfl; have hcz66_1 : w61.cell? ⟨gb201, 1, none⟩ = some (.int .u64 a0_1) := (blk_cell BK201.out 1).trans rfl; have hcz66_2 : w61.cell? ⟨gb201, 2, none⟩ = some (.int .u64 a0_2) := (blk_cell BK201.out 2).trans rfl; have hfz66_0 := blk_frozen BK201.out 0; have hfz66_1 := blk_frozen BK201.out 1; have hfz66_2 := blk_frozen BK201.out 2; obtain ⟨Ao67, co67, eo67⟩ := Kd.R_slice HO_9.out; subst eo67; have p225 : 0 ≤ (32 : Int) := (by omega); have q225 : 32 < (t208.length : Int) := of_decide_eq_true (by first | (with_reducible assumption) | assumption); obtain ⟨ad225, e225, hx225_0⟩ := Kd.at_string (Kd.R_reads' HO_9.out).2.2 32 p225 q225; cases e225; (try simp only [show (32 : Int).toNat = 32 from rfl, Nat.reduceMul, Nat.reduceEqDiff, Go.Addr.add, ↓reduceIte] at hx225_0); have qi225 : (32 < t208.length) = True := eq_true (by omega); (try rw [show ((32 : Int)).toNat = 32 from rfl] at hx225_0); have hn225_0 : ad225.block ≠ gb224 := Kd.own_blk (Kd.R_ne HO_9.out BK224.out (by decide)); have hn225_1 : ad225.block ≠ gb224 := Kd.own_blk (Kd.R_ne HO_9.out BK224.out (by decide)); have hn225_2 : ad225.block ≠ gb224 := Kd.own_blk (Kd.R_ne HO_9.out BK224.out (by decide)); replace hx225_0 := (cell_far (p := ⟨gb224, 0, none⟩) (by first | (rw [add_block]; exact hn225_0) | (show (Addr.add _ _).block ≠ _; rw [add_block]; exact hn225_0) | exact hn225_0) (.bool t220)).trans hx225_0; replace hx225_0 := (cell_far (p := ⟨gb224, 1, none⟩) (by first | (rw [add_block]; exact hn225_1) | (show (Addr.add _ _).block ≠ _; rw [add_block]; exact hn225_1) | exact hn225_1) (.int .u64 t221)).trans hx225_0; replace hx225_0 := (cell_far (p := ⟨gb224, 2, none⟩) (by first | (rw [add_block]; exact hn225_2) | (show (Addr.add _ _).block ≠ _; rw [add_block]; exact hn225_2) | exact hn225_2) (.int .u64 t222)).trans hx225_0; (try have hy225_0 := fun (n_ : Nat) => (show (((((w61.drewN n_).setCell ⟨gb224, 0, none⟩ (.bool t220)).setCell ⟨gb224, 1, none⟩ (.int .u64 t221)).setCell ⟨gb224, 2, none⟩ (.int .u64 t222))).cell? _ = some _ from hx225_0)); have hv225 := hx225_0; rw [EQ_.out.1, EQ_.out.2.1, EQ_.out.2.2] at hv225; clear hn225_0; clear hn225_1; clear hn225_2; replace p225 := eq_true p225; replace q225 := eq_true q225)); try go_wp2_with (first | (go_at_call 39; (with_reducible refine (addr_Read.calls k3 x12_3 t220 t221 t222 t223 _ ⟨hG_.out.below (by repeat (first | (with_reducible first | exact HB.out | apply below_alloc | apply pw_below_drewN | apply below_drew1 | refine below_set ?_ GE201.out | refine below_set ?_ GE202.out | refine below_set ?_ GE224.out) | exact HB.out | exact Below.refl _ _))⟩ A56.out).mono ?_); rintro e w60 ⟨rfl, hb⟩; have n0_ := Aside0.mk (Kd.R_below (by (with_reducible repeat (first | apply Kd.R_alloc | apply Kd.R_drewN | apply Kd.R_drew)); exact HO_9.out) hb); have n1_ := Aside0.mk (blk_below (g := gb201) (o := .cells #[.bool true, .int .u64 a0_1, .int .u64 a0_2] 24 (0, 0)) (by (with_reducible repeat (first | refine blk_drewN ?_ _ | refine blk_drew ?_ | refine blk_alloc ?_ _)); exact BK201.out) hb); have n2_ := Aside0.mk (blk_below (g := gb202) (o := .cells #[.bool a1_0, .int .u64 a1_1, .int .u64 a1_2] 24 (0, 0)) (by (with_reducible repeat (first | refine blk_drewN ?_ _ | refine blk_drew ?_ | refine blk_alloc ?_ _)); exact BK202.out) hb); have n3_ := Aside0.mk (below_step (by repeat (first | (with_reducible first | exact HB.out | apply below_alloc | apply pw_below_drewN | apply below_drew1 | refine below_set ?_ GE201.out | refine below_set ?_ GE202.out) | exact HB.out)) hb); clear HO_9; clear BK201; clear BK202; clear HB; have HO_9 := n0_; have BK201 := n1_; have BK202 := n2_; have HB := n3_; clear n0_ n1_ n2_ n3_; (try clear hb); (try clear hb2); (try clear hk); (try clear hi)) | ((with_reducible refine gate_dst (N := 14) rfl ?_); (try (refine gate_guard (by rfl) ?_; dsimp only)); refine box_event ?hg (N := 14) ?hd (cs := #[.bool false, .int .u64 0, .int .u64 0]) (t := 24) ?hr ?_; (case hd => rfl); (case hg => rfl); (case hr => first | (go_simp; done) | (go_simp; rfl)); intro gb224 hg w61 hbox hb; have n0_ := Aside0.mk (Kd.R_below (by (with_reducible repeat (first | apply Kd.R_alloc | apply Kd.R_drewN | apply Kd.R_drew)); exact HO_9.out) hb); have n1_ := Aside0.mk (blk_below (g := gb201) (o := .cells #[.bool true, .int .u64 a0_1, .int .u64 a0_2] 24 (0, 0)) (by (with_reducible repeat (first | refine blk_drewN ?_ _ | refine blk_drew ?_ | refine blk_alloc ?_ _)); exact BK201.out) hb); have n2_ := Aside0.mk (blk_below (g := gb202) (o := .cells #[.bool a1_0, .int .u64 a1_1, .int .u64 a1_2] 24 (0, 0)) (by (with_reducible repeat (first | refine blk_drewN ?_ _ | refine blk_drew ?_ | refine blk_alloc ?_ _)); exact BK202.out) hb); have n3_ := Aside0.mk (below_step (by repeat (first | (with_reducible first | exact HB.out | apply below_alloc | apply pw_below_drewN | apply below_drew1 | refine below_set ?_ GE201.out | refine below_set ?_ GE202.out) | exact HB.out)) hb); have n4_ := Aside0.mk (hbox); have n5_ := Aside0.mk ((by rw [hg]; exact (below_size (by repeat (first | (with_reducible first | exact HB.out | apply below_alloc | apply pw_below_drewN | apply below_drew1 | refine below_set ?_ GE201.out | refine below_set ?_ GE202.out) | exact HB.out))) : w.heap.size ≤ gb224)); have n6_ := Aside0.mk ((by rw [hg]; exact (below_size (by repeat (first | (with_reducible first | exact HB.out | apply below_alloc | apply pw_below_drewN | apply below_drew1 | refine below_set ?_ GE201.out | refine below_set ?_ GE202.out) | exact HB.out))) : w.heap.size ≤ gb224)); have n7_ := Aside0.mk ((by rw [hg]; exact Nat.ne_of_lt (blk_lt (g := gb201) (o := .cells #[.bool true, .int .u64 a0_1, .int .u64 a0_2] 24 (0, 0)) (by (with_reducible repeat (first | refine blk_drewN ?_ _ | refine blk_drew ?_ | refine blk_alloc ?_ _)); exact BK201.out)) : gb201 ≠ gb224)); have n8_ := Aside0.mk ((by rw [hg]; exact Nat.ne_of_gt (blk_lt (g := gb201) (o := .cells #[.bool true, .int .u64 a0_1, .int .u64 a0_2] 24 (0, 0)) (by (with_reducible repeat (first | refine blk_drewN ?_ _ | refine blk_drew ?_ | refine blk_alloc ?_ _)); exact BK201.out)) : gb224 ≠ gb201)); have n9_ := Aside0.mk ((by rw [hg]; exact Nat.ne_of_lt (blk_lt (g := gb202) (o := .cells #[.bool a1_0, .int .u64 a1_1, .int .u64 a1_2] 24 (0, 0)) (by (with_reducible repeat (first | refine blk_drewN ?_ _ | refine blk_drew ?_ | refine blk_alloc ?_ _)); exact BK202.out)) : gb202 ≠ gb224)); have n10_ := Aside0.mk ((by rw [hg]; exact Nat.ne_of_gt (blk_lt (g := gb202) (o := .cells #[.bool a1_0, .int .u64 a1_1, .int .u64 a1_2] 24 (0, 0)) (by (with_reducible repeat (first | refine blk_drewN ?_ _ | refine blk_drew ?_ | refine blk_alloc ?_ _)); exact BK202.out)) : gb224 ≠ gb202)); clear HO_9; clear BK201; clear BK202; clear HB; have HO_9 := n0_; have BK201 := n1_; have BK202 := n2_; have HB := n3_; have BK224 := n4_; have GW224 := n5_; have GE224 := n6_; have NB201_224 := n7_; have NB224_201 := n8_; have NB202_224 := n9_; have NB224_202 := n10_; clear n0_ n1_ n2_ n3_ n4_ n5_ n6_ n7_ n8_ n9_ n10_; clear hb hbox hg; have hnb62 := NB224_201.out; have hnc62 := NB201_224.out; have hnb63 := NB224_202.out; have hnc63 := NB202_224.out; have hcz64_0 : w61.cell? ⟨gb224, 0, none⟩ = some (.bool false) := (blk_cell BK224.out 0).trans rfl; have hcz64_1 : w61.cell? ⟨gb224, 1, none⟩ = some (.int .u64 0) := (blk_cell BK224.out 1).trans rfl; have hcz64_2 : w61.cell? ⟨gb224, 2, none⟩ = some (.int .u64 0) := (blk_cell BK224.out 2).trans rfl; have hfz64_0 := blk_frozen BK224.out 0; have hfz64_1 := blk_frozen BK224.out 1; have hfz64_2 := blk_frozen BK224.out 2; have hnb65 := NB201_202.out; have hnc65 := NB202_201.out; have hcz66_0 : w61.cell? ⟨gb201, 0, none⟩ = some (.bool true) := (blk_cell BK201.out 0).trans rfl; have hcz66_1 : w61.cell? ⟨gb201, 1, none⟩ = some (.int .u64 a0_1) := (blk_cell BK201.out 1).trans rfl; have hcz66_2 : w61.cell? ⟨gb201, 2, none⟩ = some (.int .u64 a0_2) := (blk_cell BK201.out 2).trans rfl; have hfz66_0 := blk_frozen BK201.out 0; have hfz66_1 := blk_frozen BK201.out 1; have hfz66_2 := blk_frozen BK201.out 2; obtain ⟨Ao67, co67, eo67⟩ := Kd.R_slice HO_9.out; subst eo67; have p225 : 0 ≤ (32 : Int) := (by omega); have q225 : 32 < (t208.length : Int) := of_decide_eq_true (by first | (with_reducible assumption) | assumption); obtain ⟨ad225, e225, hx225_0⟩ := Kd.at_string (Kd.R_reads' HO_9.out).2.2 32 p225 q225; cases e225; (try simp only [show (32 : Int).toNat = 32 from rfl, Nat.reduceMul, Nat.reduceEqDiff, Go.Addr.add, ↓reduceIte] at hx225_0); have qi225 : (32 < t208.length) = True := eq_true (by omega); (try rw [show ((32 : Int)).toNat = 32 from rfl] at hx225_0); have hn225_0 : ad225.block ≠ gb224 := Kd.own_blk (Kd.R_ne HO_9.out BK224.out (by decide)); have hn225_1 : ad225.block ≠ gb224 := Kd.own_blk (Kd.R_ne HO_9.out BK224.out (by decide)); have hn225_2 : ad225.block ≠ gb224 := Kd.own_blk (Kd.R_ne HO_9.out BK224.out (by decide)); replace hx225_0 := (cell_far (p := ⟨gb224, 0, none⟩) (by first | (rw [add_block]; exact hn225_0) | (show (Addr.add _ _).block ≠ _; rw [add_block]; exact hn225_0) | exact hn225_0) (.bool t220)).trans hx225_0; replace hx225_0 := (cell_far (p := ⟨gb224, 1, none⟩) (by first | (rw [add_block]; exact hn225_1) | (show (Addr.add _ _).block ≠ _; rw [add_block]; exact hn225_1) | exact hn225_1) (.int .u64 t221)).trans hx225_0; replace hx225_0 := (cell_far (p := ⟨gb224, 2, none⟩) (by first | (rw [add_block]; exact hn225_2) | (show (Addr.add _ _).block ≠ _; rw [add_block]; exact hn225_2) | exact hn225_2) (.int .u64 t222)).trans hx225_0; (try have hy225_0 := fun (n_ : Nat) => (show (((((w61.drewN n_).setCell ⟨gb224, 0, none⟩ (.bool t220)).setCell ⟨gb224, 1, none⟩ (.int .u64 t221)).setCell ⟨gb224, 2, none⟩ (.int .u64 t222))).cell? _ = some _ from hx225_0)); have hv225 := hx225_0; rw [EQ_.out.1, EQ_.out.2.1, EQ_.out.2.2] at hv225; clear hn225_0; clear hn225_1; clear hn225_2; replace p225 := eq_true p225; replace q225 := eq_true q225)))
                              all_goals (try exact absurd EQ_.out (by assumption))
                              go_ret
                              exact ⟨by first | rfl | (simp [errW_none, errW_some] <;> rfl) | (simp [*, errW_none, errW_some] <;> rfl), by repeat (first | (with_reducible first | exact HB.out | apply below_alloc | apply pw_below_drewN | apply below_drew1 | refine below_set ?_ GE201.out | refine below_set ?_ GE202.out | refine below_set ?_ GE224.out) | exact HB.out)⟩
                            · rw [if_neg c59] at H
                              exact absurd H (by simp)
                          · rw [if_neg c58] at H
                            have c58b0 : (t220 == true && (t221 == a0_1 && (t222 == a0_2))) = false := by simpa using c58
                            (try (have c58b1 : decide (t220 = true && (t221 == a0_1 && (t222 == a0_2))) = false := by simpa using c58))
                            (try (have c58b2 : (t220 == true && (t221 == a0_1 && (t222 == a0_2))) = false := by simpa using c58))
                            (try (have c58b3 : ¬ (t220 = true && (t221 == a0_1 && (t222 == a0_2))) := by simpa using c58))
                            clear c58
                            exact absurd ((Option.some.inj H).trans hr_.out) (by decide)
                        · rw [if_neg c57] at H
                          have c57b0 : (t223 == 0) = false := beq_eq_false_iff_ne.mpr c57
                          have c57b1 : (t223 != 0) = true := bne_iff_ne.mpr c57
                          exact absurd ((Option.some.inj H).trans hr_.out) (by decide)
                · replace c43 := Bool.eq_false_iff.mpr c43
                  subst c43
                  have H1 : ((addr_Text.f kj18 false a0_1 a0_2).bind fun bt212 => (if 3 < (t208.length : Int) then (if (rdOf ByteArray.empty t208 3).size + 1 ≤ 9223372036854775807 then (if 2 < (t208.length : Int) then (if ((rdOf ByteArray.empty t208 3) ++ (⟨#[46]⟩ : ByteArray)).size + (rdOf ByteArray.empty t208 2).size ≤ 9223372036854775807 then (if (((rdOf ByteArray.empty t208 3) ++ (⟨#[46]⟩ : ByteArray)) ++ (rdOf ByteArray.empty t208 2)).size + 1 ≤ 9223372036854775807 then (if 1 < (t208.length : Int) then (if ((((rdOf ByteArray.empty t208 3) ++ (⟨#[46]⟩ : ByteArray)) ++ (rdOf ByteArray.empty t208 2)) ++ (⟨#[46]⟩ : ByteArray)).size + (rdOf ByteArray.empty t208 1).size ≤ 9223372036854775807 then (if (((((rdOf ByteArray.empty t208 3) ++ (⟨#[46]⟩ : ByteArray)) ++ (rdOf ByteArray.empty t208 2)) ++ (⟨#[46]⟩ : ByteArray)) ++ (rdOf ByteArray.empty t208 1)).size + 1 ≤ 9223372036854775807 then (if 0 < (t208.length : Int) then (if ((((((rdOf ByteArray.empty t208 3) ++ (⟨#[46]⟩ : ByteArray)) ++ (rdOf ByteArray.empty t208 2)) ++ (⟨#[46]⟩ : ByteArray)) ++ (rdOf ByteArray.empty t208 1)) ++ (⟨#[46]⟩ : ByteArray)).size + (rdOf ByteArray.empty t208 0).size ≤ 9223372036854775807 then (if (((((((rdOf ByteArray.empty t208 3) ++ (⟨#[46]⟩ : ByteArray)) ++ (rdOf ByteArray.empty t208 2)) ++ (⟨#[46]⟩ : ByteArray)) ++ (rdOf ByteArray.empty t208 1)) ++ (⟨#[46]⟩ : ByteArray)) ++ (rdOf ByteArray.empty t208 0)).toList = bt212.1.toList then (if 4 < (t208.length : Int) then (some ((rdOf ByteArray.empty t208 4).toList == ([105, 110, 45, 97, 100, 100, 114] : List UInt8))) else (none)) else (some false)) else (none)) else (none)) else (none)) else (none)) else (none)) else (none)) else (none)) else (none)) else (none)) else (none))) = some r := by rw [if_neg (show ¬ (false = true) by decide)] at H; exact H
                  clear H
                  have H := H1
                  clear H1
                  replace H := Option.bind_eq_some_iff.mp H
                  obtain ⟨⟨t212, t213⟩, A680, H⟩ := H
                  replace H : (if 3 < (t208.length : Int) then (if (rdOf ByteArray.empty t208 3).size + 1 ≤ 9223372036854775807 then (if 2 < (t208.length : Int) then (if ((rdOf ByteArray.empty t208 3) ++ (⟨#[46]⟩ : ByteArray)).size + (rdOf ByteArray.empty t208 2).size ≤ 9223372036854775807 then (if (((rdOf ByteArray.empty t208 3) ++ (⟨#[46]⟩ : ByteArray)) ++ (rdOf ByteArray.empty t208 2)).size + 1 ≤ 9223372036854775807 then (if 1 < (t208.length : Int) then (if ((((rdOf ByteArray.empty t208 3) ++ (⟨#[46]⟩ : ByteArray)) ++ (rdOf ByteArray.empty t208 2)) ++ (⟨#[46]⟩ : ByteArray)).size + (rdOf ByteArray.empty t208 1).size ≤ 9223372036854775807 then (if (((((rdOf ByteArray.empty t208 3) ++ (⟨#[46]⟩ : ByteArray)) ++ (rdOf ByteArray.empty t208 2)) ++ (⟨#[46]⟩ : ByteArray)) ++ (rdOf ByteArray.empty t208 1)).size + 1 ≤ 9223372036854775807 then (if 0 < (t208.length : Int) then (if ((((((rdOf ByteArray.empty t208 3) ++ (⟨#[46]⟩ : ByteArray)) ++ (rdOf ByteArray.empty t208 2)) ++ (⟨#[46]⟩ : ByteArray)) ++ (rdOf ByteArray.empty t208 1)) ++ (⟨#[46]⟩ : ByteArray)).size + (rdOf ByteArray.empty t208 0).size ≤ 9223372036854775807 then (if (((((((rdOf ByteArray.empty t208 3) ++ (⟨#[46]⟩ : ByteArray)) ++ (rdOf ByteArray.empty t208 2)) ++ (⟨#[46]⟩ : ByteArray)) ++ (rdOf ByteArray.empty t208 1)) ++ (⟨#[46]⟩ : ByteArray)) ++ (rdOf ByteArray.empty t208 0)).toList = t212.toList then (if 4 < (t208.length : Int) then (some ((rdOf ByteArray.empty t208 4).toList == ([105, 110, 45, 97, 100, 100, 114] : List UInt8))) else (none)) else (some false)) else (none)) else (none)) else (none)) else (none)) else (none)) else (none)) else (none)) else (none)) else (none)) else (none)) = some r := H
                  have A68 := Aside0.mk A680
                  clear A680
                  by_cases c69 : 3 < (t208.length : Int)
                  · rw [if_pos c69] at H
                    have c69b0 : decide (3 < (t208.length : Int)) = true := decide_eq_true c69
                    have c69b1 : decide (3 < t208.length) = true := decide_eq_true (by omega)
                    clear c69
                    by_cases c70 : (rdOf ByteArray.empty t208 3).size + 1 ≤ 9223372036854775807
                    · rw [if_pos c70] at H
                      have c70b0 := eq_true c70
                      have c70b1 : decide ((rdOf ByteArray.empty t208 3).size + 1 ≤ 9223372036854775807) = true := decide_eq_true c70
                      try have c70b2 : (9223372036854775807 < (rdOf ByteArray.empty t208 3).size + 1) = False := eq_false (Nat.not_lt.2 c70)
                      by_cases c71 : 2 < (t208.length : Int)
                      · rw [if_pos c71] at H
                        have c71b0 : decide (2 < (t208.length : Int)) = true := decide_eq_true c71
                        have c71b1 : decide (2 < t208.length) = true := decide_eq_true (by omega)
                        clear c71
                        by_cases c72 : ((rdOf ByteArray.empty t208 3) ++ (⟨#[46]⟩ : ByteArray)).size + (rdOf ByteArray.empty t208 2).size ≤ 9223372036854775807
                        · rw [if_pos c72] at H
                          have c72b0 := eq_true c72
                          try have c72b6 : (9223372036854775807 < (rdOf ByteArray.empty t208 3).size + 1 + (rdOf ByteArray.empty t208 2).size) = False := eq_false (by have hh_ := c72; have hz_ : ((rdOf ByteArray.empty t208 3).size + (⟨#[46]⟩ : ByteArray).size + (rdOf ByteArray.empty t208 2).size : Nat) = (rdOf ByteArray.empty t208 3).size + 1 + (rdOf ByteArray.empty t208 2).size := (by rfl); simp only [ByteArray.size_append] at hh_; omega)
                          try have c72b5 : decide ((rdOf ByteArray.empty t208 3).size + 1 + (rdOf ByteArray.empty t208 2).size ≤ 9223372036854775807) = true := decide_eq_true (by have hh_ := c72; have hz_ : ((rdOf ByteArray.empty t208 3).size + (⟨#[46]⟩ : ByteArray).size + (rdOf ByteArray.empty t208 2).size : Nat) = (rdOf ByteArray.empty t208 3).size + 1 + (rdOf ByteArray.empty t208 2).size := (by rfl); simp only [ByteArray.size_append] at hh_; omega)
                          try have c72b7 : (9223372036854775807 < (rdOf ByteArray.empty t208 3).size + (⟨#[46]⟩ : ByteArray).size + (rdOf ByteArray.empty t208 2).size) = False := eq_false (by have hh_ := c72; simp only [ByteArray.size_append] at hh_; omega)
                          try have c72b8 : decide ((rdOf ByteArray.empty t208 3).size + (⟨#[46]⟩ : ByteArray).size + (rdOf ByteArray.empty t208 2).size ≤ 9223372036854775807) = true := decide_eq_true (by have hh_ := c72; simp only [ByteArray.size_append] at hh_; omega)
                          have c72b1 : decide (((rdOf ByteArray.empty t208 3) ++ (⟨#[46]⟩ : ByteArray)).size + (rdOf ByteArray.empty t208 2).size ≤ 9223372036854775807) = true := decide_eq_true c72
                          try have c72b2 : (9223372036854775807 < ((rdOf ByteArray.empty t208 3) ++ (⟨#[46]⟩ : ByteArray)).size + (rdOf ByteArray.empty t208 2).size) = False := eq_false (Nat.not_lt.2 c72)
                          by_cases c73 : (((rdOf ByteArray.empty t208 3) ++ (⟨#[46]⟩ : ByteArray)) ++ (rdOf ByteArray.empty t208 2)).size + 1 ≤ 9223372036854775807
                          · rw [if_pos c73] at H
                            have c73b0 := eq_true c73
                            try have c73b6 : (9223372036854775807 < (rdOf ByteArray.empty t208 3).size + 1 + (rdOf ByteArray.empty t208 2).size + 1) = False := eq_false (by have hh_ := c73; have hz_ : ((rdOf ByteArray.empty t208 3).size + (⟨#[46]⟩ : ByteArray).size + (rdOf ByteArray.empty t208 2).size + 1 : Nat) = (rdOf ByteArray.empty t208 3).size + 1 + (rdOf ByteArray.empty t208 2).size + 1 := (by rfl); simp only [ByteArray.size_append] at hh_; omega)
                            try have c73b5 : decide ((rdOf ByteArray.empty t208 3).size + 1 + (rdOf ByteArray.empty t208 2).size + 1 ≤ 9223372036854775807) = true := decide_eq_true (by have hh_ := c73; have hz_ : ((rdOf ByteArray.empty t208 3).size + (⟨#[46]⟩ : ByteArray).size + (rdOf ByteArray.empty t208 2).size + 1 : Nat) = (rdOf ByteArray.empty t208 3).size + 1 + (rdOf ByteArray.empty t208 2).size + 1 := (by rfl); simp only [ByteArray.size_append] at hh_; omega)
                            try have c73b7 : (9223372036854775807 < (rdOf ByteArray.empty t208 3).size + (⟨#[46]⟩ : ByteArray).size + (rdOf ByteArray.empty t208 2).size + 1) = False := eq_false (by have hh_ := c73; simp only [ByteArray.size_append] at hh_; omega)
                            try have c73b8 : decide ((rdOf ByteArray.empty t208 3).size + (⟨#[46]⟩ : ByteArray).size + (rdOf ByteArray.empty t208 2).size + 1 ≤ 9223372036854775807) = true := decide_eq_true (by have hh_ := c73; simp only [ByteArray.size_append] at hh_; omega)
                            have c73b1 : decide ((((rdOf ByteArray.empty t208 3) ++ (⟨#[46]⟩ : ByteArray)) ++ (rdOf ByteArray.empty t208 2)).size + 1 ≤ 9223372036854775807) = true := decide_eq_true c73
                            try have c73b2 : (9223372036854775807 < (((rdOf ByteArray.empty t208 3) ++ (⟨#[46]⟩ : ByteArray)) ++ (rdOf ByteArray.empty t208 2)).size + 1) = False := eq_false (Nat.not_lt.2 c73)
                            by_cases c74 : 1 < (t208.length : Int)
                            · rw [if_pos c74] at H
                              have c74b0 : decide (1 < (t208.length : Int)) = true := decide_eq_true c74
                              have c74b1 : decide (1 < t208.length) = true := decide_eq_true (by omega)
                              clear c74
                              by_cases c75 : ((((rdOf ByteArray.empty t208 3) ++ (⟨#[46]⟩ : ByteArray)) ++ (rdOf ByteArray.empty t208 2)) ++ (⟨#[46]⟩ : ByteArray)).size + (rdOf ByteArray.empty t208 1).size ≤ 9223372036854775807
                              · rw [if_pos c75] at H
                                have c75b0 := eq_true c75
                                try have c75b6 : (9223372036854775807 < (rdOf ByteArray.empty t208 3).size + 1 + (rdOf ByteArray.empty t208 2).size + 1 + (rdOf ByteArray.empty t208 1).size) = False := eq_false (by have hh_ := c75; have hz_ : ((rdOf ByteArray.empty t208 3).size + (⟨#[46]⟩ : ByteArray).size + (rdOf ByteArray.empty t208 2).size + (⟨#[46]⟩ : ByteArray).size + (rdOf ByteArray.empty t208 1).size : Nat) = (rdOf ByteArray.empty t208 3).size + 1 + (rdOf ByteArray.empty t208 2).size + 1 + (rdOf ByteArray.empty t208 1).size := (by rfl); simp only [ByteArray.size_append] at hh_; omega)
                                try have c75b5 : decide ((rdOf ByteArray.empty t208 3).size + 1 + (rdOf ByteArray.empty t208 2).size + 1 + (rdOf ByteArray.empty t208 1).size ≤ 9223372036854775807) = true := decide_eq_true (by have hh_ := c75; have hz_ : ((rdOf ByteArray.empty t208 3).size + (⟨#[46]⟩ : ByteArray).size + (rdOf ByteArray.empty t208 2).size + (⟨#[46]⟩ : ByteArray).size + (rdOf ByteArray.empty t208 1).size : Nat) = (rdOf ByteArray.empty t208 3).size + 1 + (rdOf ByteArray.empty t208 2).size + 1 + (rdOf ByteArray.empty t208 1).size := (by rfl); simp only [ByteArray.size_append] at hh_; omega)
                                try have c75b7 : (9223372036854775807 < (rdOf ByteArray.empty t208 3).size + (⟨#[46]⟩ : ByteArray).size + (rdOf ByteArray.empty t208 2).size + (⟨#[46]⟩ : ByteArray).size + (rdOf ByteArray.empty t208 1).size) = False := eq_false (by have hh_ := c75; simp only [ByteArray.size_append] at hh_; omega)
                                try have c75b8 : decide ((rdOf ByteArray.empty t208 3).size + (⟨#[46]⟩ : ByteArray).size + (rdOf ByteArray.empty t208 2).size + (⟨#[46]⟩ : ByteArray).size + (rdOf ByteArray.empty t208 1).size ≤ 9223372036854775807) = true := decide_eq_true (by have hh_ := c75; simp only [ByteArray.size_append] at hh_; omega)
                                have c75b1 : decide (((((rdOf ByteArray.empty t208 3) ++ (⟨#[46]⟩ : ByteArray)) ++ (rdOf ByteArray.empty t208 2)) ++ (⟨#[46]⟩ : ByteArray)).size + (rdOf ByteArray.empty t208 1).size ≤ 9223372036854775807) = true := decide_eq_true c75
                                try have c75b2 : (9223372036854775807 < ((((rdOf ByteArray.empty t208 3) ++ (⟨#[46]⟩ : ByteArray)) ++ (rdOf ByteArray.empty t208 2)) ++ (⟨#[46]⟩ : ByteArray)).size + (rdOf ByteArray.empty t208 1).size) = False := eq_false (Nat.not_lt.2 c75)
                                by_cases c76 : (((((rdOf ByteArray.empty t208 3) ++ (⟨#[46]⟩ : ByteArray)) ++ (rdOf ByteArray.empty t208 2)) ++ (⟨#[46]⟩ : ByteArray)) ++ (rdOf ByteArray.empty t208 1)).size + 1 ≤ 9223372036854775807
                                · rw [if_pos c76] at H
                                  have c76b0 := eq_true c76
                                  try have c76b6 : (9223372036854775807 < (rdOf ByteArray.empty t208 3).size + 1 + (rdOf ByteArray.empty t208 2).size + 1 + (rdOf ByteArray.empty t208 1).size + 1) = False := eq_false (by have hh_ := c76; have hz_ : ((rdOf ByteArray.empty t208 3).size + (⟨#[46]⟩ : ByteArray).size + (rdOf ByteArray.empty t208 2).size + (⟨#[46]⟩ : ByteArray).size + (rdOf ByteArray.empty t208 1).size + 1 : Nat) = (rdOf ByteArray.empty t208 3).size + 1 + (rdOf ByteArray.empty t208 2).size + 1 + (rdOf ByteArray.empty t208 1).size + 1 := (by rfl); simp only [ByteArray.size_append] at hh_; omega)
                                  try have c76b5 : decide ((rdOf ByteArray.empty t208 3).size + 1 + (rdOf ByteArray.empty t208 2).size + 1 + (rdOf ByteArray.empty t208 1).size + 1 ≤ 9223372036854775807) = true := decide_eq_true (by have hh_ := c76; have hz_ : ((rdOf ByteArray.empty t208 3).size + (⟨#[46]⟩ : ByteArray).size + (rdOf ByteArray.empty t208 2).size + (⟨#[46]⟩ : ByteArray).size + (rdOf ByteArray.empty t208 1).size + 1 : Nat) = (rdOf ByteArray.empty t208 3).size + 1 + (rdOf ByteArray.empty t208 2).size + 1 + (rdOf ByteArray.empty t208 1).size + 1 := (by rfl); simp only [ByteArray.size_append] at hh_; omega)
                                  try have c76b7 : (9223372036854775807 < (rdOf ByteArray.empty t208 3).size + (⟨#[46]⟩ : ByteArray).size + (rdOf ByteArray.empty t208 2).size + (⟨#[46]⟩ : ByteArray).size + (rdOf ByteArray.empty t208 1).size + 1) = False := eq_false (by have hh_ := c76; simp only [ByteArray.size_append] at hh_; omega)
                                  try have c76b8 : decide ((rdOf ByteArray.empty t208 3).size + (⟨#[46]⟩ : ByteArray).size + (rdOf ByteArray.empty t208 2).size + (⟨#[46]⟩ : ByteArray).size + (rdOf ByteArray.empty t208 1).size + 1 ≤ 9223372036854775807) = true := decide_eq_true (by have hh_ := c76; simp only [ByteArray.size_append] at hh_; omega)
                                  have c76b1 : decide ((((((rdOf ByteArray.empty t208 3) ++ (⟨#[46]⟩ : ByteArray)) ++ (rdOf ByteArray.empty t208 2)) ++ (⟨#[46]⟩ : ByteArray)) ++ (rdOf ByteArray.empty t208 1)).size + 1 ≤ 9223372036854775807) = true := decide_eq_true c76
                                  try have c76b2 : (9223372036854775807 < (((((rdOf ByteArray.empty t208 3) ++ (⟨#[46]⟩ : ByteArray)) ++ (rdOf ByteArray.empty t208 2)) ++ (⟨#[46]⟩ : ByteArray)) ++ (rdOf ByteArray.empty t208 1)).size + 1) = False := eq_false (Nat.not_lt.2 c76)
                                  by_cases c77 : 0 < (t208.length : Int)
                                  · rw [if_pos c77] at H
                                    have c77b0 : decide (0 < (t208.length : Int)) = true := decide_eq_true c77
                                    have c77b1 : decide (0 < t208.length) = true := decide_eq_true (by omega)
                                    clear c77
                                    by_cases c78 : ((((((rdOf ByteArray.empty t208 3) ++ (⟨#[46]⟩ : ByteArray)) ++ (rdOf ByteArray.empty t208 2)) ++ (⟨#[46]⟩ : ByteArray)) ++ (rdOf ByteArray.empty t208 1)) ++ (⟨#[46]⟩ : ByteArray)).size + (rdOf ByteArray.empty t208 0).size ≤ 9223372036854775807
                                    · rw [if_pos c78] at H
                                      have c78b0 := eq_true c78
                                      try have c78b6 : (9223372036854775807 < (rdOf ByteArray.empty t208 3).size + 1 + (rdOf ByteArray.empty t208 2).size + 1 + (rdOf ByteArray.empty t208 1).size + 1 + (rdOf ByteArray.empty t208 0).size) = False := eq_false (by have hh_ := c78; have hz_ : ((rdOf ByteArray.empty t208 3).size + (⟨#[46]⟩ : ByteArray).size + (rdOf ByteArray.empty t208 2).size + (⟨#[46]⟩ : ByteArray).size + (rdOf ByteArray.empty t208 1).size + (⟨#[46]⟩ : ByteArray).size + (rdOf ByteArray.empty t208 0).size : Nat) = (rdOf ByteArray.empty t208 3).size + 1 + (rdOf ByteArray.empty t208 2).size + 1 + (rdOf ByteArray.empty t208 1).size + 1 + (rdOf ByteArray.empty t208 0).size := (by rfl); simp only [ByteArray.size_append] at hh_; omega)
                                      try have c78b5 : decide ((rdOf ByteArray.empty t208 3).size + 1 + (rdOf ByteArray.empty t208 2).size + 1 + (rdOf ByteArray.empty t208 1).size + 1 + (rdOf ByteArray.empty t208 0).size ≤ 9223372036854775807) = true := decide_eq_true (by have hh_ := c78; have hz_ : ((rdOf ByteArray.empty t208 3).size + (⟨#[46]⟩ : ByteArray).size + (rdOf ByteArray.empty t208 2).size + (⟨#[46]⟩ : ByteArray).size + (rdOf ByteArray.empty t208 1).size + (⟨#[46]⟩ : ByteArray).size + (rdOf ByteArray.empty t208 0).size : Nat) = (rdOf ByteArray.empty t208 3).size + 1 + (rdOf ByteArray.empty t208 2).size + 1 + (rdOf ByteArray.empty t208 1).size + 1 + (rdOf ByteArray.empty t208 0).size := (by rfl); simp only [ByteArray.size_append] at hh_; omega)
                                      try have c78b7 : (9223372036854775807 < (rdOf ByteArray.empty t208 3).size + (⟨#[46]⟩ : ByteArray).size + (rdOf ByteArray.empty t208 2).size + (⟨#[46]⟩ : ByteArray).size + (rdOf ByteArray.empty t208 1).size + (⟨#[46]⟩ : ByteArray).size + (rdOf ByteArray.empty t208 0).size) = False := eq_false (by have hh_ := c78; simp only [ByteArray.size_append] at hh_; omega)
                                      try have c78b8 : decide ((rdOf ByteArray.empty t208 3).size + (⟨#[46]⟩ : ByteArray).size + (rdOf ByteArray.empty t208 2).size + (⟨#[46]⟩ : ByteArray).size + (rdOf ByteArray.empty t208 1).size + (⟨#[46]⟩ : ByteArray).size + (rdOf ByteArray.empty t208 0).size ≤ 9223372036854775807) = true := decide_eq_true (by have hh_ := c78; simp only [ByteArray.size_append] at hh_; omega)
                                      have c78b1 : decide (((((((rdOf ByteArray.empty t208 3) ++ (⟨#[46]⟩ : ByteArray)) ++ (rdOf ByteArray.empty t208 2)) ++ (⟨#[46]⟩ : ByteArray)) ++ (rdOf ByteArray.empty t208 1)) ++ (⟨#[46]⟩ : ByteArray)).size + (rdOf ByteArray.empty t208 0).size ≤ 9223372036854775807) = true := decide_eq_true c78
                                      try have c78b2 : (9223372036854775807 < ((((((rdOf ByteArray.empty t208 3) ++ (⟨#[46]⟩ : ByteArray)) ++ (rdOf ByteArray.empty t208 2)) ++ (⟨#[46]⟩ : ByteArray)) ++ (rdOf ByteArray.empty t208 1)) ++ (⟨#[46]⟩ : ByteArray)).size + (rdOf ByteArray.empty t208 0).size) = False := eq_false (Nat.not_lt.2 c78)
                                      by_cases c79 : (((((((rdOf ByteArray.empty t208 3) ++ (⟨#[46]⟩ : ByteArray)) ++ (rdOf ByteArray.empty t208 2)) ++ (⟨#[46]⟩ : ByteArray)) ++ (rdOf ByteArray.empty t208 1)) ++ (⟨#[46]⟩ : ByteArray)) ++ (rdOf ByteArray.empty t208 0)).toList = t212.toList
                                      · rw [if_pos c79] at H
                                        have c79b0 : ((((((((rdOf ByteArray.empty t208 3) ++ (⟨#[46]⟩ : ByteArray)) ++ (rdOf ByteArray.empty t208 2)) ++ (⟨#[46]⟩ : ByteArray)) ++ (rdOf ByteArray.empty t208 1)) ++ (⟨#[46]⟩ : ByteArray)) ++ (rdOf ByteArray.empty t208 0)).toList == t212.toList) = true := beq_iff_eq.mpr c79
                                        have c79b1 : ((((((((rdOf ByteArray.empty t208 3) ++ (⟨#[46]⟩ : ByteArray)) ++ (rdOf ByteArray.empty t208 2)) ++ (⟨#[46]⟩ : ByteArray)) ++ (rdOf ByteArray.empty t208 1)) ++ (⟨#[46]⟩ : ByteArray)) ++ (rdOf ByteArray.empty t208 0)).toList != t212.toList) = false := bne_eq_false_iff_eq.mpr c79
                                        clear c79
                                        by_cases c80 : 4 < (t208.length : Int)
                                        · rw [if_pos c80] at H
                                          have c80b0 : decide (4 < (t208.length : Int)) = true := decide_eq_true c80
                                          have c80b1 : decide (4 < t208.length) = true := decide_eq_true (by omega)
                                          clear c80
                                          obtain rfl := Option.some.inj H
                                          have hnb81 := NB201_202.out
                                          have hnc81 := NB202_201.out
                                          have hcz82_0 : wc.cell? ⟨gb201, 0, none⟩ = some (.bool false) := (blk_cell BK201.out 0).trans rfl
                                          have hcz82_1 : wc.cell? ⟨gb201, 1, none⟩ = some (.int .u64 a0_1) := (blk_cell BK201.out 1).trans rfl
                                          have hcz82_2 : wc.cell? ⟨gb201, 2, none⟩ = some (.int .u64 a0_2) := (blk_cell BK201.out 2).trans rfl
                                          have hfz82_0 := blk_frozen BK201.out 0
                                          have hfz82_1 := blk_frozen BK201.out 1
                                          have hfz82_2 := blk_frozen BK201.out 2
                                          go_wp2_with (first | (go_at_call 38; (with_reducible refine (addr_Text.calls kj18 false a0_1 a0_2 t212 t213 _ ⟨hG_.out.below (by repeat (first | (with_reducible first | exact HB.out | apply below_alloc | apply pw_below_drewN | apply below_drew1 | refine below_set ?_ GE201.out | refine below_set ?_ GE202.out | refine below_set ?_ GE224.out) | exact HB.out | exact Below.refl _ _))⟩ A68.out).mono ?_); rintro e w83 ⟨rfl, hb⟩; have n0_ := Aside0.mk (Kd.R_below (by (with_reducible repeat (first | apply Kd.R_alloc | apply Kd.R_drewN | apply Kd.R_drew)); exact HO_9.out) hb); have n1_ := Aside0.mk (blk_below (g := gb201) (o := .cells #[.bool false, .int .u64 a0_1, .int .u64 a0_2] 24 (0, 0)) (by (with_reducible repeat (first | refine blk_drewN ?_ _ | refine blk_drew ?_ | refine blk_alloc ?_ _)); exact BK201.out) hb); have n2_ := Aside0.mk (blk_below (g := gb202) (o := .cells #[.bool a1_0, .int .u64 a1_1, .int .u64 a1_2] 24 (0, 0)) (by (with_reducible repeat (first | refine blk_drewN ?_ _ | refine blk_drew ?_ | refine blk_alloc ?_ _)); exact BK202.out) hb); have n3_ := Aside0.mk (below_step (by repeat (first | (with_reducible first | exact HB.out | apply below_alloc | apply pw_below_drewN | apply below_drew1 | refine below_set ?_ GE201.out | refine below_set ?_ GE202.out) | exact HB.out)) hb); clear HO_9; clear BK201; clear BK202; clear HB; have HO_9 := n0_; have BK201 := n1_; have BK202 := n2_; have HB := n3_; clear n0_ n1_ n2_ n3_; (try clear hb); (try clear hb2); (try clear hk); (try clear hi); obtain ⟨Ao84, co84, eo84⟩ := Kd.R_slice HO_9.out; subst eo84; have p214 : 0 ≤ (3 : Int) := (by omega); have q214 : 3 < (t208.length : Int) := of_decide_eq_true (by first | (with_reducible assumption) | assumption); obtain ⟨ad214, e214, hx214_0⟩ := Kd.at_string (Kd.R_reads' HO_9.out).2.2 3 p214 q214; cases e214; (try simp only [show (3 : Int).toNat = 3 from rfl, Nat.reduceMul, Nat.reduceEqDiff, Go.Addr.add, ↓reduceIte] at hx214_0); have qi214 : (3 < t208.length) = True := eq_true (by omega); (try rw [show ((3 : Int)).toNat = 3 from rfl] at hx214_0); replace p214 := eq_true p214; replace q214 := eq_true q214; have p215 : 0 ≤ (2 : Int) := (by omega); have q215 : 2 < (t208.length : Int) := of_decide_eq_true (by first | (with_reducible assumption) | assumption); obtain ⟨ad215, e215, hx215_0⟩ := Kd.at_string (Kd.R_reads' HO_9.out).2.2 2 p215 q215; obtain rfl : ad214 = ad215 := (by injection e215); (try simp only [show (2 : Int).toNat = 2 from rfl, Nat.reduceMul, Nat.reduceEqDiff, Go.Addr.add, ↓reduceIte] at hx215_0); have qi215 : (2 < t208.length) = True := eq_true (by omega); (try rw [show ((2 : Int)).toNat = 2 from rfl] at hx215_0); replace p215 := eq_true p215; replace q215 := eq_true q215; have p216 : 0 ≤ (1 : Int) := (by omega); have q216 : 1 < (t208.length : Int) := of_decide_eq_true (by first | (with_reducible assumption) | assumption); obtain ⟨ad216, e216, hx216_0⟩ := Kd.at_string (Kd.R_reads' HO_9.out).2.2 1 p216 q216; obtain rfl : ad214 = ad216 := (by injection e216); (try simp only [show (1 : Int).toNat = 1 from rfl, Nat.reduceMul, Nat.reduceEqDiff, Go.Addr.add, ↓reduceIte] at hx216_0); have qi216 : (1 < t208.length) = True := eq_true (by omega); (try rw [show ((1 : Int)).toNat = 1 from rfl] at hx216_0); replace p216 := eq_true p216; replace q216 := eq_true q216; have p217 : 0 ≤ (0 : Int) := (by omega); have q217 : 0 < (t208.length : Int) := of_decide_eq_true (by first | (with_reducible assumption) | assumption); obtain ⟨ad217, e217, hx217_0⟩ := Kd.at_string (Kd.R_reads' HO_9.out).2.2 0 p217 q217; obtain rfl : ad214 = ad217 := (by injection e217); have qi217 : (0 < t208.length) = True := eq_true (by omega); (try rw [show ((0 : Int)).toNat = 0 from rfl] at hx217_0); (try rw [Addr.add_zero'] at hx217_0); replace p217 := eq_true p217; replace q217 := eq_true q217; have p218 : 0 ≤ (4 : Int) := (by omega); have q218 : 4 < (t208.length : Int) := of_decide_eq_true (by first | (with_reducible assumption) | assumption); obtain ⟨ad218, e218, hx218_0⟩ := Kd.at_string (Kd.R_reads' HO_9.out).2.2 4 p218 q218; obtain rfl : ad214 = ad218 := (by injection e218); (try simp only [show (4 : Int).toNat = 4 from rfl, Nat.reduceMul, Nat.reduceEqDiff, Go.Addr.add, ↓reduceIte] at hx218_0); have qi218 : (4 < t208.length) = True := eq_true (by omega); (try rw [show ((4 : Int)).toNat = 4 from rfl] at hx218_0); replace p218 := eq_true p218; replace q218 := eq_true q218))
                                          repeat (go_quiet (first | (go_at_call 38; (with_reducible refine (addr_Text.calls kj18 false a0_1 a0_2 t212 t213 _ ⟨hG_.out.below (by repeat (first | (with_reducible first | exact HB.out | apply below_alloc | apply pw_below_drewN | apply below_drew1 | refine below_set ?_ GE201.out | refine below_set ?_ GE202.out | refine below_set ?_ GE224.out) | exact HB.out | exact Below.refl _ _))⟩ A68.out).mono ?_); rintro e w83 ⟨rfl, hb⟩; have n0_ := Aside0.mk (Kd.R_below (by (with_reducible repeat (first | apply Kd.R_alloc | apply Kd.R_drewN | apply Kd.R_drew)); exact HO_9.out) hb); have n1_ := Aside0.mk (blk_below (g := gb201) (o := .cells #[.bool false, .int .u64 a0_1, .int .u64 a0_2] 24 (0, 0)) (by (with_reducible repeat (first | refine blk_drewN ?_ _ | refine blk_drew ?_ | refine blk_alloc ?_ _)); exact BK201.out) hb); have n2_ := Aside0.mk (blk_below (g := gb202) (o := .cells #[.bool a1_0, .int .u64 a1_1, .int .u64 a1_2] 24 (0, 0)) (by (with_reducible repeat (first | refine blk_drewN ?_ _ | refine blk_drew ?_ | refine blk_alloc ?_ _)); exact BK202.out) hb); have n3_ := Aside0.mk (below_step (by repeat (first | (with_reducible first | exact HB.out | apply below_alloc | apply pw_below_drewN | apply below_drew1 | refine below_set ?_ GE201.out | refine below_set ?_ GE202.out) | exact HB.out)) hb); clear HO_9; clear BK201; clear BK202; clear HB; have HO_9 := n0_; have BK201 := n1_; have BK202 := n2_; have HB := n3_; clear n0_ n1_ n2_ n3_; (try clear hb); (try clear hb2); (try clear hk); (try clear hi); obtain ⟨Ao84, co84, eo84⟩ := Kd.R_slice HO_9.out; subst eo84; have p214 : 0 ≤ (3 : Int) := (by omega); have q214 : 3 < (t208.length : Int) := of_decide_eq_true (by first | (with_reducible assumption) | assumption); obtain ⟨ad214, e214, hx214_0⟩ := Kd.at_string (Kd.R_reads' HO_9.out).2.2 3 p214 q214; cases e214; (try simp only [show (3 : Int).toNat = 3 from rfl, Nat.reduceMul, Nat.reduceEqDiff, Go.Addr.add, ↓reduceIte] at hx214_0); have qi214 : (3 < t208.length) = True := eq_true (by omega); (try rw [show ((3 : Int)).toNat = 3 from rfl] at hx214_0); replace p214 := eq_true p214; replace q214 := eq_true q214; have p215 : 0 ≤ (2 : Int) := (by omega); have q215 : 2 < (t208.length : Int) := of_decide_eq_true (by first | (with_reducible assumption) | assumption); obtain ⟨ad215, e215, hx215_0⟩ := Kd.at_string (Kd.R_reads' HO_9.out).2.2 2 p215 q215; obtain rfl : ad214 = ad215 := (by injection e215); (try simp only [show (2 : Int).toNat = 2 from rfl, Nat.reduceMul, Nat.reduceEqDiff, Go.Addr.add, ↓reduceIte] at hx215_0); have qi215 : (2 < t208.length) = True := eq_true (by omega); (try rw [show ((2 : Int)).toNat = 2 from rfl] at hx215_0); replace p215 := eq_true p215; replace q215 := eq_true q215; have p216 : 0 ≤ (1 : Int) := (by omega); have q216 : 1 < (t208.length : Int) := of_decide_eq_true (by first | (with_reducible assumption) | assumption); obtain ⟨ad216, e216, hx216_0⟩ := Kd.at_string (Kd.R_reads' HO_9.out).2.2 1 p216 q216; obtain rfl : ad214 = ad216 := (by injection e216); (try simp only [show (1 : Int).toNat = 1 from rfl, Nat.reduceMul, Nat.reduceEqDiff, Go.Addr.add, ↓reduceIte] at hx216_0); have qi216 : (1 < t208.length) = True := eq_true (by omega); (try rw [show ((1 : Int)).toNat = 1 from rfl] at hx216_0); replace p216 := eq_true p216; replace q216 := eq_true q216; have p217 : 0 ≤ (0 : Int) := (by omega); have q217 : 0 < (t208.length : Int) := of_decide_eq_true (by first | (with_reducible assumption) | assumption); obtain ⟨ad217, e217, hx217_0⟩ := Kd.at_string (Kd.R_reads' HO_9.out).2.2 0 p217 q217; obtain rfl : ad214 = ad217 := (by injection e217); have qi217 : (0 < t208.length) = True := eq_true (by omega); (try rw [show ((0 : Int)).toNat = 0 from rfl] at hx217_0); (try rw [Addr.add_zero'] at hx217_0); replace p217 := eq_true p217; replace q217 := eq_true q217; have p218 : 0 ≤ (4 : Int) := (by omega); have q218 : 4 < (t208.length : Int) := of_decide_eq_true (by first | (with_reducible assumption) | assumption); obtain ⟨ad218, e218, hx218_0⟩ := Kd.at_string (Kd.R_reads' HO_9.out).2.2 4 p218 q218; obtain rfl : ad214 = ad218 := (by injection e218); (try simp only [show (4 : Int).toNat = 4 from rfl, Nat.reduceMul, Nat.reduceEqDiff, Go.Addr.add, ↓reduceIte] at hx218_0); have qi218 : (4 < t208.length) = True := eq_true (by omega); (try rw [show ((4 : Int)).toNat = 4 from rfl] at hx218_0); replace p218 := eq_true p218; replace q218 := eq_true q218)); try go_wp2_with (first | (go_at_call 38; (with_reducible refine (addr_Text.calls kj18 false a0_1 a0_2 t212 t213 _ ⟨hG_.out.below (by repeat (first | (with_reducible first | exact HB.out | apply below_alloc | apply pw_below_drewN | apply below_drew1 | refine below_set ?_ GE201.out | refine below_set ?_ GE202.out | refine below_set ?_ GE224.out) | exact HB.out | exact Below.refl _ _))⟩ A68.out).mono ?_); rintro e w83 ⟨rfl, hb⟩; have n0_ := Aside0.mk (Kd.R_below (by (with_reducible repeat (first | apply Kd.R_alloc | apply Kd.R_drewN | apply Kd.R_drew)); exact HO_9.out) hb); have n1_ := Aside0.mk (blk_below (g := gb201) (o := .cells #[.bool false, .int .u64 a0_1, .int .u64 a0_2] 24 (0, 0)) (by (with_reducible repeat (first | refine blk_drewN ?_ _ | refine blk_drew ?_ | refine blk_alloc ?_ _)); exact BK201.out) hb); have n2_ := Aside0.mk (blk_below (g := gb202) (o := .cells #[.bool a1_0, .int .u64 a1_1, .int .u64 a1_2] 24 (0, 0)) (by (with_reducible repeat (first | refine blk_drewN ?_ _ | refine blk_drew ?_ | refine blk_alloc ?_ _)); exact BK202.out) hb); have n3_ := Aside0.mk (below_step (by repeat (first | (with_reducible first | exact HB.out | apply below_alloc | apply pw_below_drewN | apply below_drew1 | refine below_set ?_ GE201.out | refine below_set ?_ GE202.out) | exact HB.out)) hb); clear HO_9; clear BK201; clear BK202; clear HB; have HO_9 := n0_; have BK201 := n1_; have BK202 := n2_; have HB := n3_; clear n0_ n1_ n2_ n3_; (try clear hb); (try clear hb2); (try clear hk); (try clear hi); obtain ⟨Ao84, co84, eo84⟩ := Kd.R_slice HO_9.out; subst eo84; have p214 : 0 ≤ (3 : Int) := (by omega); have q214 : 3 < (t208.length : Int) := of_decide_eq_true (by first | (with_reducible assumption) | assumption); obtain ⟨ad214, e214, hx214_0⟩ := Kd.at_string (Kd.R_reads' HO_9.out).2.2 3 p214 q214; cases e214; (try simp only [show (3 : Int).toNat = 3 from rfl, Nat.reduceMul, Nat.reduceEqDiff, Go.Addr.add, ↓reduceIte] at hx214_0); have qi214 : (3 < t208.length) = True := eq_true (by omega); (try rw [show ((3 : Int)).toNat = 3 from rfl] at hx214_0); replace p214 := eq_true p214; replace q214 := eq_true q214; have p215 : 0 ≤ (2 : Int) := (by omega); have q215 : 2 < (t208.length : Int) := of_decide_eq_true (by first | (with_reducible assumption) | assumption); obtain ⟨ad215, e215, hx215_0⟩ := Kd.at_string (Kd.R_reads' HO_9.out).2.2 2 p215 q215; obtain rfl : ad214 = ad215 := (by injection e215); (try simp only [show (2 : Int).toNat = 2 from rfl, Nat.reduceMul, Nat.reduceEqDiff, Go.Addr.add, ↓reduceIte] at hx215_0); have qi215 : (2 < t208.length) = True := eq_true (by omega); (try rw [show ((2 : Int)).toNat = 2 from rfl] at hx215_0); replace p215 := eq_true p215; replace q215 := eq_true q215; have p216 : 0 ≤ (1 : Int) := (by omega); have q216 : 1 < (t208.length : Int) := of_decide_eq_true (by first | (with_reducible assumption) | assumption); obtain ⟨ad216, e216, hx216_0⟩ := Kd.at_string (Kd.R_reads' HO_9.out).2.2 1 p216 q216; obtain rfl : ad214 = ad216 := (by injection e216); (try simp only [show (1 : Int).toNat = 1 from rfl, Nat.reduceMul, Nat.reduceEqDiff, Go.Addr.add, ↓reduceIte] at hx216_0); have qi216 : (1 < t208.length) = True := eq_true (by omega); (try rw [show ((1 : Int)).toNat = 1 from rfl] at hx216_0); replace p216 := eq_true p216; replace q216 := eq_true q216; have p217 : 0 ≤ (0 : Int) := (by omega); have q217 : 0 < (t208.length : Int) := of_decide_eq_true (by first | (with_reducible assumption) | assumption); obtain ⟨ad217, e217, hx217_0⟩ := Kd.at_string (Kd.R_reads' HO_9.out).2.2 0 p217 q217; obtain rfl : ad214 = ad217 := (by injection e217); have qi217 : (0 < t208.length) = True := eq_true (by omega); (try rw [show ((0 : Int)).toNat = 0 from rfl] at hx217_0); (try rw [Addr.add_zero'] at hx217_0); replace p217 := eq_true p217; replace q217 := eq_true q217; have p218 : 0 ≤ (4 : Int) := (by omega); have q218 : 4 < (t208.length : Int) := of_decide_eq_true (by first | (with_reducible assumption) | assumption); obtain ⟨ad218, e218, hx218_0⟩ := Kd.at_string (Kd.R_reads' HO_9.out).2.2 4 p218 q218; obtain rfl : ad214 = ad218 := (by injection e218); (try simp only [show (4 : Int).toNat = 4 from rfl, Nat.reduceMul, Nat.reduceEqDiff, Go.Addr.add, ↓reduceIte] at hx218_0); have qi218 : (4 < t208.length) = True := eq_true (by omega); (try rw [show ((4 : Int)).toNat = 4 from rfl] at hx218_0); replace p218 := eq_true p218; replace q218 := eq_true q218)))
                                          go_ret
                                          exact ⟨by first | rfl | (simp [errW_none, errW_some] <;> rfl) | (simp [*, errW_none, errW_some] <;> rfl), by repeat (first | (with_reducible first | exact HB.out | apply below_alloc | apply pw_below_drewN | apply below_drew1 | refine below_set ?_ GE201.out | refine below_set ?_ GE202.out) | exact HB.out)⟩
                                        · rw [if_neg c80] at H
                                          exact absurd H (by simp)
                                      · rw [if_neg c79] at H
                                        have c79b0 : ((((((((rdOf ByteArray.empty t208 3) ++ (⟨#[46]⟩ : ByteArray)) ++ (rdOf ByteArray.empty t208 2)) ++ (⟨#[46]⟩ : ByteArray)) ++ (rdOf ByteArray.empty t208 1)) ++ (⟨#[46]⟩ : ByteArray)) ++ (rdOf ByteArray.empty t208 0)).toList == t212.toList) = false := beq_eq_false_iff_ne.mpr c79
                                        have c79b1 : ((((((((rdOf ByteArray.empty t208 3) ++ (⟨#[46]⟩ : ByteArray)) ++ (rdOf ByteArray.empty t208 2)) ++ (⟨#[46]⟩ : ByteArray)) ++ (rdOf ByteArray.empty t208 1)) ++ (⟨#[46]⟩ : ByteArray)) ++ (rdOf ByteArray.empty t208 0)).toList != t212.toList) = true := bne_iff_ne.mpr c79
                                        exact absurd ((Option.some.inj H).trans hr_.out) (by decide)
                                    · rw [if_neg c78] at H
                                      exact absurd H (by simp)
                                  · rw [if_neg c77] at H
                                    exact absurd H (by simp)
                                · rw [if_neg c76] at H
                                  exact absurd H (by simp)
                              · rw [if_neg c75] at H
                                exact absurd H (by simp)
                            · rw [if_neg c74] at H
                              exact absurd H (by simp)
                          · rw [if_neg c73] at H
                            exact absurd H (by simp)
                        · rw [if_neg c72] at H
                          exact absurd H (by simp)
                      · rw [if_neg c71] at H
                        exact absurd H (by simp)
                    · rw [if_neg c70] at H
                      exact absurd H (by simp)
                  · rw [if_neg c69] at H
                    exact absurd H (by simp)
  · replace c4 := Bool.eq_false_iff.mpr c4
    subst c4
    have H1 : (some false) = some r := by rw [if_neg (show ¬ (false = true) by decide)] at H; exact H
    clear H
    have H := H1
    clear H1
    exact absurd ((Option.some.inj H).trans hr_.out) (by decide)

end Go.Proofs.YtilobbjnmnnmnaaGreatDoor.ORev
