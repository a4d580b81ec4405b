/- This text proves, for each Go function named below, which plain Lean function its call computes, in whatever memory; a program of this session has written it. -/
import Derived.Test.YtilobbjnmnnmnaaGreatDoorOBackx0
import Derived.Test.YtilobbjnmnnmnaaGreatDoorOBackx1
import Derived.Test.YtilobbjnmnnmnaaGreatDoorOBackx2
import Derived.Test.YtilobbjnmnnmnaaGreatDoorOBackx4
import Derived.Test.YtilobbjnmnnmnaaGreatDoorOBackx5
import Derived.Test.YtilobbjnmnnmnaaGreatDoorOBackx6
import Derived.Test.YtilobbjnmnnmnaaGreatDoorOBackx7
import Derived.Test.YtilobbjnmnnmnaaGreatDoorOBackx8
import Derived.Test.YtilobbjnmnnmnaaGreatDoorOBackx9
import Derived.Test.YtilobbjnmnnmnaaGreatDoorOBackx10
namespace Go.Proofs.YtilobbjnmnnmnaaGreatDoor.OBack
open Go.RowKit Go.Proofs.YtilobbjnmnnmnaaGreatDoorW.PrintWords Go.Proofs.YtilobbjnmnnmnaaGreatDoorW.PrintLast Go.Proofs.YtilobbjnmnnmnaaGreatDoorW.PrintMore
attribute [local go_sem] max2_int min2_int max_two min_two max_three min_three max_four min_four   -- for this text's walks alone
set_option linter.unusedVariables false
set_option linter.unusedSimpArgs false

attribute [local go_sem high] eqA24 eqA26
/-! ### nameplatelaw05_RangesBack: function 5 -/
mutual
def nameplatelaw05_RangesBack.j0 : Nat → Int → Int → Bool → Bool → Int → Int → Int → Option (Bool)
 | 0, _, _, _, _, _, _, _ => none
 | k + 1, x1, x9, x72, x232000, x232001, x232002, x232003 => if x72 = true then (some false) else ((nameplatekit_Pick.f x1 x9).bind fun t245 => ((ranges_At.f x232000 x232001 x232002 x232003 t245).bind fun bt246 => ((ranges_Index.f x232000 x232001 x232002 x232003 bt246.1 bt246.2.1 bt246.2.2.1).bind fun bt251 => ((ranges_At.f x232000 x232001 x232002 x232003 0).bind fun bt253 => ((ranges_At.f x232000 x232001 x232002 x232003 (wrap64 (x9 - 1))).bind fun bt258 => ((ranges_At.f x232000 x232001 x232002 x232003 x9).bind fun bt263 => (if bt246.2.2.2 = true then (if bt251.2 = true then (if bt251.1 = t245 then (if bt253.2.2.2 = true then (if (!(bt253.1 == x232000) || (!(bt253.2.1 == x232001) || (!(bt253.2.2.1 == x232002)))) = true then (nameplatelaw05_RangesBack.j1 k x9 true x232000 x232001 x232002 x232003 bt258.1 bt258.2.1 bt258.2.2.1) else (if bt258.2.2.2 = true then (if bt263.2.2.2 = true then (nameplatelaw05_RangesBack.j1 k x9 true x232000 x232001 x232002 x232003 bt258.1 bt258.2.1 bt258.2.2.1) else ((ranges_Has.f x232000 x232001 x232002 x232003 bt246.1 bt246.2.1 bt246.2.2.1).bind fun t268 => (if t268 = true then ((ranges_Has.f x232000 x232001 x232002 x232003 bt258.1 bt258.2.1 bt258.2.2.1).bind fun t269 => (nameplatelaw05_RangesBack.j1 k x9 (!t269) x232000 x232001 x232002 x232003 bt258.1 bt258.2.1 bt258.2.2.1)) else (nameplatelaw05_RangesBack.j1 k x9 true x232000 x232001 x232002 x232003 bt258.1 bt258.2.1 bt258.2.2.1)))) else (nameplatelaw05_RangesBack.j1 k x9 true x232000 x232001 x232002 x232003 bt258.1 bt258.2.1 bt258.2.2.1))) else (nameplatelaw05_RangesBack.j1 k x9 true x232000 x232001 x232002 x232003 bt258.1 bt258.2.1 bt258.2.2.1)) else (nameplatelaw05_RangesBack.j1 k x9 true x232000 x232001 x232002 x232003 bt258.1 bt258.2.1 bt258.2.2.1)) else (nameplatelaw05_RangesBack.j1 k x9 true x232000 x232001 x232002 x232003 bt258.1 bt258.2.1 bt258.2.2.1)) else (nameplatelaw05_RangesBack.j1 k x9 true x232000 x232001 x232002 x232003 bt258.1 bt258.2.1 bt258.2.2.1))))))))
def nameplatelaw05_RangesBack.j1 : Nat → Int → Bool → Bool → Int → Int → Int → Bool → Int → Int → Option (Bool)
 | 0, _, _, _, _, _, _, _, _, _ => none
 | k + 1, x9, x145, x232000, x232001, x232002, x232003, x263000, x263001, x263002 => if x145 = true then (some false) else ((addr_Add.f x263000 x263001 x263002 1).bind fun bt270 => (if bt270.2.2.2 = true then (if x9 = 65536 then (some true) else ((ranges_Has.f x232000 x232001 x232002 x232003 bt270.1 bt270.2.1 bt270.2.2.1).bind fun t275 => (some (!t275)))) else (some true)))
end
def nameplatelaw05_RangesBack.f (k : Nat) (a0_0 : Bool) (a0_1 : Int) (a0_2 : Int) (a0_3 : Int) (a1 : Int) : Option (Bool) := (nameplatelaw05_lives.f k).bind fun t232 => (if t232 = true then ((ranges_Text.f k a0_0 a0_1 a0_2 a0_3).bind fun bt233 => (if bt233.2 = 0 then ((ranges_Read.f k bt233.1).bind fun bt238 => ((ranges_Size.f a0_0 a0_1 a0_2 a0_3).bind fun t244 => (if bt238.2.2.2.2 = 0 then (if ((!(bt238.1 == a0_0) || (!(bt238.2.1 == a0_1) || (!(bt238.2.2.1 == a0_2)))) || (!(bt238.2.2.2.1 == a0_3))) = true then (nameplatelaw05_RangesBack.j0 k a1 t244 true a0_0 a0_1 a0_2 a0_3) else (if t244 < 1 then (nameplatelaw05_RangesBack.j0 k a1 t244 true a0_0 a0_1 a0_2 a0_3) else (nameplatelaw05_RangesBack.j0 k a1 t244 (decide (t244 > 65536)) a0_0 a0_1 a0_2 a0_3))) else (nameplatelaw05_RangesBack.j0 k a1 t244 true a0_0 a0_1 a0_2 a0_3)))) else ((ranges_Check.f a0_0 a0_1 a0_2 a0_3).bind fun t235 => (if bt233.2 = t235 then (if bt233.1.toList = ([] : List UInt8) then ((ranges_Size.f a0_0 a0_1 a0_2 a0_3).bind fun t236 => (if t236 = 0 then ((ranges_Has.f a0_0 a0_1 a0_2 a0_3 a0_0 a0_1 a0_2).bind fun t237 => (some (!t237))) else (some false))) else (some false)) else (some false))))) else (some false))
theorem nameplatelaw05_RangesBack.mono_l : ∀ k, (∀ y0 y1 y2 y3 y4 y5 y6, LeO (nameplatelaw05_RangesBack.j0 k y0 y1 y2 y3 y4 y5 y6) (nameplatelaw05_RangesBack.j0 (k + 1) y0 y1 y2 y3 y4 y5 y6)) ∧ (∀ y0 y1 y2 y3 y4 y5 y6 y7 y8, LeO (nameplatelaw05_RangesBack.j1 k y0 y1 y2 y3 y4 y5 y6 y7 y8) (nameplatelaw05_RangesBack.j1 (k + 1) y0 y1 y2 y3 y4 y5 y6 y7 y8))
 | 0 => ⟨fun _ _ _ _ _ _ _ r h => by simp [nameplatelaw05_RangesBack.j0] at h, fun _ _ _ _ _ _ _ _ _ r h => by simp [nameplatelaw05_RangesBack.j1] at h⟩
 | k + 1 => by
  obtain ⟨ih0, ih1⟩ := nameplatelaw05_RangesBack.mono_l k
  refine ⟨?_, ?_⟩
  ·intro y0 y1 y2 y3 y4 y5 y6
   unfold nameplatelaw05_RangesBack.j0
   repeat' first
   | (with_reducible exact ih0 _ _ _ _ _ _ _)
   | (with_reducible exact ih1 _ _ _ _ _ _ _ _ _)
   | (with_reducible exact nameplatelaw05_lives.mono _)
   | (with_reducible exact ranges_Read.mono _ _)
   | (with_reducible exact ranges_Text.mono _ _ _ _ _)
   | (with_reducible exact LeO.refl _)
   | (with_reducible exact LeO.none _)
   | (with_reducible refine LeO.ite ?_ ?_)
   | (with_reducible refine LeO.bind ?_ (fun _ => ?_))
   | exact ih0 _ _ _ _ _ _ _
   | exact ih1 _ _ _ _ _ _ _ _ _
   | exact nameplatelaw05_lives.mono _
   | exact ranges_Read.mono _ _
   | exact ranges_Text.mono _ _ _ _ _
   | exact LeO.none _
   | refine LeO.ite ?_ ?_
   | refine LeO.bind ?_ (fun _ => ?_)
  ·intro y0 y1 y2 y3 y4 y5 y6 y7 y8
   unfold nameplatelaw05_RangesBack.j1
   repeat' first
   | (with_reducible exact ih0 _ _ _ _ _ _ _)
   | (with_reducible exact ih1 _ _ _ _ _ _ _ _ _)
   | (with_reducible exact nameplatelaw05_lives.mono _)
   | (with_reducible exact ranges_Read.mono _ _)
   | (with_reducible exact ranges_Text.mono _ _ _ _ _)
   | (with_reducible exact LeO.refl _)
   | (with_reducible exact LeO.none _)
   | (with_reducible refine LeO.ite ?_ ?_)
   | (with_reducible refine LeO.bind ?_ (fun _ => ?_))
   | exact ih0 _ _ _ _ _ _ _
   | exact ih1 _ _ _ _ _ _ _ _ _
   | exact nameplatelaw05_lives.mono _
   | exact ranges_Read.mono _ _
   | exact ranges_Text.mono _ _ _ _ _
   | exact LeO.none _
   | refine LeO.ite ?_ ?_
   | refine LeO.bind ?_ (fun _ => ?_)
theorem nameplatelaw05_RangesBack.mono : ∀ a0 a1 a2 a3 a4 k, LeO (nameplatelaw05_RangesBack.f k a0 a1 a2 a3 a4) (nameplatelaw05_RangesBack.f (k + 1) a0 a1 a2 a3 a4) := by
 intro a0 a1 a2 a3 a4 k
 obtain ⟨ih0, ih1⟩ := nameplatelaw05_RangesBack.mono_l k
 unfold nameplatelaw05_RangesBack.f
 repeat' first
   | (with_reducible exact ih0 _ _ _ _ _ _ _)
   | (with_reducible exact ih1 _ _ _ _ _ _ _ _ _)
   | (with_reducible exact nameplatelaw05_lives.mono _)
   | (with_reducible exact ranges_Read.mono _ _)
   | (with_reducible exact ranges_Text.mono _ _ _ _ _)
   | (with_reducible exact LeO.refl _)
   | (with_reducible exact LeO.none _)
   | (with_reducible refine LeO.ite ?_ ?_)
   | (with_reducible refine LeO.bind ?_ (fun _ => ?_))
   | exact ih0 _ _ _ _ _ _ _
   | exact ih1 _ _ _ _ _ _ _ _ _
   | exact nameplatelaw05_lives.mono _
   | exact ranges_Read.mono _ _
   | exact ranges_Text.mono _ _ _ _ _
   | exact LeO.none _
   | refine LeO.ite ?_ ?_
   | refine LeO.bind ?_ (fun _ => ?_)
set_option maxHeartbeats 8000000 in
set_option maxRecDepth 100000 in
theorem nameplatelaw05_RangesBack.calls (k : Nat) (a0_0 : Bool) (a0_1 : Int) (a0_2 : Int) (a0_3 : Int) (a1 : Int) (r : Bool) (w : World) (hG_ : Aside0 (AddrLib.G w)) (hr_ : Aside0 (r = true)) (h : nameplatelaw05_RangesBack.f k a0_0 a0_1 a0_2 a0_3 a1 = some r) :
  Calls Tryz.prog 5 #[.agg #[.bool a0_0, .int .u64 a0_1, .int .u64 a0_2, .int .i64 a0_3], .int .i64 a1] w fun e w' => e = .returned (.bool r) ∧ Below w.heap.size w w' := by
 have hu26 := Tryz.underlying26
 have hu24 := Tryz.underlying24
 have HB := Aside0.mk (Below.refl w.heap.size w)
 have H : ((nameplatelaw05_lives.f k).bind fun t232 => (if t232 = true then ((ranges_Text.f k a0_0 a0_1 a0_2 a0_3).bind fun bt233 => (if bt233.2 = 0 then ((ranges_Read.f k bt233.1).bind fun bt238 => ((ranges_Size.f a0_0 a0_1 a0_2 a0_3).bind fun t244 => (if bt238.2.2.2.2 = 0 then (if ((!(bt238.1 == a0_0) || (!(bt238.2.1 == a0_1) || (!(bt238.2.2.1 == a0_2)))) || (!(bt238.2.2.2.1 == a0_3))) = true then (nameplatelaw05_RangesBack.j0 k a1 t244 true a0_0 a0_1 a0_2 a0_3) else (if t244 < 1 then (nameplatelaw05_RangesBack.j0 k a1 t244 true a0_0 a0_1 a0_2 a0_3) else (nameplatelaw05_RangesBack.j0 k a1 t244 (decide (t244 > 65536)) a0_0 a0_1 a0_2 a0_3))) else (nameplatelaw05_RangesBack.j0 k a1 t244 true a0_0 a0_1 a0_2 a0_3)))) else ((ranges_Check.f a0_0 a0_1 a0_2 a0_3).bind fun t235 => (if bt233.2 = t235 then (if bt233.1.toList = ([] : List UInt8) then ((ranges_Size.f a0_0 a0_1 a0_2 a0_3).bind fun t236 => (if t236 = 0 then ((ranges_Has.f a0_0 a0_1 a0_2 a0_3 a0_0 a0_1 a0_2).bind fun t237 => (some (!t237))) else (some false))) else (some false)) else (some false))))) else (some false))) = some r := h
 clear h
 replace H := Option.bind_eq_some_iff.mp H
 obtain ⟨t232, A30, H⟩ := H
 replace H : (if t232 = true then ((ranges_Text.f k a0_0 a0_1 a0_2 a0_3).bind fun bt233 => (if bt233.2 = 0 then ((ranges_Read.f k bt233.1).bind fun bt238 => ((ranges_Size.f a0_0 a0_1 a0_2 a0_3).bind fun t244 => (if bt238.2.2.2.2 = 0 then (if ((!(bt238.1 == a0_0) || (!(bt238.2.1 == a0_1) || (!(bt238.2.2.1 == a0_2)))) || (!(bt238.2.2.2.1 == a0_3))) = true then (nameplatelaw05_RangesBack.j0 k a1 t244 true a0_0 a0_1 a0_2 a0_3) else (if t244 < 1 then (nameplatelaw05_RangesBack.j0 k a1 t244 true a0_0 a0_1 a0_2 a0_3) else (nameplatelaw05_RangesBack.j0 k a1 t244 (decide (t244 > 65536)) a0_0 a0_1 a0_2 a0_3))) else (nameplatelaw05_RangesBack.j0 k a1 t244 true a0_0 a0_1 a0_2 a0_3)))) else ((ranges_Check.f a0_0 a0_1 a0_2 a0_3).bind fun t235 => (if bt233.2 = t235 then (if bt233.1.toList = ([] : List UInt8) then ((ranges_Size.f a0_0 a0_1 a0_2 a0_3).bind fun t236 => (if t236 = 0 then ((ranges_Has.f a0_0 a0_1 a0_2 a0_3 a0_0 a0_1 a0_2).bind fun t237 => (some (!t237))) else (some false))) else (some false)) else (some false))))) else (some false)) = some r := H
 have A3 := Aside0.mk A30
 clear A30
 by_cases c4 : t232 = true
 ·subst c4
  have H1 : ((ranges_Text.f k a0_0 a0_1 a0_2 a0_3).bind fun bt233 => (if bt233.2 = 0 then ((ranges_Read.f k bt233.1).bind fun bt238 => ((ranges_Size.f a0_0 a0_1 a0_2 a0_3).bind fun t244 => (if bt238.2.2.2.2 = 0 then (if ((!(bt238.1 == a0_0) || (!(bt238.2.1 == a0_1) || (!(bt238.2.2.1 == a0_2)))) || (!(bt238.2.2.2.1 == a0_3))) = true then (nameplatelaw05_RangesBack.j0 k a1 t244 true a0_0 a0_1 a0_2 a0_3) else (if t244 < 1 then (nameplatelaw05_RangesBack.j0 k a1 t244 true a0_0 a0_1 a0_2 a0_3) else (nameplatelaw05_RangesBack.j0 k a1 t244 (decide (t244 > 65536)) a0_0 a0_1 a0_2 a0_3))) else (nameplatelaw05_RangesBack.j0 k a1 t244 true a0_0 a0_1 a0_2 a0_3)))) else ((ranges_Check.f a0_0 a0_1 a0_2 a0_3).bind fun t235 => (if bt233.2 = t235 then (if bt233.1.toList = ([] : List UInt8) then ((ranges_Size.f a0_0 a0_1 a0_2 a0_3).bind fun t236 => (if t236 = 0 then ((ranges_Has.f a0_0 a0_1 a0_2 a0_3 a0_0 a0_1 a0_2).bind fun t237 => (some (!t237))) else (some false))) else (some false)) else (some false))))) = some r := by rw [if_pos rfl] at H; exact H
  clear H
  have H := H1
  clear H1
  replace H := Option.bind_eq_some_iff.mp H
  obtain ⟨⟨t233, t234⟩, A50, H⟩ := H
  replace H : (if t234 = 0 then ((ranges_Read.f k t233).bind fun bt238 => ((ranges_Size.f a0_0 a0_1 a0_2 a0_3).bind fun t244 => (if bt238.2.2.2.2 = 0 then (if ((!(bt238.1 == a0_0) || (!(bt238.2.1 == a0_1) || (!(bt238.2.2.1 == a0_2)))) || (!(bt238.2.2.2.1 == a0_3))) = true then (nameplatelaw05_RangesBack.j0 k a1 t244 true a0_0 a0_1 a0_2 a0_3) else (if t244 < 1 then (nameplatelaw05_RangesBack.j0 k a1 t244 true a0_0 a0_1 a0_2 a0_3) else (nameplatelaw05_RangesBack.j0 k a1 t244 (decide (t244 > 65536)) a0_0 a0_1 a0_2 a0_3))) else (nameplatelaw05_RangesBack.j0 k a1 t244 true a0_0 a0_1 a0_2 a0_3)))) else ((ranges_Check.f a0_0 a0_1 a0_2 a0_3).bind fun t235 => (if t234 = t235 then (if t233.toList = ([] : List UInt8) then ((ranges_Size.f a0_0 a0_1 a0_2 a0_3).bind fun t236 => (if t236 = 0 then ((ranges_Has.f a0_0 a0_1 a0_2 a0_3 a0_0 a0_1 a0_2).bind fun t237 => (some (!t237))) else (some false))) else (some false)) else (some false)))) = some r := H
  have A5 := Aside0.mk A50
  clear A50
  by_cases c6 : t234 = 0
  ·rw [if_pos c6] at H
   have c6b0 : (t234 == 0) = true := beq_iff_eq.mpr c6
   have c6b1 : (t234 != 0) = false := bne_eq_false_iff_eq.mpr c6
   clear c6
   replace H := Option.bind_eq_some_iff.mp H
   obtain ⟨⟨t238, t239, t240, t241, t242⟩, A70, H⟩ := H
   replace H : ((ranges_Size.f a0_0 a0_1 a0_2 a0_3).bind fun t244 => (if t242 = 0 then (if ((!(t238 == a0_0) || (!(t239 == a0_1) || (!(t240 == a0_2)))) || (!(t241 == a0_3))) = true then (nameplatelaw05_RangesBack.j0 k a1 t244 true a0_0 a0_1 a0_2 a0_3) else (if t244 < 1 then (nameplatelaw05_RangesBack.j0 k a1 t244 true a0_0 a0_1 a0_2 a0_3) else (nameplatelaw05_RangesBack.j0 k a1 t244 (decide (t244 > 65536)) a0_0 a0_1 a0_2 a0_3))) else (nameplatelaw05_RangesBack.j0 k a1 t244 true a0_0 a0_1 a0_2 a0_3))) = some r := H
   have A7 := Aside0.mk A70
   clear A70
   replace H := Option.bind_eq_some_iff.mp H
   obtain ⟨t244, A80, H⟩ := H
   replace H : (if t242 = 0 then (if ((!(t238 == a0_0) || (!(t239 == a0_1) || (!(t240 == a0_2)))) || (!(t241 == a0_3))) = true then (nameplatelaw05_RangesBack.j0 k a1 t244 true a0_0 a0_1 a0_2 a0_3) else (if t244 < 1 then (nameplatelaw05_RangesBack.j0 k a1 t244 true a0_0 a0_1 a0_2 a0_3) else (nameplatelaw05_RangesBack.j0 k a1 t244 (decide (t244 > 65536)) a0_0 a0_1 a0_2 a0_3))) else (nameplatelaw05_RangesBack.j0 k a1 t244 true a0_0 a0_1 a0_2 a0_3)) = some r := H
   have A8 := Aside0.mk A80
   clear A80
   have HC9 := Aside0.mk H
   clear H
   go_enter Tryz.func5, Tryz.ntmps5
   go_upto_region 8 with (first | ((with_reducible refine gate_dst (N := 2) rfl ?_); refine box_event ?hg (N := 2) ?hd (cs := #[.bool a0_0, .int .u64 a0_1, .int .u64 a0_2, .int .i64 a0_3]) (t := 26) ?hr ?_; (case hd => rfl); (case hg => rfl); (case hr => first | (go_simp; done) | (go_simp; rfl)); intro gb231 hg w10 hbox hb; have n0_ := Aside0.mk (below_step (by repeat (first | (with_reducible first | exact HB.out | apply below_alloc | apply pw_below_drewN | apply below_drew1) | exact HB.out)) hb); have n1_ := Aside0.mk (hbox); have n2_ := Aside0.mk ((by rw [hg]; exact (below_size (by repeat (first | (with_reducible first | exact HB.out | apply below_alloc | apply pw_below_drewN | apply below_drew1) | exact HB.out))) : w.heap.size ≤ gb231)); have n3_ := Aside0.mk ((by rw [hg]; exact (below_size (by repeat (first | (with_reducible first | exact HB.out | apply below_alloc | apply pw_below_drewN | apply below_drew1) | exact HB.out))) : w.heap.size ≤ gb231)); clear HB; have HB := n0_; have BK231 := n1_; have GW231 := n2_; have GE231 := n3_; clear n0_ n1_ n2_ n3_; clear hb hbox hg) | ((with_reducible refine gate_callee (f := 10) rfl ?_); refine goesL_ (some 22) rfl rfl Tryz.func10 (by kernel_rfl) rfl #[] rfl (by (try simp only [List.map_toArray, List.map_cons, List.map_nil]); first | done | rfl | (simp only [List.length_drop, List.length_take]; rfl)) ?_; (with_reducible refine (nameplatelaw05_lives.calls k  true _ ⟨hG_.out.below (by repeat (first | (with_reducible first | exact HB.out | apply below_alloc | apply pw_below_drewN | apply below_drew1 | refine below_set ?_ (by apply Aside0.out; assumption)) | exact HB.out | exact Below.refl _ _))⟩ A3.out).mono ?_); rintro e w11 ⟨rfl, hb⟩; refine ⟨_, rfl, ?_⟩; have n0_ := Aside0.mk (blk_below (g := gb231) (o := .cells #[.bool a0_0, .int .u64 a0_1, .int .u64 a0_2, .int .i64 a0_3] 26 (0, 0)) (by (with_reducible repeat (first | apply blk_drewN | apply blk_drew | apply blk_alloc)); exact BK231.out) hb); have n1_ := Aside0.mk (below_step (by repeat (first | (with_reducible first | exact HB.out | apply below_alloc | apply pw_below_drewN | apply below_drew1 | refine below_set ?_ (by apply Aside0.out; assumption)) | exact HB.out)) hb); clear BK231; clear HB; have BK231 := n0_; have HB := n1_; clear n0_ n1_; (try clear hb); (try clear hb2); (try clear hk); (try clear hi); have hcz12_0 : w11.cell? ⟨gb231, 0, none⟩ = some (.bool a0_0) := (blk_cell BK231.out 0).trans rfl; have hcz12_1 : w11.cell? ⟨gb231, 1, none⟩ = some (.int .u64 a0_1) := (blk_cell BK231.out 1).trans rfl; have hcz12_2 : w11.cell? ⟨gb231, 2, none⟩ = some (.int .u64 a0_2) := (blk_cell BK231.out 2).trans rfl; have hcz12_3 : w11.cell? ⟨gb231, 3, none⟩ = some (.int .i64 a0_3) := (blk_cell BK231.out 3).trans rfl; have hfz12_0 := blk_frozen BK231.out 0; have hfz12_1 := blk_frozen BK231.out 1; have hfz12_2 := blk_frozen BK231.out 2; have hfz12_3 := blk_frozen BK231.out 3) | ((with_reducible refine gate_callee (f := 21) rfl ?_); refine goesL_ (some 26) rfl rfl Tryz.func21 (by kernel_rfl) rfl #[.agg #[.bool a0_0, .int .u64 a0_1, .int .u64 a0_2, .int .i64 a0_3]] rfl (by (try simp only [List.map_toArray, List.map_cons, List.map_nil]); first | done | rfl | (simp only [List.length_drop, List.length_take]; rfl)) ?_; (with_reducible refine (ranges_Text.calls k a0_0 a0_1 a0_2 a0_3 t233 t234 _ ⟨hG_.out.below (by repeat (first | (with_reducible first | exact HB.out | apply below_alloc | apply pw_below_drewN | apply below_drew1 | refine below_set ?_ (by apply Aside0.out; assumption)) | exact HB.out | exact Below.refl _ _))⟩ A5.out).mono ?_); rintro e w13 ⟨rfl, hb⟩; refine ⟨_, rfl, ?_⟩; have n0_ := Aside0.mk (blk_below (g := gb231) (o := .cells #[.bool a0_0, .int .u64 a0_1, .int .u64 a0_2, .int .i64 a0_3] 26 (0, 0)) (by (with_reducible repeat (first | apply blk_drewN | apply blk_drew | apply blk_alloc)); exact BK231.out) hb); have n1_ := Aside0.mk (below_step (by repeat (first | (with_reducible first | exact HB.out | apply below_alloc | apply pw_below_drewN | apply below_drew1 | refine below_set ?_ (by apply Aside0.out; assumption)) | exact HB.out)) hb); clear BK231; clear HB; have BK231 := n0_; have HB := n1_; clear n0_ n1_; (try clear hb); (try clear hb2); (try clear hk); (try clear hi)) | ((with_reducible refine gate_callee (f := 22) rfl ?_); refine goesL_ (some 53) rfl rfl Tryz.func22 (by kernel_rfl) rfl #[.string t233] rfl (by (try simp only [List.map_toArray, List.map_cons, List.map_nil]); first | done | rfl | (simp only [List.length_drop, List.length_take]; rfl)) ?_; (with_reducible refine (ranges_Read.calls k t233 t238 t239 t240 t241 t242 _ ⟨hG_.out.below (by repeat (first | (with_reducible first | exact HB.out | apply below_alloc | apply pw_below_drewN | apply below_drew1 | refine below_set ?_ (by apply Aside0.out; assumption)) | exact HB.out | exact Below.refl _ _))⟩ A7.out).mono ?_); rintro e w14 ⟨rfl, hb⟩; refine ⟨_, rfl, ?_⟩; have n0_ := Aside0.mk (blk_below (g := gb231) (o := .cells #[.bool a0_0, .int .u64 a0_1, .int .u64 a0_2, .int .i64 a0_3] 26 (0, 0)) (by (with_reducible repeat (first | apply blk_drewN | apply blk_drew | apply blk_alloc)); exact BK231.out) hb); have n1_ := Aside0.mk (below_step (by repeat (first | (with_reducible first | exact HB.out | apply below_alloc | apply pw_below_drewN | apply below_drew1 | refine below_set ?_ (by apply Aside0.out; assumption)) | exact HB.out)) hb); clear BK231; clear HB; have BK231 := n0_; have HB := n1_; clear n0_ n1_; (try clear hb); (try clear hb2); (try clear hk); (try clear hi)) | ((with_reducible refine gate_dst (N := 7) rfl ?_); refine box_event ?hg (N := 7) ?hd (cs := #[.bool false, .int .u64 0, .int .u64 0, .int .i64 0]) (t := 26) ?hr ?_; (case hd => rfl); (case hg => rfl); (case hr => first | (go_simp; done) | (go_simp; rfl)); intro gb243 hg w15 hbox hb; have n0_ := Aside0.mk (blk_below (g := gb231) (o := .cells #[.bool a0_0, .int .u64 a0_1, .int .u64 a0_2, .int .i64 a0_3] 26 (0, 0)) (by (with_reducible repeat (first | apply blk_drewN | apply blk_drew | apply blk_alloc)); exact BK231.out) hb); have n1_ := Aside0.mk (below_step (by repeat (first | (with_reducible first | exact HB.out | apply below_alloc | apply pw_below_drewN | apply below_drew1 | refine below_set ?_ (by apply Aside0.out; assumption)) | exact HB.out)) hb); have n2_ := Aside0.mk (hbox); have n3_ := Aside0.mk ((by rw [hg]; exact (below_size (by repeat (first | (with_reducible first | exact HB.out | apply below_alloc | apply pw_below_drewN | apply below_drew1 | refine below_set ?_ (by apply Aside0.out; assumption)) | exact HB.out))) : w.heap.size ≤ gb243)); have n4_ := Aside0.mk ((by rw [hg]; exact (below_size (by repeat (first | (with_reducible first | exact HB.out | apply below_alloc | apply pw_below_drewN | apply below_drew1 | refine below_set ?_ (by apply Aside0.out; assumption)) | exact HB.out))) : w.heap.size ≤ gb243)); have n5_ := Aside0.mk ((by rw [hg]; exact Nat.ne_of_lt (blk_lt (g := gb231) (o := .cells #[.bool a0_0, .int .u64 a0_1, .int .u64 a0_2, .int .i64 a0_3] 26 (0, 0)) (by (with_reducible repeat (first | apply blk_drewN | apply blk_drew | apply blk_alloc)); exact BK231.out)) : gb231 ≠ gb243)); have n6_ := Aside0.mk ((by rw [hg]; exact Nat.ne_of_gt (blk_lt (g := gb231) (o := .cells #[.bool a0_0, .int .u64 a0_1, .int .u64 a0_2, .int .i64 a0_3] 26 (0, 0)) (by (with_reducible repeat (first | apply blk_drewN | apply blk_drew | apply blk_alloc)); exact BK231.out)) : gb243 ≠ gb231)); clear BK231; clear HB; have BK231 := n0_; have HB := n1_; have BK243 := n2_; have GW243 := n3_; have GE243 := n4_; have NB231_243 := n5_; have NB243_231 := n6_; clear n0_ n1_ n2_ n3_ n4_ n5_ n6_; clear hb hbox hg; have hnb16 := NB243_231.out; have hnc16 := NB231_243.out; have hcz17_0 : w15.cell? ⟨gb243, 0, none⟩ = some (.bool false) := (blk_cell BK243.out 0).trans rfl; have hcz17_1 : w15.cell? ⟨gb243, 1, none⟩ = some (.int .u64 0) := (blk_cell BK243.out 1).trans rfl; have hcz17_2 : w15.cell? ⟨gb243, 2, none⟩ = some (.int .u64 0) := (blk_cell BK243.out 2).trans rfl; have hcz17_3 : w15.cell? ⟨gb243, 3, none⟩ = some (.int .i64 0) := (blk_cell BK243.out 3).trans rfl; have hfz17_0 := blk_frozen BK243.out 0; have hfz17_1 := blk_frozen BK243.out 1; have hfz17_2 := blk_frozen BK243.out 2; have hfz17_3 := blk_frozen BK243.out 3; have hcz18_0 : w15.cell? ⟨gb231, 0, none⟩ = some (.bool a0_0) := (blk_cell BK231.out 0).trans rfl; have hcz18_1 : w15.cell? ⟨gb231, 1, none⟩ = some (.int .u64 a0_1) := (blk_cell BK231.out 1).trans rfl; have hcz18_2 : w15.cell? ⟨gb231, 2, none⟩ = some (.int .u64 a0_2) := (blk_cell BK231.out 2).trans rfl; have hcz18_3 : w15.cell? ⟨gb231, 3, none⟩ = some (.int .i64 a0_3) := (blk_cell BK231.out 3).trans rfl; have hfz18_0 := blk_frozen BK231.out 0; have hfz18_1 := blk_frozen BK231.out 1; have hfz18_2 := blk_frozen BK231.out 2; have hfz18_3 := blk_frozen BK231.out 3) | ((with_reducible refine gate_callee (f := 12) rfl ?_); refine goesL_ (some 57) rfl rfl Tryz.func12 (by kernel_rfl) rfl #[.agg #[.bool a0_0, .int .u64 a0_1, .int .u64 a0_2, .int .i64 a0_3]] rfl (by (try simp only [List.map_toArray, List.map_cons, List.map_nil]); first | done | rfl | (simp only [List.length_drop, List.length_take]; rfl)) ?_; (with_reducible refine (ranges_Size.calls a0_0 a0_1 a0_2 a0_3 t244 _ A8.out).mono ?_); rintro e w19 ⟨rfl, hb⟩; refine ⟨_, rfl, ?_⟩; have n0_ := Aside0.mk (blk_below (g := gb231) (o := .cells #[.bool a0_0, .int .u64 a0_1, .int .u64 a0_2, .int .i64 a0_3] 26 (0, 0)) (by (with_reducible repeat (first | apply blk_drewN | apply blk_drew | apply blk_alloc)); refine blk_far ?_ NB231_243.out _; (with_reducible repeat (first | apply blk_drewN | apply blk_drew | apply blk_alloc)); refine blk_far ?_ NB231_243.out _; (with_reducible repeat (first | apply blk_drewN | apply blk_drew | apply blk_alloc)); refine blk_far ?_ NB231_243.out _; (with_reducible repeat (first | apply blk_drewN | apply blk_drew | apply blk_alloc)); refine blk_far ?_ NB231_243.out _; (with_reducible repeat (first | apply blk_drewN | apply blk_drew | apply blk_alloc)); exact BK231.out) hb); have n1_ := Aside0.mk (blk_below (g := gb243) (o := .cells #[.bool t238, .int .u64 t239, .int .u64 t240, .int .i64 t241] 26 (0, 0)) (by (with_reducible repeat (first | apply blk_drewN | apply blk_drew | apply blk_alloc)); refine blk_put (cs := #[.bool t238, .int .u64 t239, .int .u64 t240, .int .i64 0]) ?_ 3 _ rfl; (with_reducible repeat (first | apply blk_drewN | apply blk_drew | apply blk_alloc)); refine blk_put (cs := #[.bool t238, .int .u64 t239, .int .u64 0, .int .i64 0]) ?_ 2 _ rfl; (with_reducible repeat (first | apply blk_drewN | apply blk_drew | apply blk_alloc)); refine blk_put (cs := #[.bool t238, .int .u64 0, .int .u64 0, .int .i64 0]) ?_ 1 _ rfl; (with_reducible repeat (first | apply blk_drewN | apply blk_drew | apply blk_alloc)); refine blk_put (cs := #[.bool false, .int .u64 0, .int .u64 0, .int .i64 0]) ?_ 0 _ rfl; (with_reducible repeat (first | apply blk_drewN | apply blk_drew | apply blk_alloc)); exact BK243.out) hb); have n2_ := Aside0.mk (below_step (by repeat (first | (with_reducible first | exact HB.out | apply below_alloc | apply pw_below_drewN | apply below_drew1 | refine below_set ?_ (by apply Aside0.out; assumption)) | exact HB.out)) hb); clear BK231; clear BK243; clear HB; have BK231 := n0_; have BK243 := n1_; have HB := n2_; clear n0_ n1_ n2_; (try clear hb); (try clear hb2); (try clear hk); (try clear hi)))
   (try simp only [Act.put, List.setIfInBounds_toArray, List.set_cons_zero, List.set_cons_succ])
   go_cut [72] (fun v72 wc => ∃ (kq : Nat) (x72_8 : Bool), v72 = .bool x72_8 ∧ Aside0 (nameplatelaw05_RangesBack.j0 kq a1 t244 x72_8 a0_0 a0_1 a0_2 a0_3 = some r) ∧ Aside0 (kq ≤ k) ∧ Aside0 (wc.heap[gb231]? = some (.cells #[.bool a0_0, .int .u64 a0_1, .int .u64 a0_2, .int .i64 a0_3] 26 (0, 0))) ∧ Aside0 (wc.heap[gb243]? = some (.cells #[.bool t238, .int .u64 t239, .int .u64 t240, .int .i64 t241] 26 (0, 0))) ∧ Aside0 (Below w.heap.size w wc))
   case first =>
    have H := HC9.out
    clear HC9
    by_cases c20 : t242 = 0
    ·rw [if_pos c20] at H
     have c20b0 : (t242 == 0) = true := beq_iff_eq.mpr c20
     have c20b1 : (t242 != 0) = false := bne_eq_false_iff_eq.mpr c20
     clear c20
     (first | rw [c20b0] | (simp only [i64_w, i32_w]; rw [c20b0]) | skip)
     by_cases c21 : ((!(t238 == a0_0) || (!(t239 == a0_1) || (!(t240 == a0_2)))) || (!(t241 == a0_3))) = true
     ·rw [if_pos c21] at H
      have c21b0 : ((!(t238 == a0_0) || (!(t239 == a0_1) || (!(t240 == a0_2)))) || (!(t241 == a0_3))) = true := c21
      clear c21
      have H' := Aside0.mk H
      clear H
      have hnb22 := NB243_231.out
      have hnc22 := NB231_243.out
      have hcz23_0 : w19.cell? ⟨gb243, 0, none⟩ = some (.bool t238) := (blk_cell BK243.out 0).trans rfl
      have hcz23_1 : w19.cell? ⟨gb243, 1, none⟩ = some (.int .u64 t239) := (blk_cell BK243.out 1).trans rfl
      have hcz23_2 : w19.cell? ⟨gb243, 2, none⟩ = some (.int .u64 t240) := (blk_cell BK243.out 2).trans rfl
      have hcz23_3 : w19.cell? ⟨gb243, 3, none⟩ = some (.int .i64 t241) := (blk_cell BK243.out 3).trans rfl
      have hfz23_0 := blk_frozen BK243.out 0
      have hfz23_1 := blk_frozen BK243.out 1
      have hfz23_2 := blk_frozen BK243.out 2
      have hfz23_3 := blk_frozen BK243.out 3
      have hcz24_0 : w19.cell? ⟨gb231, 0, none⟩ = some (.bool a0_0) := (blk_cell BK231.out 0).trans rfl
      have hcz24_1 : w19.cell? ⟨gb231, 1, none⟩ = some (.int .u64 a0_1) := (blk_cell BK231.out 1).trans rfl
      have hcz24_2 : w19.cell? ⟨gb231, 2, none⟩ = some (.int .u64 a0_2) := (blk_cell BK231.out 2).trans rfl
      have hcz24_3 : w19.cell? ⟨gb231, 3, none⟩ = some (.int .i64 a0_3) := (blk_cell BK231.out 3).trans rfl
      have hfz24_0 := blk_frozen BK231.out 0
      have hfz24_1 := blk_frozen BK231.out 1
      have hfz24_2 := blk_frozen BK231.out 2
      have hfz24_3 := blk_frozen BK231.out 3
      go_wp2
      go_meet
      case rel => exact ⟨_, (true), (by first | rfl | (simp; done) | (simp [*]; done)), H', ⟨by first | omega | exact Nat.le_refl _⟩, ⟨by (with_reducible repeat (first | apply blk_drewN | apply blk_drew | apply blk_alloc)); exact BK231.out⟩, ⟨by (with_reducible repeat (first | apply blk_drewN | apply blk_drew | apply blk_alloc)); exact BK243.out⟩, ⟨by repeat (first | (with_reducible first | exact HB.out | apply below_alloc | apply pw_below_drewN | apply below_drew1 | refine below_set ?_ (by apply Aside0.out; assumption)) | exact HB.out)⟩⟩
     ·rw [if_neg c21] at H
      have c21b0 : ((!(t238 == a0_0) || (!(t239 == a0_1) || (!(t240 == a0_2)))) || (!(t241 == a0_3))) = false := by simpa using c21
      clear c21
      by_cases c25 : t244 < 1
      ·rw [if_pos c25] at H
       have c25b0 : decide (t244 < 1) = true := decide_eq_true c25
       clear c25
       have H' := Aside0.mk H
       clear H
       have hnb26 := NB243_231.out
       have hnc26 := NB231_243.out
       have hcz27_0 : w19.cell? ⟨gb243, 0, none⟩ = some (.bool t238) := (blk_cell BK243.out 0).trans rfl
       have hcz27_1 : w19.cell? ⟨gb243, 1, none⟩ = some (.int .u64 t239) := (blk_cell BK243.out 1).trans rfl
       have hcz27_2 : w19.cell? ⟨gb243, 2, none⟩ = some (.int .u64 t240) := (blk_cell BK243.out 2).trans rfl
       have hcz27_3 : w19.cell? ⟨gb243, 3, none⟩ = some (.int .i64 t241) := (blk_cell BK243.out 3).trans rfl
       have hfz27_0 := blk_frozen BK243.out 0
       have hfz27_1 := blk_frozen BK243.out 1
       have hfz27_2 := blk_frozen BK243.out 2
       have hfz27_3 := blk_frozen BK243.out 3
       have hcz28_0 : w19.cell? ⟨gb231, 0, none⟩ = some (.bool a0_0) := (blk_cell BK231.out 0).trans rfl
       have hcz28_1 : w19.cell? ⟨gb231, 1, none⟩ = some (.int .u64 a0_1) := (blk_cell BK231.out 1).trans rfl
       have hcz28_2 : w19.cell? ⟨gb231, 2, none⟩ = some (.int .u64 a0_2) := (blk_cell BK231.out 2).trans rfl
       have hcz28_3 : w19.cell? ⟨gb231, 3, none⟩ = some (.int .i64 a0_3) := (blk_cell BK231.out 3).trans rfl
       have hfz28_0 := blk_frozen BK231.out 0
       have hfz28_1 := blk_frozen BK231.out 1
       have hfz28_2 := blk_frozen BK231.out 2
       have hfz28_3 := blk_frozen BK231.out 3
       go_wp2
       go_meet
       case rel => exact ⟨_, (true), (by first | rfl | (simp; done) | (simp [*]; done)), H', ⟨by first | omega | exact Nat.le_refl _⟩, ⟨by (with_reducible repeat (first | apply blk_drewN | apply blk_drew | apply blk_alloc)); exact BK231.out⟩, ⟨by (with_reducible repeat (first | apply blk_drewN | apply blk_drew | apply blk_alloc)); exact BK243.out⟩, ⟨by repeat (first | (with_reducible first | exact HB.out | apply below_alloc | apply pw_below_drewN | apply below_drew1 | refine below_set ?_ (by apply Aside0.out; assumption)) | exact HB.out)⟩⟩
      ·rw [if_neg c25] at H
       have c25b0 : decide (t244 < 1) = false := decide_eq_false c25
       clear c25
       have H' := Aside0.mk H
       clear H
       have hnb29 := NB243_231.out
       have hnc29 := NB231_243.out
       have hcz30_0 : w19.cell? ⟨gb243, 0, none⟩ = some (.bool t238) := (blk_cell BK243.out 0).trans rfl
       have hcz30_1 : w19.cell? ⟨gb243, 1, none⟩ = some (.int .u64 t239) := (blk_cell BK243.out 1).trans rfl
       have hcz30_2 : w19.cell? ⟨gb243, 2, none⟩ = some (.int .u64 t240) := (blk_cell BK243.out 2).trans rfl
       have hcz30_3 : w19.cell? ⟨gb243, 3, none⟩ = some (.int .i64 t241) := (blk_cell BK243.out 3).trans rfl
       have hfz30_0 := blk_frozen BK243.out 0
       have hfz30_1 := blk_frozen BK243.out 1
       have hfz30_2 := blk_frozen BK243.out 2
       have hfz30_3 := blk_frozen BK243.out 3
       have hcz31_0 : w19.cell? ⟨gb231, 0, none⟩ = some (.bool a0_0) := (blk_cell BK231.out 0).trans rfl
       have hcz31_1 : w19.cell? ⟨gb231, 1, none⟩ = some (.int .u64 a0_1) := (blk_cell BK231.out 1).trans rfl
       have hcz31_2 : w19.cell? ⟨gb231, 2, none⟩ = some (.int .u64 a0_2) := (blk_cell BK231.out 2).trans rfl
       have hcz31_3 : w19.cell? ⟨gb231, 3, none⟩ = some (.int .i64 a0_3) := (blk_cell BK231.out 3).trans rfl
       have hfz31_0 := blk_frozen BK231.out 0
       have hfz31_1 := blk_frozen BK231.out 1
       have hfz31_2 := blk_frozen BK231.out 2
       have hfz31_3 := blk_frozen BK231.out 3
       go_wp2
       go_meet
       case rel => exact ⟨_, (decide (t244 > 65536)), (by first | rfl | (simp; done) | (simp [*]; done)), H', ⟨by first | omega | exact Nat.le_refl _⟩, ⟨by (with_reducible repeat (first | apply blk_drewN | apply blk_drew | apply blk_alloc)); exact BK231.out⟩, ⟨by (with_reducible repeat (first | apply blk_drewN | apply blk_drew | apply blk_alloc)); exact BK243.out⟩, ⟨by repeat (first | (with_reducible first | exact HB.out | apply below_alloc | apply pw_below_drewN | apply below_drew1 | refine below_set ?_ (by apply Aside0.out; assumption)) | exact HB.out)⟩⟩
    ·rw [if_neg c20] at H
     have c20b0 : (t242 == 0) = false := beq_eq_false_iff_ne.mpr c20
     have c20b1 : (t242 != 0) = true := bne_iff_ne.mpr c20
     (first | rw [c20b0] | (simp only [i64_w, i32_w]; rw [c20b0]) | skip)
     have H' := Aside0.mk H
     clear H
     go_wp2
     go_meet
     case rel => exact ⟨_, (true), (by first | rfl | (simp; done) | (simp [*]; done)), H', ⟨by first | omega | exact Nat.le_refl _⟩, ⟨by (with_reducible repeat (first | apply blk_drewN | apply blk_drew | apply blk_alloc)); exact BK231.out⟩, ⟨by (with_reducible repeat (first | apply blk_drewN | apply blk_drew | apply blk_alloc)); exact BK243.out⟩, ⟨by repeat (first | (with_reducible first | exact HB.out | apply below_alloc | apply pw_below_drewN | apply below_drew1 | refine below_set ?_ (by apply Aside0.out; assumption)) | exact HB.out)⟩⟩
   case rest =>
    clear HC9
    try clear c1
    try clear c2
    try clear p2
    try clear c4
    try clear c5
    try clear c6
    try clear c6b0
    try clear c6b1
    try clear c10
    try clear c12
    try clear c16
    try clear c20
    try clear c20b0
    try clear c20b1
    try clear c21
    try clear c21b0
    try clear c22
    try clear c25
    try clear c25b0
    try clear c26
    try clear c29
    try clear hcz12_0
    try clear hcz12_1
    try clear hcz12_2
    try clear hcz12_3
    try clear hcz17_0
    try clear hcz17_1
    try clear hcz17_2
    try clear hcz17_3
    try clear hcz18_0
    try clear hcz18_1
    try clear hcz18_2
    try clear hcz18_3
    try clear hcz23_0
    try clear hcz23_1
    try clear hcz23_2
    try clear hcz23_3
    try clear hcz24_0
    try clear hcz24_1
    try clear hcz24_2
    try clear hcz24_3
    try clear hcz27_0
    try clear hcz27_1
    try clear hcz27_2
    try clear hcz27_3
    try clear hcz28_0
    try clear hcz28_1
    try clear hcz28_2
    try clear hcz28_3
    try clear hcz30_0
    try clear hcz30_1
    try clear hcz30_2
    try clear hcz30_3
    try clear hcz31_0
    try clear hcz31_1
    try clear hcz31_2
    try clear hcz31_3
    try clear hfz12_0
    try clear hfz12_1
    try clear hfz12_2
    try clear hfz12_3
    try clear hfz17_0
    try clear hfz17_1
    try clear hfz17_2
    try clear hfz17_3
    try clear hfz18_0
    try clear hfz18_1
    try clear hfz18_2
    try clear hfz18_3
    try clear hfz23_0
    try clear hfz23_1
    try clear hfz23_2
    try clear hfz23_3
    try clear hfz24_0
    try clear hfz24_1
    try clear hfz24_2
    try clear hfz24_3
    try clear hfz27_0
    try clear hfz27_1
    try clear hfz27_2
    try clear hfz27_3
    try clear hfz28_0
    try clear hfz28_1
    try clear hfz28_2
    try clear hfz28_3
    try clear hfz30_0
    try clear hfz30_1
    try clear hfz30_2
    try clear hfz30_3
    try clear hfz31_0
    try clear hfz31_1
    try clear hfz31_2
    try clear hfz31_3
    obtain ⟨kq, x72_8, rfl, HA, HJ8, BK231, BK243, HB⟩ := hcut
    cases kq with
    | zero => exact absurd HA.out (by simp [nameplatelaw05_RangesBack.j0])
    | succ kj8 =>
     have H := HA.out
     clear HA
     simp only [nameplatelaw05_RangesBack.j0] at H
     by_cases c32 : x72_8 = true
     ·subst c32
      have H1 : (some false) = some r := by rw [if_pos rfl] at H; exact H
      clear H
      have H := H1
      clear H1
      exact absurd ((Option.some.inj H).trans hr_.out) (by decide)
     ·replace c32 := Bool.eq_false_iff.mpr c32
      subst c32
      have H1 : ((nameplatekit_Pick.f a1 t244).bind fun t245 => ((ranges_At.f a0_0 a0_1 a0_2 a0_3 t245).bind fun bt246 => ((ranges_Index.f a0_0 a0_1 a0_2 a0_3 bt246.1 bt246.2.1 bt246.2.2.1).bind fun bt251 => ((ranges_At.f a0_0 a0_1 a0_2 a0_3 0).bind fun bt253 => ((ranges_At.f a0_0 a0_1 a0_2 a0_3 (wrap64 (t244 - 1))).bind fun bt258 => ((ranges_At.f a0_0 a0_1 a0_2 a0_3 t244).bind fun bt263 => (if bt246.2.2.2 = true then (if bt251.2 = true then (if bt251.1 = t245 then (if bt253.2.2.2 = true then (if (!(bt253.1 == a0_0) || (!(bt253.2.1 == a0_1) || (!(bt253.2.2.1 == a0_2)))) = true then (nameplatelaw05_RangesBack.j1 kj8 t244 true a0_0 a0_1 a0_2 a0_3 bt258.1 bt258.2.1 bt258.2.2.1) else (if bt258.2.2.2 = true then (if bt263.2.2.2 = true then (nameplatelaw05_RangesBack.j1 kj8 t244 true a0_0 a0_1 a0_2 a0_3 bt258.1 bt258.2.1 bt258.2.2.1) else ((ranges_Has.f a0_0 a0_1 a0_2 a0_3 bt246.1 bt246.2.1 bt246.2.2.1).bind fun t268 => (if t268 = true then ((ranges_Has.f a0_0 a0_1 a0_2 a0_3 bt258.1 bt258.2.1 bt258.2.2.1).bind fun t269 => (nameplatelaw05_RangesBack.j1 kj8 t244 (!t269) a0_0 a0_1 a0_2 a0_3 bt258.1 bt258.2.1 bt258.2.2.1)) else (nameplatelaw05_RangesBack.j1 kj8 t244 true a0_0 a0_1 a0_2 a0_3 bt258.1 bt258.2.1 bt258.2.2.1)))) else (nameplatelaw05_RangesBack.j1 kj8 t244 true a0_0 a0_1 a0_2 a0_3 bt258.1 bt258.2.1 bt258.2.2.1))) else (nameplatelaw05_RangesBack.j1 kj8 t244 true a0_0 a0_1 a0_2 a0_3 bt258.1 bt258.2.1 bt258.2.2.1)) else (nameplatelaw05_RangesBack.j1 kj8 t244 true a0_0 a0_1 a0_2 a0_3 bt258.1 bt258.2.1 bt258.2.2.1)) else (nameplatelaw05_RangesBack.j1 kj8 t244 true a0_0 a0_1 a0_2 a0_3 bt258.1 bt258.2.1 bt258.2.2.1)) else (nameplatelaw05_RangesBack.j1 kj8 t244 true a0_0 a0_1 a0_2 a0_3 bt258.1 bt258.2.1 bt258.2.2.1)))))))) = some r := by rw [if_neg (show ¬ (false = true) by decide)] at H; exact H
      clear H
      have H := H1
      clear H1
      replace H := Option.bind_eq_some_iff.mp H
      obtain ⟨t245, A330, H⟩ := H
      replace H : ((ranges_At.f a0_0 a0_1 a0_2 a0_3 t245).bind fun bt246 => ((ranges_Index.f a0_0 a0_1 a0_2 a0_3 bt246.1 bt246.2.1 bt246.2.2.1).bind fun bt251 => ((ranges_At.f a0_0 a0_1 a0_2 a0_3 0).bind fun bt253 => ((ranges_At.f a0_0 a0_1 a0_2 a0_3 (wrap64 (t244 - 1))).bind fun bt258 => ((ranges_At.f a0_0 a0_1 a0_2 a0_3 t244).bind fun bt263 => (if bt246.2.2.2 = true then (if bt251.2 = true then (if bt251.1 = t245 then (if bt253.2.2.2 = true then (if (!(bt253.1 == a0_0) || (!(bt253.2.1 == a0_1) || (!(bt253.2.2.1 == a0_2)))) = true then (nameplatelaw05_RangesBack.j1 kj8 t244 true a0_0 a0_1 a0_2 a0_3 bt258.1 bt258.2.1 bt258.2.2.1) else (if bt258.2.2.2 = true then (if bt263.2.2.2 = true then (nameplatelaw05_RangesBack.j1 kj8 t244 true a0_0 a0_1 a0_2 a0_3 bt258.1 bt258.2.1 bt258.2.2.1) else ((ranges_Has.f a0_0 a0_1 a0_2 a0_3 bt246.1 bt246.2.1 bt246.2.2.1).bind fun t268 => (if t268 = true then ((ranges_Has.f a0_0 a0_1 a0_2 a0_3 bt258.1 bt258.2.1 bt258.2.2.1).bind fun t269 => (nameplatelaw05_RangesBack.j1 kj8 t244 (!t269) a0_0 a0_1 a0_2 a0_3 bt258.1 bt258.2.1 bt258.2.2.1)) else (nameplatelaw05_RangesBack.j1 kj8 t244 true a0_0 a0_1 a0_2 a0_3 bt258.1 bt258.2.1 bt258.2.2.1)))) else (nameplatelaw05_RangesBack.j1 kj8 t244 true a0_0 a0_1 a0_2 a0_3 bt258.1 bt258.2.1 bt258.2.2.1))) else (nameplatelaw05_RangesBack.j1 kj8 t244 true a0_0 a0_1 a0_2 a0_3 bt258.1 bt258.2.1 bt258.2.2.1)) else (nameplatelaw05_RangesBack.j1 kj8 t244 true a0_0 a0_1 a0_2 a0_3 bt258.1 bt258.2.1 bt258.2.2.1)) else (nameplatelaw05_RangesBack.j1 kj8 t244 true a0_0 a0_1 a0_2 a0_3 bt258.1 bt258.2.1 bt258.2.2.1)) else (nameplatelaw05_RangesBack.j1 kj8 t244 true a0_0 a0_1 a0_2 a0_3 bt258.1 bt258.2.1 bt258.2.2.1))))))) = some r := H
      have A33 := Aside0.mk A330
      clear A330
      replace H := Option.bind_eq_some_iff.mp H
      obtain ⟨⟨t246, t247, t248, t249⟩, A340, H⟩ := H
      replace H : ((ranges_Index.f a0_0 a0_1 a0_2 a0_3 t246 t247 t248).bind fun bt251 => ((ranges_At.f a0_0 a0_1 a0_2 a0_3 0).bind fun bt253 => ((ranges_At.f a0_0 a0_1 a0_2 a0_3 (wrap64 (t244 - 1))).bind fun bt258 => ((ranges_At.f a0_0 a0_1 a0_2 a0_3 t244).bind fun bt263 => (if t249 = true then (if bt251.2 = true then (if bt251.1 = t245 then (if bt253.2.2.2 = true then (if (!(bt253.1 == a0_0) || (!(bt253.2.1 == a0_1) || (!(bt253.2.2.1 == a0_2)))) = true then (nameplatelaw05_RangesBack.j1 kj8 t244 true a0_0 a0_1 a0_2 a0_3 bt258.1 bt258.2.1 bt258.2.2.1) else (if bt258.2.2.2 = true then (if bt263.2.2.2 = true then (nameplatelaw05_RangesBack.j1 kj8 t244 true a0_0 a0_1 a0_2 a0_3 bt258.1 bt258.2.1 bt258.2.2.1) else ((ranges_Has.f a0_0 a0_1 a0_2 a0_3 t246 t247 t248).bind fun t268 => (if t268 = true then ((ranges_Has.f a0_0 a0_1 a0_2 a0_3 bt258.1 bt258.2.1 bt258.2.2.1).bind fun t269 => (nameplatelaw05_RangesBack.j1 kj8 t244 (!t269) a0_0 a0_1 a0_2 a0_3 bt258.1 bt258.2.1 bt258.2.2.1)) else (nameplatelaw05_RangesBack.j1 kj8 t244 true a0_0 a0_1 a0_2 a0_3 bt258.1 bt258.2.1 bt258.2.2.1)))) else (nameplatelaw05_RangesBack.j1 kj8 t244 true a0_0 a0_1 a0_2 a0_3 bt258.1 bt258.2.1 bt258.2.2.1))) else (nameplatelaw05_RangesBack.j1 kj8 t244 true a0_0 a0_1 a0_2 a0_3 bt258.1 bt258.2.1 bt258.2.2.1)) else (nameplatelaw05_RangesBack.j1 kj8 t244 true a0_0 a0_1 a0_2 a0_3 bt258.1 bt258.2.1 bt258.2.2.1)) else (nameplatelaw05_RangesBack.j1 kj8 t244 true a0_0 a0_1 a0_2 a0_3 bt258.1 bt258.2.1 bt258.2.2.1)) else (nameplatelaw05_RangesBack.j1 kj8 t244 true a0_0 a0_1 a0_2 a0_3 bt258.1 bt258.2.1 bt258.2.2.1)))))) = some r := H
      have A34 := Aside0.mk A340
      clear A340
      replace H := Option.bind_eq_some_iff.mp H
      obtain ⟨⟨t251, t252⟩, A350, H⟩ := H
      replace H : ((ranges_At.f a0_0 a0_1 a0_2 a0_3 0).bind fun bt253 => ((ranges_At.f a0_0 a0_1 a0_2 a0_3 (wrap64 (t244 - 1))).bind fun bt258 => ((ranges_At.f a0_0 a0_1 a0_2 a0_3 t244).bind fun bt263 => (if t249 = true then (if t252 = true then (if t251 = t245 then (if bt253.2.2.2 = true then (if (!(bt253.1 == a0_0) || (!(bt253.2.1 == a0_1) || (!(bt253.2.2.1 == a0_2)))) = true then (nameplatelaw05_RangesBack.j1 kj8 t244 true a0_0 a0_1 a0_2 a0_3 bt258.1 bt258.2.1 bt258.2.2.1) else (if bt258.2.2.2 = true then (if bt263.2.2.2 = true then (nameplatelaw05_RangesBack.j1 kj8 t244 true a0_0 a0_1 a0_2 a0_3 bt258.1 bt258.2.1 bt258.2.2.1) else ((ranges_Has.f a0_0 a0_1 a0_2 a0_3 t246 t247 t248).bind fun t268 => (if t268 = true then ((ranges_Has.f a0_0 a0_1 a0_2 a0_3 bt258.1 bt258.2.1 bt258.2.2.1).bind fun t269 => (nameplatelaw05_RangesBack.j1 kj8 t244 (!t269) a0_0 a0_1 a0_2 a0_3 bt258.1 bt258.2.1 bt258.2.2.1)) else (nameplatelaw05_RangesBack.j1 kj8 t244 true a0_0 a0_1 a0_2 a0_3 bt258.1 bt258.2.1 bt258.2.2.1)))) else (nameplatelaw05_RangesBack.j1 kj8 t244 true a0_0 a0_1 a0_2 a0_3 bt258.1 bt258.2.1 bt258.2.2.1))) else (nameplatelaw05_RangesBack.j1 kj8 t244 true a0_0 a0_1 a0_2 a0_3 bt258.1 bt258.2.1 bt258.2.2.1)) else (nameplatelaw05_RangesBack.j1 kj8 t244 true a0_0 a0_1 a0_2 a0_3 bt258.1 bt258.2.1 bt258.2.2.1)) else (nameplatelaw05_RangesBack.j1 kj8 t244 true a0_0 a0_1 a0_2 a0_3 bt258.1 bt258.2.1 bt258.2.2.1)) else (nameplatelaw05_RangesBack.j1 kj8 t244 true a0_0 a0_1 a0_2 a0_3 bt258.1 bt258.2.1 bt258.2.2.1))))) = some r := H
      have A35 := Aside0.mk A350
      clear A350
      replace H := Option.bind_eq_some_iff.mp H
      obtain ⟨⟨t253, t254, t255, t256⟩, A360, H⟩ := H
      replace H : ((ranges_At.f a0_0 a0_1 a0_2 a0_3 (wrap64 (t244 - 1))).bind fun bt258 => ((ranges_At.f a0_0 a0_1 a0_2 a0_3 t244).bind fun bt263 => (if t249 = true then (if t252 = true then (if t251 = t245 then (if t256 = true then (if (!(t253 == a0_0) || (!(t254 == a0_1) || (!(t255 == a0_2)))) = true then (nameplatelaw05_RangesBack.j1 kj8 t244 true a0_0 a0_1 a0_2 a0_3 bt258.1 bt258.2.1 bt258.2.2.1) else (if bt258.2.2.2 = true then (if bt263.2.2.2 = true then (nameplatelaw05_RangesBack.j1 kj8 t244 true a0_0 a0_1 a0_2 a0_3 bt258.1 bt258.2.1 bt258.2.2.1) else ((ranges_Has.f a0_0 a0_1 a0_2 a0_3 t246 t247 t248).bind fun t268 => (if t268 = true then ((ranges_Has.f a0_0 a0_1 a0_2 a0_3 bt258.1 bt258.2.1 bt258.2.2.1).bind fun t269 => (nameplatelaw05_RangesBack.j1 kj8 t244 (!t269) a0_0 a0_1 a0_2 a0_3 bt258.1 bt258.2.1 bt258.2.2.1)) else (nameplatelaw05_RangesBack.j1 kj8 t244 true a0_0 a0_1 a0_2 a0_3 bt258.1 bt258.2.1 bt258.2.2.1)))) else (nameplatelaw05_RangesBack.j1 kj8 t244 true a0_0 a0_1 a0_2 a0_3 bt258.1 bt258.2.1 bt258.2.2.1))) else (nameplatelaw05_RangesBack.j1 kj8 t244 true a0_0 a0_1 a0_2 a0_3 bt258.1 bt258.2.1 bt258.2.2.1)) else (nameplatelaw05_RangesBack.j1 kj8 t244 true a0_0 a0_1 a0_2 a0_3 bt258.1 bt258.2.1 bt258.2.2.1)) else (nameplatelaw05_RangesBack.j1 kj8 t244 true a0_0 a0_1 a0_2 a0_3 bt258.1 bt258.2.1 bt258.2.2.1)) else (nameplatelaw05_RangesBack.j1 kj8 t244 true a0_0 a0_1 a0_2 a0_3 bt258.1 bt258.2.1 bt258.2.2.1)))) = some r := H
      have A36 := Aside0.mk A360
      clear A360
      replace H := Option.bind_eq_some_iff.mp H
      obtain ⟨⟨t258, t259, t260, t261⟩, A370, H⟩ := H
      replace H : ((ranges_At.f a0_0 a0_1 a0_2 a0_3 t244).bind fun bt263 => (if t249 = true then (if t252 = true then (if t251 = t245 then (if t256 = true then (if (!(t253 == a0_0) || (!(t254 == a0_1) || (!(t255 == a0_2)))) = true then (nameplatelaw05_RangesBack.j1 kj8 t244 true a0_0 a0_1 a0_2 a0_3 t258 t259 t260) else (if t261 = true then (if bt263.2.2.2 = true then (nameplatelaw05_RangesBack.j1 kj8 t244 true a0_0 a0_1 a0_2 a0_3 t258 t259 t260) else ((ranges_Has.f a0_0 a0_1 a0_2 a0_3 t246 t247 t248).bind fun t268 => (if t268 = true then ((ranges_Has.f a0_0 a0_1 a0_2 a0_3 t258 t259 t260).bind fun t269 => (nameplatelaw05_RangesBack.j1 kj8 t244 (!t269) a0_0 a0_1 a0_2 a0_3 t258 t259 t260)) else (nameplatelaw05_RangesBack.j1 kj8 t244 true a0_0 a0_1 a0_2 a0_3 t258 t259 t260)))) else (nameplatelaw05_RangesBack.j1 kj8 t244 true a0_0 a0_1 a0_2 a0_3 t258 t259 t260))) else (nameplatelaw05_RangesBack.j1 kj8 t244 true a0_0 a0_1 a0_2 a0_3 t258 t259 t260)) else (nameplatelaw05_RangesBack.j1 kj8 t244 true a0_0 a0_1 a0_2 a0_3 t258 t259 t260)) else (nameplatelaw05_RangesBack.j1 kj8 t244 true a0_0 a0_1 a0_2 a0_3 t258 t259 t260)) else (nameplatelaw05_RangesBack.j1 kj8 t244 true a0_0 a0_1 a0_2 a0_3 t258 t259 t260))) = some r := H
      have A37 := Aside0.mk A370
      clear A370
      replace H := Option.bind_eq_some_iff.mp H
      obtain ⟨⟨t263, t264, t265, t266⟩, A380, H⟩ := H
      replace H : (if t249 = true then (if t252 = true then (if t251 = t245 then (if t256 = true then (if (!(t253 == a0_0) || (!(t254 == a0_1) || (!(t255 == a0_2)))) = true then (nameplatelaw05_RangesBack.j1 kj8 t244 true a0_0 a0_1 a0_2 a0_3 t258 t259 t260) else (if t261 = true then (if t266 = true then (nameplatelaw05_RangesBack.j1 kj8 t244 true a0_0 a0_1 a0_2 a0_3 t258 t259 t260) else ((ranges_Has.f a0_0 a0_1 a0_2 a0_3 t246 t247 t248).bind fun t268 => (if t268 = true then ((ranges_Has.f a0_0 a0_1 a0_2 a0_3 t258 t259 t260).bind fun t269 => (nameplatelaw05_RangesBack.j1 kj8 t244 (!t269) a0_0 a0_1 a0_2 a0_3 t258 t259 t260)) else (nameplatelaw05_RangesBack.j1 kj8 t244 true a0_0 a0_1 a0_2 a0_3 t258 t259 t260)))) else (nameplatelaw05_RangesBack.j1 kj8 t244 true a0_0 a0_1 a0_2 a0_3 t258 t259 t260))) else (nameplatelaw05_RangesBack.j1 kj8 t244 true a0_0 a0_1 a0_2 a0_3 t258 t259 t260)) else (nameplatelaw05_RangesBack.j1 kj8 t244 true a0_0 a0_1 a0_2 a0_3 t258 t259 t260)) else (nameplatelaw05_RangesBack.j1 kj8 t244 true a0_0 a0_1 a0_2 a0_3 t258 t259 t260)) else (nameplatelaw05_RangesBack.j1 kj8 t244 true a0_0 a0_1 a0_2 a0_3 t258 t259 t260)) = some r := H
      have A38 := Aside0.mk A380
      clear A380
      have HC39 := Aside0.mk H
      clear H
      go_upto_region 16 with (first | ((with_reducible refine gate_callee (f := 18) rfl ?_); refine goesL_ (some 75) rfl rfl Tryz.func18 (by kernel_rfl) rfl #[.int .i64 a1, .int .i64 t244] rfl (by (try simp only [List.map_toArray, List.map_cons, List.map_nil]); first | done | rfl | (simp only [List.length_drop, List.length_take]; rfl)) ?_; (with_reducible refine (nameplatekit_Pick.calls a1 t244 t245 _ A33.out).mono ?_); rintro e w' ⟨rfl, ⟨nd, rfl⟩⟩; refine ⟨_, rfl, ?_⟩; (try (rw [drewN_self wc]; generalize hq_ : World.drewN wc _ = wc; have n0_ : Aside0 (wc.heap[gb231]? = some (.cells #[.bool a0_0, .int .u64 a0_1, .int .u64 a0_2, .int .i64 a0_3] 26 (0, 0))) := ⟨by rw [← hq_]; exact (by (with_reducible repeat (first | apply blk_drewN | apply blk_drew | apply blk_alloc)); exact BK231.out)⟩; have n1_ : Aside0 (wc.heap[gb243]? = some (.cells #[.bool t238, .int .u64 t239, .int .u64 t240, .int .i64 t241] 26 (0, 0))) := ⟨by rw [← hq_]; exact (by (with_reducible repeat (first | apply blk_drewN | apply blk_drew | apply blk_alloc)); exact BK243.out)⟩; have n2_ : Aside0 (Below w.heap.size w wc) := ⟨by rw [← hq_]; exact (by repeat (first | (with_reducible first | exact HB.out | apply below_alloc | apply pw_below_drewN | apply below_drew1 | refine below_set ?_ (by apply Aside0.out; assumption)) | exact HB.out))⟩; clear BK231 BK243 HB hq_; have BK231 := n0_; have BK243 := n1_; have HB := n2_; clear n0_ n1_ n2_)); have hnb40 := NB231_243.out; have hnc40 := NB243_231.out; have hcz41_0 : wc.cell? ⟨gb231, 0, none⟩ = some (.bool a0_0) := (blk_cell BK231.out 0).trans rfl; have hcz41_1 : wc.cell? ⟨gb231, 1, none⟩ = some (.int .u64 a0_1) := (blk_cell BK231.out 1).trans rfl; have hcz41_2 : wc.cell? ⟨gb231, 2, none⟩ = some (.int .u64 a0_2) := (blk_cell BK231.out 2).trans rfl; have hcz41_3 : wc.cell? ⟨gb231, 3, none⟩ = some (.int .i64 a0_3) := (blk_cell BK231.out 3).trans rfl; have hfz41_0 := blk_frozen BK231.out 0; have hfz41_1 := blk_frozen BK231.out 1; have hfz41_2 := blk_frozen BK231.out 2; have hfz41_3 := blk_frozen BK231.out 3) | ((with_reducible refine gate_callee (f := 13) rfl ?_); refine goesL_ (some 79) rfl rfl Tryz.func13 (by kernel_rfl) rfl #[.agg #[.bool a0_0, .int .u64 a0_1, .int .u64 a0_2, .int .i64 a0_3], .int .i64 t245] rfl (by (try simp only [List.map_toArray, List.map_cons, List.map_nil]); first | done | rfl | (simp only [List.length_drop, List.length_take]; rfl)) ?_; (with_reducible refine (ranges_At.calls a0_0 a0_1 a0_2 a0_3 t245 t246 t247 t248 t249 _ A34.out).mono ?_); rintro e w42 ⟨rfl, hb⟩; refine ⟨_, rfl, ?_⟩; have n0_ := Aside0.mk (blk_below (g := gb231) (o := .cells #[.bool a0_0, .int .u64 a0_1, .int .u64 a0_2, .int .i64 a0_3] 26 (0, 0)) (by (with_reducible repeat (first | apply blk_drewN | apply blk_drew | apply blk_alloc)); exact BK231.out) hb); have n1_ := Aside0.mk (blk_below (g := gb243) (o := .cells #[.bool t238, .int .u64 t239, .int .u64 t240, .int .i64 t241] 26 (0, 0)) (by (with_reducible repeat (first | apply blk_drewN | apply blk_drew | apply blk_alloc)); exact BK243.out) hb); have n2_ := Aside0.mk (below_step (by repeat (first | (with_reducible first | exact HB.out | apply below_alloc | apply pw_below_drewN | apply below_drew1 | refine below_set ?_ (by apply Aside0.out; assumption)) | exact HB.out)) hb); clear BK231; clear BK243; clear HB; have BK231 := n0_; have BK243 := n1_; have HB := n2_; clear n0_ n1_ n2_; (try clear hb); (try clear hb2); (try clear hk); (try clear hi)) | ((with_reducible refine gate_dst (N := 10) rfl ?_); refine box_event ?hg (N := 10) ?hd (cs := #[.bool false, .int .u64 0, .int .u64 0]) (t := 24) ?hr ?_; (case hd => rfl); (case hg => rfl); (case hr => first | (go_simp; done) | (go_simp; rfl)); intro gb250 hg w43 hbox hb; have n0_ := Aside0.mk (blk_below (g := gb231) (o := .cells #[.bool a0_0, .int .u64 a0_1, .int .u64 a0_2, .int .i64 a0_3] 26 (0, 0)) (by (with_reducible repeat (first | apply blk_drewN | apply blk_drew | apply blk_alloc)); exact BK231.out) hb); have n1_ := Aside0.mk (blk_below (g := gb243) (o := .cells #[.bool t238, .int .u64 t239, .int .u64 t240, .int .i64 t241] 26 (0, 0)) (by (with_reducible repeat (first | apply blk_drewN | apply blk_drew | apply blk_alloc)); exact BK243.out) hb); have n2_ := Aside0.mk (below_step (by repeat (first | (with_reducible first | exact HB.out | apply below_alloc | apply pw_below_drewN | apply below_drew1 | refine below_set ?_ (by apply Aside0.out; assumption)) | exact HB.out)) hb); have n3_ := Aside0.mk (hbox); have n4_ := Aside0.mk ((by rw [hg]; exact (below_size (by repeat (first | (with_reducible first | exact HB.out | apply below_alloc | apply pw_below_drewN | apply below_drew1 | refine below_set ?_ (by apply Aside0.out; assumption)) | exact HB.out))) : w.heap.size ≤ gb250)); have n5_ := Aside0.mk ((by rw [hg]; exact (below_size (by repeat (first | (with_reducible first | exact HB.out | apply below_alloc | apply pw_below_drewN | apply below_drew1 | refine below_set ?_ (by apply Aside0.out; assumption)) | exact HB.out))) : w.heap.size ≤ gb250)); have n6_ := Aside0.mk ((by rw [hg]; exact Nat.ne_of_lt (blk_lt (g := gb231) (o := .cells #[.bool a0_0, .int .u64 a0_1, .int .u64 a0_2, .int .i64 a0_3] 26 (0, 0)) (by (with_reducible repeat (first | apply blk_drewN | apply blk_drew | apply blk_alloc)); exact BK231.out)) : gb231 ≠ gb250)); have n7_ := Aside0.mk ((by rw [hg]; exact Nat.ne_of_gt (blk_lt (g := gb231) (o := .cells #[.bool a0_0, .int .u64 a0_1, .int .u64 a0_2, .int .i64 a0_3] 26 (0, 0)) (by (with_reducible repeat (first | apply blk_drewN | apply blk_drew | apply blk_alloc)); exact BK231.out)) : gb250 ≠ gb231)); have n8_ := Aside0.mk ((by rw [hg]; exact Nat.ne_of_lt (blk_lt (g := gb243) (o := .cells #[.bool t238, .int .u64 t239, .int .u64 t240, .int .i64 t241] 26 (0, 0)) (by (with_reducible repeat (first | apply blk_drewN | apply blk_drew | apply blk_alloc)); exact BK243.out)) : gb243 ≠ gb250)); have n9_ := Aside0.mk ((by rw [hg]; exact Nat.ne_of_gt (blk_lt (g := gb243) (o := .cells #[.bool t238, .int .u64 t239, .int .u64 t240, .int .i64 t241] 26 (0, 0)) (by (with_reducible repeat (first | apply blk_drewN | apply blk_drew | apply blk_alloc)); exact BK243.out)) : gb250 ≠ gb243)); clear BK231; clear BK243; clear HB; have BK231 := n0_; have BK243 := n1_; have HB := n2_; have BK250 := n3_; have GW250 := n4_; have GE250 := n5_; have NB231_250 := n6_; have NB250_231 := n7_; have NB243_250 := n8_; have NB250_243 := n9_; clear n0_ n1_ n2_ n3_ n4_ n5_ n6_ n7_ n8_ n9_; clear hb hbox hg; have hnb44 := NB250_231.out; have hnc44 := NB231_250.out; have hnb45 := NB250_243.out; have hnc45 := NB243_250.out; have hcz46_0 : w43.cell? ⟨gb250, 0, none⟩ = some (.bool false) := (blk_cell BK250.out 0).trans rfl; have hcz46_1 : w43.cell? ⟨gb250, 1, none⟩ = some (.int .u64 0) := (blk_cell BK250.out 1).trans rfl; have hcz46_2 : w43.cell? ⟨gb250, 2, none⟩ = some (.int .u64 0) := (blk_cell BK250.out 2).trans rfl; have hfz46_0 := blk_frozen BK250.out 0; have hfz46_1 := blk_frozen BK250.out 1; have hfz46_2 := blk_frozen BK250.out 2; have hcz47_0 : w43.cell? ⟨gb231, 0, none⟩ = some (.bool a0_0) := (blk_cell BK231.out 0).trans rfl; have hcz47_1 : w43.cell? ⟨gb231, 1, none⟩ = some (.int .u64 a0_1) := (blk_cell BK231.out 1).trans rfl; have hcz47_2 : w43.cell? ⟨gb231, 2, none⟩ = some (.int .u64 a0_2) := (blk_cell BK231.out 2).trans rfl; have hcz47_3 : w43.cell? ⟨gb231, 3, none⟩ = some (.int .i64 a0_3) := (blk_cell BK231.out 3).trans rfl; have hfz47_0 := blk_frozen BK231.out 0; have hfz47_1 := blk_frozen BK231.out 1; have hfz47_2 := blk_frozen BK231.out 2; have hfz47_3 := blk_frozen BK231.out 3) | ((with_reducible refine gate_callee (f := 23) rfl ?_); refine goesL_ (some 85) rfl rfl Tryz.func23 (by kernel_rfl) rfl #[.agg #[.bool a0_0, .int .u64 a0_1, .int .u64 a0_2, .int .i64 a0_3], .agg #[.bool t246, .int .u64 t247, .int .u64 t248]] rfl (by (try simp only [List.map_toArray, List.map_cons, List.map_nil]); first | done | rfl | (simp only [List.length_drop, List.length_take]; rfl)) ?_; (with_reducible refine (ranges_Index.calls a0_0 a0_1 a0_2 a0_3 t246 t247 t248 t251 t252 _ A35.out).mono ?_); rintro e w48 ⟨rfl, hb⟩; refine ⟨_, rfl, ?_⟩; have n0_ := Aside0.mk (blk_below (g := gb231) (o := .cells #[.bool a0_0, .int .u64 a0_1, .int .u64 a0_2, .int .i64 a0_3] 26 (0, 0)) (by (with_reducible repeat (first | apply blk_drewN | apply blk_drew | apply blk_alloc)); refine blk_far ?_ NB231_250.out _; (with_reducible repeat (first | apply blk_drewN | apply blk_drew | apply blk_alloc)); refine blk_far ?_ NB231_250.out _; (with_reducible repeat (first | apply blk_drewN | apply blk_drew | apply blk_alloc)); refine blk_far ?_ NB231_250.out _; (with_reducible repeat (first | apply blk_drewN | apply blk_drew | apply blk_alloc)); exact BK231.out) hb); have n1_ := Aside0.mk (blk_below (g := gb243) (o := .cells #[.bool t238, .int .u64 t239, .int .u64 t240, .int .i64 t241] 26 (0, 0)) (by (with_reducible repeat (first | apply blk_drewN | apply blk_drew | apply blk_alloc)); refine blk_far ?_ NB243_250.out _; (with_reducible repeat (first | apply blk_drewN | apply blk_drew | apply blk_alloc)); refine blk_far ?_ NB243_250.out _; (with_reducible repeat (first | apply blk_drewN | apply blk_drew | apply blk_alloc)); refine blk_far ?_ NB243_250.out _; (with_reducible repeat (first | apply blk_drewN | apply blk_drew | apply blk_alloc)); exact BK243.out) hb); have n2_ := Aside0.mk (blk_below (g := gb250) (o := .cells #[.bool t246, .int .u64 t247, .int .u64 t248] 24 (0, 0)) (by (with_reducible repeat (first | apply blk_drewN | apply blk_drew | apply blk_alloc)); refine blk_put (cs := #[.bool t246, .int .u64 t247, .int .u64 0]) ?_ 2 _ rfl; (with_reducible repeat (first | apply blk_drewN | apply blk_drew | apply blk_alloc)); refine blk_put (cs := #[.bool t246, .int .u64 0, .int .u64 0]) ?_ 1 _ rfl; (with_reducible repeat (first | apply blk_drewN | apply blk_drew | apply blk_alloc)); refine blk_put (cs := #[.bool false, .int .u64 0, .int .u64 0]) ?_ 0 _ rfl; (with_reducible repeat (first | apply blk_drewN | apply blk_drew | apply blk_alloc)); exact BK250.out) hb); have n3_ := Aside0.mk (below_step (by repeat (first | (with_reducible first | exact HB.out | apply below_alloc | apply pw_below_drewN | apply below_drew1 | refine below_set ?_ (by apply Aside0.out; assumption)) | exact HB.out)) hb); clear BK231; clear BK243; clear BK250; clear HB; have BK231 := n0_; have BK243 := n1_; have BK250 := n2_; have HB := n3_; clear n0_ n1_ n2_ n3_; (try clear hb); (try clear hb2); (try clear hk); (try clear hi); have hcz49_0 : w48.cell? ⟨gb231, 0, none⟩ = some (.bool a0_0) := (blk_cell BK231.out 0).trans rfl; have hcz49_1 : w48.cell? ⟨gb231, 1, none⟩ = some (.int .u64 a0_1) := (blk_cell BK231.out 1).trans rfl; have hcz49_2 : w48.cell? ⟨gb231, 2, none⟩ = some (.int .u64 a0_2) := (blk_cell BK231.out 2).trans rfl; have hcz49_3 : w48.cell? ⟨gb231, 3, none⟩ = some (.int .i64 a0_3) := (blk_cell BK231.out 3).trans rfl; have hfz49_0 := blk_frozen BK231.out 0; have hfz49_1 := blk_frozen BK231.out 1; have hfz49_2 := blk_frozen BK231.out 2; have hfz49_3 := blk_frozen BK231.out 3) | ((with_reducible refine gate_callee (f := 13) rfl ?_); refine goesL_ (some 90) rfl rfl Tryz.func13 (by kernel_rfl) rfl #[.agg #[.bool a0_0, .int .u64 a0_1, .int .u64 a0_2, .int .i64 a0_3], .int .i64 0] rfl (by (try simp only [List.map_toArray, List.map_cons, List.map_nil]); first | done | rfl | (simp only [List.length_drop, List.length_take]; rfl)) ?_; (with_reducible refine (ranges_At.calls a0_0 a0_1 a0_2 a0_3 0 t253 t254 t255 t256 _ A36.out).mono ?_); rintro e w50 ⟨rfl, hb⟩; refine ⟨_, rfl, ?_⟩; have n0_ := Aside0.mk (blk_below (g := gb231) (o := .cells #[.bool a0_0, .int .u64 a0_1, .int .u64 a0_2, .int .i64 a0_3] 26 (0, 0)) (by (with_reducible repeat (first | apply blk_drewN | apply blk_drew | apply blk_alloc)); exact BK231.out) hb); have n1_ := Aside0.mk (blk_below (g := gb243) (o := .cells #[.bool t238, .int .u64 t239, .int .u64 t240, .int .i64 t241] 26 (0, 0)) (by (with_reducible repeat (first | apply blk_drewN | apply blk_drew | apply blk_alloc)); exact BK243.out) hb); have n2_ := Aside0.mk (blk_below (g := gb250) (o := .cells #[.bool t246, .int .u64 t247, .int .u64 t248] 24 (0, 0)) (by (with_reducible repeat (first | apply blk_drewN | apply blk_drew | apply blk_alloc)); exact BK250.out) hb); have n3_ := Aside0.mk (below_step (by repeat (first | (with_reducible first | exact HB.out | apply below_alloc | apply pw_below_drewN | apply below_drew1 | refine below_set ?_ (by apply Aside0.out; assumption)) | exact HB.out)) hb); clear BK231; clear BK243; clear BK250; clear HB; have BK231 := n0_; have BK243 := n1_; have BK250 := n2_; have HB := n3_; clear n0_ n1_ n2_ n3_; (try clear hb); (try clear hb2); (try clear hk); (try clear hi)) | ((with_reducible refine gate_dst (N := 14) rfl ?_); refine box_event ?hg (N := 14) ?hd (cs := #[.bool false, .int .u64 0, .int .u64 0]) (t := 24) ?hr ?_; (case hd => rfl); (case hg => rfl); (case hr => first | (go_simp; done) | (go_simp; rfl)); intro gb257 hg w51 hbox hb; have n0_ := Aside0.mk (blk_below (g := gb231) (o := .cells #[.bool a0_0, .int .u64 a0_1, .int .u64 a0_2, .int .i64 a0_3] 26 (0, 0)) (by (with_reducible repeat (first | apply blk_drewN | apply blk_drew | apply blk_alloc)); exact BK231.out) hb); have n1_ := Aside0.mk (blk_below (g := gb243) (o := .cells #[.bool t238, .int .u64 t239, .int .u64 t240, .int .i64 t241] 26 (0, 0)) (by (with_reducible repeat (first | apply blk_drewN | apply blk_drew | apply blk_alloc)); exact BK243.out) hb); have n2_ := Aside0.mk (blk_below (g := gb250) (o := .cells #[.bool t246, .int .u64 t247, .int .u64 t248] 24 (0, 0)) (by (with_reducible repeat (first | apply blk_drewN | apply blk_drew | apply blk_alloc)); exact BK250.out) hb); have n3_ := Aside0.mk (below_step (by repeat (first | (with_reducible first | exact HB.out | apply below_alloc | apply pw_below_drewN | apply below_drew1 | refine below_set ?_ (by apply Aside0.out; assumption)) | exact HB.out)) hb); have n4_ := Aside0.mk (hbox); have n5_ := Aside0.mk ((by rw [hg]; exact (below_size (by repeat (first | (with_reducible first | exact HB.out | apply below_alloc | apply pw_below_drewN | apply below_drew1 | refine below_set ?_ (by apply Aside0.out; assumption)) | exact HB.out))) : w.heap.size ≤ gb257)); have n6_ := Aside0.mk ((by rw [hg]; exact (below_size (by repeat (first | (with_reducible first | exact HB.out | apply below_alloc | apply pw_below_drewN | apply below_drew1 | refine below_set ?_ (by apply Aside0.out; assumption)) | exact HB.out))) : w.heap.size ≤ gb257)); have n7_ := Aside0.mk ((by rw [hg]; exact Nat.ne_of_lt (blk_lt (g := gb231) (o := .cells #[.bool a0_0, .int .u64 a0_1, .int .u64 a0_2, .int .i64 a0_3] 26 (0, 0)) (by (with_reducible repeat (first | apply blk_drewN | apply blk_drew | apply blk_alloc)); exact BK231.out)) : gb231 ≠ gb257)); have n8_ := Aside0.mk ((by rw [hg]; exact Nat.ne_of_gt (blk_lt (g := gb231) (o := .cells #[.bool a0_0, .int .u64 a0_1, .int .u64 a0_2, .int .i64 a0_3] 26 (0, 0)) (by (with_reducible repeat (first | apply blk_drewN | apply blk_drew | apply blk_alloc)); exact BK231.out)) : gb257 ≠ gb231)); have n9_ := Aside0.mk ((by rw [hg]; exact Nat.ne_of_lt (blk_lt (g := gb243) (o := .cells #[.bool t238, .int .u64 t239, .int .u64 t240, .int .i64 t241] 26 (0, 0)) (by (with_reducible repeat (first | apply blk_drewN | apply blk_drew | apply blk_alloc)); exact BK243.out)) : gb243 ≠ gb257)); have n10_ := Aside0.mk ((by rw [hg]; exact Nat.ne_of_gt (blk_lt (g := gb243) (o := .cells #[.bool t238, .int .u64 t239, .int .u64 t240, .int .i64 t241] 26 (0, 0)) (by (with_reducible repeat (first | apply blk_drewN | apply blk_drew | apply blk_alloc)); exact BK243.out)) : gb257 ≠ gb243)); have n11_ := Aside0.mk ((by rw [hg]; exact Nat.ne_of_lt (blk_lt (g := gb250) (o := .cells #[.bool t246, .int .u64 t247, .int .u64 t248] 24 (0, 0)) (by (with_reducible repeat (first | apply blk_drewN | apply blk_drew | apply blk_alloc)); exact BK250.out)) : gb250 ≠ gb257)); have n12_ := Aside0.mk ((by rw [hg]; exact Nat.ne_of_gt (blk_lt (g := gb250) (o := .cells #[.bool t246, .int .u64 t247, .int .u64 t248] 24 (0, 0)) (by (with_reducible repeat (first | apply blk_drewN | apply blk_drew | apply blk_alloc)); exact BK250.out)) : gb257 ≠ gb250)); clear BK231; clear BK243; clear BK250; clear HB; have BK231 := n0_; have BK243 := n1_; have BK250 := n2_; have HB := n3_; have BK257 := n4_; have GW257 := n5_; have GE257 := n6_; have NB231_257 := n7_; have NB257_231 := n8_; have NB243_257 := n9_; have NB257_243 := n10_; have NB250_257 := n11_; have NB257_250 := n12_; clear n0_ n1_ n2_ n3_ n4_ n5_ n6_ n7_ n8_ n9_ n10_ n11_ n12_; clear hb hbox hg; have hnb52 := NB257_231.out; have hnc52 := NB231_257.out; have hnb53 := NB257_243.out; have hnc53 := NB243_257.out; have hnb54 := NB257_250.out; have hnc54 := NB250_257.out; have hcz55_0 : w51.cell? ⟨gb257, 0, none⟩ = some (.bool false) := (blk_cell BK257.out 0).trans rfl; have hcz55_1 : w51.cell? ⟨gb257, 1, none⟩ = some (.int .u64 0) := (blk_cell BK257.out 1).trans rfl; have hcz55_2 : w51.cell? ⟨gb257, 2, none⟩ = some (.int .u64 0) := (blk_cell BK257.out 2).trans rfl; have hfz55_0 := blk_frozen BK257.out 0; have hfz55_1 := blk_frozen BK257.out 1; have hfz55_2 := blk_frozen BK257.out 2; have hcz56_0 : w51.cell? ⟨gb231, 0, none⟩ = some (.bool a0_0) := (blk_cell BK231.out 0).trans rfl; have hcz56_1 : w51.cell? ⟨gb231, 1, none⟩ = some (.int .u64 a0_1) := (blk_cell BK231.out 1).trans rfl; have hcz56_2 : w51.cell? ⟨gb231, 2, none⟩ = some (.int .u64 a0_2) := (blk_cell BK231.out 2).trans rfl; have hcz56_3 : w51.cell? ⟨gb231, 3, none⟩ = some (.int .i64 a0_3) := (blk_cell BK231.out 3).trans rfl; have hfz56_0 := blk_frozen BK231.out 0; have hfz56_1 := blk_frozen BK231.out 1; have hfz56_2 := blk_frozen BK231.out 2; have hfz56_3 := blk_frozen BK231.out 3) | ((with_reducible refine gate_callee (f := 13) rfl ?_); refine goesL_ (some 97) rfl rfl Tryz.func13 (by kernel_rfl) rfl #[.agg #[.bool a0_0, .int .u64 a0_1, .int .u64 a0_2, .int .i64 a0_3], .int .i64 (wrap64 (t244 - 1))] rfl (by (try simp only [List.map_toArray, List.map_cons, List.map_nil]); first | done | rfl | (simp only [List.length_drop, List.length_take]; rfl)) ?_; (with_reducible refine (ranges_At.calls a0_0 a0_1 a0_2 a0_3 (wrap64 (t244 - 1)) t258 t259 t260 t261 _ A37.out).mono ?_); rintro e w57 ⟨rfl, hb⟩; refine ⟨_, rfl, ?_⟩; have n0_ := Aside0.mk (blk_below (g := gb231) (o := .cells #[.bool a0_0, .int .u64 a0_1, .int .u64 a0_2, .int .i64 a0_3] 26 (0, 0)) (by (with_reducible repeat (first | apply blk_drewN | apply blk_drew | apply blk_alloc)); refine blk_far ?_ NB231_257.out _; (with_reducible repeat (first | apply blk_drewN | apply blk_drew | apply blk_alloc)); refine blk_far ?_ NB231_257.out _; (with_reducible repeat (first | apply blk_drewN | apply blk_drew | apply blk_alloc)); refine blk_far ?_ NB231_257.out _; (with_reducible repeat (first | apply blk_drewN | apply blk_drew | apply blk_alloc)); exact BK231.out) hb); have n1_ := Aside0.mk (blk_below (g := gb243) (o := .cells #[.bool t238, .int .u64 t239, .int .u64 t240, .int .i64 t241] 26 (0, 0)) (by (with_reducible repeat (first | apply blk_drewN | apply blk_drew | apply blk_alloc)); refine blk_far ?_ NB243_257.out _; (with_reducible repeat (first | apply blk_drewN | apply blk_drew | apply blk_alloc)); refine blk_far ?_ NB243_257.out _; (with_reducible repeat (first | apply blk_drewN | apply blk_drew | apply blk_alloc)); refine blk_far ?_ NB243_257.out _; (with_reducible repeat (first | apply blk_drewN | apply blk_drew | apply blk_alloc)); exact BK243.out) hb); have n2_ := Aside0.mk (blk_below (g := gb250) (o := .cells #[.bool t246, .int .u64 t247, .int .u64 t248] 24 (0, 0)) (by (with_reducible repeat (first | apply blk_drewN | apply blk_drew | apply blk_alloc)); refine blk_far ?_ NB250_257.out _; (with_reducible repeat (first | apply blk_drewN | apply blk_drew | apply blk_alloc)); refine blk_far ?_ NB250_257.out _; (with_reducible repeat (first | apply blk_drewN | apply blk_drew | apply blk_alloc)); refine blk_far ?_ NB250_257.out _; (with_reducible repeat (first | apply blk_drewN | apply blk_drew | apply blk_alloc)); exact BK250.out) hb); have n3_ := Aside0.mk (blk_below (g := gb257) (o := .cells #[.bool t253, .int .u64 t254, .int .u64 t255] 24 (0, 0)) (by (with_reducible repeat (first | apply blk_drewN | apply blk_drew | apply blk_alloc)); refine blk_put (cs := #[.bool t253, .int .u64 t254, .int .u64 0]) ?_ 2 _ rfl; (with_reducible repeat (first | apply blk_drewN | apply blk_drew | apply blk_alloc)); refine blk_put (cs := #[.bool t253, .int .u64 0, .int .u64 0]) ?_ 1 _ rfl; (with_reducible repeat (first | apply blk_drewN | apply blk_drew | apply blk_alloc)); refine blk_put (cs := #[.bool false, .int .u64 0, .int .u64 0]) ?_ 0 _ rfl; (with_reducible repeat (first | apply blk_drewN | apply blk_drew | apply blk_alloc)); exact BK257.out) hb); have n4_ := Aside0.mk (below_step (by repeat (first | (with_reducible first | exact HB.out | apply below_alloc | apply pw_below_drewN | apply below_drew1 | refine below_set ?_ (by apply Aside0.out; assumption)) | exact HB.out)) hb); clear BK231; clear BK243; clear BK250; clear BK257; clear HB; have BK231 := n0_; have BK243 := n1_; have BK250 := n2_; have BK257 := n3_; have HB := n4_; clear n0_ n1_ n2_ n3_ n4_; (try clear hb); (try clear hb2); (try clear hk); (try clear hi)) | ((with_reducible refine gate_dst (N := 16) rfl ?_); refine box_event ?hg (N := 16) ?hd (cs := #[.bool false, .int .u64 0, .int .u64 0]) (t := 24) ?hr ?_; (case hd => rfl); (case hg => rfl); (case hr => first | (go_simp; done) | (go_simp; rfl)); intro gb262 hg w58 hbox hb; have n0_ := Aside0.mk (blk_below (g := gb231) (o := .cells #[.bool a0_0, .int .u64 a0_1, .int .u64 a0_2, .int .i64 a0_3] 26 (0, 0)) (by (with_reducible repeat (first | apply blk_drewN | apply blk_drew | apply blk_alloc)); exact BK231.out) hb); have n1_ := Aside0.mk (blk_below (g := gb243) (o := .cells #[.bool t238, .int .u64 t239, .int .u64 t240, .int .i64 t241] 26 (0, 0)) (by (with_reducible repeat (first | apply blk_drewN | apply blk_drew | apply blk_alloc)); exact BK243.out) hb); have n2_ := Aside0.mk (blk_below (g := gb250) (o := .cells #[.bool t246, .int .u64 t247, .int .u64 t248] 24 (0, 0)) (by (with_reducible repeat (first | apply blk_drewN | apply blk_drew | apply blk_alloc)); exact BK250.out) hb); have n3_ := Aside0.mk (blk_below (g := gb257) (o := .cells #[.bool t253, .int .u64 t254, .int .u64 t255] 24 (0, 0)) (by (with_reducible repeat (first | apply blk_drewN | apply blk_drew | apply blk_alloc)); exact BK257.out) hb); have n4_ := Aside0.mk (below_step (by repeat (first | (with_reducible first | exact HB.out | apply below_alloc | apply pw_below_drewN | apply below_drew1 | refine below_set ?_ (by apply Aside0.out; assumption)) | exact HB.out)) hb); have n5_ := Aside0.mk (hbox); have n6_ := Aside0.mk ((by rw [hg]; exact (below_size (by repeat (first | (with_reducible first | exact HB.out | apply below_alloc | apply pw_below_drewN | apply below_drew1 | refine below_set ?_ (by apply Aside0.out; assumption)) | exact HB.out))) : w.heap.size ≤ gb262)); have n7_ := Aside0.mk ((by rw [hg]; exact (below_size (by repeat (first | (with_reducible first | exact HB.out | apply below_alloc | apply pw_below_drewN | apply below_drew1 | refine below_set ?_ (by apply Aside0.out; assumption)) | exact HB.out))) : w.heap.size ≤ gb262)); have n8_ := Aside0.mk ((by rw [hg]; exact Nat.ne_of_lt (blk_lt (g := gb231) (o := .cells #[.bool a0_0, .int .u64 a0_1, .int .u64 a0_2, .int .i64 a0_3] 26 (0, 0)) (by (with_reducible repeat (first | apply blk_drewN | apply blk_drew | apply blk_alloc)); exact BK231.out)) : gb231 ≠ gb262)); have n9_ := Aside0.mk ((by rw [hg]; exact Nat.ne_of_gt (blk_lt (g := gb231) (o := .cells #[.bool a0_0, .int .u64 a0_1, .int .u64 a0_2, .int .i64 a0_3] 26 (0, 0)) (by (with_reducible repeat (first | apply blk_drewN | apply blk_drew | apply blk_alloc)); exact BK231.out)) : gb262 ≠ gb231)); have n10_ := Aside0.mk ((by rw [hg]; exact Nat.ne_of_lt (blk_lt (g := gb243) (o := .cells #[.bool t238, .int .u64 t239, .int .u64 t240, .int .i64 t241] 26 (0, 0)) (by (with_reducible repeat (first | apply blk_drewN | apply blk_drew | apply blk_alloc)); exact BK243.out)) : gb243 ≠ gb262)); have n11_ := Aside0.mk ((by rw [hg]; exact Nat.ne_of_gt (blk_lt (g := gb243) (o := .cells #[.bool t238, .int .u64 t239, .int .u64 t240, .int .i64 t241] 26 (0, 0)) (by (with_reducible repeat (first | apply blk_drewN | apply blk_drew | apply blk_alloc)); exact BK243.out)) : gb262 ≠ gb243)); have n12_ := Aside0.mk ((by rw [hg]; exact Nat.ne_of_lt (blk_lt (g := gb250) (o := .cells #[.bool t246, .int .u64 t247, .int .u64 t248] 24 (0, 0)) (by (with_reducible repeat (first | apply blk_drewN | apply blk_drew | apply blk_alloc)); exact BK250.out)) : gb250 ≠ gb262)); have n13_ := Aside0.mk ((by rw [hg]; exact Nat.ne_of_gt (blk_lt (g := gb250) (o := .cells #[.bool t246, .int .u64 t247, .int .u64 t248] 24 (0, 0)) (by (with_reducible repeat (first | apply blk_drewN | apply blk_drew | apply blk_alloc)); exact BK250.out)) : gb262 ≠ gb250)); have n14_ := Aside0.mk ((by rw [hg]; exact Nat.ne_of_lt (blk_lt (g := gb257) (o := .cells #[.bool t253, .int .u64 t254, .int .u64 t255] 24 (0, 0)) (by (with_reducible repeat (first | apply blk_drewN | apply blk_drew | apply blk_alloc)); exact BK257.out)) : gb257 ≠ gb262)); have n15_ := Aside0.mk ((by rw [hg]; exact Nat.ne_of_gt (blk_lt (g := gb257) (o := .cells #[.bool t253, .int .u64 t254, .int .u64 t255] 24 (0, 0)) (by (with_reducible repeat (first | apply blk_drewN | apply blk_drew | apply blk_alloc)); exact BK257.out)) : gb262 ≠ gb257)); clear BK231; clear BK243; clear BK250; clear BK257; clear HB; have BK231 := n0_; have BK243 := n1_; have BK250 := n2_; have BK257 := n3_; have HB := n4_; have BK262 := n5_; have GW262 := n6_; have GE262 := n7_; have NB231_262 := n8_; have NB262_231 := n9_; have NB243_262 := n10_; have NB262_243 := n11_; have NB250_262 := n12_; have NB262_250 := n13_; have NB257_262 := n14_; have NB262_257 := n15_; clear n0_ n1_ n2_ n3_ n4_ n5_ n6_ n7_ n8_ n9_ n10_ n11_ n12_ n13_ n14_ n15_; clear hb hbox hg; have hnb59 := NB262_231.out; have hnc59 := NB231_262.out; have hnb60 := NB262_243.out; have hnc60 := NB243_262.out; have hnb61 := NB262_250.out; have hnc61 := NB250_262.out; have hnb62 := NB262_257.out; have hnc62 := NB257_262.out; have hcz63_0 : w58.cell? ⟨gb262, 0, none⟩ = some (.bool false) := (blk_cell BK262.out 0).trans rfl; have hcz63_1 : w58.cell? ⟨gb262, 1, none⟩ = some (.int .u64 0) := (blk_cell BK262.out 1).trans rfl; have hcz63_2 : w58.cell? ⟨gb262, 2, none⟩ = some (.int .u64 0) := (blk_cell BK262.out 2).trans rfl; have hfz63_0 := blk_frozen BK262.out 0; have hfz63_1 := blk_frozen BK262.out 1; have hfz63_2 := blk_frozen BK262.out 2; have hcz64_0 : w58.cell? ⟨gb231, 0, none⟩ = some (.bool a0_0) := (blk_cell BK231.out 0).trans rfl; have hcz64_1 : w58.cell? ⟨gb231, 1, none⟩ = some (.int .u64 a0_1) := (blk_cell BK231.out 1).trans rfl; have hcz64_2 : w58.cell? ⟨gb231, 2, none⟩ = some (.int .u64 a0_2) := (blk_cell BK231.out 2).trans rfl; have hcz64_3 : w58.cell? ⟨gb231, 3, none⟩ = some (.int .i64 a0_3) := (blk_cell BK231.out 3).trans rfl; have hfz64_0 := blk_frozen BK231.out 0; have hfz64_1 := blk_frozen BK231.out 1; have hfz64_2 := blk_frozen BK231.out 2; have hfz64_3 := blk_frozen BK231.out 3) | ((with_reducible refine gate_callee (f := 13) rfl ?_); refine goesL_ (some 103) rfl rfl Tryz.func13 (by kernel_rfl) rfl #[.agg #[.bool a0_0, .int .u64 a0_1, .int .u64 a0_2, .int .i64 a0_3], .int .i64 t244] rfl (by (try simp only [List.map_toArray, List.map_cons, List.map_nil]); first | done | rfl | (simp only [List.length_drop, List.length_take]; rfl)) ?_; (with_reducible refine (ranges_At.calls a0_0 a0_1 a0_2 a0_3 t244 t263 t264 t265 t266 _ A38.out).mono ?_); rintro e w65 ⟨rfl, hb⟩; refine ⟨_, rfl, ?_⟩; have n0_ := Aside0.mk (blk_below (g := gb231) (o := .cells #[.bool a0_0, .int .u64 a0_1, .int .u64 a0_2, .int .i64 a0_3] 26 (0, 0)) (by (with_reducible repeat (first | apply blk_drewN | apply blk_drew | apply blk_alloc)); refine blk_far ?_ NB231_262.out _; (with_reducible repeat (first | apply blk_drewN | apply blk_drew | apply blk_alloc)); refine blk_far ?_ NB231_262.out _; (with_reducible repeat (first | apply blk_drewN | apply blk_drew | apply blk_alloc)); refine blk_far ?_ NB231_262.out _; (with_reducible repeat (first | apply blk_drewN | apply blk_drew | apply blk_alloc)); exact BK231.out) hb); have n1_ := Aside0.mk (blk_below (g := gb243) (o := .cells #[.bool t238, .int .u64 t239, .int .u64 t240, .int .i64 t241] 26 (0, 0)) (by (with_reducible repeat (first | apply blk_drewN | apply blk_drew | apply blk_alloc)); refine blk_far ?_ NB243_262.out _; (with_reducible repeat (first | apply blk_drewN | apply blk_drew | apply blk_alloc)); refine blk_far ?_ NB243_262.out _; (with_reducible repeat (first | apply blk_drewN | apply blk_drew | apply blk_alloc)); refine blk_far ?_ NB243_262.out _; (with_reducible repeat (first | apply blk_drewN | apply blk_drew | apply blk_alloc)); exact BK243.out) hb); have n2_ := Aside0.mk (blk_below (g := gb250) (o := .cells #[.bool t246, .int .u64 t247, .int .u64 t248] 24 (0, 0)) (by (with_reducible repeat (first | apply blk_drewN | apply blk_drew | apply blk_alloc)); refine blk_far ?_ NB250_262.out _; (with_reducible repeat (first | apply blk_drewN | apply blk_drew | apply blk_alloc)); refine blk_far ?_ NB250_262.out _; (with_reducible repeat (first | apply blk_drewN | apply blk_drew | apply blk_alloc)); refine blk_far ?_ NB250_262.out _; (with_reducible repeat (first | apply blk_drewN | apply blk_drew | apply blk_alloc)); exact BK250.out) hb); have n3_ := Aside0.mk (blk_below (g := gb257) (o := .cells #[.bool t253, .int .u64 t254, .int .u64 t255] 24 (0, 0)) (by (with_reducible repeat (first | apply blk_drewN | apply blk_drew | apply blk_alloc)); refine blk_far ?_ NB257_262.out _; (with_reducible repeat (first | apply blk_drewN | apply blk_drew | apply blk_alloc)); refine blk_far ?_ NB257_262.out _; (with_reducible repeat (first | apply blk_drewN | apply blk_drew | apply blk_alloc)); refine blk_far ?_ NB257_262.out _; (with_reducible repeat (first | apply blk_drewN | apply blk_drew | apply blk_alloc)); exact BK257.out) hb); have n4_ := Aside0.mk (blk_below (g := gb262) (o := .cells #[.bool t258, .int .u64 t259, .int .u64 t260] 24 (0, 0)) (by (with_reducible repeat (first | apply blk_drewN | apply blk_drew | apply blk_alloc)); refine blk_put (cs := #[.bool t258, .int .u64 t259, .int .u64 0]) ?_ 2 _ rfl; (with_reducible repeat (first | apply blk_drewN | apply blk_drew | apply blk_alloc)); refine blk_put (cs := #[.bool t258, .int .u64 0, .int .u64 0]) ?_ 1 _ rfl; (with_reducible repeat (first | apply blk_drewN | apply blk_drew | apply blk_alloc)); refine blk_put (cs := #[.bool false, .int .u64 0, .int .u64 0]) ?_ 0 _ rfl; (with_reducible repeat (first | apply blk_drewN | apply blk_drew | apply blk_alloc)); exact BK262.out) hb); have n5_ := Aside0.mk (below_step (by repeat (first | (with_reducible first | exact HB.out | apply below_alloc | apply pw_below_drewN | apply below_drew1 | refine below_set ?_ (by apply Aside0.out; assumption)) | exact HB.out)) hb); clear BK231; clear BK243; clear BK250; clear BK257; clear BK262; clear HB; have BK231 := n0_; have BK243 := n1_; have BK250 := n2_; have BK257 := n3_; have BK262 := n4_; have HB := n5_; clear n0_ n1_ n2_ n3_ n4_ n5_; (try clear hb); (try clear hb2); (try clear hk); (try clear hi)) | ((with_reducible refine gate_dst (N := 18) rfl ?_); refine box_event ?hg (N := 18) ?hd (cs := #[.bool false, .int .u64 0, .int .u64 0]) (t := 24) ?hr ?_; (case hd => rfl); (case hg => rfl); (case hr => first | (go_simp; done) | (go_simp; rfl)); intro gb267 hg w66 hbox hb; have n0_ := Aside0.mk (blk_below (g := gb231) (o := .cells #[.bool a0_0, .int .u64 a0_1, .int .u64 a0_2, .int .i64 a0_3] 26 (0, 0)) (by (with_reducible repeat (first | apply blk_drewN | apply blk_drew | apply blk_alloc)); exact BK231.out) hb); have n1_ := Aside0.mk (blk_below (g := gb243) (o := .cells #[.bool t238, .int .u64 t239, .int .u64 t240, .int .i64 t241] 26 (0, 0)) (by (with_reducible repeat (first | apply blk_drewN | apply blk_drew | apply blk_alloc)); exact BK243.out) hb); have n2_ := Aside0.mk (blk_below (g := gb250) (o := .cells #[.bool t246, .int .u64 t247, .int .u64 t248] 24 (0, 0)) (by (with_reducible repeat (first | apply blk_drewN | apply blk_drew | apply blk_alloc)); exact BK250.out) hb); have n3_ := Aside0.mk (blk_below (g := gb257) (o := .cells #[.bool t253, .int .u64 t254, .int .u64 t255] 24 (0, 0)) (by (with_reducible repeat (first | apply blk_drewN | apply blk_drew | apply blk_alloc)); exact BK257.out) hb); have n4_ := Aside0.mk (blk_below (g := gb262) (o := .cells #[.bool t258, .int .u64 t259, .int .u64 t260] 24 (0, 0)) (by (with_reducible repeat (first | apply blk_drewN | apply blk_drew | apply blk_alloc)); exact BK262.out) hb); have n5_ := Aside0.mk (below_step (by repeat (first | (with_reducible first | exact HB.out | apply below_alloc | apply pw_below_drewN | apply below_drew1 | refine below_set ?_ (by apply Aside0.out; assumption)) | exact HB.out)) hb); have n6_ := Aside0.mk (hbox); have n7_ := Aside0.mk ((by rw [hg]; exact (below_size (by repeat (first | (with_reducible first | exact HB.out | apply below_alloc | apply pw_below_drewN | apply below_drew1 | refine below_set ?_ (by apply Aside0.out; assumption)) | exact HB.out))) : w.heap.size ≤ gb267)); have n8_ := Aside0.mk ((by rw [hg]; exact (below_size (by repeat (first | (with_reducible first | exact HB.out | apply below_alloc | apply pw_below_drewN | apply below_drew1 | refine below_set ?_ (by apply Aside0.out; assumption)) | exact HB.out))) : w.heap.size ≤ gb267)); have n9_ := Aside0.mk ((by rw [hg]; exact Nat.ne_of_lt (blk_lt (g := gb231) (o := .cells #[.bool a0_0, .int .u64 a0_1, .int .u64 a0_2, .int .i64 a0_3] 26 (0, 0)) (by (with_reducible repeat (first | apply blk_drewN | apply blk_drew | apply blk_alloc)); exact BK231.out)) : gb231 ≠ gb267)); have n10_ := Aside0.mk ((by rw [hg]; exact Nat.ne_of_gt (blk_lt (g := gb231) (o := .cells #[.bool a0_0, .int .u64 a0_1, .int .u64 a0_2, .int .i64 a0_3] 26 (0, 0)) (by (with_reducible repeat (first | apply blk_drewN | apply blk_drew | apply blk_alloc)); exact BK231.out)) : gb267 ≠ gb231)); have n11_ := Aside0.mk ((by rw [hg]; exact Nat.ne_of_lt (blk_lt (g := gb243) (o := .cells #[.bool t238, .int .u64 t239, .int .u64 t240, .int .i64 t241] 26 (0, 0)) (by (with_reducible repeat (first | apply blk_drewN | apply blk_drew | apply blk_alloc)); exact BK243.out)) : gb243 ≠ gb267)); have n12_ := Aside0.mk ((by rw [hg]; exact Nat.ne_of_gt (blk_lt (g := gb243) (o := .cells #[.bool t238, .int .u64 t239, .int .u64 t240, .int .i64 t241] 26 (0, 0)) (by (with_reducible repeat (first | apply blk_drewN | apply blk_drew | apply blk_alloc)); exact BK243.out)) : gb267 ≠ gb243)); have n13_ := Aside0.mk ((by rw [hg]; exact Nat.ne_of_lt (blk_lt (g := gb250) (o := .cells #[.bool t246, .int .u64 t247, .int .u64 t248] 24 (0, 0)) (by (with_reducible repeat (first | apply blk_drewN | apply blk_drew | apply blk_alloc)); exact BK250.out)) : gb250 ≠ gb267)); have n14_ := Aside0.mk ((by rw [hg]; exact Nat.ne_of_gt (blk_lt (g := gb250) (o := .cells #[.bool t246, .int .u64 t247, .int .u64 t248] 24 (0, 0)) (by (with_reducible repeat (first | apply blk_drewN | apply blk_drew | apply blk_alloc)); exact BK250.out)) : gb267 ≠ gb250)); have n15_ := Aside0.mk ((by rw [hg]; exact Nat.ne_of_lt (blk_lt (g := gb257) (o := .cells #[.bool t253, .int .u64 t254, .int .u64 t255] 24 (0, 0)) (by (with_reducible repeat (first | apply blk_drewN | apply blk_drew | apply blk_alloc)); exact BK257.out)) : gb257 ≠ gb267)); have n16_ := Aside0.mk ((by rw [hg]; exact Nat.ne_of_gt (blk_lt (g := gb257) (o := .cells #[.bool t253, .int .u64 t254, .int .u64 t255] 24 (0, 0)) (by (with_reducible repeat (first | apply blk_drewN | apply blk_drew | apply blk_alloc)); exact BK257.out)) : gb267 ≠ gb257)); have n17_ := Aside0.mk ((by rw [hg]; exact Nat.ne_of_lt (blk_lt (g := gb262) (o := .cells #[.bool t258, .int .u64 t259, .int .u64 t260] 24 (0, 0)) (by (with_reducible repeat (first | apply blk_drewN | apply blk_drew | apply blk_alloc)); exact BK262.out)) : gb262 ≠ gb267)); have n18_ := Aside0.mk ((by rw [hg]; exact Nat.ne_of_gt (blk_lt (g := gb262) (o := .cells #[.bool t258, .int .u64 t259, .int .u64 t260] 24 (0, 0)) (by (with_reducible repeat (first | apply blk_drewN | apply blk_drew | apply blk_alloc)); exact BK262.out)) : gb267 ≠ gb262)); clear BK231; clear BK243; clear BK250; clear BK257; clear BK262; clear HB; have BK231 := n0_; have BK243 := n1_; have BK250 := n2_; have BK257 := n3_; have BK262 := n4_; have HB := n5_; have BK267 := n6_; have GW267 := n7_; have GE267 := n8_; have NB231_267 := n9_; have NB267_231 := n10_; have NB243_267 := n11_; have NB267_243 := n12_; have NB250_267 := n13_; have NB267_250 := n14_; have NB257_267 := n15_; have NB267_257 := n16_; have NB262_267 := n17_; have NB267_262 := n18_; clear n0_ n1_ n2_ n3_ n4_ n5_ n6_ n7_ n8_ n9_ n10_ n11_ n12_ n13_ n14_ n15_ n16_ n17_ n18_; clear hb hbox hg; have hnb67 := NB267_231.out; have hnc67 := NB231_267.out; have hnb68 := NB267_243.out; have hnc68 := NB243_267.out; have hnb69 := NB267_250.out; have hnc69 := NB250_267.out; have hnb70 := NB267_257.out; have hnc70 := NB257_267.out; have hnb71 := NB267_262.out; have hnc71 := NB262_267.out; have hcz72_0 : w66.cell? ⟨gb267, 0, none⟩ = some (.bool false) := (blk_cell BK267.out 0).trans rfl; have hcz72_1 : w66.cell? ⟨gb267, 1, none⟩ = some (.int .u64 0) := (blk_cell BK267.out 1).trans rfl; have hcz72_2 : w66.cell? ⟨gb267, 2, none⟩ = some (.int .u64 0) := (blk_cell BK267.out 2).trans rfl; have hfz72_0 := blk_frozen BK267.out 0; have hfz72_1 := blk_frozen BK267.out 1; have hfz72_2 := blk_frozen BK267.out 2))
      (try simp only [Act.put, List.setIfInBounds_toArray, List.set_cons_zero, List.set_cons_succ])
      go_cut [145] (fun v145 wc => ∃ (kq : Nat) (x145_38 : Bool), v145 = .bool x145_38 ∧ Aside0 (nameplatelaw05_RangesBack.j1 kq t244 x145_38 a0_0 a0_1 a0_2 a0_3 t258 t259 t260 = some r) ∧ Aside0 (kq ≤ kj8) ∧ Aside0 (wc.heap[gb231]? = some (.cells #[.bool a0_0, .int .u64 a0_1, .int .u64 a0_2, .int .i64 a0_3] 26 (0, 0))) ∧ Aside0 (wc.heap[gb243]? = some (.cells #[.bool t238, .int .u64 t239, .int .u64 t240, .int .i64 t241] 26 (0, 0))) ∧ Aside0 (wc.heap[gb250]? = some (.cells #[.bool t246, .int .u64 t247, .int .u64 t248] 24 (0, 0))) ∧ Aside0 (wc.heap[gb257]? = some (.cells #[.bool t253, .int .u64 t254, .int .u64 t255] 24 (0, 0))) ∧ Aside0 (wc.heap[gb262]? = some (.cells #[.bool t258, .int .u64 t259, .int .u64 t260] 24 (0, 0))) ∧ Aside0 (wc.heap[gb267]? = some (.cells #[.bool t263, .int .u64 t264, .int .u64 t265] 24 (0, 0))) ∧ Aside0 (Below w.heap.size w wc))
      case first =>
       have H := HC39.out
       clear HC39
       by_cases c73 : t249 = true
       ·subst c73
        have H1 : (if t252 = true then (if t251 = t245 then (if t256 = true then (if (!(t253 == a0_0) || (!(t254 == a0_1) || (!(t255 == a0_2)))) = true then (nameplatelaw05_RangesBack.j1 kj8 t244 true a0_0 a0_1 a0_2 a0_3 t258 t259 t260) else (if t261 = true then (if t266 = true then (nameplatelaw05_RangesBack.j1 kj8 t244 true a0_0 a0_1 a0_2 a0_3 t258 t259 t260) else ((ranges_Has.f a0_0 a0_1 a0_2 a0_3 t246 t247 t248).bind fun t268 => (if t268 = true then ((ranges_Has.f a0_0 a0_1 a0_2 a0_3 t258 t259 t260).bind fun t269 => (nameplatelaw05_RangesBack.j1 kj8 t244 (!t269) a0_0 a0_1 a0_2 a0_3 t258 t259 t260)) else (nameplatelaw05_RangesBack.j1 kj8 t244 true a0_0 a0_1 a0_2 a0_3 t258 t259 t260)))) else (nameplatelaw05_RangesBack.j1 kj8 t244 true a0_0 a0_1 a0_2 a0_3 t258 t259 t260))) else (nameplatelaw05_RangesBack.j1 kj8 t244 true a0_0 a0_1 a0_2 a0_3 t258 t259 t260)) else (nameplatelaw05_RangesBack.j1 kj8 t244 true a0_0 a0_1 a0_2 a0_3 t258 t259 t260)) else (nameplatelaw05_RangesBack.j1 kj8 t244 true a0_0 a0_1 a0_2 a0_3 t258 t259 t260)) = some r := by rw [if_pos rfl] at H; exact H
        clear H
        have H := H1
        clear H1
        by_cases c74 : t252 = true
        ·subst c74
         have H1 : (if t251 = t245 then (if t256 = true then (if (!(t253 == a0_0) || (!(t254 == a0_1) || (!(t255 == a0_2)))) = true then (nameplatelaw05_RangesBack.j1 kj8 t244 true a0_0 a0_1 a0_2 a0_3 t258 t259 t260) else (if t261 = true then (if t266 = true then (nameplatelaw05_RangesBack.j1 kj8 t244 true a0_0 a0_1 a0_2 a0_3 t258 t259 t260) else ((ranges_Has.f a0_0 a0_1 a0_2 a0_3 t246 t247 t248).bind fun t268 => (if t268 = true then ((ranges_Has.f a0_0 a0_1 a0_2 a0_3 t258 t259 t260).bind fun t269 => (nameplatelaw05_RangesBack.j1 kj8 t244 (!t269) a0_0 a0_1 a0_2 a0_3 t258 t259 t260)) else (nameplatelaw05_RangesBack.j1 kj8 t244 true a0_0 a0_1 a0_2 a0_3 t258 t259 t260)))) else (nameplatelaw05_RangesBack.j1 kj8 t244 true a0_0 a0_1 a0_2 a0_3 t258 t259 t260))) else (nameplatelaw05_RangesBack.j1 kj8 t244 true a0_0 a0_1 a0_2 a0_3 t258 t259 t260)) else (nameplatelaw05_RangesBack.j1 kj8 t244 true a0_0 a0_1 a0_2 a0_3 t258 t259 t260)) = some r := by rw [if_pos rfl] at H; exact H
         clear H
         have H := H1
         clear H1
         by_cases c75 : t251 = t245
         ·rw [if_pos c75] at H
          have c75b0 : (t251 == t245) = true := beq_iff_eq.mpr c75
          have c75b1 : (t251 != t245) = false := bne_eq_false_iff_eq.mpr c75
          clear c75
          (first | rw [c75b0] | (simp only [i64_w, i32_w]; rw [c75b0]) | skip)
          by_cases c76 : t256 = true
          ·subst c76
           have H1 : (if (!(t253 == a0_0) || (!(t254 == a0_1) || (!(t255 == a0_2)))) = true then (nameplatelaw05_RangesBack.j1 kj8 t244 true a0_0 a0_1 a0_2 a0_3 t258 t259 t260) else (if t261 = true then (if t266 = true then (nameplatelaw05_RangesBack.j1 kj8 t244 true a0_0 a0_1 a0_2 a0_3 t258 t259 t260) else ((ranges_Has.f a0_0 a0_1 a0_2 a0_3 t246 t247 t248).bind fun t268 => (if t268 = true then ((ranges_Has.f a0_0 a0_1 a0_2 a0_3 t258 t259 t260).bind fun t269 => (nameplatelaw05_RangesBack.j1 kj8 t244 (!t269) a0_0 a0_1 a0_2 a0_3 t258 t259 t260)) else (nameplatelaw05_RangesBack.j1 kj8 t244 true a0_0 a0_1 a0_2 a0_3 t258 t259 t260)))) else (nameplatelaw05_RangesBack.j1 kj8 t244 true a0_0 a0_1 a0_2 a0_3 t258 t259 t260))) = some r := by rw [if_pos rfl] at H; exact H
           clear H
           have H := H1
           clear H1
           by_cases c77 : (!(t253 == a0_0) || (!(t254 == a0_1) || (!(t255 == a0_2)))) = true
           ·rw [if_pos c77] at H
            have c77b0 : (!(t253 == a0_0) || (!(t254 == a0_1) || (!(t255 == a0_2)))) = true := c77
            clear c77
            have H' := Aside0.mk H
            clear H
            have hnb78 := NB257_231.out
            have hnc78 := NB231_257.out
            have hnb79 := NB257_243.out
            have hnc79 := NB243_257.out
            have hnb80 := NB257_250.out
            have hnc80 := NB250_257.out
            have hnb81 := NB257_262.out
            have hnc81 := NB262_257.out
            have hnb82 := NB257_267.out
            have hnc82 := NB267_257.out
            have hcz83_0 : w66.cell? ⟨gb257, 0, none⟩ = some (.bool t253) := (blk_cell BK257.out 0).trans rfl
            have hcz83_1 : w66.cell? ⟨gb257, 1, none⟩ = some (.int .u64 t254) := (blk_cell BK257.out 1).trans rfl
            have hcz83_2 : w66.cell? ⟨gb257, 2, none⟩ = some (.int .u64 t255) := (blk_cell BK257.out 2).trans rfl
            have hfz83_0 := blk_frozen BK257.out 0
            have hfz83_1 := blk_frozen BK257.out 1
            have hfz83_2 := blk_frozen BK257.out 2
            have hnb84 := NB231_243.out
            have hnc84 := NB243_231.out
            have hnb85 := NB231_250.out
            have hnc85 := NB250_231.out
            have hnb86 := NB231_262.out
            have hnc86 := NB262_231.out
            have hnb87 := NB231_267.out
            have hnc87 := NB267_231.out
            have hcz88_0 : w66.cell? ⟨gb231, 0, none⟩ = some (.bool a0_0) := (blk_cell BK231.out 0).trans rfl
            have hcz88_1 : w66.cell? ⟨gb231, 1, none⟩ = some (.int .u64 a0_1) := (blk_cell BK231.out 1).trans rfl
            have hcz88_2 : w66.cell? ⟨gb231, 2, none⟩ = some (.int .u64 a0_2) := (blk_cell BK231.out 2).trans rfl
            have hcz88_3 : w66.cell? ⟨gb231, 3, none⟩ = some (.int .i64 a0_3) := (blk_cell BK231.out 3).trans rfl
            have hfz88_0 := blk_frozen BK231.out 0
            have hfz88_1 := blk_frozen BK231.out 1
            have hfz88_2 := blk_frozen BK231.out 2
            have hfz88_3 := blk_frozen BK231.out 3
            go_wp2
            go_meet
            case rel => exact ⟨_, (true), (by first | rfl | (simp; done) | (simp [*]; done)), H', ⟨by have := HJ8.out; first | omega | exact Nat.le_refl _⟩, ⟨by (with_reducible repeat (first | apply blk_drewN | apply blk_drew | apply blk_alloc)); refine blk_far ?_ NB231_267.out _; (with_reducible repeat (first | apply blk_drewN | apply blk_drew | apply blk_alloc)); refine blk_far ?_ NB231_267.out _; (with_reducible repeat (first | apply blk_drewN | apply blk_drew | apply blk_alloc)); refine blk_far ?_ NB231_267.out _; (with_reducible repeat (first | apply blk_drewN | apply blk_drew | apply blk_alloc)); exact BK231.out⟩, ⟨by (with_reducible repeat (first | apply blk_drewN | apply blk_drew | apply blk_alloc)); refine blk_far ?_ NB243_267.out _; (with_reducible repeat (first | apply blk_drewN | apply blk_drew | apply blk_alloc)); refine blk_far ?_ NB243_267.out _; (with_reducible repeat (first | apply blk_drewN | apply blk_drew | apply blk_alloc)); refine blk_far ?_ NB243_267.out _; (with_reducible repeat (first | apply blk_drewN | apply blk_drew | apply blk_alloc)); exact BK243.out⟩, ⟨by (with_reducible repeat (first | apply blk_drewN | apply blk_drew | apply blk_alloc)); refine blk_far ?_ NB250_267.out _; (with_reducible repeat (first | apply blk_drewN | apply blk_drew | apply blk_alloc)); refine blk_far ?_ NB250_267.out _; (with_reducible repeat (first | apply blk_drewN | apply blk_drew | apply blk_alloc)); refine blk_far ?_ NB250_267.out _; (with_reducible repeat (first | apply blk_drewN | apply blk_drew | apply blk_alloc)); exact BK250.out⟩, ⟨by (with_reducible repeat (first | apply blk_drewN | apply blk_drew | apply blk_alloc)); refine blk_far ?_ NB257_267.out _; (with_reducible repeat (first | apply blk_drewN | apply blk_drew | apply blk_alloc)); refine blk_far ?_ NB257_267.out _; (with_reducible repeat (first | apply blk_drewN | apply blk_drew | apply blk_alloc)); refine blk_far ?_ NB257_267.out _; (with_reducible repeat (first | apply blk_drewN | apply blk_drew | apply blk_alloc)); exact BK257.out⟩, ⟨by (with_reducible repeat (first | apply blk_drewN | apply blk_drew | apply blk_alloc)); refine blk_far ?_ NB262_267.out _; (with_reducible repeat (first | apply blk_drewN | apply blk_drew | apply blk_alloc)); refine blk_far ?_ NB262_267.out _; (with_reducible repeat (first | apply blk_drewN | apply blk_drew | apply blk_alloc)); refine blk_far ?_ NB262_267.out _; (with_reducible repeat (first | apply blk_drewN | apply blk_drew | apply blk_alloc)); exact BK262.out⟩, ⟨by (with_reducible repeat (first | apply blk_drewN | apply blk_drew | apply blk_alloc)); refine blk_put (cs := #[.bool t263, .int .u64 t264, .int .u64 0]) ?_ 2 _ rfl; (with_reducible repeat (first | apply blk_drewN | apply blk_drew | apply blk_alloc)); refine blk_put (cs := #[.bool t263, .int .u64 0, .int .u64 0]) ?_ 1 _ rfl; (with_reducible repeat (first | apply blk_drewN | apply blk_drew | apply blk_alloc)); refine blk_put (cs := #[.bool false, .int .u64 0, .int .u64 0]) ?_ 0 _ rfl; (with_reducible repeat (first | apply blk_drewN | apply blk_drew | apply blk_alloc)); exact BK267.out⟩, ⟨by repeat (first | (with_reducible first | exact HB.out | apply below_alloc | apply pw_below_drewN | apply below_drew1 | refine below_set ?_ (by apply Aside0.out; assumption)) | exact HB.out)⟩⟩
           ·rw [if_neg c77] at H
            have c77b0 : (!(t253 == a0_0) || (!(t254 == a0_1) || (!(t255 == a0_2)))) = false := by simpa using c77
            clear c77
            by_cases c89 : t261 = true
            ·subst c89
             have H1 : (if t266 = true then (nameplatelaw05_RangesBack.j1 kj8 t244 true a0_0 a0_1 a0_2 a0_3 t258 t259 t260) else ((ranges_Has.f a0_0 a0_1 a0_2 a0_3 t246 t247 t248).bind fun t268 => (if t268 = true then ((ranges_Has.f a0_0 a0_1 a0_2 a0_3 t258 t259 t260).bind fun t269 => (nameplatelaw05_RangesBack.j1 kj8 t244 (!t269) a0_0 a0_1 a0_2 a0_3 t258 t259 t260)) else (nameplatelaw05_RangesBack.j1 kj8 t244 true a0_0 a0_1 a0_2 a0_3 t258 t259 t260)))) = some r := by rw [if_pos rfl] at H; exact H
             clear H
             have H := H1
             clear H1
             by_cases c90 : t266 = true
             ·subst c90
              have H1 : (nameplatelaw05_RangesBack.j1 kj8 t244 true a0_0 a0_1 a0_2 a0_3 t258 t259 t260) = some r := by rw [if_pos rfl] at H; exact H
              clear H
              have H := H1
              clear H1
              have H' := Aside0.mk H
              clear H
              have hnb91 := NB257_231.out
              have hnc91 := NB231_257.out
              have hnb92 := NB257_243.out
              have hnc92 := NB243_257.out
              have hnb93 := NB257_250.out
              have hnc93 := NB250_257.out
              have hnb94 := NB257_262.out
              have hnc94 := NB262_257.out
              have hnb95 := NB257_267.out
              have hnc95 := NB267_257.out
              have hcz96_0 : w66.cell? ⟨gb257, 0, none⟩ = some (.bool t253) := (blk_cell BK257.out 0).trans rfl
              have hcz96_1 : w66.cell? ⟨gb257, 1, none⟩ = some (.int .u64 t254) := (blk_cell BK257.out 1).trans rfl
              have hcz96_2 : w66.cell? ⟨gb257, 2, none⟩ = some (.int .u64 t255) := (blk_cell BK257.out 2).trans rfl
              have hfz96_0 := blk_frozen BK257.out 0
              have hfz96_1 := blk_frozen BK257.out 1
              have hfz96_2 := blk_frozen BK257.out 2
              have hnb97 := NB231_243.out
              have hnc97 := NB243_231.out
              have hnb98 := NB231_250.out
              have hnc98 := NB250_231.out
              have hnb99 := NB231_262.out
              have hnc99 := NB262_231.out
              have hnb100 := NB231_267.out
              have hnc100 := NB267_231.out
              have hcz101_0 : w66.cell? ⟨gb231, 0, none⟩ = some (.bool a0_0) := (blk_cell BK231.out 0).trans rfl
              have hcz101_1 : w66.cell? ⟨gb231, 1, none⟩ = some (.int .u64 a0_1) := (blk_cell BK231.out 1).trans rfl
              have hcz101_2 : w66.cell? ⟨gb231, 2, none⟩ = some (.int .u64 a0_2) := (blk_cell BK231.out 2).trans rfl
              have hcz101_3 : w66.cell? ⟨gb231, 3, none⟩ = some (.int .i64 a0_3) := (blk_cell BK231.out 3).trans rfl
              have hfz101_0 := blk_frozen BK231.out 0
              have hfz101_1 := blk_frozen BK231.out 1
              have hfz101_2 := blk_frozen BK231.out 2
              have hfz101_3 := blk_frozen BK231.out 3
              go_wp2
              go_meet
              case rel => exact ⟨_, (true), (by first | rfl | (simp; done) | (simp [*]; done)), H', ⟨by have := HJ8.out; first | omega | exact Nat.le_refl _⟩, ⟨by (with_reducible repeat (first | apply blk_drewN | apply blk_drew | apply blk_alloc)); refine blk_far ?_ NB231_267.out _; (with_reducible repeat (first | apply blk_drewN | apply blk_drew | apply blk_alloc)); refine blk_far ?_ NB231_267.out _; (with_reducible repeat (first | apply blk_drewN | apply blk_drew | apply blk_alloc)); refine blk_far ?_ NB231_267.out _; (with_reducible repeat (first | apply blk_drewN | apply blk_drew | apply blk_alloc)); exact BK231.out⟩, ⟨by (with_reducible repeat (first | apply blk_drewN | apply blk_drew | apply blk_alloc)); refine blk_far ?_ NB243_267.out _; (with_reducible repeat (first | apply blk_drewN | apply blk_drew | apply blk_alloc)); refine blk_far ?_ NB243_267.out _; (with_reducible repeat (first | apply blk_drewN | apply blk_drew | apply blk_alloc)); refine blk_far ?_ NB243_267.out _; (with_reducible repeat (first | apply blk_drewN | apply blk_drew | apply blk_alloc)); exact BK243.out⟩, ⟨by (with_reducible repeat (first | apply blk_drewN | apply blk_drew | apply blk_alloc)); refine blk_far ?_ NB250_267.out _; (with_reducible repeat (first | apply blk_drewN | apply blk_drew | apply blk_alloc)); refine blk_far ?_ NB250_267.out _; (with_reducible repeat (first | apply blk_drewN | apply blk_drew | apply blk_alloc)); refine blk_far ?_ NB250_267.out _; (with_reducible repeat (first | apply blk_drewN | apply blk_drew | apply blk_alloc)); exact BK250.out⟩, ⟨by (with_reducible repeat (first | apply blk_drewN | apply blk_drew | apply blk_alloc)); refine blk_far ?_ NB257_267.out _; (with_reducible repeat (first | apply blk_drewN | apply blk_drew | apply blk_alloc)); refine blk_far ?_ NB257_267.out _; (with_reducible repeat (first | apply blk_drewN | apply blk_drew | apply blk_alloc)); refine blk_far ?_ NB257_267.out _; (with_reducible repeat (first | apply blk_drewN | apply blk_drew | apply blk_alloc)); exact BK257.out⟩, ⟨by (with_reducible repeat (first | apply blk_drewN | apply blk_drew | apply blk_alloc)); refine blk_far ?_ NB262_267.out _; (with_reducible repeat (first | apply blk_drewN | apply blk_drew | apply blk_alloc)); refine blk_far ?_ NB262_267.out _; (with_reducible repeat (first | apply blk_drewN | apply blk_drew | apply blk_alloc)); refine blk_far ?_ NB262_267.out _; (with_reducible repeat (first | apply blk_drewN | apply blk_drew | apply blk_alloc)); exact BK262.out⟩, ⟨by (with_reducible repeat (first | apply blk_drewN | apply blk_drew | apply blk_alloc)); refine blk_put (cs := #[.bool t263, .int .u64 t264, .int .u64 0]) ?_ 2 _ rfl; (with_reducible repeat (first | apply blk_drewN | apply blk_drew | apply blk_alloc)); refine blk_put (cs := #[.bool t263, .int .u64 0, .int .u64 0]) ?_ 1 _ rfl; (with_reducible repeat (first | apply blk_drewN | apply blk_drew | apply blk_alloc)); refine blk_put (cs := #[.bool false, .int .u64 0, .int .u64 0]) ?_ 0 _ rfl; (with_reducible repeat (first | apply blk_drewN | apply blk_drew | apply blk_alloc)); exact BK267.out⟩, ⟨by repeat (first | (with_reducible first | exact HB.out | apply below_alloc | apply pw_below_drewN | apply below_drew1 | refine below_set ?_ (by apply Aside0.out; assumption)) | exact HB.out)⟩⟩
             ·replace c90 := Bool.eq_false_iff.mpr c90
              subst c90
              have H1 : ((ranges_Has.f a0_0 a0_1 a0_2 a0_3 t246 t247 t248).bind fun t268 => (if t268 = true then ((ranges_Has.f a0_0 a0_1 a0_2 a0_3 t258 t259 t260).bind fun t269 => (nameplatelaw05_RangesBack.j1 kj8 t244 (!t269) a0_0 a0_1 a0_2 a0_3 t258 t259 t260)) else (nameplatelaw05_RangesBack.j1 kj8 t244 true a0_0 a0_1 a0_2 a0_3 t258 t259 t260))) = some r := by rw [if_neg (show ¬ (false = true) by decide)] at H; exact H
              clear H
              have H := H1
              clear H1
              replace H := Option.bind_eq_some_iff.mp H
              obtain ⟨t268, A1020, H⟩ := H
              replace H : (if t268 = true then ((ranges_Has.f a0_0 a0_1 a0_2 a0_3 t258 t259 t260).bind fun t269 => (nameplatelaw05_RangesBack.j1 kj8 t244 (!t269) a0_0 a0_1 a0_2 a0_3 t258 t259 t260)) else (nameplatelaw05_RangesBack.j1 kj8 t244 true a0_0 a0_1 a0_2 a0_3 t258 t259 t260)) = some r := H
              have A102 := Aside0.mk A1020
              clear A1020
              by_cases c103 : t268 = true
              ·subst c103
               have H1 : ((ranges_Has.f a0_0 a0_1 a0_2 a0_3 t258 t259 t260).bind fun t269 => (nameplatelaw05_RangesBack.j1 kj8 t244 (!t269) a0_0 a0_1 a0_2 a0_3 t258 t259 t260)) = some r := by rw [if_pos rfl] at H; exact H
               clear H
               have H := H1
               clear H1
               replace H := Option.bind_eq_some_iff.mp H
               obtain ⟨t269, A1040, H⟩ := H
               replace H : (nameplatelaw05_RangesBack.j1 kj8 t244 (!t269) a0_0 a0_1 a0_2 a0_3 t258 t259 t260) = some r := H
               have A104 := Aside0.mk A1040
               clear A1040
               have H' := Aside0.mk H
               clear H
               have hnb105 := NB257_231.out
               have hnc105 := NB231_257.out
               have hnb106 := NB257_243.out
               have hnc106 := NB243_257.out
               have hnb107 := NB257_250.out
               have hnc107 := NB250_257.out
               have hnb108 := NB257_262.out
               have hnc108 := NB262_257.out
               have hnb109 := NB257_267.out
               have hnc109 := NB267_257.out
               have hcz110_0 : w66.cell? ⟨gb257, 0, none⟩ = some (.bool t253) := (blk_cell BK257.out 0).trans rfl
               have hcz110_1 : w66.cell? ⟨gb257, 1, none⟩ = some (.int .u64 t254) := (blk_cell BK257.out 1).trans rfl
               have hcz110_2 : w66.cell? ⟨gb257, 2, none⟩ = some (.int .u64 t255) := (blk_cell BK257.out 2).trans rfl
               have hfz110_0 := blk_frozen BK257.out 0
               have hfz110_1 := blk_frozen BK257.out 1
               have hfz110_2 := blk_frozen BK257.out 2
               have hnb111 := NB231_243.out
               have hnc111 := NB243_231.out
               have hnb112 := NB231_250.out
               have hnc112 := NB250_231.out
               have hnb113 := NB231_262.out
               have hnc113 := NB262_231.out
               have hnb114 := NB231_267.out
               have hnc114 := NB267_231.out
               have hcz115_0 : w66.cell? ⟨gb231, 0, none⟩ = some (.bool a0_0) := (blk_cell BK231.out 0).trans rfl
               have hcz115_1 : w66.cell? ⟨gb231, 1, none⟩ = some (.int .u64 a0_1) := (blk_cell BK231.out 1).trans rfl
               have hcz115_2 : w66.cell? ⟨gb231, 2, none⟩ = some (.int .u64 a0_2) := (blk_cell BK231.out 2).trans rfl
               have hcz115_3 : w66.cell? ⟨gb231, 3, none⟩ = some (.int .i64 a0_3) := (blk_cell BK231.out 3).trans rfl
               have hfz115_0 := blk_frozen BK231.out 0
               have hfz115_1 := blk_frozen BK231.out 1
               have hfz115_2 := blk_frozen BK231.out 2
               have hfz115_3 := blk_frozen BK231.out 3
               have hnb116 := NB250_243.out
               have hnc116 := NB243_250.out
               have hnb117 := NB250_262.out
               have hnc117 := NB262_250.out
               have hnb118 := NB250_267.out
               have hnc118 := NB267_250.out
               have hcz119_0 : w66.cell? ⟨gb250, 0, none⟩ = some (.bool t246) := (blk_cell BK250.out 0).trans rfl
               have hcz119_1 : w66.cell? ⟨gb250, 1, none⟩ = some (.int .u64 t247) := (blk_cell BK250.out 1).trans rfl
               have hcz119_2 : w66.cell? ⟨gb250, 2, none⟩ = some (.int .u64 t248) := (blk_cell BK250.out 2).trans rfl
               have hfz119_0 := blk_frozen BK250.out 0
               have hfz119_1 := blk_frozen BK250.out 1
               have hfz119_2 := blk_frozen BK250.out 2
               go_wp2_with (first | (go_at_call 14; (with_reducible refine (ranges_Has.calls a0_0 a0_1 a0_2 a0_3 t246 t247 t248 true _ A102.out).mono ?_); rintro e w120 ⟨rfl, hb⟩; have n0_ := Aside0.mk (blk_below (g := gb231) (o := .cells #[.bool a0_0, .int .u64 a0_1, .int .u64 a0_2, .int .i64 a0_3] 26 (0, 0)) (by (with_reducible repeat (first | apply blk_drewN | apply blk_drew | apply blk_alloc)); refine blk_far ?_ NB231_267.out _; (with_reducible repeat (first | apply blk_drewN | apply blk_drew | apply blk_alloc)); refine blk_far ?_ NB231_267.out _; (with_reducible repeat (first | apply blk_drewN | apply blk_drew | apply blk_alloc)); refine blk_far ?_ NB231_267.out _; (with_reducible repeat (first | apply blk_drewN | apply blk_drew | apply blk_alloc)); exact BK231.out) hb); have n1_ := Aside0.mk (blk_below (g := gb243) (o := .cells #[.bool t238, .int .u64 t239, .int .u64 t240, .int .i64 t241] 26 (0, 0)) (by (with_reducible repeat (first | apply blk_drewN | apply blk_drew | apply blk_alloc)); refine blk_far ?_ NB243_267.out _; (with_reducible repeat (first | apply blk_drewN | apply blk_drew | apply blk_alloc)); refine blk_far ?_ NB243_267.out _; (with_reducible repeat (first | apply blk_drewN | apply blk_drew | apply blk_alloc)); refine blk_far ?_ NB243_267.out _; (with_reducible repeat (first | apply blk_drewN | apply blk_drew | apply blk_alloc)); exact BK243.out) hb); have n2_ := Aside0.mk (blk_below (g := gb250) (o := .cells #[.bool t246, .int .u64 t247, .int .u64 t248] 24 (0, 0)) (by (with_reducible repeat (first | apply blk_drewN | apply blk_drew | apply blk_alloc)); refine blk_far ?_ NB250_267.out _; (with_reducible repeat (first | apply blk_drewN | apply blk_drew | apply blk_alloc)); refine blk_far ?_ NB250_267.out _; (with_reducible repeat (first | apply blk_drewN | apply blk_drew | apply blk_alloc)); refine blk_far ?_ NB250_267.out _; (with_reducible repeat (first | apply blk_drewN | apply blk_drew | apply blk_alloc)); exact BK250.out) hb); have n3_ := Aside0.mk (blk_below (g := gb257) (o := .cells #[.bool t253, .int .u64 t254, .int .u64 t255] 24 (0, 0)) (by (with_reducible repeat (first | apply blk_drewN | apply blk_drew | apply blk_alloc)); refine blk_far ?_ NB257_267.out _; (with_reducible repeat (first | apply blk_drewN | apply blk_drew | apply blk_alloc)); refine blk_far ?_ NB257_267.out _; (with_reducible repeat (first | apply blk_drewN | apply blk_drew | apply blk_alloc)); refine blk_far ?_ NB257_267.out _; (with_reducible repeat (first | apply blk_drewN | apply blk_drew | apply blk_alloc)); exact BK257.out) hb); have n4_ := Aside0.mk (blk_below (g := gb262) (o := .cells #[.bool t258, .int .u64 t259, .int .u64 t260] 24 (0, 0)) (by (with_reducible repeat (first | apply blk_drewN | apply blk_drew | apply blk_alloc)); refine blk_far ?_ NB262_267.out _; (with_reducible repeat (first | apply blk_drewN | apply blk_drew | apply blk_alloc)); refine blk_far ?_ NB262_267.out _; (with_reducible repeat (first | apply blk_drewN | apply blk_drew | apply blk_alloc)); refine blk_far ?_ NB262_267.out _; (with_reducible repeat (first | apply blk_drewN | apply blk_drew | apply blk_alloc)); exact BK262.out) hb); have n5_ := Aside0.mk (blk_below (g := gb267) (o := .cells #[.bool t263, .int .u64 t264, .int .u64 t265] 24 (0, 0)) (by (with_reducible repeat (first | apply blk_drewN | apply blk_drew | apply blk_alloc)); refine blk_put (cs := #[.bool t263, .int .u64 t264, .int .u64 0]) ?_ 2 _ rfl; (with_reducible repeat (first | apply blk_drewN | apply blk_drew | apply blk_alloc)); refine blk_put (cs := #[.bool t263, .int .u64 0, .int .u64 0]) ?_ 1 _ rfl; (with_reducible repeat (first | apply blk_drewN | apply blk_drew | apply blk_alloc)); refine blk_put (cs := #[.bool false, .int .u64 0, .int .u64 0]) ?_ 0 _ rfl; (with_reducible repeat (first | apply blk_drewN | apply blk_drew | apply blk_alloc)); exact BK267.out) hb); have n6_ := Aside0.mk (below_step (by repeat (first | (with_reducible first | exact HB.out | apply below_alloc | apply pw_below_drewN | apply below_drew1 | refine below_set ?_ (by apply Aside0.out; assumption)) | exact HB.out)) hb); clear BK231; clear BK243; clear BK250; clear BK257; clear BK262; clear BK267; clear HB; have BK231 := n0_; have BK243 := n1_; have BK250 := n2_; have BK257 := n3_; have BK262 := n4_; have BK267 := n5_; have HB := n6_; clear n0_ n1_ n2_ n3_ n4_ n5_ n6_; (try clear hb); (try clear hb2); (try clear hk); (try clear hi); have hcz121_0 : w120.cell? ⟨gb231, 0, none⟩ = some (.bool a0_0) := (blk_cell BK231.out 0).trans rfl; have hcz121_1 : w120.cell? ⟨gb231, 1, none⟩ = some (.int .u64 a0_1) := (blk_cell BK231.out 1).trans rfl; have hcz121_2 : w120.cell? ⟨gb231, 2, none⟩ = some (.int .u64 a0_2) := (blk_cell BK231.out 2).trans rfl; have hcz121_3 : w120.cell? ⟨gb231, 3, none⟩ = some (.int .i64 a0_3) := (blk_cell BK231.out 3).trans rfl; have hfz121_0 := blk_frozen BK231.out 0; have hfz121_1 := blk_frozen BK231.out 1; have hfz121_2 := blk_frozen BK231.out 2; have hfz121_3 := blk_frozen BK231.out 3; have hnb122 := NB262_243.out; have hnc122 := NB243_262.out; have hnb123 := NB262_267.out; have hnc123 := NB267_262.out; have hcz124_0 : w120.cell? ⟨gb262, 0, none⟩ = some (.bool t258) := (blk_cell BK262.out 0).trans rfl; have hcz124_1 : w120.cell? ⟨gb262, 1, none⟩ = some (.int .u64 t259) := (blk_cell BK262.out 1).trans rfl; have hcz124_2 : w120.cell? ⟨gb262, 2, none⟩ = some (.int .u64 t260) := (blk_cell BK262.out 2).trans rfl; have hfz124_0 := blk_frozen BK262.out 0; have hfz124_1 := blk_frozen BK262.out 1; have hfz124_2 := blk_frozen BK262.out 2) | (go_at_call 14; (with_reducible refine (ranges_Has.calls a0_0 a0_1 a0_2 a0_3 t258 t259 t260 t269 _ A104.out).mono ?_); rintro e w125 ⟨rfl, hb⟩; have n0_ := Aside0.mk (blk_below (g := gb231) (o := .cells #[.bool a0_0, .int .u64 a0_1, .int .u64 a0_2, .int .i64 a0_3] 26 (0, 0)) (by (with_reducible repeat (first | apply blk_drewN | apply blk_drew | apply blk_alloc)); exact BK231.out) hb); have n1_ := Aside0.mk (blk_below (g := gb243) (o := .cells #[.bool t238, .int .u64 t239, .int .u64 t240, .int .i64 t241] 26 (0, 0)) (by (with_reducible repeat (first | apply blk_drewN | apply blk_drew | apply blk_alloc)); exact BK243.out) hb); have n2_ := Aside0.mk (blk_below (g := gb250) (o := .cells #[.bool t246, .int .u64 t247, .int .u64 t248] 24 (0, 0)) (by (with_reducible repeat (first | apply blk_drewN | apply blk_drew | apply blk_alloc)); exact BK250.out) hb); have n3_ := Aside0.mk (blk_below (g := gb257) (o := .cells #[.bool t253, .int .u64 t254, .int .u64 t255] 24 (0, 0)) (by (with_reducible repeat (first | apply blk_drewN | apply blk_drew | apply blk_alloc)); exact BK257.out) hb); have n4_ := Aside0.mk (blk_below (g := gb262) (o := .cells #[.bool t258, .int .u64 t259, .int .u64 t260] 24 (0, 0)) (by (with_reducible repeat (first | apply blk_drewN | apply blk_drew | apply blk_alloc)); exact BK262.out) hb); have n5_ := Aside0.mk (blk_below (g := gb267) (o := .cells #[.bool t263, .int .u64 t264, .int .u64 t265] 24 (0, 0)) (by (with_reducible repeat (first | apply blk_drewN | apply blk_drew | apply blk_alloc)); exact BK267.out) hb); have n6_ := Aside0.mk (below_step (by repeat (first | (with_reducible first | exact HB.out | apply below_alloc | apply pw_below_drewN | apply below_drew1 | refine below_set ?_ (by apply Aside0.out; assumption)) | exact HB.out)) hb); clear BK231; clear BK243; clear BK250; clear BK257; clear BK262; clear BK267; clear HB; have BK231 := n0_; have BK243 := n1_; have BK250 := n2_; have BK257 := n3_; have BK262 := n4_; have BK267 := n5_; have HB := n6_; clear n0_ n1_ n2_ n3_ n4_ n5_ n6_; (try clear hb); (try clear hb2); (try clear hk); (try clear hi)))
               go_meet
               case rel => exact ⟨_, (!t269), (by first | rfl | (simp; done) | (simp [*]; done)), H', ⟨by have := HJ8.out; first | omega | exact Nat.le_refl _⟩, ⟨by (with_reducible repeat (first | apply blk_drewN | apply blk_drew | apply blk_alloc)); exact BK231.out⟩, ⟨by (with_reducible repeat (first | apply blk_drewN | apply blk_drew | apply blk_alloc)); exact BK243.out⟩, ⟨by (with_reducible repeat (first | apply blk_drewN | apply blk_drew | apply blk_alloc)); exact BK250.out⟩, ⟨by (with_reducible repeat (first | apply blk_drewN | apply blk_drew | apply blk_alloc)); exact BK257.out⟩, ⟨by (with_reducible repeat (first | apply blk_drewN | apply blk_drew | apply blk_alloc)); exact BK262.out⟩, ⟨by (with_reducible repeat (first | apply blk_drewN | apply blk_drew | apply blk_alloc)); exact BK267.out⟩, ⟨by repeat (first | (with_reducible first | exact HB.out | apply below_alloc | apply pw_below_drewN | apply below_drew1 | refine below_set ?_ (by apply Aside0.out; assumption)) | exact HB.out)⟩⟩
              ·replace c103 := Bool.eq_false_iff.mpr c103
               subst c103
               have H1 : (nameplatelaw05_RangesBack.j1 kj8 t244 true a0_0 a0_1 a0_2 a0_3 t258 t259 t260) = some r := by rw [if_neg (show ¬ (false = true) by decide)] at H; exact H
               clear H
               have H := H1
               clear H1
               have H' := Aside0.mk H
               clear H
               have hnb126 := NB257_231.out
               have hnc126 := NB231_257.out
               have hnb127 := NB257_243.out
               have hnc127 := NB243_257.out
               have hnb128 := NB257_250.out
               have hnc128 := NB250_257.out
               have hnb129 := NB257_262.out
               have hnc129 := NB262_257.out
               have hnb130 := NB257_267.out
               have hnc130 := NB267_257.out
               have hcz131_0 : w66.cell? ⟨gb257, 0, none⟩ = some (.bool t253) := (blk_cell BK257.out 0).trans rfl
               have hcz131_1 : w66.cell? ⟨gb257, 1, none⟩ = some (.int .u64 t254) := (blk_cell BK257.out 1).trans rfl
               have hcz131_2 : w66.cell? ⟨gb257, 2, none⟩ = some (.int .u64 t255) := (blk_cell BK257.out 2).trans rfl
               have hfz131_0 := blk_frozen BK257.out 0
               have hfz131_1 := blk_frozen BK257.out 1
               have hfz131_2 := blk_frozen BK257.out 2
               have hnb132 := NB231_243.out
               have hnc132 := NB243_231.out
               have hnb133 := NB231_250.out
               have hnc133 := NB250_231.out
               have hnb134 := NB231_262.out
               have hnc134 := NB262_231.out
               have hnb135 := NB231_267.out
               have hnc135 := NB267_231.out
               have hcz136_0 : w66.cell? ⟨gb231, 0, none⟩ = some (.bool a0_0) := (blk_cell BK231.out 0).trans rfl
               have hcz136_1 : w66.cell? ⟨gb231, 1, none⟩ = some (.int .u64 a0_1) := (blk_cell BK231.out 1).trans rfl
               have hcz136_2 : w66.cell? ⟨gb231, 2, none⟩ = some (.int .u64 a0_2) := (blk_cell BK231.out 2).trans rfl
               have hcz136_3 : w66.cell? ⟨gb231, 3, none⟩ = some (.int .i64 a0_3) := (blk_cell BK231.out 3).trans rfl
               have hfz136_0 := blk_frozen BK231.out 0
               have hfz136_1 := blk_frozen BK231.out 1
               have hfz136_2 := blk_frozen BK231.out 2
               have hfz136_3 := blk_frozen BK231.out 3
               have hnb137 := NB250_243.out
               have hnc137 := NB243_250.out
               have hnb138 := NB250_262.out
               have hnc138 := NB262_250.out
               have hnb139 := NB250_267.out
               have hnc139 := NB267_250.out
               have hcz140_0 : w66.cell? ⟨gb250, 0, none⟩ = some (.bool t246) := (blk_cell BK250.out 0).trans rfl
               have hcz140_1 : w66.cell? ⟨gb250, 1, none⟩ = some (.int .u64 t247) := (blk_cell BK250.out 1).trans rfl
               have hcz140_2 : w66.cell? ⟨gb250, 2, none⟩ = some (.int .u64 t248) := (blk_cell BK250.out 2).trans rfl
               have hfz140_0 := blk_frozen BK250.out 0
               have hfz140_1 := blk_frozen BK250.out 1
               have hfz140_2 := blk_frozen BK250.out 2
               go_wp2_with (first | (go_at_call 14; (with_reducible refine (ranges_Has.calls a0_0 a0_1 a0_2 a0_3 t246 t247 t248 false _ A102.out).mono ?_); rintro e w141 ⟨rfl, hb⟩; have n0_ := Aside0.mk (blk_below (g := gb231) (o := .cells #[.bool a0_0, .int .u64 a0_1, .int .u64 a0_2, .int .i64 a0_3] 26 (0, 0)) (by (with_reducible repeat (first | apply blk_drewN | apply blk_drew | apply blk_alloc)); refine blk_far ?_ NB231_267.out _; (with_reducible repeat (first | apply blk_drewN | apply blk_drew | apply blk_alloc)); refine blk_far ?_ NB231_267.out _; (with_reducible repeat (first | apply blk_drewN | apply blk_drew | apply blk_alloc)); refine blk_far ?_ NB231_267.out _; (with_reducible repeat (first | apply blk_drewN | apply blk_drew | apply blk_alloc)); exact BK231.out) hb); have n1_ := Aside0.mk (blk_below (g := gb243) (o := .cells #[.bool t238, .int .u64 t239, .int .u64 t240, .int .i64 t241] 26 (0, 0)) (by (with_reducible repeat (first | apply blk_drewN | apply blk_drew | apply blk_alloc)); refine blk_far ?_ NB243_267.out _; (with_reducible repeat (first | apply blk_drewN | apply blk_drew | apply blk_alloc)); refine blk_far ?_ NB243_267.out _; (with_reducible repeat (first | apply blk_drewN | apply blk_drew | apply blk_alloc)); refine blk_far ?_ NB243_267.out _; (with_reducible repeat (first | apply blk_drewN | apply blk_drew | apply blk_alloc)); exact BK243.out) hb); have n2_ := Aside0.mk (blk_below (g := gb250) (o := .cells #[.bool t246, .int .u64 t247, .int .u64 t248] 24 (0, 0)) (by (with_reducible repeat (first | apply blk_drewN | apply blk_drew | apply blk_alloc)); refine blk_far ?_ NB250_267.out _; (with_reducible repeat (first | apply blk_drewN | apply blk_drew | apply blk_alloc)); refine blk_far ?_ NB250_267.out _; (with_reducible repeat (first | apply blk_drewN | apply blk_drew | apply blk_alloc)); refine blk_far ?_ NB250_267.out _; (with_reducible repeat (first | apply blk_drewN | apply blk_drew | apply blk_alloc)); exact BK250.out) hb); have n3_ := Aside0.mk (blk_below (g := gb257) (o := .cells #[.bool t253, .int .u64 t254, .int .u64 t255] 24 (0, 0)) (by (with_reducible repeat (first | apply blk_drewN | apply blk_drew | apply blk_alloc)); refine blk_far ?_ NB257_267.out _; (with_reducible repeat (first | apply blk_drewN | apply blk_drew | apply blk_alloc)); refine blk_far ?_ NB257_267.out _; (with_reducible repeat (first | apply blk_drewN | apply blk_drew | apply blk_alloc)); refine blk_far ?_ NB257_267.out _; (with_reducible repeat (first | apply blk_drewN | apply blk_drew | apply blk_alloc)); exact BK257.out) hb); have n4_ := Aside0.mk (blk_below (g := gb262) (o := .cells #[.bool t258, .int .u64 t259, .int .u64 t260] 24 (0, 0)) (by (with_reducible repeat (first | apply blk_drewN | apply blk_drew | apply blk_alloc)); refine blk_far ?_ NB262_267.out _; (with_reducible repeat (first | apply blk_drewN | apply blk_drew | apply blk_alloc)); refine blk_far ?_ NB262_267.out _; (with_reducible repeat (first | apply blk_drewN | apply blk_drew | apply blk_alloc)); refine blk_far ?_ NB262_267.out _; (with_reducible repeat (first | apply blk_drewN | apply blk_drew | apply blk_alloc)); exact BK262.out) hb); have n5_ := Aside0.mk (blk_below (g := gb267) (o := .cells #[.bool t263, .int .u64 t264, .int .u64 t265] 24 (0, 0)) (by (with_reducible repeat (first | apply blk_drewN | apply blk_drew | apply blk_alloc)); refine blk_put (cs := #[.bool t263, .int .u64 t264, .int .u64 0]) ?_ 2 _ rfl; (with_reducible repeat (first | apply blk_drewN | apply blk_drew | apply blk_alloc)); refine blk_put (cs := #[.bool t263, .int .u64 0, .int .u64 0]) ?_ 1 _ rfl; (with_reducible repeat (first | apply blk_drewN | apply blk_drew | apply blk_alloc)); refine blk_put (cs := #[.bool false, .int .u64 0, .int .u64 0]) ?_ 0 _ rfl; (with_reducible repeat (first | apply blk_drewN | apply blk_drew | apply blk_alloc)); exact BK267.out) hb); have n6_ := Aside0.mk (below_step (by repeat (first | (with_reducible first | exact HB.out | apply below_alloc | apply pw_below_drewN | apply below_drew1 | refine below_set ?_ (by apply Aside0.out; assumption)) | exact HB.out)) hb); clear BK231; clear BK243; clear BK250; clear BK257; clear BK262; clear BK267; clear HB; have BK231 := n0_; have BK243 := n1_; have BK250 := n2_; have BK257 := n3_; have BK262 := n4_; have BK267 := n5_; have HB := n6_; clear n0_ n1_ n2_ n3_ n4_ n5_ n6_; (try clear hb); (try clear hb2); (try clear hk); (try clear hi)))
               go_meet
               case rel => exact ⟨_, (true), (by first | rfl | (simp; done) | (simp [*]; done)), H', ⟨by have := HJ8.out; first | omega | exact Nat.le_refl _⟩, ⟨by (with_reducible repeat (first | apply blk_drewN | apply blk_drew | apply blk_alloc)); exact BK231.out⟩, ⟨by (with_reducible repeat (first | apply blk_drewN | apply blk_drew | apply blk_alloc)); exact BK243.out⟩, ⟨by (with_reducible repeat (first | apply blk_drewN | apply blk_drew | apply blk_alloc)); exact BK250.out⟩, ⟨by (with_reducible repeat (first | apply blk_drewN | apply blk_drew | apply blk_alloc)); exact BK257.out⟩, ⟨by (with_reducible repeat (first | apply blk_drewN | apply blk_drew | apply blk_alloc)); exact BK262.out⟩, ⟨by (with_reducible repeat (first | apply blk_drewN | apply blk_drew | apply blk_alloc)); exact BK267.out⟩, ⟨by repeat (first | (with_reducible first | exact HB.out | apply below_alloc | apply pw_below_drewN | apply below_drew1 | refine below_set ?_ (by apply Aside0.out; assumption)) | exact HB.out)⟩⟩
            ·replace c89 := Bool.eq_false_iff.mpr c89
             subst c89
             have H1 : (nameplatelaw05_RangesBack.j1 kj8 t244 true a0_0 a0_1 a0_2 a0_3 t258 t259 t260) = some r := by rw [if_neg (show ¬ (false = true) by decide)] at H; exact H
             clear H
             have H := H1
             clear H1
             have H' := Aside0.mk H
             clear H
             have hnb142 := NB257_231.out
             have hnc142 := NB231_257.out
             have hnb143 := NB257_243.out
             have hnc143 := NB243_257.out
             have hnb144 := NB257_250.out
             have hnc144 := NB250_257.out
             have hnb145 := NB257_262.out
             have hnc145 := NB262_257.out
             have hnb146 := NB257_267.out
             have hnc146 := NB267_257.out
             have hcz147_0 : w66.cell? ⟨gb257, 0, none⟩ = some (.bool t253) := (blk_cell BK257.out 0).trans rfl
             have hcz147_1 : w66.cell? ⟨gb257, 1, none⟩ = some (.int .u64 t254) := (blk_cell BK257.out 1).trans rfl
             have hcz147_2 : w66.cell? ⟨gb257, 2, none⟩ = some (.int .u64 t255) := (blk_cell BK257.out 2).trans rfl
             have hfz147_0 := blk_frozen BK257.out 0
             have hfz147_1 := blk_frozen BK257.out 1
             have hfz147_2 := blk_frozen BK257.out 2
             have hnb148 := NB231_243.out
             have hnc148 := NB243_231.out
             have hnb149 := NB231_250.out
             have hnc149 := NB250_231.out
             have hnb150 := NB231_262.out
             have hnc150 := NB262_231.out
             have hnb151 := NB231_267.out
             have hnc151 := NB267_231.out
             have hcz152_0 : w66.cell? ⟨gb231, 0, none⟩ = some (.bool a0_0) := (blk_cell BK231.out 0).trans rfl
             have hcz152_1 : w66.cell? ⟨gb231, 1, none⟩ = some (.int .u64 a0_1) := (blk_cell BK231.out 1).trans rfl
             have hcz152_2 : w66.cell? ⟨gb231, 2, none⟩ = some (.int .u64 a0_2) := (blk_cell BK231.out 2).trans rfl
             have hcz152_3 : w66.cell? ⟨gb231, 3, none⟩ = some (.int .i64 a0_3) := (blk_cell BK231.out 3).trans rfl
             have hfz152_0 := blk_frozen BK231.out 0
             have hfz152_1 := blk_frozen BK231.out 1
             have hfz152_2 := blk_frozen BK231.out 2
             have hfz152_3 := blk_frozen BK231.out 3
             go_wp2
             go_meet
             case rel => exact ⟨_, (true), (by first | rfl | (simp; done) | (simp [*]; done)), H', ⟨by have := HJ8.out; first | omega | exact Nat.le_refl _⟩, ⟨by (with_reducible repeat (first | apply blk_drewN | apply blk_drew | apply blk_alloc)); refine blk_far ?_ NB231_267.out _; (with_reducible repeat (first | apply blk_drewN | apply blk_drew | apply blk_alloc)); refine blk_far ?_ NB231_267.out _; (with_reducible repeat (first | apply blk_drewN | apply blk_drew | apply blk_alloc)); refine blk_far ?_ NB231_267.out _; (with_reducible repeat (first | apply blk_drewN | apply blk_drew | apply blk_alloc)); exact BK231.out⟩, ⟨by (with_reducible repeat (first | apply blk_drewN | apply blk_drew | apply blk_alloc)); refine blk_far ?_ NB243_267.out _; (with_reducible repeat (first | apply blk_drewN | apply blk_drew | apply blk_alloc)); refine blk_far ?_ NB243_267.out _; (with_reducible repeat (first | apply blk_drewN | apply blk_drew | apply blk_alloc)); refine blk_far ?_ NB243_267.out _; (with_reducible repeat (first | apply blk_drewN | apply blk_drew | apply blk_alloc)); exact BK243.out⟩, ⟨by (with_reducible repeat (first | apply blk_drewN | apply blk_drew | apply blk_alloc)); refine blk_far ?_ NB250_267.out _; (with_reducible repeat (first | apply blk_drewN | apply blk_drew | apply blk_alloc)); refine blk_far ?_ NB250_267.out _; (with_reducible repeat (first | apply blk_drewN | apply blk_drew | apply blk_alloc)); refine blk_far ?_ NB250_267.out _; (with_reducible repeat (first | apply blk_drewN | apply blk_drew | apply blk_alloc)); exact BK250.out⟩, ⟨by (with_reducible repeat (first | apply blk_drewN | apply blk_drew | apply blk_alloc)); refine blk_far ?_ NB257_267.out _; (with_reducible repeat (first | apply blk_drewN | apply blk_drew | apply blk_alloc)); refine blk_far ?_ NB257_267.out _; (with_reducible repeat (first | apply blk_drewN | apply blk_drew | apply blk_alloc)); refine blk_far ?_ NB257_267.out _; (with_reducible repeat (first | apply blk_drewN | apply blk_drew | apply blk_alloc)); exact BK257.out⟩, ⟨by (with_reducible repeat (first | apply blk_drewN | apply blk_drew | apply blk_alloc)); refine blk_far ?_ NB262_267.out _; (with_reducible repeat (first | apply blk_drewN | apply blk_drew | apply blk_alloc)); refine blk_far ?_ NB262_267.out _; (with_reducible repeat (first | apply blk_drewN | apply blk_drew | apply blk_alloc)); refine blk_far ?_ NB262_267.out _; (with_reducible repeat (first | apply blk_drewN | apply blk_drew | apply blk_alloc)); exact BK262.out⟩, ⟨by (with_reducible repeat (first | apply blk_drewN | apply blk_drew | apply blk_alloc)); refine blk_put (cs := #[.bool t263, .int .u64 t264, .int .u64 0]) ?_ 2 _ rfl; (with_reducible repeat (first | apply blk_drewN | apply blk_drew | apply blk_alloc)); refine blk_put (cs := #[.bool t263, .int .u64 0, .int .u64 0]) ?_ 1 _ rfl; (with_reducible repeat (first | apply blk_drewN | apply blk_drew | apply blk_alloc)); refine blk_put (cs := #[.bool false, .int .u64 0, .int .u64 0]) ?_ 0 _ rfl; (with_reducible repeat (first | apply blk_drewN | apply blk_drew | apply blk_alloc)); exact BK267.out⟩, ⟨by repeat (first | (with_reducible first | exact HB.out | apply below_alloc | apply pw_below_drewN | apply below_drew1 | refine below_set ?_ (by apply Aside0.out; assumption)) | exact HB.out)⟩⟩
          ·replace c76 := Bool.eq_false_iff.mpr c76
           subst c76
           have H1 : (nameplatelaw05_RangesBack.j1 kj8 t244 true a0_0 a0_1 a0_2 a0_3 t258 t259 t260) = some r := by rw [if_neg (show ¬ (false = true) by decide)] at H; exact H
           clear H
           have H := H1
           clear H1
           have H' := Aside0.mk H
           clear H
           go_wp2
           go_meet
           case rel => exact ⟨_, (true), (by first | rfl | (simp; done) | (simp [*]; done)), H', ⟨by have := HJ8.out; first | omega | exact Nat.le_refl _⟩, ⟨by (with_reducible repeat (first | apply blk_drewN | apply blk_drew | apply blk_alloc)); refine blk_far ?_ NB231_267.out _; (with_reducible repeat (first | apply blk_drewN | apply blk_drew | apply blk_alloc)); refine blk_far ?_ NB231_267.out _; (with_reducible repeat (first | apply blk_drewN | apply blk_drew | apply blk_alloc)); refine blk_far ?_ NB231_267.out _; (with_reducible repeat (first | apply blk_drewN | apply blk_drew | apply blk_alloc)); exact BK231.out⟩, ⟨by (with_reducible repeat (first | apply blk_drewN | apply blk_drew | apply blk_alloc)); refine blk_far ?_ NB243_267.out _; (with_reducible repeat (first | apply blk_drewN | apply blk_drew | apply blk_alloc)); refine blk_far ?_ NB243_267.out _; (with_reducible repeat (first | apply blk_drewN | apply blk_drew | apply blk_alloc)); refine blk_far ?_ NB243_267.out _; (with_reducible repeat (first | apply blk_drewN | apply blk_drew | apply blk_alloc)); exact BK243.out⟩, ⟨by (with_reducible repeat (first | apply blk_drewN | apply blk_drew | apply blk_alloc)); refine blk_far ?_ NB250_267.out _; (with_reducible repeat (first | apply blk_drewN | apply blk_drew | apply blk_alloc)); refine blk_far ?_ NB250_267.out _; (with_reducible repeat (first | apply blk_drewN | apply blk_drew | apply blk_alloc)); refine blk_far ?_ NB250_267.out _; (with_reducible repeat (first | apply blk_drewN | apply blk_drew | apply blk_alloc)); exact BK250.out⟩, ⟨by (with_reducible repeat (first | apply blk_drewN | apply blk_drew | apply blk_alloc)); refine blk_far ?_ NB257_267.out _; (with_reducible repeat (first | apply blk_drewN | apply blk_drew | apply blk_alloc)); refine blk_far ?_ NB257_267.out _; (with_reducible repeat (first | apply blk_drewN | apply blk_drew | apply blk_alloc)); refine blk_far ?_ NB257_267.out _; (with_reducible repeat (first | apply blk_drewN | apply blk_drew | apply blk_alloc)); exact BK257.out⟩, ⟨by (with_reducible repeat (first | apply blk_drewN | apply blk_drew | apply blk_alloc)); refine blk_far ?_ NB262_267.out _; (with_reducible repeat (first | apply blk_drewN | apply blk_drew | apply blk_alloc)); refine blk_far ?_ NB262_267.out _; (with_reducible repeat (first | apply blk_drewN | apply blk_drew | apply blk_alloc)); refine blk_far ?_ NB262_267.out _; (with_reducible repeat (first | apply blk_drewN | apply blk_drew | apply blk_alloc)); exact BK262.out⟩, ⟨by (with_reducible repeat (first | apply blk_drewN | apply blk_drew | apply blk_alloc)); refine blk_put (cs := #[.bool t263, .int .u64 t264, .int .u64 0]) ?_ 2 _ rfl; (with_reducible repeat (first | apply blk_drewN | apply blk_drew | apply blk_alloc)); refine blk_put (cs := #[.bool t263, .int .u64 0, .int .u64 0]) ?_ 1 _ rfl; (with_reducible repeat (first | apply blk_drewN | apply blk_drew | apply blk_alloc)); refine blk_put (cs := #[.bool false, .int .u64 0, .int .u64 0]) ?_ 0 _ rfl; (with_reducible repeat (first | apply blk_drewN | apply blk_drew | apply blk_alloc)); exact BK267.out⟩, ⟨by repeat (first | (with_reducible first | exact HB.out | apply below_alloc | apply pw_below_drewN | apply below_drew1 | refine below_set ?_ (by apply Aside0.out; assumption)) | exact HB.out)⟩⟩
         ·rw [if_neg c75] at H
          have c75b0 : (t251 == t245) = false := beq_eq_false_iff_ne.mpr c75
          have c75b1 : (t251 != t245) = true := bne_iff_ne.mpr c75
          (first | rw [c75b0] | (simp only [i64_w, i32_w]; rw [c75b0]) | skip)
          have H' := Aside0.mk H
          clear H
          go_wp2
          go_meet
          case rel => exact ⟨_, (true), (by first | rfl | (simp; done) | (simp [*]; done)), H', ⟨by have := HJ8.out; first | omega | exact Nat.le_refl _⟩, ⟨by (with_reducible repeat (first | apply blk_drewN | apply blk_drew | apply blk_alloc)); refine blk_far ?_ NB231_267.out _; (with_reducible repeat (first | apply blk_drewN | apply blk_drew | apply blk_alloc)); refine blk_far ?_ NB231_267.out _; (with_reducible repeat (first | apply blk_drewN | apply blk_drew | apply blk_alloc)); refine blk_far ?_ NB231_267.out _; (with_reducible repeat (first | apply blk_drewN | apply blk_drew | apply blk_alloc)); exact BK231.out⟩, ⟨by (with_reducible repeat (first | apply blk_drewN | apply blk_drew | apply blk_alloc)); refine blk_far ?_ NB243_267.out _; (with_reducible repeat (first | apply blk_drewN | apply blk_drew | apply blk_alloc)); refine blk_far ?_ NB243_267.out _; (with_reducible repeat (first | apply blk_drewN | apply blk_drew | apply blk_alloc)); refine blk_far ?_ NB243_267.out _; (with_reducible repeat (first | apply blk_drewN | apply blk_drew | apply blk_alloc)); exact BK243.out⟩, ⟨by (with_reducible repeat (first | apply blk_drewN | apply blk_drew | apply blk_alloc)); refine blk_far ?_ NB250_267.out _; (with_reducible repeat (first | apply blk_drewN | apply blk_drew | apply blk_alloc)); refine blk_far ?_ NB250_267.out _; (with_reducible repeat (first | apply blk_drewN | apply blk_drew | apply blk_alloc)); refine blk_far ?_ NB250_267.out _; (with_reducible repeat (first | apply blk_drewN | apply blk_drew | apply blk_alloc)); exact BK250.out⟩, ⟨by (with_reducible repeat (first | apply blk_drewN | apply blk_drew | apply blk_alloc)); refine blk_far ?_ NB257_267.out _; (with_reducible repeat (first | apply blk_drewN | apply blk_drew | apply blk_alloc)); refine blk_far ?_ NB257_267.out _; (with_reducible repeat (first | apply blk_drewN | apply blk_drew | apply blk_alloc)); refine blk_far ?_ NB257_267.out _; (with_reducible repeat (first | apply blk_drewN | apply blk_drew | apply blk_alloc)); exact BK257.out⟩, ⟨by (with_reducible repeat (first | apply blk_drewN | apply blk_drew | apply blk_alloc)); refine blk_far ?_ NB262_267.out _; (with_reducible repeat (first | apply blk_drewN | apply blk_drew | apply blk_alloc)); refine blk_far ?_ NB262_267.out _; (with_reducible repeat (first | apply blk_drewN | apply blk_drew | apply blk_alloc)); refine blk_far ?_ NB262_267.out _; (with_reducible repeat (first | apply blk_drewN | apply blk_drew | apply blk_alloc)); exact BK262.out⟩, ⟨by (with_reducible repeat (first | apply blk_drewN | apply blk_drew | apply blk_alloc)); refine blk_put (cs := #[.bool t263, .int .u64 t264, .int .u64 0]) ?_ 2 _ rfl; (with_reducible repeat (first | apply blk_drewN | apply blk_drew | apply blk_alloc)); refine blk_put (cs := #[.bool t263, .int .u64 0, .int .u64 0]) ?_ 1 _ rfl; (with_reducible repeat (first | apply blk_drewN | apply blk_drew | apply blk_alloc)); refine blk_put (cs := #[.bool false, .int .u64 0, .int .u64 0]) ?_ 0 _ rfl; (with_reducible repeat (first | apply blk_drewN | apply blk_drew | apply blk_alloc)); exact BK267.out⟩, ⟨by repeat (first | (with_reducible first | exact HB.out | apply below_alloc | apply pw_below_drewN | apply below_drew1 | refine below_set ?_ (by apply Aside0.out; assumption)) | exact HB.out)⟩⟩
        ·replace c74 := Bool.eq_false_iff.mpr c74
         subst c74
         have H1 : (nameplatelaw05_RangesBack.j1 kj8 t244 true a0_0 a0_1 a0_2 a0_3 t258 t259 t260) = some r := by rw [if_neg (show ¬ (false = true) by decide)] at H; exact H
         clear H
         have H := H1
         clear H1
         have H' := Aside0.mk H
         clear H
         go_wp2
         go_meet
         case rel => exact ⟨_, (true), (by first | rfl | (simp; done) | (simp [*]; done)), H', ⟨by have := HJ8.out; first | omega | exact Nat.le_refl _⟩, ⟨by (with_reducible repeat (first | apply blk_drewN | apply blk_drew | apply blk_alloc)); refine blk_far ?_ NB231_267.out _; (with_reducible repeat (first | apply blk_drewN | apply blk_drew | apply blk_alloc)); refine blk_far ?_ NB231_267.out _; (with_reducible repeat (first | apply blk_drewN | apply blk_drew | apply blk_alloc)); refine blk_far ?_ NB231_267.out _; (with_reducible repeat (first | apply blk_drewN | apply blk_drew | apply blk_alloc)); exact BK231.out⟩, ⟨by (with_reducible repeat (first | apply blk_drewN | apply blk_drew | apply blk_alloc)); refine blk_far ?_ NB243_267.out _; (with_reducible repeat (first | apply blk_drewN | apply blk_drew | apply blk_alloc)); refine blk_far ?_ NB243_267.out _; (with_reducible repeat (first | apply blk_drewN | apply blk_drew | apply blk_alloc)); refine blk_far ?_ NB243_267.out _; (with_reducible repeat (first | apply blk_drewN | apply blk_drew | apply blk_alloc)); exact BK243.out⟩, ⟨by (with_reducible repeat (first | apply blk_drewN | apply blk_drew | apply blk_alloc)); refine blk_far ?_ NB250_267.out _; (with_reducible repeat (first | apply blk_drewN | apply blk_drew | apply blk_alloc)); refine blk_far ?_ NB250_267.out _; (with_reducible repeat (first | apply blk_drewN | apply blk_drew | apply blk_alloc)); refine blk_far ?_ NB250_267.out _; (with_reducible repeat (first | apply blk_drewN | apply blk_drew | apply blk_alloc)); exact BK250.out⟩, ⟨by (with_reducible repeat (first | apply blk_drewN | apply blk_drew | apply blk_alloc)); refine blk_far ?_ NB257_267.out _; (with_reducible repeat (first | apply blk_drewN | apply blk_drew | apply blk_alloc)); refine blk_far ?_ NB257_267.out _; (with_reducible repeat (first | apply blk_drewN | apply blk_drew | apply blk_alloc)); refine blk_far ?_ NB257_267.out _; (with_reducible repeat (first | apply blk_drewN | apply blk_drew | apply blk_alloc)); exact BK257.out⟩, ⟨by (with_reducible repeat (first | apply blk_drewN | apply blk_drew | apply blk_alloc)); refine blk_far ?_ NB262_267.out _; (with_reducible repeat (first | apply blk_drewN | apply blk_drew | apply blk_alloc)); refine blk_far ?_ NB262_267.out _; (with_reducible repeat (first | apply blk_drewN | apply blk_drew | apply blk_alloc)); refine blk_far ?_ NB262_267.out _; (with_reducible repeat (first | apply blk_drewN | apply blk_drew | apply blk_alloc)); exact BK262.out⟩, ⟨by (with_reducible repeat (first | apply blk_drewN | apply blk_drew | apply blk_alloc)); refine blk_put (cs := #[.bool t263, .int .u64 t264, .int .u64 0]) ?_ 2 _ rfl; (with_reducible repeat (first | apply blk_drewN | apply blk_drew | apply blk_alloc)); refine blk_put (cs := #[.bool t263, .int .u64 0, .int .u64 0]) ?_ 1 _ rfl; (with_reducible repeat (first | apply blk_drewN | apply blk_drew | apply blk_alloc)); refine blk_put (cs := #[.bool false, .int .u64 0, .int .u64 0]) ?_ 0 _ rfl; (with_reducible repeat (first | apply blk_drewN | apply blk_drew | apply blk_alloc)); exact BK267.out⟩, ⟨by repeat (first | (with_reducible first | exact HB.out | apply below_alloc | apply pw_below_drewN | apply below_drew1 | refine below_set ?_ (by apply Aside0.out; assumption)) | exact HB.out)⟩⟩
       ·replace c73 := Bool.eq_false_iff.mpr c73
        subst c73
        have H1 : (nameplatelaw05_RangesBack.j1 kj8 t244 true a0_0 a0_1 a0_2 a0_3 t258 t259 t260) = some r := by rw [if_neg (show ¬ (false = true) by decide)] at H; exact H
        clear H
        have H := H1
        clear H1
        have H' := Aside0.mk H
        clear H
        go_wp2
        go_meet
        case rel => exact ⟨_, (true), (by first | rfl | (simp; done) | (simp [*]; done)), H', ⟨by have := HJ8.out; first | omega | exact Nat.le_refl _⟩, ⟨by (with_reducible repeat (first | apply blk_drewN | apply blk_drew | apply blk_alloc)); refine blk_far ?_ NB231_267.out _; (with_reducible repeat (first | apply blk_drewN | apply blk_drew | apply blk_alloc)); refine blk_far ?_ NB231_267.out _; (with_reducible repeat (first | apply blk_drewN | apply blk_drew | apply blk_alloc)); refine blk_far ?_ NB231_267.out _; (with_reducible repeat (first | apply blk_drewN | apply blk_drew | apply blk_alloc)); exact BK231.out⟩, ⟨by (with_reducible repeat (first | apply blk_drewN | apply blk_drew | apply blk_alloc)); refine blk_far ?_ NB243_267.out _; (with_reducible repeat (first | apply blk_drewN | apply blk_drew | apply blk_alloc)); refine blk_far ?_ NB243_267.out _; (with_reducible repeat (first | apply blk_drewN | apply blk_drew | apply blk_alloc)); refine blk_far ?_ NB243_267.out _; (with_reducible repeat (first | apply blk_drewN | apply blk_drew | apply blk_alloc)); exact BK243.out⟩, ⟨by (with_reducible repeat (first | apply blk_drewN | apply blk_drew | apply blk_alloc)); refine blk_far ?_ NB250_267.out _; (with_reducible repeat (first | apply blk_drewN | apply blk_drew | apply blk_alloc)); refine blk_far ?_ NB250_267.out _; (with_reducible repeat (first | apply blk_drewN | apply blk_drew | apply blk_alloc)); refine blk_far ?_ NB250_267.out _; (with_reducible repeat (first | apply blk_drewN | apply blk_drew | apply blk_alloc)); exact BK250.out⟩, ⟨by (with_reducible repeat (first | apply blk_drewN | apply blk_drew | apply blk_alloc)); refine blk_far ?_ NB257_267.out _; (with_reducible repeat (first | apply blk_drewN | apply blk_drew | apply blk_alloc)); refine blk_far ?_ NB257_267.out _; (with_reducible repeat (first | apply blk_drewN | apply blk_drew | apply blk_alloc)); refine blk_far ?_ NB257_267.out _; (with_reducible repeat (first | apply blk_drewN | apply blk_drew | apply blk_alloc)); exact BK257.out⟩, ⟨by (with_reducible repeat (first | apply blk_drewN | apply blk_drew | apply blk_alloc)); refine blk_far ?_ NB262_267.out _; (with_reducible repeat (first | apply blk_drewN | apply blk_drew | apply blk_alloc)); refine blk_far ?_ NB262_267.out _; (with_reducible repeat (first | apply blk_drewN | apply blk_drew | apply blk_alloc)); refine blk_far ?_ NB262_267.out _; (with_reducible repeat (first | apply blk_drewN | apply blk_drew | apply blk_alloc)); exact BK262.out⟩, ⟨by (with_reducible repeat (first | apply blk_drewN | apply blk_drew | apply blk_alloc)); refine blk_put (cs := #[.bool t263, .int .u64 t264, .int .u64 0]) ?_ 2 _ rfl; (with_reducible repeat (first | apply blk_drewN | apply blk_drew | apply blk_alloc)); refine blk_put (cs := #[.bool t263, .int .u64 0, .int .u64 0]) ?_ 1 _ rfl; (with_reducible repeat (first | apply blk_drewN | apply blk_drew | apply blk_alloc)); refine blk_put (cs := #[.bool false, .int .u64 0, .int .u64 0]) ?_ 0 _ rfl; (with_reducible repeat (first | apply blk_drewN | apply blk_drew | apply blk_alloc)); exact BK267.out⟩, ⟨by repeat (first | (with_reducible first | exact HB.out | apply below_alloc | apply pw_below_drewN | apply below_drew1 | refine below_set ?_ (by apply Aside0.out; assumption)) | exact HB.out)⟩⟩
      case rest =>
       clear HC39
       try clear c1
       try clear c2
       try clear p2
       try clear c3
       try clear c4
       try clear c5
       try clear c6
       try clear c6b0
       try clear c6b1
       try clear p6
       try clear c7
       try clear c8
       try clear c9
       try clear c10
       try clear c11
       try clear c12
       try clear c13
       try clear c14
       try clear c15
       try clear c16
       try clear c18
       try clear c20
       try clear c20b0
       try clear c20b1
       try clear c21
       try clear c21b0
       try clear c22
       try clear c23
       try clear c25
       try clear c25b0
       try clear c26
       try clear c29
       try clear c32
       try clear c40
       try clear c44
       try clear c45
       try clear c52
       try clear c53
       try clear c54
       try clear c59
       try clear c60
       try clear c61
       try clear c62
       try clear p64
       try clear c67
       try clear c68
       try clear c69
       try clear c70
       try clear c71
       try clear c73
       try clear c74
       try clear c75
       try clear c75b0
       try clear c75b1
       try clear c76
       try clear c77
       try clear c77b0
       try clear c78
       try clear c79
       try clear c80
       try clear c81
       try clear c82
       try clear c84
       try clear c85
       try clear c86
       try clear c87
       try clear c89
       try clear c90
       try clear c91
       try clear c92
       try clear c93
       try clear c94
       try clear c95
       try clear c97
       try clear c98
       try clear c99
       try clear c100
       try clear c103
       try clear c105
       try clear c106
       try clear c107
       try clear c108
       try clear c109
       try clear c111
       try clear c112
       try clear c113
       try clear c114
       try clear c116
       try clear c117
       try clear c118
       try clear c122
       try clear c123
       try clear c126
       try clear c127
       try clear c128
       try clear c129
       try clear c130
       try clear c132
       try clear c133
       try clear c134
       try clear c135
       try clear c137
       try clear c138
       try clear c139
       try clear c142
       try clear c143
       try clear c144
       try clear c145
       try clear c146
       try clear c148
       try clear c149
       try clear c150
       try clear c151
       try clear hcz101_0
       try clear hcz101_1
       try clear hcz101_2
       try clear hcz101_3
       try clear hcz110_0
       try clear hcz110_1
       try clear hcz110_2
       try clear hcz115_0
       try clear hcz115_1
       try clear hcz115_2
       try clear hcz115_3
       try clear hcz119_0
       try clear hcz119_1
       try clear hcz119_2
       try clear hcz121_0
       try clear hcz121_1
       try clear hcz121_2
       try clear hcz121_3
       try clear hcz124_0
       try clear hcz124_1
       try clear hcz124_2
       try clear hcz12_0
       try clear hcz12_1
       try clear hcz12_2
       try clear hcz12_3
       try clear hcz131_0
       try clear hcz131_1
       try clear hcz131_2
       try clear hcz136_0
       try clear hcz136_1
       try clear hcz136_2
       try clear hcz136_3
       try clear hcz140_0
       try clear hcz140_1
       try clear hcz140_2
       try clear hcz147_0
       try clear hcz147_1
       try clear hcz147_2
       try clear hcz152_0
       try clear hcz152_1
       try clear hcz152_2
       try clear hcz152_3
       try clear hcz17_0
       try clear hcz17_1
       try clear hcz17_2
       try clear hcz17_3
       try clear hcz18_0
       try clear hcz18_1
       try clear hcz18_2
       try clear hcz18_3
       try clear hcz23_0
       try clear hcz23_1
       try clear hcz23_2
       try clear hcz23_3
       try clear hcz24_0
       try clear hcz24_1
       try clear hcz24_2
       try clear hcz24_3
       try clear hcz27_0
       try clear hcz27_1
       try clear hcz27_2
       try clear hcz27_3
       try clear hcz28_0
       try clear hcz28_1
       try clear hcz28_2
       try clear hcz28_3
       try clear hcz30_0
       try clear hcz30_1
       try clear hcz30_2
       try clear hcz30_3
       try clear hcz31_0
       try clear hcz31_1
       try clear hcz31_2
       try clear hcz31_3
       try clear hcz41_0
       try clear hcz41_1
       try clear hcz41_2
       try clear hcz41_3
       try clear hcz46_0
       try clear hcz46_1
       try clear hcz46_2
       try clear hcz47_0
       try clear hcz47_1
       try clear hcz47_2
       try clear hcz47_3
       try clear hcz49_0
       try clear hcz49_1
       try clear hcz49_2
       try clear hcz49_3
       try clear hcz55_0
       try clear hcz55_1
       try clear hcz55_2
       try clear hcz56_0
       try clear hcz56_1
       try clear hcz56_2
       try clear hcz56_3
       try clear hcz63_0
       try clear hcz63_1
       try clear hcz63_2
       try clear hcz64_0
       try clear hcz64_1
       try clear hcz64_2
       try clear hcz64_3
       try clear hcz72_0
       try clear hcz72_1
       try clear hcz72_2
       try clear hcz83_0
       try clear hcz83_1
       try clear hcz83_2
       try clear hcz88_0
       try clear hcz88_1
       try clear hcz88_2
       try clear hcz88_3
       try clear hcz96_0
       try clear hcz96_1
       try clear hcz96_2
       try clear hfz101_0
       try clear hfz101_1
       try clear hfz101_2
       try clear hfz101_3
       try clear hfz110_0
       try clear hfz110_1
       try clear hfz110_2
       try clear hfz115_0
       try clear hfz115_1
       try clear hfz115_2
       try clear hfz115_3
       try clear hfz119_0
       try clear hfz119_1
       try clear hfz119_2
       try clear hfz121_0
       try clear hfz121_1
       try clear hfz121_2
       try clear hfz121_3
       try clear hfz124_0
       try clear hfz124_1
       try clear hfz124_2
       try clear hfz12_0
       try clear hfz12_1
       try clear hfz12_2
       try clear hfz12_3
       try clear hfz131_0
       try clear hfz131_1
       try clear hfz131_2
       try clear hfz136_0
       try clear hfz136_1
       try clear hfz136_2
       try clear hfz136_3
       try clear hfz140_0
       try clear hfz140_1
       try clear hfz140_2
       try clear hfz147_0
       try clear hfz147_1
       try clear hfz147_2
       try clear hfz152_0
       try clear hfz152_1
       try clear hfz152_2
       try clear hfz152_3
       try clear hfz17_0
       try clear hfz17_1
       try clear hfz17_2
       try clear hfz17_3
       try clear hfz18_0
       try clear hfz18_1
       try clear hfz18_2
       try clear hfz18_3
       try clear hfz23_0
       try clear hfz23_1
       try clear hfz23_2
       try clear hfz23_3
       try clear hfz24_0
       try clear hfz24_1
       try clear hfz24_2
       try clear hfz24_3
       try clear hfz27_0
       try clear hfz27_1
       try clear hfz27_2
       try clear hfz27_3
       try clear hfz28_0
       try clear hfz28_1
       try clear hfz28_2
       try clear hfz28_3
       try clear hfz30_0
       try clear hfz30_1
       try clear hfz30_2
       try clear hfz30_3
       try clear hfz31_0
       try clear hfz31_1
       try clear hfz31_2
       try clear hfz31_3
       try clear hfz41_0
       try clear hfz41_1
       try clear hfz41_2
       try clear hfz41_3
       try clear hfz46_0
       try clear hfz46_1
       try clear hfz46_2
       try clear hfz47_0
       try clear hfz47_1
       try clear hfz47_2
       try clear hfz47_3
       try clear hfz49_0
       try clear hfz49_1
       try clear hfz49_2
       try clear hfz49_3
       try clear hfz55_0
       try clear hfz55_1
       try clear hfz55_2
       try clear hfz56_0
       try clear hfz56_1
       try clear hfz56_2
       try clear hfz56_3
       try clear hfz63_0
       try clear hfz63_1
       try clear hfz63_2
       try clear hfz64_0
       try clear hfz64_1
       try clear hfz64_2
       try clear hfz64_3
       try clear hfz72_0
       try clear hfz72_1
       try clear hfz72_2
       try clear hfz83_0
       try clear hfz83_1
       try clear hfz83_2
       try clear hfz88_0
       try clear hfz88_1
       try clear hfz88_2
       try clear hfz88_3
       try clear hfz96_0
       try clear hfz96_1
       try clear hfz96_2
       try clear p2
       obtain ⟨kq, x145_38, rfl, HA, HJ38, BK231, BK243, BK250, BK257, BK262, BK267, HB⟩ := hcut
       cases kq with
       | zero => exact absurd HA.out (by simp [nameplatelaw05_RangesBack.j1])
       | succ kj38 =>
        have H := HA.out
        clear HA
        simp only [nameplatelaw05_RangesBack.j1] at H
        by_cases c153 : x145_38 = true
        ·subst c153
         have H1 : (some false) = some r := by rw [if_pos rfl] at H; exact H
         clear H
         have H := H1
         clear H1
         exact absurd ((Option.some.inj H).trans hr_.out) (by decide)
        ·replace c153 := Bool.eq_false_iff.mpr c153
         subst c153
         have H1 : ((addr_Add.f t258 t259 t260 1).bind fun bt270 => (if bt270.2.2.2 = true then (if t244 = 65536 then (some true) else ((ranges_Has.f a0_0 a0_1 a0_2 a0_3 bt270.1 bt270.2.1 bt270.2.2.1).bind fun t275 => (some (!t275)))) else (some true))) = some r := by rw [if_neg (show ¬ (false = true) by decide)] at H; exact H
         clear H
         have H := H1
         clear H1
         replace H := Option.bind_eq_some_iff.mp H
         obtain ⟨⟨t270, t271, t272, t273⟩, A1540, H⟩ := H
         replace H : (if t273 = true then (if t244 = 65536 then (some true) else ((ranges_Has.f a0_0 a0_1 a0_2 a0_3 t270 t271 t272).bind fun t275 => (some (!t275)))) else (some true)) = some r := H
         have A154 := Aside0.mk A1540
         clear A1540
         by_cases c155 : t273 = true
         ·subst c155
          have H1 : (if t244 = 65536 then (some true) else ((ranges_Has.f a0_0 a0_1 a0_2 a0_3 t270 t271 t272).bind fun t275 => (some (!t275)))) = some r := by rw [if_pos rfl] at H; exact H
          clear H
          have H := H1
          clear H1
          by_cases c156 : t244 = 65536
          ·rw [if_pos c156] at H
           have c156b0 : (t244 == 65536) = true := beq_iff_eq.mpr c156
           have c156b1 : (t244 != 65536) = false := bne_eq_false_iff_eq.mpr c156
           clear c156
           obtain rfl := Option.some.inj H
           have hnb157 := NB262_231.out
           have hnc157 := NB231_262.out
           have hnb158 := NB262_243.out
           have hnc158 := NB243_262.out
           have hnb159 := NB262_250.out
           have hnc159 := NB250_262.out
           have hnb160 := NB262_257.out
           have hnc160 := NB257_262.out
           have hnb161 := NB262_267.out
           have hnc161 := NB267_262.out
           have hcz162_0 : wc.cell? ⟨gb262, 0, none⟩ = some (.bool t258) := (blk_cell BK262.out 0).trans rfl
           have hcz162_1 : wc.cell? ⟨gb262, 1, none⟩ = some (.int .u64 t259) := (blk_cell BK262.out 1).trans rfl
           have hcz162_2 : wc.cell? ⟨gb262, 2, none⟩ = some (.int .u64 t260) := (blk_cell BK262.out 2).trans rfl
           have hfz162_0 := blk_frozen BK262.out 0
           have hfz162_1 := blk_frozen BK262.out 1
           have hfz162_2 := blk_frozen BK262.out 2
           go_wp2_with (first | ((with_reducible refine gate_callee (f := 24) rfl ?_); refine goesL_ (some 148) rfl rfl Tryz.func24 (by kernel_rfl) rfl #[.agg #[.bool t258, .int .u64 t259, .int .u64 t260], .int .u64 1] rfl (by (try simp only [List.map_toArray, List.map_cons, List.map_nil]); first | done | rfl | (simp only [List.length_drop, List.length_take]; rfl)) ?_; (with_reducible refine (addr_Add.calls t258 t259 t260 1 t270 t271 t272 true _ A154.out).mono ?_); rintro e w163 ⟨rfl, hb⟩; refine ⟨_, rfl, ?_⟩; have n0_ := Aside0.mk (blk_below (g := gb231) (o := .cells #[.bool a0_0, .int .u64 a0_1, .int .u64 a0_2, .int .i64 a0_3] 26 (0, 0)) (by (with_reducible repeat (first | apply blk_drewN | apply blk_drew | apply blk_alloc)); exact BK231.out) hb); have n1_ := Aside0.mk (blk_below (g := gb243) (o := .cells #[.bool t238, .int .u64 t239, .int .u64 t240, .int .i64 t241] 26 (0, 0)) (by (with_reducible repeat (first | apply blk_drewN | apply blk_drew | apply blk_alloc)); exact BK243.out) hb); have n2_ := Aside0.mk (blk_below (g := gb250) (o := .cells #[.bool t246, .int .u64 t247, .int .u64 t248] 24 (0, 0)) (by (with_reducible repeat (first | apply blk_drewN | apply blk_drew | apply blk_alloc)); exact BK250.out) hb); have n3_ := Aside0.mk (blk_below (g := gb257) (o := .cells #[.bool t253, .int .u64 t254, .int .u64 t255] 24 (0, 0)) (by (with_reducible repeat (first | apply blk_drewN | apply blk_drew | apply blk_alloc)); exact BK257.out) hb); have n4_ := Aside0.mk (blk_below (g := gb262) (o := .cells #[.bool t258, .int .u64 t259, .int .u64 t260] 24 (0, 0)) (by (with_reducible repeat (first | apply blk_drewN | apply blk_drew | apply blk_alloc)); exact BK262.out) hb); have n5_ := Aside0.mk (blk_below (g := gb267) (o := .cells #[.bool t263, .int .u64 t264, .int .u64 t265] 24 (0, 0)) (by (with_reducible repeat (first | apply blk_drewN | apply blk_drew | apply blk_alloc)); exact BK267.out) hb); have n6_ := Aside0.mk (below_step (by repeat (first | (with_reducible first | exact HB.out | apply below_alloc | apply pw_below_drewN | apply below_drew1 | refine below_set ?_ (by apply Aside0.out; assumption)) | exact HB.out)) hb); clear BK231; clear BK243; clear BK250; clear BK257; clear BK262; clear BK267; clear HB; have BK231 := n0_; have BK243 := n1_; have BK250 := n2_; have BK257 := n3_; have BK262 := n4_; have BK267 := n5_; have HB := n6_; clear n0_ n1_ n2_ n3_ n4_ n5_ n6_; (try clear hb); (try clear hb2); (try clear hk); (try clear hi)) | ((with_reducible refine gate_dst (N := 20) rfl ?_); refine box_event ?hg (N := 20) ?hd (cs := #[.bool false, .int .u64 0, .int .u64 0]) (t := 24) ?hr ?_; (case hd => rfl); (case hg => rfl); (case hr => first | (go_simp; done) | (go_simp; rfl)); intro gb274 hg w164 hbox hb; have n0_ := Aside0.mk (blk_below (g := gb231) (o := .cells #[.bool a0_0, .int .u64 a0_1, .int .u64 a0_2, .int .i64 a0_3] 26 (0, 0)) (by (with_reducible repeat (first | apply blk_drewN | apply blk_drew | apply blk_alloc)); exact BK231.out) hb); have n1_ := Aside0.mk (blk_below (g := gb243) (o := .cells #[.bool t238, .int .u64 t239, .int .u64 t240, .int .i64 t241] 26 (0, 0)) (by (with_reducible repeat (first | apply blk_drewN | apply blk_drew | apply blk_alloc)); exact BK243.out) hb); have n2_ := Aside0.mk (blk_below (g := gb250) (o := .cells #[.bool t246, .int .u64 t247, .int .u64 t248] 24 (0, 0)) (by (with_reducible repeat (first | apply blk_drewN | apply blk_drew | apply blk_alloc)); exact BK250.out) hb); have n3_ := Aside0.mk (blk_below (g := gb257) (o := .cells #[.bool t253, .int .u64 t254, .int .u64 t255] 24 (0, 0)) (by (with_reducible repeat (first | apply blk_drewN | apply blk_drew | apply blk_alloc)); exact BK257.out) hb); have n4_ := Aside0.mk (blk_below (g := gb262) (o := .cells #[.bool t258, .int .u64 t259, .int .u64 t260] 24 (0, 0)) (by (with_reducible repeat (first | apply blk_drewN | apply blk_drew | apply blk_alloc)); exact BK262.out) hb); have n5_ := Aside0.mk (blk_below (g := gb267) (o := .cells #[.bool t263, .int .u64 t264, .int .u64 t265] 24 (0, 0)) (by (with_reducible repeat (first | apply blk_drewN | apply blk_drew | apply blk_alloc)); exact BK267.out) hb); have n6_ := Aside0.mk (below_step (by repeat (first | (with_reducible first | exact HB.out | apply below_alloc | apply pw_below_drewN | apply below_drew1 | refine below_set ?_ (by apply Aside0.out; assumption)) | exact HB.out)) hb); have n7_ := Aside0.mk (hbox); have n8_ := Aside0.mk ((by rw [hg]; exact (below_size (by repeat (first | (with_reducible first | exact HB.out | apply below_alloc | apply pw_below_drewN | apply below_drew1 | refine below_set ?_ (by apply Aside0.out; assumption)) | exact HB.out))) : w.heap.size ≤ gb274)); have n9_ := Aside0.mk ((by rw [hg]; exact (below_size (by repeat (first | (with_reducible first | exact HB.out | apply below_alloc | apply pw_below_drewN | apply below_drew1 | refine below_set ?_ (by apply Aside0.out; assumption)) | exact HB.out))) : w.heap.size ≤ gb274)); have n10_ := Aside0.mk ((by rw [hg]; exact Nat.ne_of_lt (blk_lt (g := gb231) (o := .cells #[.bool a0_0, .int .u64 a0_1, .int .u64 a0_2, .int .i64 a0_3] 26 (0, 0)) (by (with_reducible repeat (first | apply blk_drewN | apply blk_drew | apply blk_alloc)); exact BK231.out)) : gb231 ≠ gb274)); have n11_ := Aside0.mk ((by rw [hg]; exact Nat.ne_of_gt (blk_lt (g := gb231) (o := .cells #[.bool a0_0, .int .u64 a0_1, .int .u64 a0_2, .int .i64 a0_3] 26 (0, 0)) (by (with_reducible repeat (first | apply blk_drewN | apply blk_drew | apply blk_alloc)); exact BK231.out)) : gb274 ≠ gb231)); have n12_ := Aside0.mk ((by rw [hg]; exact Nat.ne_of_lt (blk_lt (g := gb243) (o := .cells #[.bool t238, .int .u64 t239, .int .u64 t240, .int .i64 t241] 26 (0, 0)) (by (with_reducible repeat (first | apply blk_drewN | apply blk_drew | apply blk_alloc)); exact BK243.out)) : gb243 ≠ gb274)); have n13_ := Aside0.mk ((by rw [hg]; exact Nat.ne_of_gt (blk_lt (g := gb243) (o := .cells #[.bool t238, .int .u64 t239, .int .u64 t240, .int .i64 t241] 26 (0, 0)) (by (with_reducible repeat (first | apply blk_drewN | apply blk_drew | apply blk_alloc)); exact BK243.out)) : gb274 ≠ gb243)); have n14_ := Aside0.mk ((by rw [hg]; exact Nat.ne_of_lt (blk_lt (g := gb250) (o := .cells #[.bool t246, .int .u64 t247, .int .u64 t248] 24 (0, 0)) (by (with_reducible repeat (first | apply blk_drewN | apply blk_drew | apply blk_alloc)); exact BK250.out)) : gb250 ≠ gb274)); have n15_ := Aside0.mk ((by rw [hg]; exact Nat.ne_of_gt (blk_lt (g := gb250) (o := .cells #[.bool t246, .int .u64 t247, .int .u64 t248] 24 (0, 0)) (by (with_reducible repeat (first | apply blk_drewN | apply blk_drew | apply blk_alloc)); exact BK250.out)) : gb274 ≠ gb250)); have n16_ := Aside0.mk ((by rw [hg]; exact Nat.ne_of_lt (blk_lt (g := gb257) (o := .cells #[.bool t253, .int .u64 t254, .int .u64 t255] 24 (0, 0)) (by (with_reducible repeat (first | apply blk_drewN | apply blk_drew | apply blk_alloc)); exact BK257.out)) : gb257 ≠ gb274)); have n17_ := Aside0.mk ((by rw [hg]; exact Nat.ne_of_gt (blk_lt (g := gb257) (o := .cells #[.bool t253, .int .u64 t254, .int .u64 t255] 24 (0, 0)) (by (with_reducible repeat (first | apply blk_drewN | apply blk_drew | apply blk_alloc)); exact BK257.out)) : gb274 ≠ gb257)); have n18_ := Aside0.mk ((by rw [hg]; exact Nat.ne_of_lt (blk_lt (g := gb262) (o := .cells #[.bool t258, .int .u64 t259, .int .u64 t260] 24 (0, 0)) (by (with_reducible repeat (first | apply blk_drewN | apply blk_drew | apply blk_alloc)); exact BK262.out)) : gb262 ≠ gb274)); have n19_ := Aside0.mk ((by rw [hg]; exact Nat.ne_of_gt (blk_lt (g := gb262) (o := .cells #[.bool t258, .int .u64 t259, .int .u64 t260] 24 (0, 0)) (by (with_reducible repeat (first | apply blk_drewN | apply blk_drew | apply blk_alloc)); exact BK262.out)) : gb274 ≠ gb262)); have n20_ := Aside0.mk ((by rw [hg]; exact Nat.ne_of_lt (blk_lt (g := gb267) (o := .cells #[.bool t263, .int .u64 t264, .int .u64 t265] 24 (0, 0)) (by (with_reducible repeat (first | apply blk_drewN | apply blk_drew | apply blk_alloc)); exact BK267.out)) : gb267 ≠ gb274)); have n21_ := Aside0.mk ((by rw [hg]; exact Nat.ne_of_gt (blk_lt (g := gb267) (o := .cells #[.bool t263, .int .u64 t264, .int .u64 t265] 24 (0, 0)) (by (with_reducible repeat (first | apply blk_drewN | apply blk_drew | apply blk_alloc)); exact BK267.out)) : gb274 ≠ gb267)); clear BK231; clear BK243; clear BK250; clear BK257; clear BK262; clear BK267; clear HB; have BK231 := n0_; have BK243 := n1_; have BK250 := n2_; have BK257 := n3_; have BK262 := n4_; have BK267 := n5_; have HB := n6_; have BK274 := n7_; have GW274 := n8_; have GE274 := n9_; have NB231_274 := n10_; have NB274_231 := n11_; have NB243_274 := n12_; have NB274_243 := n13_; have NB250_274 := n14_; have NB274_250 := n15_; have NB257_274 := n16_; have NB274_257 := n17_; have NB262_274 := n18_; have NB274_262 := n19_; have NB267_274 := n20_; have NB274_267 := n21_; clear n0_ n1_ n2_ n3_ n4_ n5_ n6_ n7_ n8_ n9_ n10_ n11_ n12_ n13_ n14_ n15_ n16_ n17_ n18_ n19_ n20_ n21_; clear hb hbox hg; have hnb165 := NB274_231.out; have hnc165 := NB231_274.out; have hnb166 := NB274_243.out; have hnc166 := NB243_274.out; have hnb167 := NB274_250.out; have hnc167 := NB250_274.out; have hnb168 := NB274_257.out; have hnc168 := NB257_274.out; have hnb169 := NB274_262.out; have hnc169 := NB262_274.out; have hnb170 := NB274_267.out; have hnc170 := NB267_274.out; have hcz171_0 : w164.cell? ⟨gb274, 0, none⟩ = some (.bool false) := (blk_cell BK274.out 0).trans rfl; have hcz171_1 : w164.cell? ⟨gb274, 1, none⟩ = some (.int .u64 0) := (blk_cell BK274.out 1).trans rfl; have hcz171_2 : w164.cell? ⟨gb274, 2, none⟩ = some (.int .u64 0) := (blk_cell BK274.out 2).trans rfl; have hfz171_0 := blk_frozen BK274.out 0; have hfz171_1 := blk_frozen BK274.out 1; have hfz171_2 := blk_frozen BK274.out 2))
           go_ret
           exact ⟨by first | rfl | (simp [errW_none, errW_some] <;> rfl) | (simp [*, errW_none, errW_some] <;> rfl), by repeat (first | (with_reducible first | exact HB.out | apply below_alloc | apply pw_below_drewN | apply below_drew1 | refine below_set ?_ (by apply Aside0.out; assumption)) | exact HB.out)⟩
          ·rw [if_neg c156] at H
           have c156b0 : (t244 == 65536) = false := beq_eq_false_iff_ne.mpr c156
           have c156b1 : (t244 != 65536) = true := bne_iff_ne.mpr c156
           replace H := Option.bind_eq_some_iff.mp H
           obtain ⟨t275, A1720, H⟩ := H
           replace H : (some (!t275)) = some r := H
           have A172 := Aside0.mk A1720
           clear A1720
           obtain rfl := Option.some.inj H
           have hnb173 := NB262_231.out
           have hnc173 := NB231_262.out
           have hnb174 := NB262_243.out
           have hnc174 := NB243_262.out
           have hnb175 := NB262_250.out
           have hnc175 := NB250_262.out
           have hnb176 := NB262_257.out
           have hnc176 := NB257_262.out
           have hnb177 := NB262_267.out
           have hnc177 := NB267_262.out
           have hcz178_0 : wc.cell? ⟨gb262, 0, none⟩ = some (.bool t258) := (blk_cell BK262.out 0).trans rfl
           have hcz178_1 : wc.cell? ⟨gb262, 1, none⟩ = some (.int .u64 t259) := (blk_cell BK262.out 1).trans rfl
           have hcz178_2 : wc.cell? ⟨gb262, 2, none⟩ = some (.int .u64 t260) := (blk_cell BK262.out 2).trans rfl
           have hfz178_0 := blk_frozen BK262.out 0
           have hfz178_1 := blk_frozen BK262.out 1
           have hfz178_2 := blk_frozen BK262.out 2
           go_wp2_with (first | ((with_reducible refine gate_callee (f := 24) rfl ?_); refine goesL_ (some 148) rfl rfl Tryz.func24 (by kernel_rfl) rfl #[.agg #[.bool t258, .int .u64 t259, .int .u64 t260], .int .u64 1] rfl (by (try simp only [List.map_toArray, List.map_cons, List.map_nil]); first | done | rfl | (simp only [List.length_drop, List.length_take]; rfl)) ?_; (with_reducible refine (addr_Add.calls t258 t259 t260 1 t270 t271 t272 true _ A154.out).mono ?_); rintro e w179 ⟨rfl, hb⟩; refine ⟨_, rfl, ?_⟩; have n0_ := Aside0.mk (blk_below (g := gb231) (o := .cells #[.bool a0_0, .int .u64 a0_1, .int .u64 a0_2, .int .i64 a0_3] 26 (0, 0)) (by (with_reducible repeat (first | apply blk_drewN | apply blk_drew | apply blk_alloc)); exact BK231.out) hb); have n1_ := Aside0.mk (blk_below (g := gb243) (o := .cells #[.bool t238, .int .u64 t239, .int .u64 t240, .int .i64 t241] 26 (0, 0)) (by (with_reducible repeat (first | apply blk_drewN | apply blk_drew | apply blk_alloc)); exact BK243.out) hb); have n2_ := Aside0.mk (blk_below (g := gb250) (o := .cells #[.bool t246, .int .u64 t247, .int .u64 t248] 24 (0, 0)) (by (with_reducible repeat (first | apply blk_drewN | apply blk_drew | apply blk_alloc)); exact BK250.out) hb); have n3_ := Aside0.mk (blk_below (g := gb257) (o := .cells #[.bool t253, .int .u64 t254, .int .u64 t255] 24 (0, 0)) (by (with_reducible repeat (first | apply blk_drewN | apply blk_drew | apply blk_alloc)); exact BK257.out) hb); have n4_ := Aside0.mk (blk_below (g := gb262) (o := .cells #[.bool t258, .int .u64 t259, .int .u64 t260] 24 (0, 0)) (by (with_reducible repeat (first | apply blk_drewN | apply blk_drew | apply blk_alloc)); exact BK262.out) hb); have n5_ := Aside0.mk (blk_below (g := gb267) (o := .cells #[.bool t263, .int .u64 t264, .int .u64 t265] 24 (0, 0)) (by (with_reducible repeat (first | apply blk_drewN | apply blk_drew | apply blk_alloc)); exact BK267.out) hb); have n6_ := Aside0.mk (below_step (by repeat (first | (with_reducible first | exact HB.out | apply below_alloc | apply pw_below_drewN | apply below_drew1 | refine below_set ?_ (by apply Aside0.out; assumption)) | exact HB.out)) hb); clear BK231; clear BK243; clear BK250; clear BK257; clear BK262; clear BK267; clear HB; have BK231 := n0_; have BK243 := n1_; have BK250 := n2_; have BK257 := n3_; have BK262 := n4_; have BK267 := n5_; have HB := n6_; clear n0_ n1_ n2_ n3_ n4_ n5_ n6_; (try clear hb); (try clear hb2); (try clear hk); (try clear hi)) | ((with_reducible refine gate_dst (N := 20) rfl ?_); refine box_event ?hg (N := 20) ?hd (cs := #[.bool false, .int .u64 0, .int .u64 0]) (t := 24) ?hr ?_; (case hd => rfl); (case hg => rfl); (case hr => first | (go_simp; done) | (go_simp; rfl)); intro gb274 hg w180 hbox hb; have n0_ := Aside0.mk (blk_below (g := gb231) (o := .cells #[.bool a0_0, .int .u64 a0_1, .int .u64 a0_2, .int .i64 a0_3] 26 (0, 0)) (by (with_reducible repeat (first | apply blk_drewN | apply blk_drew | apply blk_alloc)); exact BK231.out) hb); have n1_ := Aside0.mk (blk_below (g := gb243) (o := .cells #[.bool t238, .int .u64 t239, .int .u64 t240, .int .i64 t241] 26 (0, 0)) (by (with_reducible repeat (first | apply blk_drewN | apply blk_drew | apply blk_alloc)); exact BK243.out) hb); have n2_ := Aside0.mk (blk_below (g := gb250) (o := .cells #[.bool t246, .int .u64 t247, .int .u64 t248] 24 (0, 0)) (by (with_reducible repeat (first | apply blk_drewN | apply blk_drew | apply blk_alloc)); exact BK250.out) hb); have n3_ := Aside0.mk (blk_below (g := gb257) (o := .cells #[.bool t253, .int .u64 t254, .int .u64 t255] 24 (0, 0)) (by (with_reducible repeat (first | apply blk_drewN | apply blk_drew | apply blk_alloc)); exact BK257.out) hb); have n4_ := Aside0.mk (blk_below (g := gb262) (o := .cells #[.bool t258, .int .u64 t259, .int .u64 t260] 24 (0, 0)) (by (with_reducible repeat (first | apply blk_drewN | apply blk_drew | apply blk_alloc)); exact BK262.out) hb); have n5_ := Aside0.mk (blk_below (g := gb267) (o := .cells #[.bool t263, .int .u64 t264, .int .u64 t265] 24 (0, 0)) (by (with_reducible repeat (first | apply blk_drewN | apply blk_drew | apply blk_alloc)); exact BK267.out) hb); have n6_ := Aside0.mk (below_step (by repeat (first | (with_reducible first | exact HB.out | apply below_alloc | apply pw_below_drewN | apply below_drew1 | refine below_set ?_ (by apply Aside0.out; assumption)) | exact HB.out)) hb); have n7_ := Aside0.mk (hbox); have n8_ := Aside0.mk ((by rw [hg]; exact (below_size (by repeat (first | (with_reducible first | exact HB.out | apply below_alloc | apply pw_below_drewN | apply below_drew1 | refine below_set ?_ (by apply Aside0.out; assumption)) | exact HB.out))) : w.heap.size ≤ gb274)); have n9_ := Aside0.mk ((by rw [hg]; exact (below_size (by repeat (first | (with_reducible first | exact HB.out | apply below_alloc | apply pw_below_drewN | apply below_drew1 | refine below_set ?_ (by apply Aside0.out; assumption)) | exact HB.out))) : w.heap.size ≤ gb274)); have n10_ := Aside0.mk ((by rw [hg]; exact Nat.ne_of_lt (blk_lt (g := gb231) (o := .cells #[.bool a0_0, .int .u64 a0_1, .int .u64 a0_2, .int .i64 a0_3] 26 (0, 0)) (by (with_reducible repeat (first | apply blk_drewN | apply blk_drew | apply blk_alloc)); exact BK231.out)) : gb231 ≠ gb274)); have n11_ := Aside0.mk ((by rw [hg]; exact Nat.ne_of_gt (blk_lt (g := gb231) (o := .cells #[.bool a0_0, .int .u64 a0_1, .int .u64 a0_2, .int .i64 a0_3] 26 (0, 0)) (by (with_reducible repeat (first | apply blk_drewN | apply blk_drew | apply blk_alloc)); exact BK231.out)) : gb274 ≠ gb231)); have n12_ := Aside0.mk ((by rw [hg]; exact Nat.ne_of_lt (blk_lt (g := gb243) (o := .cells #[.bool t238, .int .u64 t239, .int .u64 t240, .int .i64 t241] 26 (0, 0)) (by (with_reducible repeat (first | apply blk_drewN | apply blk_drew | apply blk_alloc)); exact BK243.out)) : gb243 ≠ gb274)); have n13_ := Aside0.mk ((by rw [hg]; exact Nat.ne_of_gt (blk_lt (g := gb243) (o := .cells #[.bool t238, .int .u64 t239, .int .u64 t240, .int .i64 t241] 26 (0, 0)) (by (with_reducible repeat (first | apply blk_drewN | apply blk_drew | apply blk_alloc)); exact BK243.out)) : gb274 ≠ gb243)); have n14_ := Aside0.mk ((by rw [hg]; exact Nat.ne_of_lt (blk_lt (g := gb250) (o := .cells #[.bool t246, .int .u64 t247, .int .u64 t248] 24 (0, 0)) (by (with_reducible repeat (first | apply blk_drewN | apply blk_drew | apply blk_alloc)); exact BK250.out)) : gb250 ≠ gb274)); have n15_ := Aside0.mk ((by rw [hg]; exact Nat.ne_of_gt (blk_lt (g := gb250) (o := .cells #[.bool t246, .int .u64 t247, .int .u64 t248] 24 (0, 0)) (by (with_reducible repeat (first | apply blk_drewN | apply blk_drew | apply blk_alloc)); exact BK250.out)) : gb274 ≠ gb250)); have n16_ := Aside0.mk ((by rw [hg]; exact Nat.ne_of_lt (blk_lt (g := gb257) (o := .cells #[.bool t253, .int .u64 t254, .int .u64 t255] 24 (0, 0)) (by (with_reducible repeat (first | apply blk_drewN | apply blk_drew | apply blk_alloc)); exact BK257.out)) : gb257 ≠ gb274)); have n17_ := Aside0.mk ((by rw [hg]; exact Nat.ne_of_gt (blk_lt (g := gb257) (o := .cells #[.bool t253, .int .u64 t254, .int .u64 t255] 24 (0, 0)) (by (with_reducible repeat (first | apply blk_drewN | apply blk_drew | apply blk_alloc)); exact BK257.out)) : gb274 ≠ gb257)); have n18_ := Aside0.mk ((by rw [hg]; exact Nat.ne_of_lt (blk_lt (g := gb262) (o := .cells #[.bool t258, .int .u64 t259, .int .u64 t260] 24 (0, 0)) (by (with_reducible repeat (first | apply blk_drewN | apply blk_drew | apply blk_alloc)); exact BK262.out)) : gb262 ≠ gb274)); have n19_ := Aside0.mk ((by rw [hg]; exact Nat.ne_of_gt (blk_lt (g := gb262) (o := .cells #[.bool t258, .int .u64 t259, .int .u64 t260] 24 (0, 0)) (by (with_reducible repeat (first | apply blk_drewN | apply blk_drew | apply blk_alloc)); exact BK262.out)) : gb274 ≠ gb262)); have n20_ := Aside0.mk ((by rw [hg]; exact Nat.ne_of_lt (blk_lt (g := gb267) (o := .cells #[.bool t263, .int .u64 t264, .int .u64 t265] 24 (0, 0)) (by (with_reducible repeat (first | apply blk_drewN | apply blk_drew | apply blk_alloc)); exact BK267.out)) : gb267 ≠ gb274)); have n21_ := Aside0.mk ((by rw [hg]; exact Nat.ne_of_gt (blk_lt (g := gb267) (o := .cells #[.bool t263, .int .u64 t264, .int .u64 t265] 24 (0, 0)) (by (with_reducible repeat (first | apply blk_drewN | apply blk_drew | apply blk_alloc)); exact BK267.out)) : gb274 ≠ gb267)); clear BK231; clear BK243; clear BK250; clear BK257; clear BK262; clear BK267; clear HB; have BK231 := n0_; have BK243 := n1_; have BK250 := n2_; have BK257 := n3_; have BK262 := n4_; have BK267 := n5_; have HB := n6_; have BK274 := n7_; have GW274 := n8_; have GE274 := n9_; have NB231_274 := n10_; have NB274_231 := n11_; have NB243_274 := n12_; have NB274_243 := n13_; have NB250_274 := n14_; have NB274_250 := n15_; have NB257_274 := n16_; have NB274_257 := n17_; have NB262_274 := n18_; have NB274_262 := n19_; have NB267_274 := n20_; have NB274_267 := n21_; clear n0_ n1_ n2_ n3_ n4_ n5_ n6_ n7_ n8_ n9_ n10_ n11_ n12_ n13_ n14_ n15_ n16_ n17_ n18_ n19_ n20_ n21_; clear hb hbox hg; have hnb181 := NB274_231.out; have hnc181 := NB231_274.out; have hnb182 := NB274_243.out; have hnc182 := NB243_274.out; have hnb183 := NB274_250.out; have hnc183 := NB250_274.out; have hnb184 := NB274_257.out; have hnc184 := NB257_274.out; have hnb185 := NB274_262.out; have hnc185 := NB262_274.out; have hnb186 := NB274_267.out; have hnc186 := NB267_274.out; have hcz187_0 : w180.cell? ⟨gb274, 0, none⟩ = some (.bool false) := (blk_cell BK274.out 0).trans rfl; have hcz187_1 : w180.cell? ⟨gb274, 1, none⟩ = some (.int .u64 0) := (blk_cell BK274.out 1).trans rfl; have hcz187_2 : w180.cell? ⟨gb274, 2, none⟩ = some (.int .u64 0) := (blk_cell BK274.out 2).trans rfl; have hfz187_0 := blk_frozen BK274.out 0; have hfz187_1 := blk_frozen BK274.out 1; have hfz187_2 := blk_frozen BK274.out 2; have hnb188 := NB231_243.out; have hnc188 := NB243_231.out; have hnb189 := NB231_250.out; have hnc189 := NB250_231.out; have hnb190 := NB231_257.out; have hnc190 := NB257_231.out; have hnb191 := NB231_267.out; have hnc191 := NB267_231.out; have hcz192_0 : w180.cell? ⟨gb231, 0, none⟩ = some (.bool a0_0) := (blk_cell BK231.out 0).trans rfl; have hcz192_1 : w180.cell? ⟨gb231, 1, none⟩ = some (.int .u64 a0_1) := (blk_cell BK231.out 1).trans rfl; have hcz192_2 : w180.cell? ⟨gb231, 2, none⟩ = some (.int .u64 a0_2) := (blk_cell BK231.out 2).trans rfl; have hcz192_3 : w180.cell? ⟨gb231, 3, none⟩ = some (.int .i64 a0_3) := (blk_cell BK231.out 3).trans rfl; have hfz192_0 := blk_frozen BK231.out 0; have hfz192_1 := blk_frozen BK231.out 1; have hfz192_2 := blk_frozen BK231.out 2; have hfz192_3 := blk_frozen BK231.out 3) | (go_at_call 14; (with_reducible refine (ranges_Has.calls a0_0 a0_1 a0_2 a0_3 t270 t271 t272 t275 _ A172.out).mono ?_); rintro e w193 ⟨rfl, hb⟩; have n0_ := Aside0.mk (blk_below (g := gb231) (o := .cells #[.bool a0_0, .int .u64 a0_1, .int .u64 a0_2, .int .i64 a0_3] 26 (0, 0)) (by (with_reducible repeat (first | apply blk_drewN | apply blk_drew | apply blk_alloc)); refine blk_far ?_ NB231_274.out _; (with_reducible repeat (first | apply blk_drewN | apply blk_drew | apply blk_alloc)); refine blk_far ?_ NB231_274.out _; (with_reducible repeat (first | apply blk_drewN | apply blk_drew | apply blk_alloc)); refine blk_far ?_ NB231_274.out _; (with_reducible repeat (first | apply blk_drewN | apply blk_drew | apply blk_alloc)); exact BK231.out) hb); have n1_ := Aside0.mk (blk_below (g := gb243) (o := .cells #[.bool t238, .int .u64 t239, .int .u64 t240, .int .i64 t241] 26 (0, 0)) (by (with_reducible repeat (first | apply blk_drewN | apply blk_drew | apply blk_alloc)); refine blk_far ?_ NB243_274.out _; (with_reducible repeat (first | apply blk_drewN | apply blk_drew | apply blk_alloc)); refine blk_far ?_ NB243_274.out _; (with_reducible repeat (first | apply blk_drewN | apply blk_drew | apply blk_alloc)); refine blk_far ?_ NB243_274.out _; (with_reducible repeat (first | apply blk_drewN | apply blk_drew | apply blk_alloc)); exact BK243.out) hb); have n2_ := Aside0.mk (blk_below (g := gb250) (o := .cells #[.bool t246, .int .u64 t247, .int .u64 t248] 24 (0, 0)) (by (with_reducible repeat (first | apply blk_drewN | apply blk_drew | apply blk_alloc)); refine blk_far ?_ NB250_274.out _; (with_reducible repeat (first | apply blk_drewN | apply blk_drew | apply blk_alloc)); refine blk_far ?_ NB250_274.out _; (with_reducible repeat (first | apply blk_drewN | apply blk_drew | apply blk_alloc)); refine blk_far ?_ NB250_274.out _; (with_reducible repeat (first | apply blk_drewN | apply blk_drew | apply blk_alloc)); exact BK250.out) hb); have n3_ := Aside0.mk (blk_below (g := gb257) (o := .cells #[.bool t253, .int .u64 t254, .int .u64 t255] 24 (0, 0)) (by (with_reducible repeat (first | apply blk_drewN | apply blk_drew | apply blk_alloc)); refine blk_far ?_ NB257_274.out _; (with_reducible repeat (first | apply blk_drewN | apply blk_drew | apply blk_alloc)); refine blk_far ?_ NB257_274.out _; (with_reducible repeat (first | apply blk_drewN | apply blk_drew | apply blk_alloc)); refine blk_far ?_ NB257_274.out _; (with_reducible repeat (first | apply blk_drewN | apply blk_drew | apply blk_alloc)); exact BK257.out) hb); have n4_ := Aside0.mk (blk_below (g := gb262) (o := .cells #[.bool t258, .int .u64 t259, .int .u64 t260] 24 (0, 0)) (by (with_reducible repeat (first | apply blk_drewN | apply blk_drew | apply blk_alloc)); refine blk_far ?_ NB262_274.out _; (with_reducible repeat (first | apply blk_drewN | apply blk_drew | apply blk_alloc)); refine blk_far ?_ NB262_274.out _; (with_reducible repeat (first | apply blk_drewN | apply blk_drew | apply blk_alloc)); refine blk_far ?_ NB262_274.out _; (with_reducible repeat (first | apply blk_drewN | apply blk_drew | apply blk_alloc)); exact BK262.out) hb); have n5_ := Aside0.mk (blk_below (g := gb267) (o := .cells #[.bool t263, .int .u64 t264, .int .u64 t265] 24 (0, 0)) (by (with_reducible repeat (first | apply blk_drewN | apply blk_drew | apply blk_alloc)); refine blk_far ?_ NB267_274.out _; (with_reducible repeat (first | apply blk_drewN | apply blk_drew | apply blk_alloc)); refine blk_far ?_ NB267_274.out _; (with_reducible repeat (first | apply blk_drewN | apply blk_drew | apply blk_alloc)); refine blk_far ?_ NB267_274.out _; (with_reducible repeat (first | apply blk_drewN | apply blk_drew | apply blk_alloc)); exact BK267.out) hb); have n6_ := Aside0.mk (blk_below (g := gb274) (o := .cells #[.bool t270, .int .u64 t271, .int .u64 t272] 24 (0, 0)) (by (with_reducible repeat (first | apply blk_drewN | apply blk_drew | apply blk_alloc)); refine blk_put (cs := #[.bool t270, .int .u64 t271, .int .u64 0]) ?_ 2 _ rfl; (with_reducible repeat (first | apply blk_drewN | apply blk_drew | apply blk_alloc)); refine blk_put (cs := #[.bool t270, .int .u64 0, .int .u64 0]) ?_ 1 _ rfl; (with_reducible repeat (first | apply blk_drewN | apply blk_drew | apply blk_alloc)); refine blk_put (cs := #[.bool false, .int .u64 0, .int .u64 0]) ?_ 0 _ rfl; (with_reducible repeat (first | apply blk_drewN | apply blk_drew | apply blk_alloc)); exact BK274.out) hb); have n7_ := Aside0.mk (below_step (by repeat (first | (with_reducible first | exact HB.out | apply below_alloc | apply pw_below_drewN | apply below_drew1 | refine below_set ?_ (by apply Aside0.out; assumption)) | exact HB.out)) hb); clear BK231; clear BK243; clear BK250; clear BK257; clear BK262; clear BK267; clear BK274; clear HB; have BK231 := n0_; have BK243 := n1_; have BK250 := n2_; have BK257 := n3_; have BK262 := n4_; have BK267 := n5_; have BK274 := n6_; have HB := n7_; clear n0_ n1_ n2_ n3_ n4_ n5_ n6_ n7_; (try clear hb); (try clear hb2); (try clear hk); (try clear hi)))
           go_ret
           exact ⟨by first | rfl | (simp [errW_none, errW_some] <;> rfl) | (simp [*, errW_none, errW_some] <;> rfl), by repeat (first | (with_reducible first | exact HB.out | apply below_alloc | apply pw_below_drewN | apply below_drew1 | refine below_set ?_ (by apply Aside0.out; assumption)) | exact HB.out)⟩
         ·replace c155 := Bool.eq_false_iff.mpr c155
          subst c155
          have H1 : (some true) = some r := by rw [if_neg (show ¬ (false = true) by decide)] at H; exact H
          clear H
          have H := H1
          clear H1
          obtain rfl := Option.some.inj H
          have hnb194 := NB262_231.out
          have hnc194 := NB231_262.out
          have hnb195 := NB262_243.out
          have hnc195 := NB243_262.out
          have hnb196 := NB262_250.out
          have hnc196 := NB250_262.out
          have hnb197 := NB262_257.out
          have hnc197 := NB257_262.out
          have hnb198 := NB262_267.out
          have hnc198 := NB267_262.out
          have hcz199_0 : wc.cell? ⟨gb262, 0, none⟩ = some (.bool t258) := (blk_cell BK262.out 0).trans rfl
          have hcz199_1 : wc.cell? ⟨gb262, 1, none⟩ = some (.int .u64 t259) := (blk_cell BK262.out 1).trans rfl
          have hcz199_2 : wc.cell? ⟨gb262, 2, none⟩ = some (.int .u64 t260) := (blk_cell BK262.out 2).trans rfl
          have hfz199_0 := blk_frozen BK262.out 0
          have hfz199_1 := blk_frozen BK262.out 1
          have hfz199_2 := blk_frozen BK262.out 2
          go_wp2_with (first | ((with_reducible refine gate_callee (f := 24) rfl ?_); refine goesL_ (some 148) rfl rfl Tryz.func24 (by kernel_rfl) rfl #[.agg #[.bool t258, .int .u64 t259, .int .u64 t260], .int .u64 1] rfl (by (try simp only [List.map_toArray, List.map_cons, List.map_nil]); first | done | rfl | (simp only [List.length_drop, List.length_take]; rfl)) ?_; (with_reducible refine (addr_Add.calls t258 t259 t260 1 t270 t271 t272 false _ A154.out).mono ?_); rintro e w200 ⟨rfl, hb⟩; refine ⟨_, rfl, ?_⟩; have n0_ := Aside0.mk (blk_below (g := gb231) (o := .cells #[.bool a0_0, .int .u64 a0_1, .int .u64 a0_2, .int .i64 a0_3] 26 (0, 0)) (by (with_reducible repeat (first | apply blk_drewN | apply blk_drew | apply blk_alloc)); exact BK231.out) hb); have n1_ := Aside0.mk (blk_below (g := gb243) (o := .cells #[.bool t238, .int .u64 t239, .int .u64 t240, .int .i64 t241] 26 (0, 0)) (by (with_reducible repeat (first | apply blk_drewN | apply blk_drew | apply blk_alloc)); exact BK243.out) hb); have n2_ := Aside0.mk (blk_below (g := gb250) (o := .cells #[.bool t246, .int .u64 t247, .int .u64 t248] 24 (0, 0)) (by (with_reducible repeat (first | apply blk_drewN | apply blk_drew | apply blk_alloc)); exact BK250.out) hb); have n3_ := Aside0.mk (blk_below (g := gb257) (o := .cells #[.bool t253, .int .u64 t254, .int .u64 t255] 24 (0, 0)) (by (with_reducible repeat (first | apply blk_drewN | apply blk_drew | apply blk_alloc)); exact BK257.out) hb); have n4_ := Aside0.mk (blk_below (g := gb262) (o := .cells #[.bool t258, .int .u64 t259, .int .u64 t260] 24 (0, 0)) (by (with_reducible repeat (first | apply blk_drewN | apply blk_drew | apply blk_alloc)); exact BK262.out) hb); have n5_ := Aside0.mk (blk_below (g := gb267) (o := .cells #[.bool t263, .int .u64 t264, .int .u64 t265] 24 (0, 0)) (by (with_reducible repeat (first | apply blk_drewN | apply blk_drew | apply blk_alloc)); exact BK267.out) hb); have n6_ := Aside0.mk (below_step (by repeat (first | (with_reducible first | exact HB.out | apply below_alloc | apply pw_below_drewN | apply below_drew1 | refine below_set ?_ (by apply Aside0.out; assumption)) | exact HB.out)) hb); clear BK231; clear BK243; clear BK250; clear BK257; clear BK262; clear BK267; clear HB; have BK231 := n0_; have BK243 := n1_; have BK250 := n2_; have BK257 := n3_; have BK262 := n4_; have BK267 := n5_; have HB := n6_; clear n0_ n1_ n2_ n3_ n4_ n5_ n6_; (try clear hb); (try clear hb2); (try clear hk); (try clear hi)) | ((with_reducible refine gate_dst (N := 20) rfl ?_); refine box_event ?hg (N := 20) ?hd (cs := #[.bool false, .int .u64 0, .int .u64 0]) (t := 24) ?hr ?_; (case hd => rfl); (case hg => rfl); (case hr => first | (go_simp; done) | (go_simp; rfl)); intro gb274 hg w201 hbox hb; have n0_ := Aside0.mk (blk_below (g := gb231) (o := .cells #[.bool a0_0, .int .u64 a0_1, .int .u64 a0_2, .int .i64 a0_3] 26 (0, 0)) (by (with_reducible repeat (first | apply blk_drewN | apply blk_drew | apply blk_alloc)); exact BK231.out) hb); have n1_ := Aside0.mk (blk_below (g := gb243) (o := .cells #[.bool t238, .int .u64 t239, .int .u64 t240, .int .i64 t241] 26 (0, 0)) (by (with_reducible repeat (first | apply blk_drewN | apply blk_drew | apply blk_alloc)); exact BK243.out) hb); have n2_ := Aside0.mk (blk_below (g := gb250) (o := .cells #[.bool t246, .int .u64 t247, .int .u64 t248] 24 (0, 0)) (by (with_reducible repeat (first | apply blk_drewN | apply blk_drew | apply blk_alloc)); exact BK250.out) hb); have n3_ := Aside0.mk (blk_below (g := gb257) (o := .cells #[.bool t253, .int .u64 t254, .int .u64 t255] 24 (0, 0)) (by (with_reducible repeat (first | apply blk_drewN | apply blk_drew | apply blk_alloc)); exact BK257.out) hb); have n4_ := Aside0.mk (blk_below (g := gb262) (o := .cells #[.bool t258, .int .u64 t259, .int .u64 t260] 24 (0, 0)) (by (with_reducible repeat (first | apply blk_drewN | apply blk_drew | apply blk_alloc)); exact BK262.out) hb); have n5_ := Aside0.mk (blk_below (g := gb267) (o := .cells #[.bool t263, .int .u64 t264, .int .u64 t265] 24 (0, 0)) (by (with_reducible repeat (first | apply blk_drewN | apply blk_drew | apply blk_alloc)); exact BK267.out) hb); have n6_ := Aside0.mk (below_step (by repeat (first | (with_reducible first | exact HB.out | apply below_alloc | apply pw_below_drewN | apply below_drew1 | refine below_set ?_ (by apply Aside0.out; assumption)) | exact HB.out)) hb); have n7_ := Aside0.mk (hbox); have n8_ := Aside0.mk ((by rw [hg]; exact (below_size (by repeat (first | (with_reducible first | exact HB.out | apply below_alloc | apply pw_below_drewN | apply below_drew1 | refine below_set ?_ (by apply Aside0.out; assumption)) | exact HB.out))) : w.heap.size ≤ gb274)); have n9_ := Aside0.mk ((by rw [hg]; exact (below_size (by repeat (first | (with_reducible first | exact HB.out | apply below_alloc | apply pw_below_drewN | apply below_drew1 | refine below_set ?_ (by apply Aside0.out; assumption)) | exact HB.out))) : w.heap.size ≤ gb274)); have n10_ := Aside0.mk ((by rw [hg]; exact Nat.ne_of_lt (blk_lt (g := gb231) (o := .cells #[.bool a0_0, .int .u64 a0_1, .int .u64 a0_2, .int .i64 a0_3] 26 (0, 0)) (by (with_reducible repeat (first | apply blk_drewN | apply blk_drew | apply blk_alloc)); exact BK231.out)) : gb231 ≠ gb274)); have n11_ := Aside0.mk ((by rw [hg]; exact Nat.ne_of_gt (blk_lt (g := gb231) (o := .cells #[.bool a0_0, .int .u64 a0_1, .int .u64 a0_2, .int .i64 a0_3] 26 (0, 0)) (by (with_reducible repeat (first | apply blk_drewN | apply blk_drew | apply blk_alloc)); exact BK231.out)) : gb274 ≠ gb231)); have n12_ := Aside0.mk ((by rw [hg]; exact Nat.ne_of_lt (blk_lt (g := gb243) (o := .cells #[.bool t238, .int .u64 t239, .int .u64 t240, .int .i64 t241] 26 (0, 0)) (by (with_reducible repeat (first | apply blk_drewN | apply blk_drew | apply blk_alloc)); exact BK243.out)) : gb243 ≠ gb274)); have n13_ := Aside0.mk ((by rw [hg]; exact Nat.ne_of_gt (blk_lt (g := gb243) (o := .cells #[.bool t238, .int .u64 t239, .int .u64 t240, .int .i64 t241] 26 (0, 0)) (by (with_reducible repeat (first | apply blk_drewN | apply blk_drew | apply blk_alloc)); exact BK243.out)) : gb274 ≠ gb243)); have n14_ := Aside0.mk ((by rw [hg]; exact Nat.ne_of_lt (blk_lt (g := gb250) (o := .cells #[.bool t246, .int .u64 t247, .int .u64 t248] 24 (0, 0)) (by (with_reducible repeat (first | apply blk_drewN | apply blk_drew | apply blk_alloc)); exact BK250.out)) : gb250 ≠ gb274)); have n15_ := Aside0.mk ((by rw [hg]; exact Nat.ne_of_gt (blk_lt (g := gb250) (o := .cells #[.bool t246, .int .u64 t247, .int .u64 t248] 24 (0, 0)) (by (with_reducible repeat (first | apply blk_drewN | apply blk_drew | apply blk_alloc)); exact BK250.out)) : gb274 ≠ gb250)); have n16_ := Aside0.mk ((by rw [hg]; exact Nat.ne_of_lt (blk_lt (g := gb257) (o := .cells #[.bool t253, .int .u64 t254, .int .u64 t255] 24 (0, 0)) (by (with_reducible repeat (first | apply blk_drewN | apply blk_drew | apply blk_alloc)); exact BK257.out)) : gb257 ≠ gb274)); have n17_ := Aside0.mk ((by rw [hg]; exact Nat.ne_of_gt (blk_lt (g := gb257) (o := .cells #[.bool t253, .int .u64 t254, .int .u64 t255] 24 (0, 0)) (by (with_reducible repeat (first | apply blk_drewN | apply blk_drew | apply blk_alloc)); exact BK257.out)) : gb274 ≠ gb257)); have n18_ := Aside0.mk ((by rw [hg]; exact Nat.ne_of_lt (blk_lt (g := gb262) (o := .cells #[.bool t258, .int .u64 t259, .int .u64 t260] 24 (0, 0)) (by (with_reducible repeat (first | apply blk_drewN | apply blk_drew | apply blk_alloc)); exact BK262.out)) : gb262 ≠ gb274)); have n19_ := Aside0.mk ((by rw [hg]; exact Nat.ne_of_gt (blk_lt (g := gb262) (o := .cells #[.bool t258, .int .u64 t259, .int .u64 t260] 24 (0, 0)) (by (with_reducible repeat (first | apply blk_drewN | apply blk_drew | apply blk_alloc)); exact BK262.out)) : gb274 ≠ gb262)); have n20_ := Aside0.mk ((by rw [hg]; exact Nat.ne_of_lt (blk_lt (g := gb267) (o := .cells #[.bool t263, .int .u64 t264, .int .u64 t265] 24 (0, 0)) (by (with_reducible repeat (first | apply blk_drewN | apply blk_drew | apply blk_alloc)); exact BK267.out)) : gb267 ≠ gb274)); have n21_ := Aside0.mk ((by rw [hg]; exact Nat.ne_of_gt (blk_lt (g := gb267) (o := .cells #[.bool t263, .int .u64 t264, .int .u64 t265] 24 (0, 0)) (by (with_reducible repeat (first | apply blk_drewN | apply blk_drew | apply blk_alloc)); exact BK267.out)) : gb274 ≠ gb267)); clear BK231; clear BK243; clear BK250; clear BK257; clear BK262; clear BK267; clear HB; have BK231 := n0_; have BK243 := n1_; have BK250 := n2_; have BK257 := n3_; have BK262 := n4_; have BK267 := n5_; have HB := n6_; have BK274 := n7_; have GW274 := n8_; have GE274 := n9_; have NB231_274 := n10_; have NB274_231 := n11_; have NB243_274 := n12_; have NB274_243 := n13_; have NB250_274 := n14_; have NB274_250 := n15_; have NB257_274 := n16_; have NB274_257 := n17_; have NB262_274 := n18_; have NB274_262 := n19_; have NB267_274 := n20_; have NB274_267 := n21_; clear n0_ n1_ n2_ n3_ n4_ n5_ n6_ n7_ n8_ n9_ n10_ n11_ n12_ n13_ n14_ n15_ n16_ n17_ n18_ n19_ n20_ n21_; clear hb hbox hg; have hnb202 := NB274_231.out; have hnc202 := NB231_274.out; have hnb203 := NB274_243.out; have hnc203 := NB243_274.out; have hnb204 := NB274_250.out; have hnc204 := NB250_274.out; have hnb205 := NB274_257.out; have hnc205 := NB257_274.out; have hnb206 := NB274_262.out; have hnc206 := NB262_274.out; have hnb207 := NB274_267.out; have hnc207 := NB267_274.out; have hcz208_0 : w201.cell? ⟨gb274, 0, none⟩ = some (.bool false) := (blk_cell BK274.out 0).trans rfl; have hcz208_1 : w201.cell? ⟨gb274, 1, none⟩ = some (.int .u64 0) := (blk_cell BK274.out 1).trans rfl; have hcz208_2 : w201.cell? ⟨gb274, 2, none⟩ = some (.int .u64 0) := (blk_cell BK274.out 2).trans rfl; have hfz208_0 := blk_frozen BK274.out 0; have hfz208_1 := blk_frozen BK274.out 1; have hfz208_2 := blk_frozen BK274.out 2))
          go_ret
          exact ⟨by first | rfl | (simp [errW_none, errW_some] <;> rfl) | (simp [*, errW_none, errW_some] <;> rfl), by repeat (first | (with_reducible first | exact HB.out | apply below_alloc | apply pw_below_drewN | apply below_drew1 | refine below_set ?_ (by apply Aside0.out; assumption)) | exact HB.out)⟩
  ·rw [if_neg c6] at H
   have c6b0 : (t234 == 0) = false := beq_eq_false_iff_ne.mpr c6
   have c6b1 : (t234 != 0) = true := bne_iff_ne.mpr c6
   replace H := Option.bind_eq_some_iff.mp H
   obtain ⟨t235, A2090, H⟩ := H
   replace H : (if t234 = t235 then (if t233.toList = ([] : List UInt8) then ((ranges_Size.f a0_0 a0_1 a0_2 a0_3).bind fun t236 => (if t236 = 0 then ((ranges_Has.f a0_0 a0_1 a0_2 a0_3 a0_0 a0_1 a0_2).bind fun t237 => (some (!t237))) else (some false))) else (some false)) else (some false)) = some r := H
   have A209 := Aside0.mk A2090
   clear A2090
   by_cases c210 : t234 = t235
   ·rw [if_pos c210] at H
    have c210b0 : (t234 == t235) = true := beq_iff_eq.mpr c210
    have c210b1 : (t234 != t235) = false := bne_eq_false_iff_eq.mpr c210
    clear c210
    by_cases c211 : t233.toList = ([] : List UInt8)
    ·rw [if_pos c211] at H
     have c211b0 : (t233.toList == ([] : List UInt8)) = true := beq_iff_eq.mpr c211
     have c211b1 : (t233.toList != ([] : List UInt8)) = false := bne_eq_false_iff_eq.mpr c211
     clear c211
     replace H := Option.bind_eq_some_iff.mp H
     obtain ⟨t236, A2120, H⟩ := H
     replace H : (if t236 = 0 then ((ranges_Has.f a0_0 a0_1 a0_2 a0_3 a0_0 a0_1 a0_2).bind fun t237 => (some (!t237))) else (some false)) = some r := H
     have A212 := Aside0.mk A2120
     clear A2120
     by_cases c213 : t236 = 0
     ·rw [if_pos c213] at H
      have c213b0 : (t236 == 0) = true := beq_iff_eq.mpr c213
      have c213b1 : (t236 != 0) = false := bne_eq_false_iff_eq.mpr c213
      clear c213
      replace H := Option.bind_eq_some_iff.mp H
      obtain ⟨t237, A2140, H⟩ := H
      replace H : (some (!t237)) = some r := H
      have A214 := Aside0.mk A2140
      clear A2140
      obtain rfl := Option.some.inj H
      go_enter Tryz.func5, Tryz.ntmps5
      go_wp2_with (first | ((with_reducible refine gate_dst (N := 2) rfl ?_); refine box_event ?hg (N := 2) ?hd (cs := #[.bool a0_0, .int .u64 a0_1, .int .u64 a0_2, .int .i64 a0_3]) (t := 26) ?hr ?_; (case hd => rfl); (case hg => rfl); (case hr => first | (go_simp; done) | (go_simp; rfl)); intro gb231 hg w215 hbox hb; have n0_ := Aside0.mk (below_step (by repeat (first | (with_reducible first | exact HB.out | apply below_alloc | apply pw_below_drewN | apply below_drew1) | exact HB.out)) hb); have n1_ := Aside0.mk (hbox); have n2_ := Aside0.mk ((by rw [hg]; exact (below_size (by repeat (first | (with_reducible first | exact HB.out | apply below_alloc | apply pw_below_drewN | apply below_drew1) | exact HB.out))) : w.heap.size ≤ gb231)); have n3_ := Aside0.mk ((by rw [hg]; exact (below_size (by repeat (first | (with_reducible first | exact HB.out | apply below_alloc | apply pw_below_drewN | apply below_drew1) | exact HB.out))) : w.heap.size ≤ gb231)); clear HB; have HB := n0_; have BK231 := n1_; have GW231 := n2_; have GE231 := n3_; clear n0_ n1_ n2_ n3_; clear hb hbox hg) | ((with_reducible refine gate_callee (f := 10) rfl ?_); refine goesL_ (some 22) rfl rfl Tryz.func10 (by kernel_rfl) rfl #[] rfl (by (try simp only [List.map_toArray, List.map_cons, List.map_nil]); first | done | rfl | (simp only [List.length_drop, List.length_take]; rfl)) ?_; (with_reducible refine (nameplatelaw05_lives.calls k  true _ ⟨hG_.out.below (by repeat (first | (with_reducible first | exact HB.out | apply below_alloc | apply pw_below_drewN | apply below_drew1 | refine below_set ?_ (by apply Aside0.out; assumption)) | exact HB.out | exact Below.refl _ _))⟩ A3.out).mono ?_); rintro e w216 ⟨rfl, hb⟩; refine ⟨_, rfl, ?_⟩; have n0_ := Aside0.mk (blk_below (g := gb231) (o := .cells #[.bool a0_0, .int .u64 a0_1, .int .u64 a0_2, .int .i64 a0_3] 26 (0, 0)) (by (with_reducible repeat (first | apply blk_drewN | apply blk_drew | apply blk_alloc)); exact BK231.out) hb); have n1_ := Aside0.mk (below_step (by repeat (first | (with_reducible first | exact HB.out | apply below_alloc | apply pw_below_drewN | apply below_drew1 | refine below_set ?_ (by apply Aside0.out; assumption)) | exact HB.out)) hb); clear BK231; clear HB; have BK231 := n0_; have HB := n1_; clear n0_ n1_; (try clear hb); (try clear hb2); (try clear hk); (try clear hi); have hcz217_0 : w216.cell? ⟨gb231, 0, none⟩ = some (.bool a0_0) := (blk_cell BK231.out 0).trans rfl; have hcz217_1 : w216.cell? ⟨gb231, 1, none⟩ = some (.int .u64 a0_1) := (blk_cell BK231.out 1).trans rfl; have hcz217_2 : w216.cell? ⟨gb231, 2, none⟩ = some (.int .u64 a0_2) := (blk_cell BK231.out 2).trans rfl; have hcz217_3 : w216.cell? ⟨gb231, 3, none⟩ = some (.int .i64 a0_3) := (blk_cell BK231.out 3).trans rfl; have hfz217_0 := blk_frozen BK231.out 0; have hfz217_1 := blk_frozen BK231.out 1; have hfz217_2 := blk_frozen BK231.out 2; have hfz217_3 := blk_frozen BK231.out 3) | ((with_reducible refine gate_callee (f := 21) rfl ?_); refine goesL_ (some 26) rfl rfl Tryz.func21 (by kernel_rfl) rfl #[.agg #[.bool a0_0, .int .u64 a0_1, .int .u64 a0_2, .int .i64 a0_3]] rfl (by (try simp only [List.map_toArray, List.map_cons, List.map_nil]); first | done | rfl | (simp only [List.length_drop, List.length_take]; rfl)) ?_; (with_reducible refine (ranges_Text.calls k a0_0 a0_1 a0_2 a0_3 t233 t234 _ ⟨hG_.out.below (by repeat (first | (with_reducible first | exact HB.out | apply below_alloc | apply pw_below_drewN | apply below_drew1 | refine below_set ?_ (by apply Aside0.out; assumption)) | exact HB.out | exact Below.refl _ _))⟩ A5.out).mono ?_); rintro e w218 ⟨rfl, hb⟩; refine ⟨_, rfl, ?_⟩; have n0_ := Aside0.mk (blk_below (g := gb231) (o := .cells #[.bool a0_0, .int .u64 a0_1, .int .u64 a0_2, .int .i64 a0_3] 26 (0, 0)) (by (with_reducible repeat (first | apply blk_drewN | apply blk_drew | apply blk_alloc)); exact BK231.out) hb); have n1_ := Aside0.mk (below_step (by repeat (first | (with_reducible first | exact HB.out | apply below_alloc | apply pw_below_drewN | apply below_drew1 | refine below_set ?_ (by apply Aside0.out; assumption)) | exact HB.out)) hb); clear BK231; clear HB; have BK231 := n0_; have HB := n1_; clear n0_ n1_; (try clear hb); (try clear hb2); (try clear hk); (try clear hi); have hcz219_0 : w218.cell? ⟨gb231, 0, none⟩ = some (.bool a0_0) := (blk_cell BK231.out 0).trans rfl; have hcz219_1 : w218.cell? ⟨gb231, 1, none⟩ = some (.int .u64 a0_1) := (blk_cell BK231.out 1).trans rfl; have hcz219_2 : w218.cell? ⟨gb231, 2, none⟩ = some (.int .u64 a0_2) := (blk_cell BK231.out 2).trans rfl; have hcz219_3 : w218.cell? ⟨gb231, 3, none⟩ = some (.int .i64 a0_3) := (blk_cell BK231.out 3).trans rfl; have hfz219_0 := blk_frozen BK231.out 0; have hfz219_1 := blk_frozen BK231.out 1; have hfz219_2 := blk_frozen BK231.out 2; have hfz219_3 := blk_frozen BK231.out 3) | ((with_reducible refine gate_callee (f := 19) rfl ?_); refine goesL_ (some 33) rfl rfl Tryz.func19 (by kernel_rfl) rfl #[.agg #[.bool a0_0, .int .u64 a0_1, .int .u64 a0_2, .int .i64 a0_3]] rfl (by (try simp only [List.map_toArray, List.map_cons, List.map_nil]); first | done | rfl | (simp only [List.length_drop, List.length_take]; rfl)) ?_; (with_reducible refine (ranges_Check.calls a0_0 a0_1 a0_2 a0_3 t235 _ A209.out).mono ?_); rintro e w220 ⟨rfl, hb⟩; refine ⟨_, rfl, ?_⟩; have n0_ := Aside0.mk (blk_below (g := gb231) (o := .cells #[.bool a0_0, .int .u64 a0_1, .int .u64 a0_2, .int .i64 a0_3] 26 (0, 0)) (by (with_reducible repeat (first | apply blk_drewN | apply blk_drew | apply blk_alloc)); exact BK231.out) hb); have n1_ := Aside0.mk (below_step (by repeat (first | (with_reducible first | exact HB.out | apply below_alloc | apply pw_below_drewN | apply below_drew1 | refine below_set ?_ (by apply Aside0.out; assumption)) | exact HB.out)) hb); clear BK231; clear HB; have BK231 := n0_; have HB := n1_; clear n0_ n1_; (try clear hb); (try clear hb2); (try clear hk); (try clear hi); have hcz221_0 : w220.cell? ⟨gb231, 0, none⟩ = some (.bool a0_0) := (blk_cell BK231.out 0).trans rfl; have hcz221_1 : w220.cell? ⟨gb231, 1, none⟩ = some (.int .u64 a0_1) := (blk_cell BK231.out 1).trans rfl; have hcz221_2 : w220.cell? ⟨gb231, 2, none⟩ = some (.int .u64 a0_2) := (blk_cell BK231.out 2).trans rfl; have hcz221_3 : w220.cell? ⟨gb231, 3, none⟩ = some (.int .i64 a0_3) := (blk_cell BK231.out 3).trans rfl; have hfz221_0 := blk_frozen BK231.out 0; have hfz221_1 := blk_frozen BK231.out 1; have hfz221_2 := blk_frozen BK231.out 2; have hfz221_3 := blk_frozen BK231.out 3) | (go_at_call 12; (with_reducible refine (ranges_Size.calls a0_0 a0_1 a0_2 a0_3 t236 _ A212.out).mono ?_); rintro e w222 ⟨rfl, hb⟩; have n0_ := Aside0.mk (blk_below (g := gb231) (o := .cells #[.bool a0_0, .int .u64 a0_1, .int .u64 a0_2, .int .i64 a0_3] 26 (0, 0)) (by (with_reducible repeat (first | apply blk_drewN | apply blk_drew | apply blk_alloc)); exact BK231.out) hb); have n1_ := Aside0.mk (below_step (by repeat (first | (with_reducible first | exact HB.out | apply below_alloc | apply pw_below_drewN | apply below_drew1 | refine below_set ?_ (by apply Aside0.out; assumption)) | exact HB.out)) hb); clear BK231; clear HB; have BK231 := n0_; have HB := n1_; clear n0_ n1_; (try clear hb); (try clear hb2); (try clear hk); (try clear hi); have hcz223_0 : w222.cell? ⟨gb231, 0, none⟩ = some (.bool a0_0) := (blk_cell BK231.out 0).trans rfl; have hcz223_1 : w222.cell? ⟨gb231, 1, none⟩ = some (.int .u64 a0_1) := (blk_cell BK231.out 1).trans rfl; have hcz223_2 : w222.cell? ⟨gb231, 2, none⟩ = some (.int .u64 a0_2) := (blk_cell BK231.out 2).trans rfl; have hcz223_3 : w222.cell? ⟨gb231, 3, none⟩ = some (.int .i64 a0_3) := (blk_cell BK231.out 3).trans rfl; have hfz223_0 := blk_frozen BK231.out 0; have hfz223_1 := blk_frozen BK231.out 1; have hfz223_2 := blk_frozen BK231.out 2; have hfz223_3 := blk_frozen BK231.out 3) | (go_at_call 14; (with_reducible refine (ranges_Has.calls a0_0 a0_1 a0_2 a0_3 a0_0 a0_1 a0_2 t237 _ A214.out).mono ?_); rintro e w224 ⟨rfl, hb⟩; have n0_ := Aside0.mk (blk_below (g := gb231) (o := .cells #[.bool a0_0, .int .u64 a0_1, .int .u64 a0_2, .int .i64 a0_3] 26 (0, 0)) (by (with_reducible repeat (first | apply blk_drewN | apply blk_drew | apply blk_alloc)); exact BK231.out) hb); have n1_ := Aside0.mk (below_step (by repeat (first | (with_reducible first | exact HB.out | apply below_alloc | apply pw_below_drewN | apply below_drew1 | refine below_set ?_ (by apply Aside0.out; assumption)) | exact HB.out)) hb); clear BK231; clear HB; have BK231 := n0_; have HB := n1_; clear n0_ n1_; (try clear hb); (try clear hb2); (try clear hk); (try clear hi)))
      go_ret
      exact ⟨by first | rfl | (simp [errW_none, errW_some] <;> rfl) | (simp [*, errW_none, errW_some] <;> rfl), by repeat (first | (with_reducible first | exact HB.out | apply below_alloc | apply pw_below_drewN | apply below_drew1 | refine below_set ?_ (by apply Aside0.out; assumption)) | exact HB.out)⟩
     ·rw [if_neg c213] at H
      have c213b0 : (t236 == 0) = false := beq_eq_false_iff_ne.mpr c213
      have c213b1 : (t236 != 0) = true := bne_iff_ne.mpr c213
      exact absurd ((Option.some.inj H).trans hr_.out) (by decide)
    ·rw [if_neg c211] at H
     have c211b0 : (t233.toList == ([] : List UInt8)) = false := beq_eq_false_iff_ne.mpr c211
     have c211b1 : (t233.toList != ([] : List UInt8)) = true := bne_iff_ne.mpr c211
     exact absurd ((Option.some.inj H).trans hr_.out) (by decide)
   ·rw [if_neg c210] at H
    have c210b0 : (t234 == t235) = false := beq_eq_false_iff_ne.mpr c210
    have c210b1 : (t234 != t235) = true := bne_iff_ne.mpr c210
    exact absurd ((Option.some.inj H).trans hr_.out) (by decide)
 ·replace c4 := Bool.eq_false_iff.mpr c4
  subst c4
  have H1 : (some false) = some r := by rw [if_neg (show ¬ (false = true) by decide)] at H; exact H
  clear H
  have H := H1
  clear H1
  exact absurd ((Option.some.inj H).trans hr_.out) (by decide)

end Go.Proofs.YtilobbjnmnnmnaaGreatDoor.OBack
