/- This text proves, for each Go function named below, which plain Lean function its call computes, in whatever memory; a program of this session has written it. -/
import Derived.Test.YtbalmnkbodcigaaGreatDoorORcx8
import Derived.Test.YtbalmnkbodcigaaGreatDoorORcx14
namespace Go.Proofs.YtbalmnkbodcigaaGreatDoor.ORc
open Go.RowKit Go.Proofs.YtbalmnkbodcigaaGreatDoorW.PrintWords Go.Proofs.YtbalmnkbodcigaaGreatDoorW.PrintLast Go.Proofs.YtbalmnkbodcigaaGreatDoorW.PrintMore
attribute [local go_sem] max2_int min2_int max_two min_two max_three min_three max_four min_four   -- for this text's walks alone
set_option linter.unusedVariables false
set_option linter.unusedSimpArgs false

/-! ### nameplateref04_Text: function 31 -/
mutual
def nameplateref04_Text.l0 : Nat → List Int → Int → Bool → Int → Int → Option (ByteArray × Int)
 | 0, _, _, _, _, _ => none
 | k + 1, x4, x5, x308000, x308001, x308002 => if x5 < 4 then (if 0 ≤ (IntKind.u64.wrap (wrap64 (48 - (wrap64 (16 * x5))))) then (if x4.length < 17592186044416 then (nameplateref04_Text.l0 k (x4 ++ [Int.tmod (shr .u64 x308001 (IntKind.u64.wrap (wrap64 (48 - (wrap64 (16 * x5)))))) 65536]) (wrap64 (x5 + 1)) x308000 x308001 x308002) else (none)) else (none)) else (nameplateref04_Text.l1 k x4 0 x308000 x308001 x308002)
def nameplateref04_Text.l1 : Nat → List Int → Int → Bool → Int → Int → Option (ByteArray × Int)
 | 0, _, _, _, _, _ => none
 | k + 1, x4, x6, x308000, x308001, x308002 => if x6 < 4 then (if 0 ≤ (IntKind.u64.wrap (wrap64 (48 - (wrap64 (16 * x6))))) then (if x4.length < 17592186044416 then (nameplateref04_Text.l1 k (x4 ++ [Int.tmod (shr .u64 x308002 (IntKind.u64.wrap (wrap64 (48 - (wrap64 (16 * x6)))))) 65536]) (wrap64 (x6 + 1)) x308000 x308001 x308002) else (none)) else (none)) else ((nameplateref04_zeros.f k x4).bind fun bt319 => (if bt319.2 < 2 then ((nameplateref04_joined.f k x4).bind fun t321 => (some (t321, 0))) else (if 0 ≤ bt319.1 then (if bt319.1 ≤ (x4.length : Int) then ((nameplateref04_joined.f k (x4.take (bt319.1 : Int).toNat)).bind fun t326 => (if t326.size + 2 ≤ 9223372036854775807 then (if 0 ≤ (wrap64 (bt319.1 + bt319.2)) then (if (wrap64 (bt319.1 + bt319.2)) ≤ (x4.length : Int) then ((nameplateref04_joined.f k (x4.drop ((wrap64 (bt319.1 + bt319.2)) : Int).toNat)).bind fun t331 => (if (t326 ++ (⟨#[58, 58]⟩ : ByteArray)).size + t331.size ≤ 9223372036854775807 then (some ((t326 ++ (⟨#[58, 58]⟩ : ByteArray)) ++ t331, 0)) else (none))) else (none)) else (none)) else (none))) else (none)) else (none))))
end
def nameplateref04_Text.f (k : Nat) (a0_0 : Bool) (a0_1 : Int) (a0_2 : Int) : Option (ByteArray × Int) := (nameplateref04_Check.f a0_0 a0_1 a0_2).bind fun t308 => (if t308 = 0 then (if a0_0 = true then (nameplateref04_Text.l0 k ([] : List Int) 0 a0_0 a0_1 a0_2) else ((nameplateref04_digits.f k (a0_2 / 16777216) 10).bind fun t309 => (if t309.size + 1 ≤ 9223372036854775807 then ((nameplateref04_digits.f k (Int.tmod (a0_2 / 65536) 256) 10).bind fun t310 => (if (t309 ++ (⟨#[46]⟩ : ByteArray)).size + t310.size ≤ 9223372036854775807 then (if ((t309 ++ (⟨#[46]⟩ : ByteArray)) ++ t310).size + 1 ≤ 9223372036854775807 then ((nameplateref04_digits.f k (Int.tmod (a0_2 / 256) 256) 10).bind fun t311 => (if (((t309 ++ (⟨#[46]⟩ : ByteArray)) ++ t310) ++ (⟨#[46]⟩ : ByteArray)).size + t311.size ≤ 9223372036854775807 then (if ((((t309 ++ (⟨#[46]⟩ : ByteArray)) ++ t310) ++ (⟨#[46]⟩ : ByteArray)) ++ t311).size + 1 ≤ 9223372036854775807 then ((nameplateref04_digits.f k (Int.tmod a0_2 256) 10).bind fun t312 => (if (((((t309 ++ (⟨#[46]⟩ : ByteArray)) ++ t310) ++ (⟨#[46]⟩ : ByteArray)) ++ t311) ++ (⟨#[46]⟩ : ByteArray)).size + t312.size ≤ 9223372036854775807 then (some ((((((t309 ++ (⟨#[46]⟩ : ByteArray)) ++ t310) ++ (⟨#[46]⟩ : ByteArray)) ++ t311) ++ (⟨#[46]⟩ : ByteArray)) ++ t312, 0)) else (none))) else (none)) else (none))) else (none)) else (none))) else (none)))) else (some ((⟨#[]⟩ : ByteArray), 2)))
theorem nameplateref04_Text.mono_l : ∀ k, (∀ y0 y1 y2 y3 y4, LeO (nameplateref04_Text.l0 k y0 y1 y2 y3 y4) (nameplateref04_Text.l0 (k + 1) y0 y1 y2 y3 y4)) ∧ (∀ y0 y1 y2 y3 y4, LeO (nameplateref04_Text.l1 k y0 y1 y2 y3 y4) (nameplateref04_Text.l1 (k + 1) y0 y1 y2 y3 y4))
 | 0 => ⟨fun _ _ _ _ _ r h => by simp [nameplateref04_Text.l0] at h, fun _ _ _ _ _ r h => by simp [nameplateref04_Text.l1] at h⟩
 | k + 1 => by
  obtain ⟨ih0, ih1⟩ := nameplateref04_Text.mono_l k
  refine ⟨?_, ?_⟩
  ·intro y0 y1 y2 y3 y4
   unfold nameplateref04_Text.l0
   repeat' first | (with_reducible first | apply ih0 | apply ih1 | apply nameplateref04_digits.mono | apply nameplateref04_joined.mono | apply nameplateref04_zeros.mono | exact LeO.refl _ | exact LeO.none _ | refine LeO.ite ?_ ?_ | refine LeO.bind ?_ (fun _ => ?_)) | apply ih0 | apply ih1 | apply nameplateref04_digits.mono | apply nameplateref04_joined.mono | apply nameplateref04_zeros.mono | exact LeO.none _ | refine LeO.ite ?_ ?_ | refine LeO.bind ?_ (fun _ => ?_)
  ·intro y0 y1 y2 y3 y4
   unfold nameplateref04_Text.l1
   repeat' first | (with_reducible first | apply ih0 | apply ih1 | apply nameplateref04_digits.mono | apply nameplateref04_joined.mono | apply nameplateref04_zeros.mono | exact LeO.refl _ | exact LeO.none _ | refine LeO.ite ?_ ?_ | refine LeO.bind ?_ (fun _ => ?_)) | apply ih0 | apply ih1 | apply nameplateref04_digits.mono | apply nameplateref04_joined.mono | apply nameplateref04_zeros.mono | exact LeO.none _ | refine LeO.ite ?_ ?_ | refine LeO.bind ?_ (fun _ => ?_)
theorem nameplateref04_Text.mono : ∀ a0 a1 a2 k, LeO (nameplateref04_Text.f k a0 a1 a2) (nameplateref04_Text.f (k + 1) a0 a1 a2) := by
 intro a0 a1 a2 k
 obtain ⟨ih0, ih1⟩ := nameplateref04_Text.mono_l k
 unfold nameplateref04_Text.f
 repeat' first | (with_reducible first | apply ih0 | apply ih1 | apply nameplateref04_digits.mono | apply nameplateref04_joined.mono | apply nameplateref04_zeros.mono | exact LeO.refl _ | exact LeO.none _ | refine LeO.ite ?_ ?_ | refine LeO.bind ?_ (fun _ => ?_)) | apply ih0 | apply ih1 | apply nameplateref04_digits.mono | apply nameplateref04_joined.mono | apply nameplateref04_zeros.mono | exact LeO.none _ | refine LeO.ite ?_ ?_ | refine LeO.bind ?_ (fun _ => ?_)
set_option maxHeartbeats 8000000 in
set_option maxRecDepth 100000 in
theorem nameplateref04_Text.calls (k : Nat) (a0_0 : Bool) (a0_1 : Int) (a0_2 : Int) (r1 : ByteArray) (r2 : Int) (w : World) (h : nameplateref04_Text.f k a0_0 a0_1 a0_2 = some (r1, r2)) :
  Calls Tryz.prog 31 #[.agg #[.bool a0_0, .int .u64 a0_1, .int .u64 a0_2]] w fun e w' => e = .returned (.tuple #[.string r1, .int .i64 r2]) ∧ Below w.heap.size w w' := by
 have hu24 := Tryz.underlying24
 have HB := aM (Below.refl w.heap.size w)
 have H : ((nameplateref04_Check.f a0_0 a0_1 a0_2).bind fun t308 => (if t308 = 0 then (if a0_0 = true then (nameplateref04_Text.l0 k ([] : List Int) 0 a0_0 a0_1 a0_2) else ((nameplateref04_digits.f k (a0_2 / 16777216) 10).bind fun t309 => (if t309.size + 1 ≤ 9223372036854775807 then ((nameplateref04_digits.f k (Int.tmod (a0_2 / 65536) 256) 10).bind fun t310 => (if (t309 ++ (⟨#[46]⟩ : ByteArray)).size + t310.size ≤ 9223372036854775807 then (if ((t309 ++ (⟨#[46]⟩ : ByteArray)) ++ t310).size + 1 ≤ 9223372036854775807 then ((nameplateref04_digits.f k (Int.tmod (a0_2 / 256) 256) 10).bind fun t311 => (if (((t309 ++ (⟨#[46]⟩ : ByteArray)) ++ t310) ++ (⟨#[46]⟩ : ByteArray)).size + t311.size ≤ 9223372036854775807 then (if ((((t309 ++ (⟨#[46]⟩ : ByteArray)) ++ t310) ++ (⟨#[46]⟩ : ByteArray)) ++ t311).size + 1 ≤ 9223372036854775807 then ((nameplateref04_digits.f k (Int.tmod a0_2 256) 10).bind fun t312 => (if (((((t309 ++ (⟨#[46]⟩ : ByteArray)) ++ t310) ++ (⟨#[46]⟩ : ByteArray)) ++ t311) ++ (⟨#[46]⟩ : ByteArray)).size + t312.size ≤ 9223372036854775807 then (some ((((((t309 ++ (⟨#[46]⟩ : ByteArray)) ++ t310) ++ (⟨#[46]⟩ : ByteArray)) ++ t311) ++ (⟨#[46]⟩ : ByteArray)) ++ t312, 0)) else (none))) else (none)) else (none))) else (none)) else (none))) else (none)))) else (some ((⟨#[]⟩ : ByteArray), 2)))) = some (r1, r2) := h
 clear h
 obtain ⟨t308, A2, H⟩ := oB H
 try dsimp only at H
 by_cases c3 : t308 = 0
 ·rw [if_pos c3] at H
  have c3b0 : (t308 == 0) = true := beq_iff_eq.mpr c3
  have c3b1 : (t308 != 0) = false := bne_eq_false_iff_eq.mpr c3
  clear c3
  by_cases c4 : a0_0 = true
  ·subst c4
   rw [if_pos rfl] at H
   have H' := aM H
   clear H
   go_enter Tryz.func31, Tryz.ntmps31
   go_wp2_with (first | ((with_reducible refine gD 1 rfl ?_); refine bX 1 #[.bool true, .int .u64 a0_1, .int .u64 a0_2] 24 ?_; intro gb307 hg w5 hbox hb; have BK307 := aM hbox; have GW307 := gS hg HB.out; have GE307 := GW307; replace HB := bS HB.out hb; clear hb hbox hg; obtain ⟨hcz6_0, hcz6_1, hcz6_2, hfz6_0, hfz6_1, hfz6_2⟩ := kY3 BK307.out) | (go_at_call 38; (with_reducible refine (nameplateref04_Check.calls true a0_1 a0_2 t308 _ A2.out).mono ?_); rintro e w7 ⟨rfl, hb⟩; replace BK307 := kB BK307.out hb; replace HB := bS HB.out hb; (try clear hb); obtain ⟨hcz8_0, hcz8_1, hcz8_2, hfz8_0, hfz8_1, hfz8_2⟩ := kY3 BK307.out))
   repeat (go_quiet (first | ((with_reducible refine gD 1 rfl ?_); refine bX 1 #[.bool true, .int .u64 a0_1, .int .u64 a0_2] 24 ?_; intro gb307 hg w5 hbox hb; have BK307 := aM hbox; have GW307 := gS hg HB.out; have GE307 := GW307; replace HB := bS HB.out hb; clear hb hbox hg; obtain ⟨hcz6_0, hcz6_1, hcz6_2, hfz6_0, hfz6_1, hfz6_2⟩ := kY3 BK307.out) | (go_at_call 38; (with_reducible refine (nameplateref04_Check.calls true a0_1 a0_2 t308 _ A2.out).mono ?_); rintro e w7 ⟨rfl, hb⟩; replace BK307 := kB BK307.out hb; replace HB := bS HB.out hb; (try clear hb); obtain ⟨hcz8_0, hcz8_1, hcz8_2, hfz8_0, hfz8_1, hfz8_2⟩ := kY3 BK307.out)); try go_wp2_with (first | ((with_reducible refine gate_dst (N := 1) rfl ?_); refine box_event ?hg (N := 1) ?hd (cs := #[.bool true, .int .u64 a0_1, .int .u64 a0_2]) (t := 24) ?hr ?_; (case hd => rfl); (case hg => rfl); (case hr => first | (go_simp; done) | (go_simp; rfl)); intro gb307 hg w5 hbox hb; have n0_ := bS HB.out hb; have n1_ := aM hbox; have n2_ := gS hg HB.out; have n3_ := gS hg HB.out; clear HB; have HB := n0_; have BK307 := n1_; have GW307 := n2_; have GE307 := n3_; clear n0_ n1_ n2_ n3_; clear hb hbox hg; have hcz6_0 : w5.cell? ⟨gb307, 0, none⟩ = some (.bool true) := (kC BK307.out 0).trans rfl; have hcz6_1 : w5.cell? ⟨gb307, 1, none⟩ = some (.int .u64 a0_1) := (kC BK307.out 1).trans rfl; have hcz6_2 : w5.cell? ⟨gb307, 2, none⟩ = some (.int .u64 a0_2) := (kC BK307.out 2).trans rfl; have hfz6_0 := kF BK307.out 0; have hfz6_1 := kF BK307.out 1; have hfz6_2 := kF BK307.out 2) | (go_at_call 38; (with_reducible refine (nameplateref04_Check.calls true a0_1 a0_2 t308 _ A2.out).mono ?_); rintro e w7 ⟨rfl, hb⟩; have n0_ := kB BK307.out hb; have n1_ := bS HB.out hb; clear BK307; clear HB; have BK307 := n0_; have HB := n1_; clear n0_ n1_; (try clear hb); (try clear hb2); (try clear hk); (try clear hi); have hcz8_0 : w7.cell? ⟨gb307, 0, none⟩ = some (.bool true) := (kC BK307.out 0).trans rfl; have hcz8_1 : w7.cell? ⟨gb307, 1, none⟩ = some (.int .u64 a0_1) := (kC BK307.out 1).trans rfl; have hcz8_2 : w7.cell? ⟨gb307, 2, none⟩ = some (.int .u64 a0_2) := (kC BK307.out 2).trans rfl; have hfz8_0 := kF BK307.out 0; have hfz8_1 := kF BK307.out 1; have hfz8_2 := kF BK307.out 2)))
   go_loopg [4, 5] k (fun kq v4 v5 w' => ∃ (x4_1 : List Int) (x5_1 : Int), v5 = .int .i64 x5_1 ∧ Aside0 (nameplateref04_Text.l0 kq x4_1 x5_1 true a0_1 a0_2 = some (r1, r2)) ∧ Aside0 (kq ≤ k) ∧ Aside0 (Kd.R (Kd.int .u64) 22 w' w.heap.size (fun _ => True) v4 x4_1) ∧ Aside0 (w'.heap[gb307]? = some (.cells #[.bool true, .int .u64 a0_1, .int .u64 a0_2] 24 (0, 0))) ∧ Aside0 (Below w.heap.size w w'))
   case atStart => exact ⟨(([] : List Int)), (0), tF, H', ⟨Nat.le_refl _⟩, ⟨by first | exact Kd.R_nil _ _ _ _ _ | exact Kd.N_nil _ _ _ _ _ | exact Kd.V_nil _ _ _ _ _ | exact Kd.Q_nil _ _ _ _ _ | exact Kd.S_nil _ _ _ _ _⟩, ⟨tK BK307.out⟩, ⟨tB HB.out⟩⟩
   case round =>
    clear H'
    try clear p2
    try clear c3
    try clear c3b0
    try clear c3b1
    try clear c4
    try clear hcz6_0 hcz6_1 hcz6_2 hcz8_0 hcz8_1 hcz8_2 hfz6_0 hfz6_1 hfz6_2 hfz8_0 hfz8_1 hfz8_2
    obtain ⟨x4_1, x5_1, rfl, HA, HK1, HO_4, BK307, HB⟩ := hrel
    cases gk with
    | zero => exact absurd HA.out (by simp [nameplateref04_Text.l0])
    | succ k1 =>
     have H := HA.out
     clear HA
     simp only [nameplateref04_Text.l0] at H
     by_cases c9 : x5_1 < 4
     ·rw [if_pos c9] at H
      have c9b0 : decide (x5_1 < 4) = true := decide_eq_true c9
      clear c9
      obtain ⟨ji10, hji10⟩ : ∃ j_ : Int, (IntKind.u64.wrap (wrap64 (48 - (wrap64 (16 * x5_1))))) = j_ := ⟨_, rfl⟩
      replace H : (if 0 ≤ (ji10) then (if x4_1.length < 17592186044416 then (nameplateref04_Text.l0 k1 (x4_1 ++ [Int.tmod (shr .u64 a0_1 (ji10)) 65536]) (wrap64 (x5_1 + 1)) true a0_1 a0_2) else (none)) else (none)) = some (r1, r2) := by first | (rw [hji10] at H; exact H) | (simp only [hji10] at H ⊢; exact H)
      by_cases c11 : 0 ≤ (ji10)
      ·rw [if_pos c11] at H
       have c11b0 := eq_true c11
       have c11b1 : decide (0 ≤ (ji10)) = true := decide_eq_true c11
       clear c11
       obtain ⟨ji12, hji12⟩ : ∃ j_ : Int, (shr .u64 a0_1 (ji10)) = j_ := ⟨_, rfl⟩
       replace H : (if x4_1.length < 17592186044416 then (nameplateref04_Text.l0 k1 (x4_1 ++ [Int.tmod (ji12) 65536]) (wrap64 (x5_1 + 1)) true a0_1 a0_2) else (none)) = some (r1, r2) := by first | (rw [hji12] at H; exact H) | (simp only [hji12] at H ⊢; exact H)
       have hji12_ : (a0_1 / 2 ^ min (ji10).toNat 64) = ji12 := hji12
       have hji12z : (ji10) ≤ 64 → (a0_1 / 2 ^ (ji10).toNat) = ji12 := shr_small hji12
       by_cases c13 : x4_1.length < 17592186044416
       ·rw [if_pos c13] at H
        have LMc13 := aM c13
        clear c13
        obtain ⟨y313, hy313⟩ : ∃ y_ : List Int, y_ = (x4_1 ++ [Int.tmod (ji12) 65536]) := ⟨_, rfl⟩
        replace H : (nameplateref04_Text.l0 k1 y313 (wrap64 (x5_1 + 1)) true a0_1 a0_2) = some (r1, r2) := by first | (rw [hy313]; with_reducible exact H) | (have H2_ := (Option.bind_some _ _).symm.trans H; rw [hy313]; with_reducible exact H2_) | (have H2_ := (Option.bind_some _ _).symm.trans H; with_reducible exact H2_) | with_reducible exact H | (rw [hy313]; exact H) | exact H
        have Ny313 := aM hy313
        clear hy313
        have H' := aM H
        clear H
        obtain ⟨hcz14_0, hcz14_1, hcz14_2, hfz14_0, hfz14_1, hfz14_2⟩ := kY3 BK307.out
        go_wp2_with (first | ((with_reducible refine gate_builtin (b := .append) (xs := #[.tmp 43, .tmp 52]) rfl ?_); at_builtin; refine Kd.R_append (Kd.int .u64) (w0 := w) w.heap.size rfl (.tmp 43) (.tmp 52) 85 22 (.int .u64 0) 8 rfl Tryz.underlying85 info22 rfl (by decide) (by omega) u4 x4_1 (Int.tmod (ji12) 65536) [.int .u64 (Int.tmod (ji12) 65536)] (fun _ => True) (fun _ => False) rfl rfl ?aP (fun _ hk => hk.elim) ?aF ?aO ?aB ?aS ?aL ?_; (case aP => exact rfl); (case aB => exact (tB HB.out)); (case aF => exact (fun _ _ => trivial)); (case aO => exact (tR HO_4.out)); (case aS => exact (below_size (tB HB.out))); (case aL => have := LMc13.out; omega); intro v314 w15 ho hb hg hat; rw [← Ny313.out] at ho; have HO315 := aM ho; replace BK307 := aM (blk_grown (g := gb307) (o := .cells #[.bool true, .int .u64 a0_1, .int .u64 a0_2] 24 (0, 0)) (tK BK307.out) hg (Kd.R_ne HO_4.out BK307.out (by decide))); replace HB := aM hb; clear HO_4; clear ho hb hg hat))
        repeat (go_quiet (first | ((with_reducible refine gate_builtin (b := .append) (xs := #[.tmp 43, .tmp 52]) rfl ?_); at_builtin; refine Kd.R_append (Kd.int .u64) (w0 := w) w.heap.size rfl (.tmp 43) (.tmp 52) 85 22 (.int .u64 0) 8 rfl Tryz.underlying85 info22 rfl (by decide) (by omega) u4 x4_1 (Int.tmod (ji12) 65536) [.int .u64 (Int.tmod (ji12) 65536)] (fun _ => True) (fun _ => False) rfl rfl ?aP (fun _ hk => hk.elim) ?aF ?aO ?aB ?aS ?aL ?_; (case aP => exact rfl); (case aB => exact (tB HB.out)); (case aF => exact (fun _ _ => trivial)); (case aO => exact (tR HO_4.out)); (case aS => exact (below_size (tB HB.out))); (case aL => have := LMc13.out; omega); intro v314 w15 ho hb hg hat; rw [← Ny313.out] at ho; have HO315 := aM ho; replace BK307 := aM (blk_grown (g := gb307) (o := .cells #[.bool true, .int .u64 a0_1, .int .u64 a0_2] 24 (0, 0)) (tK BK307.out) hg (Kd.R_ne HO_4.out BK307.out (by decide))); replace HB := aM hb; clear HO_4; clear ho hb hg hat)); try go_wp2_with (first | ((with_reducible refine gate_builtin (b := .append) (xs := #[.tmp 43, .tmp 52]) rfl ?_); at_builtin; refine Kd.R_append (Kd.int .u64) (w0 := w) w.heap.size rfl (.tmp 43) (.tmp 52) 85 22 (.int .u64 0) 8 rfl Tryz.underlying85 info22 rfl (by decide) (by omega) u4 x4_1 (Int.tmod (ji12) 65536) [.int .u64 (Int.tmod (ji12) 65536)] (fun _ => True) (fun _ => False) rfl rfl ?aP (fun _ hk => hk.elim) ?aF ?aO ?aB ?aS ?aL ?_; (case aP => exact rfl); (case aB => exact (tB HB.out)); (case aF => exact (fun _ _ => trivial)); (case aO => exact (tR HO_4.out)); (case aS => exact (below_size (tB HB.out))); (case aL => have := LMc13.out; omega); intro v314 w15 ho hb hg hat; rw [← Ny313.out] at ho; have n0_ := aM (blk_grown (g := gb307) (o := .cells #[.bool true, .int .u64 a0_1, .int .u64 a0_2] 24 (0, 0)) (tK BK307.out) hg (Kd.R_ne HO_4.out BK307.out (by decide))); have n1_ := aM hb; have n2_ := aM ho; clear BK307; clear HB; clear HO_4; have BK307 := n0_; have HB := n1_; have HO315 := n2_; clear n0_ n1_ n2_; clear ho hb hg hat)))
        go_roundg k1
        case measure => have := HK1.out; omega
        case rel => exact ⟨(y313), (wrap64 (x5_1 + 1)), tF, H', ⟨by have := HK1.out; omega⟩, ⟨tR HO315.out⟩, ⟨tK BK307.out⟩, ⟨tB HB.out⟩⟩
       ·rw [if_neg c13] at H
        exact absurd H (by simp)
      ·rw [if_neg c11] at H
       exact absurd H (by simp)
     ·rw [if_neg c9] at H
      have c9b0 : decide (x5_1 < 4) = false := decide_eq_false c9
      clear c9
      have H' := aM H
      clear H
      go_wp2
      repeat (go_quiet (fail); try go_wp2)
      go_loopg [4, 6] k1 (fun kq v4 v6 w' => ∃ (x4_2 : List Int) (x6_2 : Int), v6 = .int .i64 x6_2 ∧ Aside0 (nameplateref04_Text.l1 kq x4_2 x6_2 true a0_1 a0_2 = some (r1, r2)) ∧ Aside0 (kq ≤ k1) ∧ Aside0 (Kd.R (Kd.int .u64) 22 w' w.heap.size (fun _ => True) v4 x4_2) ∧ Aside0 (w'.heap[gb307]? = some (.cells #[.bool true, .int .u64 a0_1, .int .u64 a0_2] 24 (0, 0))) ∧ Aside0 (Below w.heap.size w w'))
      case atStart => exact ⟨(x4_1), (0), tF, H', ⟨Nat.le_refl _⟩, ⟨tR HO_4.out⟩, ⟨tK BK307.out⟩, ⟨tB HB.out⟩⟩
      case round =>
       clear H'
       try clear c1
       try clear p2
       try clear c3
       try clear c3b0
       try clear c3b1
       try clear c4
       try clear p6
       try clear c9
       try clear c9b0
       try clear c11
       try clear c11b0
       try clear c11b1
       try clear c13
       try clear hcz14_0 hcz14_1 hcz14_2 hcz6_0 hcz6_1 hcz6_2 hcz8_0 hcz8_1 hcz8_2 hfz14_0 hfz14_1 hfz14_2 hfz6_0 hfz6_1 hfz6_2 hfz8_0 hfz8_1 hfz8_2
       try clear p2
       obtain ⟨x4_2, x6_2, rfl, HA, HK2, HO_4, BK307, HB⟩ := hrel
       cases gk with
       | zero => exact absurd HA.out (by simp [nameplateref04_Text.l1])
       | succ k2 =>
        have H := HA.out
        clear HA
        simp only [nameplateref04_Text.l1] at H
        by_cases c16 : x6_2 < 4
        ·rw [if_pos c16] at H
         have c16b0 : decide (x6_2 < 4) = true := decide_eq_true c16
         clear c16
         obtain ⟨ji17, hji17⟩ : ∃ j_ : Int, (IntKind.u64.wrap (wrap64 (48 - (wrap64 (16 * x6_2))))) = j_ := ⟨_, rfl⟩
         replace H : (if 0 ≤ (ji17) then (if x4_2.length < 17592186044416 then (nameplateref04_Text.l1 k2 (x4_2 ++ [Int.tmod (shr .u64 a0_2 (ji17)) 65536]) (wrap64 (x6_2 + 1)) true a0_1 a0_2) else (none)) else (none)) = some (r1, r2) := by first | (rw [hji17] at H; exact H) | (simp only [hji17] at H ⊢; exact H)
         by_cases c18 : 0 ≤ (ji17)
         ·rw [if_pos c18] at H
          have c18b0 := eq_true c18
          have c18b1 : decide (0 ≤ (ji17)) = true := decide_eq_true c18
          clear c18
          obtain ⟨ji19, hji19⟩ : ∃ j_ : Int, (shr .u64 a0_2 (ji17)) = j_ := ⟨_, rfl⟩
          replace H : (if x4_2.length < 17592186044416 then (nameplateref04_Text.l1 k2 (x4_2 ++ [Int.tmod (ji19) 65536]) (wrap64 (x6_2 + 1)) true a0_1 a0_2) else (none)) = some (r1, r2) := by first | (rw [hji19] at H; exact H) | (simp only [hji19] at H ⊢; exact H)
          have hji19_ : (a0_2 / 2 ^ min (ji17).toNat 64) = ji19 := hji19
          have hji19z : (ji17) ≤ 64 → (a0_2 / 2 ^ (ji17).toNat) = ji19 := shr_small hji19
          by_cases c20 : x4_2.length < 17592186044416
          ·rw [if_pos c20] at H
           have LMc20 := aM c20
           clear c20
           obtain ⟨y316, hy316⟩ : ∃ y_ : List Int, y_ = (x4_2 ++ [Int.tmod (ji19) 65536]) := ⟨_, rfl⟩
           replace H : (nameplateref04_Text.l1 k2 y316 (wrap64 (x6_2 + 1)) true a0_1 a0_2) = some (r1, r2) := by first | (rw [hy316]; with_reducible exact H) | (have H2_ := (Option.bind_some _ _).symm.trans H; rw [hy316]; with_reducible exact H2_) | (have H2_ := (Option.bind_some _ _).symm.trans H; with_reducible exact H2_) | with_reducible exact H | (rw [hy316]; exact H) | exact H
           have Ny316 := aM hy316
           clear hy316
           have H' := aM H
           clear H
           obtain ⟨hcz21_0, hcz21_1, hcz21_2, hfz21_0, hfz21_1, hfz21_2⟩ := kY3 BK307.out
           go_wp2_with (first | ((with_reducible refine gate_builtin (b := .append) (xs := #[.tmp 58, .tmp 67]) rfl ?_); at_builtin; refine Kd.R_append (Kd.int .u64) (w0 := w) w.heap.size rfl (.tmp 58) (.tmp 67) 85 22 (.int .u64 0) 8 rfl Tryz.underlying85 info22 rfl (by decide) (by omega) u4 x4_2 (Int.tmod (ji19) 65536) [.int .u64 (Int.tmod (ji19) 65536)] (fun _ => True) (fun _ => False) rfl rfl ?aP (fun _ hk => hk.elim) ?aF ?aO ?aB ?aS ?aL ?_; (case aP => exact rfl); (case aB => exact (tB HB.out)); (case aF => exact (fun _ _ => trivial)); (case aO => exact (tR HO_4.out)); (case aS => exact (below_size (tB HB.out))); (case aL => have := LMc20.out; omega); intro v317 w22 ho hb hg hat; rw [← Ny316.out] at ho; have HO318 := aM ho; replace BK307 := aM (blk_grown (g := gb307) (o := .cells #[.bool true, .int .u64 a0_1, .int .u64 a0_2] 24 (0, 0)) (tK BK307.out) hg (Kd.R_ne HO_4.out BK307.out (by decide))); replace HB := aM hb; clear HO_4; clear ho hb hg hat))
           repeat (go_quiet (first | ((with_reducible refine gate_builtin (b := .append) (xs := #[.tmp 58, .tmp 67]) rfl ?_); at_builtin; refine Kd.R_append (Kd.int .u64) (w0 := w) w.heap.size rfl (.tmp 58) (.tmp 67) 85 22 (.int .u64 0) 8 rfl Tryz.underlying85 info22 rfl (by decide) (by omega) u4 x4_2 (Int.tmod (ji19) 65536) [.int .u64 (Int.tmod (ji19) 65536)] (fun _ => True) (fun _ => False) rfl rfl ?aP (fun _ hk => hk.elim) ?aF ?aO ?aB ?aS ?aL ?_; (case aP => exact rfl); (case aB => exact (tB HB.out)); (case aF => exact (fun _ _ => trivial)); (case aO => exact (tR HO_4.out)); (case aS => exact (below_size (tB HB.out))); (case aL => have := LMc20.out; omega); intro v317 w22 ho hb hg hat; rw [← Ny316.out] at ho; have HO318 := aM ho; replace BK307 := aM (blk_grown (g := gb307) (o := .cells #[.bool true, .int .u64 a0_1, .int .u64 a0_2] 24 (0, 0)) (tK BK307.out) hg (Kd.R_ne HO_4.out BK307.out (by decide))); replace HB := aM hb; clear HO_4; clear ho hb hg hat)); try go_wp2_with (first | ((with_reducible refine gate_builtin (b := .append) (xs := #[.tmp 58, .tmp 67]) rfl ?_); at_builtin; refine Kd.R_append (Kd.int .u64) (w0 := w) w.heap.size rfl (.tmp 58) (.tmp 67) 85 22 (.int .u64 0) 8 rfl Tryz.underlying85 info22 rfl (by decide) (by omega) u4 x4_2 (Int.tmod (ji19) 65536) [.int .u64 (Int.tmod (ji19) 65536)] (fun _ => True) (fun _ => False) rfl rfl ?aP (fun _ hk => hk.elim) ?aF ?aO ?aB ?aS ?aL ?_; (case aP => exact rfl); (case aB => exact (tB HB.out)); (case aF => exact (fun _ _ => trivial)); (case aO => exact (tR HO_4.out)); (case aS => exact (below_size (tB HB.out))); (case aL => have := LMc20.out; omega); intro v317 w22 ho hb hg hat; rw [← Ny316.out] at ho; have n0_ := aM (blk_grown (g := gb307) (o := .cells #[.bool true, .int .u64 a0_1, .int .u64 a0_2] 24 (0, 0)) (tK BK307.out) hg (Kd.R_ne HO_4.out BK307.out (by decide))); have n1_ := aM hb; have n2_ := aM ho; clear BK307; clear HB; clear HO_4; have BK307 := n0_; have HB := n1_; have HO318 := n2_; clear n0_ n1_ n2_; clear ho hb hg hat)))
           go_roundg k2
           case measure => have := HK1.out; have := HK2.out; omega
           case rel => exact ⟨(y316), (wrap64 (x6_2 + 1)), tF, H', ⟨by have := HK1.out; have := HK2.out; omega⟩, ⟨tR HO318.out⟩, ⟨tK BK307.out⟩, ⟨tB HB.out⟩⟩
          ·rw [if_neg c20] at H
           exact absurd H (by simp)
         ·rw [if_neg c18] at H
          exact absurd H (by simp)
        ·rw [if_neg c16] at H
         have c16b0 : decide (x6_2 < 4) = false := decide_eq_false c16
         clear c16
         obtain ⟨⟨t319, t320⟩, A23, H⟩ := oB H
         try dsimp only at H
         by_cases c24 : t320 < 2
         ·rw [if_pos c24] at H
          have c24b0 : decide (t320 < 2) = true := decide_eq_true c24
          clear c24
          obtain ⟨t321, A25, H⟩ := oB H
          try dsimp only at H
          simp only [Option.some.injEq, Prod.mk.injEq] at H
          obtain ⟨rfl, rfl⟩ := H
          obtain ⟨Ao26, co26, eo26⟩ := Kd.R_slice HO_4.out
          subst eo26
          go_wp2_with (first | (go_at_call 59; (with_reducible refine (nameplateref04_zeros.calls k2 _ _ x4_2 t319 t320 _ ?side1 ?side2 A23.out).mono ?_); (case side1 => exact tC (Kd.R_reads' HO_4.out).2.2); (case side2 => exact (Kd.R_reads' HO_4.out).2.1); rintro e w' ⟨rfl, ⟨nd, rfl⟩⟩; (try first | exact ⟨rfl, _, World.drewN_drewN _ _ _⟩ | exact ⟨rfl, _, Eq.trans (World.drewN_drewN _ _ _) (congrArg (World.drewN _) (Nat.add_assoc _ _ _))⟩)) | (go_at_call 60; (with_reducible refine (nameplateref04_joined.calls k2 _ _ x4_2 t321 _ ?side1 ?side2 A25.out).mono ?_); (case side1 => exact tC (Kd.R_reads' HO_4.out).2.2); (case side2 => exact (Kd.R_reads' HO_4.out).2.1); rintro e w' ⟨rfl, ⟨nd, rfl⟩⟩; (try first | exact ⟨rfl, _, World.drewN_drewN _ _ _⟩ | exact ⟨rfl, _, Eq.trans (World.drewN_drewN _ _ _) (congrArg (World.drewN _) (Nat.add_assoc _ _ _))⟩)))
          repeat (go_quiet (first | (go_at_call 59; (with_reducible refine (nameplateref04_zeros.calls k2 _ _ x4_2 t319 t320 _ ?side1 ?side2 A23.out).mono ?_); (case side1 => exact tC (Kd.R_reads' HO_4.out).2.2); (case side2 => exact (Kd.R_reads' HO_4.out).2.1); rintro e w' ⟨rfl, ⟨nd, rfl⟩⟩; (try first | exact ⟨rfl, _, World.drewN_drewN _ _ _⟩ | exact ⟨rfl, _, Eq.trans (World.drewN_drewN _ _ _) (congrArg (World.drewN _) (Nat.add_assoc _ _ _))⟩)) | (go_at_call 60; (with_reducible refine (nameplateref04_joined.calls k2 _ _ x4_2 t321 _ ?side1 ?side2 A25.out).mono ?_); (case side1 => exact tC (Kd.R_reads' HO_4.out).2.2); (case side2 => exact (Kd.R_reads' HO_4.out).2.1); rintro e w' ⟨rfl, ⟨nd, rfl⟩⟩; (try first | exact ⟨rfl, _, World.drewN_drewN _ _ _⟩ | exact ⟨rfl, _, Eq.trans (World.drewN_drewN _ _ _) (congrArg (World.drewN _) (Nat.add_assoc _ _ _))⟩))); try go_wp2_with (first | (go_at_call 59; (with_reducible refine (nameplateref04_zeros.calls k2 _ _ x4_2 t319 t320 _ ?side1 ?side2 A23.out).mono ?_); (case side1 => exact tC (Kd.R_reads' HO_4.out).2.2); (case side2 => exact (Kd.R_reads' HO_4.out).2.1); rintro e w' ⟨rfl, ⟨nd, rfl⟩⟩; (try first | exact ⟨rfl, _, World.drewN_drewN _ _ _⟩ | exact ⟨rfl, _, Eq.trans (World.drewN_drewN _ _ _) (congrArg (World.drewN _) (Nat.add_assoc _ _ _))⟩)) | (go_at_call 60; (with_reducible refine (nameplateref04_joined.calls k2 _ _ x4_2 t321 _ ?side1 ?side2 A25.out).mono ?_); (case side1 => exact tC (Kd.R_reads' HO_4.out).2.2); (case side2 => exact (Kd.R_reads' HO_4.out).2.1); rintro e w' ⟨rfl, ⟨nd, rfl⟩⟩; (try first | exact ⟨rfl, _, World.drewN_drewN _ _ _⟩ | exact ⟨rfl, _, Eq.trans (World.drewN_drewN _ _ _) (congrArg (World.drewN _) (Nat.add_assoc _ _ _))⟩))))
          go_ret2
          exact ⟨tE, tB HB.out⟩
         ·rw [if_neg c24] at H
          have c24b0 : decide (t320 < 2) = false := decide_eq_false c24
          clear c24
          by_cases c27 : 0 ≤ t319
          ·rw [if_pos c27] at H
           have c27b0 := eq_true c27
           have c27b1 : decide (0 ≤ t319) = true := decide_eq_true c27
           clear c27
           by_cases c28 : t319 ≤ (x4_2.length : Int)
           ·rw [if_pos c28] at H
            have c28b0 := eq_true c28
            have c28b1 : decide (t319 ≤ (x4_2.length : Int)) = true := decide_eq_true c28
            clear c28
            obtain ⟨y322, hy322⟩ : ∃ y_ : List Int, y_ = (x4_2.take (t319 : Int).toNat) := ⟨_, rfl⟩
            replace H : ((nameplateref04_joined.f k2 y322).bind fun t326 => (if t326.size + 2 ≤ 9223372036854775807 then (if 0 ≤ (wrap64 (t319 + t320)) then (if (wrap64 (t319 + t320)) ≤ (x4_2.length : Int) then ((nameplateref04_joined.f k2 (x4_2.drop ((wrap64 (t319 + t320)) : Int).toNat)).bind fun t331 => (if (t326 ++ (⟨#[58, 58]⟩ : ByteArray)).size + t331.size ≤ 9223372036854775807 then (some ((t326 ++ (⟨#[58, 58]⟩ : ByteArray)) ++ t331, 0)) else (none))) else (none)) else (none)) else (none))) = some (r1, r2) := by first | (rw [hy322]; with_reducible exact H) | (have H2_ := (Option.bind_some _ _).symm.trans H; rw [hy322]; with_reducible exact H2_) | (have H2_ := (Option.bind_some _ _).symm.trans H; with_reducible exact H2_) | with_reducible exact H | (rw [hy322]; exact H) | exact H
            have Ny322 := aM hy322
            clear hy322
            obtain ⟨t326, A29, H⟩ := oB H
            try dsimp only at H
            by_cases c30 : t326.size + 2 ≤ 9223372036854775807
            ·rw [if_pos c30] at H
             have c30b0 := eq_true c30
             have c30b1 : decide (t326.size + 2 ≤ 9223372036854775807) = true := decide_eq_true c30
             try have c30b2 : (9223372036854775807 < t326.size + 2) = False := eq_false (Nat.not_lt.2 c30)
             obtain ⟨ji31, hji31⟩ : ∃ j_ : Int, (wrap64 (t319 + t320)) = j_ := ⟨_, rfl⟩
             replace H : (if 0 ≤ (ji31) then (if (ji31) ≤ (x4_2.length : Int) then ((nameplateref04_joined.f k2 (x4_2.drop ((ji31) : Int).toNat)).bind fun t331 => (if (t326 ++ (⟨#[58, 58]⟩ : ByteArray)).size + t331.size ≤ 9223372036854775807 then (some ((t326 ++ (⟨#[58, 58]⟩ : ByteArray)) ++ t331, 0)) else (none))) else (none)) else (none)) = some (r1, r2) := by first | (rw [hji31] at H; exact H) | (simp only [hji31] at H ⊢; exact H)
             (try rw [hji31] at A23)
             (try rw [hji31] at A29)
             have hji31w : (IntKind.i64.wrap (t319 + t320)) = ji31 := (i64_w _).trans hji31
             by_cases c32 : 0 ≤ (ji31)
             ·rw [if_pos c32] at H
              have c32b0 := eq_true c32
              have c32b1 : decide (0 ≤ (ji31)) = true := decide_eq_true c32
              clear c32
              by_cases c33 : (ji31) ≤ (x4_2.length : Int)
              ·rw [if_pos c33] at H
               have c33b0 := eq_true c33
               have c33b1 : decide ((ji31) ≤ (x4_2.length : Int)) = true := decide_eq_true c33
               clear c33
               obtain ⟨y327, hy327⟩ : ∃ y_ : List Int, y_ = (x4_2.drop ((ji31) : Int).toNat) := ⟨_, rfl⟩
               replace H : ((nameplateref04_joined.f k2 y327).bind fun t331 => (if (t326 ++ (⟨#[58, 58]⟩ : ByteArray)).size + t331.size ≤ 9223372036854775807 then (some ((t326 ++ (⟨#[58, 58]⟩ : ByteArray)) ++ t331, 0)) else (none))) = some (r1, r2) := by first | (rw [hy327]; with_reducible exact H) | (have H2_ := (Option.bind_some _ _).symm.trans H; rw [hy327]; with_reducible exact H2_) | (have H2_ := (Option.bind_some _ _).symm.trans H; with_reducible exact H2_) | with_reducible exact H | (rw [hy327]; exact H) | exact H
               have Ny327 := aM hy327
               clear hy327
               obtain ⟨t331, A34, H⟩ := oB H
               try dsimp only at H
               by_cases c35 : (t326 ++ (⟨#[58, 58]⟩ : ByteArray)).size + t331.size ≤ 9223372036854775807
               ·rw [if_pos c35] at H
                have c35b0 := eq_true c35
                try have c35b6 : (9223372036854775807 < t326.size + 2 + t331.size) = False := eq_false (by have hh_ := c35; have hz_ : (t326.size + (⟨#[58, 58]⟩ : ByteArray).size + t331.size : Nat) = t326.size + 2 + t331.size := (by rfl); simp only [ByteArray.size_append] at hh_; omega)
                try have c35b5 : decide (t326.size + 2 + t331.size ≤ 9223372036854775807) = true := decide_eq_true (by have hh_ := c35; have hz_ : (t326.size + (⟨#[58, 58]⟩ : ByteArray).size + t331.size : Nat) = t326.size + 2 + t331.size := (by rfl); simp only [ByteArray.size_append] at hh_; omega)
                try have c35b7 : (9223372036854775807 < t326.size + (⟨#[58, 58]⟩ : ByteArray).size + t331.size) = False := eq_false (by have hh_ := c35; simp only [ByteArray.size_append] at hh_; omega)
                try have c35b8 : decide (t326.size + (⟨#[58, 58]⟩ : ByteArray).size + t331.size ≤ 9223372036854775807) = true := decide_eq_true (by have hh_ := c35; simp only [ByteArray.size_append] at hh_; omega)
                have c35b1 : decide ((t326 ++ (⟨#[58, 58]⟩ : ByteArray)).size + t331.size ≤ 9223372036854775807) = true := decide_eq_true c35
                try have c35b2 : (9223372036854775807 < (t326 ++ (⟨#[58, 58]⟩ : ByteArray)).size + t331.size) = False := eq_false (Nat.not_lt.2 c35)
                simp only [Option.some.injEq, Prod.mk.injEq] at H
                obtain ⟨rfl, rfl⟩ := H
                obtain ⟨Ao36, co36, eo36⟩ := Kd.R_slice HO_4.out
                subst eo36
                go_wp2_with (first | (go_at_call 59; (with_reducible refine (nameplateref04_zeros.calls k2 _ _ x4_2 t319 t320 _ ?side1 ?side2 A23.out).mono ?_); (case side1 => exact tC (Kd.R_reads' HO_4.out).2.2); (case side2 => exact (Kd.R_reads' HO_4.out).2.1); rintro e w' ⟨rfl, ⟨nd, rfl⟩⟩; (try first | exact ⟨rfl, _, World.drewN_drewN _ _ _⟩ | exact ⟨rfl, _, Eq.trans (World.drewN_drewN _ _ _) (congrArg (World.drewN _) (Nat.add_assoc _ _ _))⟩); have q37 : (t319 : Int) ≤ ((x4_2.length : Int) : Int) := of_decide_eq_true (by first | (with_reducible assumption) | assumption); obtain ⟨i037, hi037, _, hsz37, _⟩ := info_parts info22; have hroom37 : x4_2.length ≤ co36 := (Kd.R_reads' HO_4.out).2.1; have hC37 : Kd.C (Kd.int .u64) _ Ao36 x4_2.length x4_2 := (Kd.R_reads' HO_4.out).2.2; have hcut37 := cut_to (P := Tryz.prog) 85 22 .i64 Tryz.underlying85 hi037 Ao36 x4_2.length co36 t319 (of_decide_eq_true (by first | (with_reducible assumption) | assumption)) q37 hroom37; have hr37 := Kd.C_take (m := (t319 : Int).toNat) hC37 (by omega); have hy37 : y322.length = (t319 : Int).toNat := (by rw [Ny322.out, List.length_take]; omega); rw [← Ny322.out] at hr37; rw [← hy37] at hcut37; have HR325 := aM hr37; have HC325 := aM (show y322.length ≤ co36 from by omega); clear hr37 hC37 hroom37 hi037 hsz37; have KY37 := aM hy37; clear hy37; have KL37 := aM (show (t319 : Int).toNat ≤ x4_2.length from by omega); replace q37 := eq_true q37) | (go_at_call 60; (with_reducible refine (nameplateref04_joined.calls k2 _ _ y322 t326 _ ?side1 ?side2 A29.out).mono ?_); (case side1 => repeat (first | exact (by repeat (first | (with_reducible exact HR325.out) | (with_reducible refine Kd.C_alloc ?_ _) | (with_reducible refine Kd.C_drewN ?_ _) | (with_reducible refine Kd.C_drew ?_) | exact HR325.out)) | (with_reducible refine Kd.C_alloc ?_ _) | (with_reducible refine Kd.C_drewN ?_ _) | (with_reducible refine Kd.C_drew ?_))); (case side2 => exact HC325.out); rintro e w' ⟨rfl, ⟨nd, rfl⟩⟩; (try first | exact ⟨rfl, _, World.drewN_drewN _ _ _⟩ | exact ⟨rfl, _, Eq.trans (World.drewN_drewN _ _ _) (congrArg (World.drewN _) (Nat.add_assoc _ _ _))⟩); have q38 : ((ji31) : Int) ≤ ((x4_2.length : Int) : Int) := of_decide_eq_true (by first | (with_reducible assumption) | assumption); obtain ⟨i038, hi038, _, hsz38, _⟩ := info_parts info22; have hroom38 : x4_2.length ≤ co36 := (Kd.R_reads' HO_4.out).2.1; have hC38 : Kd.C (Kd.int .u64) _ Ao36 x4_2.length x4_2 := (Kd.R_reads' HO_4.out).2.2; have q038 : (0 : Int) ≤ ((ji31) : Int) := of_decide_eq_true (by first | (with_reducible assumption) | assumption); have hcut38 := cut_from (P := Tryz.prog) 85 22 .i64 Tryz.underlying85 hi038 1 hsz38 Ao36 x4_2.length co36 (ji31) q038 q38; have hr38 := Kd.C_drop (m := ((ji31) : Int).toNat) (c := co36) hC38 (by omega) hroom38; obtain ⟨A38, hA38⟩ : ∃ A1, A1 = (if co36 = ((ji31) : Int).toNat then Ao36 else (Ao36 : Option Addr).map (·.add (((ji31) : Int).toNat * 1))) := ⟨_, rfl⟩; obtain ⟨c38, hc38⟩ : ∃ c1, c1 = co36 - ((ji31) : Int).toNat := ⟨_, rfl⟩; have hy38 : y327.length = x4_2.length - ((ji31) : Int).toNat := (by rw [Ny327.out, List.length_drop] <;> omega); rw [show (x4_2).drop ((ji31) : Int).toNat = y327 from Ny327.out.symm] at hr38; replace hr38 : Kd.C (Kd.int .u64) _ A38 y327.length y327 := (by rw [hA38]; exact hr38); rw [← hy38, ← hA38, ← hc38] at hcut38; have HR330 := aM hr38; have HC330 := aM (show y327.length ≤ c38 from by rw [hy38, hc38]; exact Nat.sub_le_sub_right hroom38 _); clear hr38 hC38 hroom38 hi038 hsz38 hc38; have KY38 := aM hy38; have KA38 := aM hA38; clear hy38 hA38; have KL38 := aM (show ((ji31) : Int).toNat ≤ x4_2.length from by omega); replace q38 := eq_true q38) | (go_at_call 60; (with_reducible refine (nameplateref04_joined.calls k2 _ _ y327 t331 _ ?side1 ?side2 A34.out).mono ?_); (case side1 => repeat (first | exact (by repeat (first | (with_reducible exact HR330.out) | (with_reducible refine Kd.C_alloc ?_ _) | (with_reducible refine Kd.C_drewN ?_ _) | (with_reducible refine Kd.C_drew ?_) | exact HR330.out)) | (with_reducible refine Kd.C_alloc ?_ _) | (with_reducible refine Kd.C_drewN ?_ _) | (with_reducible refine Kd.C_drew ?_))); (case side2 => exact HC330.out); rintro e w' ⟨rfl, ⟨nd, rfl⟩⟩; (try first | exact ⟨rfl, _, World.drewN_drewN _ _ _⟩ | exact ⟨rfl, _, Eq.trans (World.drewN_drewN _ _ _) (congrArg (World.drewN _) (Nat.add_assoc _ _ _))⟩)))
                repeat (go_quiet (first | (go_at_call 59; (with_reducible refine (nameplateref04_zeros.calls k2 _ _ x4_2 t319 t320 _ ?side1 ?side2 A23.out).mono ?_); (case side1 => exact tC (Kd.R_reads' HO_4.out).2.2); (case side2 => exact (Kd.R_reads' HO_4.out).2.1); rintro e w' ⟨rfl, ⟨nd, rfl⟩⟩; (try first | exact ⟨rfl, _, World.drewN_drewN _ _ _⟩ | exact ⟨rfl, _, Eq.trans (World.drewN_drewN _ _ _) (congrArg (World.drewN _) (Nat.add_assoc _ _ _))⟩); have q37 : (t319 : Int) ≤ ((x4_2.length : Int) : Int) := of_decide_eq_true (by first | (with_reducible assumption) | assumption); obtain ⟨i037, hi037, _, hsz37, _⟩ := info_parts info22; have hroom37 : x4_2.length ≤ co36 := (Kd.R_reads' HO_4.out).2.1; have hC37 : Kd.C (Kd.int .u64) _ Ao36 x4_2.length x4_2 := (Kd.R_reads' HO_4.out).2.2; have hcut37 := cut_to (P := Tryz.prog) 85 22 .i64 Tryz.underlying85 hi037 Ao36 x4_2.length co36 t319 (of_decide_eq_true (by first | (with_reducible assumption) | assumption)) q37 hroom37; have hr37 := Kd.C_take (m := (t319 : Int).toNat) hC37 (by omega); have hy37 : y322.length = (t319 : Int).toNat := (by rw [Ny322.out, List.length_take]; omega); rw [← Ny322.out] at hr37; rw [← hy37] at hcut37; have HR325 := aM hr37; have HC325 := aM (show y322.length ≤ co36 from by omega); clear hr37 hC37 hroom37 hi037 hsz37; have KY37 := aM hy37; clear hy37; have KL37 := aM (show (t319 : Int).toNat ≤ x4_2.length from by omega); replace q37 := eq_true q37) | (go_at_call 60; (with_reducible refine (nameplateref04_joined.calls k2 _ _ y322 t326 _ ?side1 ?side2 A29.out).mono ?_); (case side1 => repeat (first | exact (by repeat (first | (with_reducible exact HR325.out) | (with_reducible refine Kd.C_alloc ?_ _) | (with_reducible refine Kd.C_drewN ?_ _) | (with_reducible refine Kd.C_drew ?_) | exact HR325.out)) | (with_reducible refine Kd.C_alloc ?_ _) | (with_reducible refine Kd.C_drewN ?_ _) | (with_reducible refine Kd.C_drew ?_))); (case side2 => exact HC325.out); rintro e w' ⟨rfl, ⟨nd, rfl⟩⟩; (try first | exact ⟨rfl, _, World.drewN_drewN _ _ _⟩ | exact ⟨rfl, _, Eq.trans (World.drewN_drewN _ _ _) (congrArg (World.drewN _) (Nat.add_assoc _ _ _))⟩); have q38 : ((ji31) : Int) ≤ ((x4_2.length : Int) : Int) := of_decide_eq_true (by first | (with_reducible assumption) | assumption); obtain ⟨i038, hi038, _, hsz38, _⟩ := info_parts info22; have hroom38 : x4_2.length ≤ co36 := (Kd.R_reads' HO_4.out).2.1; have hC38 : Kd.C (Kd.int .u64) _ Ao36 x4_2.length x4_2 := (Kd.R_reads' HO_4.out).2.2; have q038 : (0 : Int) ≤ ((ji31) : Int) := of_decide_eq_true (by first | (with_reducible assumption) | assumption); have hcut38 := cut_from (P := Tryz.prog) 85 22 .i64 Tryz.underlying85 hi038 1 hsz38 Ao36 x4_2.length co36 (ji31) q038 q38; have hr38 := Kd.C_drop (m := ((ji31) : Int).toNat) (c := co36) hC38 (by omega) hroom38; obtain ⟨A38, hA38⟩ : ∃ A1, A1 = (if co36 = ((ji31) : Int).toNat then Ao36 else (Ao36 : Option Addr).map (·.add (((ji31) : Int).toNat * 1))) := ⟨_, rfl⟩; obtain ⟨c38, hc38⟩ : ∃ c1, c1 = co36 - ((ji31) : Int).toNat := ⟨_, rfl⟩; have hy38 : y327.length = x4_2.length - ((ji31) : Int).toNat := (by rw [Ny327.out, List.length_drop] <;> omega); rw [show (x4_2).drop ((ji31) : Int).toNat = y327 from Ny327.out.symm] at hr38; replace hr38 : Kd.C (Kd.int .u64) _ A38 y327.length y327 := (by rw [hA38]; exact hr38); rw [← hy38, ← hA38, ← hc38] at hcut38; have HR330 := aM hr38; have HC330 := aM (show y327.length ≤ c38 from by rw [hy38, hc38]; exact Nat.sub_le_sub_right hroom38 _); clear hr38 hC38 hroom38 hi038 hsz38 hc38; have KY38 := aM hy38; have KA38 := aM hA38; clear hy38 hA38; have KL38 := aM (show ((ji31) : Int).toNat ≤ x4_2.length from by omega); replace q38 := eq_true q38) | (go_at_call 60; (with_reducible refine (nameplateref04_joined.calls k2 _ _ y327 t331 _ ?side1 ?side2 A34.out).mono ?_); (case side1 => repeat (first | exact (by repeat (first | (with_reducible exact HR330.out) | (with_reducible refine Kd.C_alloc ?_ _) | (with_reducible refine Kd.C_drewN ?_ _) | (with_reducible refine Kd.C_drew ?_) | exact HR330.out)) | (with_reducible refine Kd.C_alloc ?_ _) | (with_reducible refine Kd.C_drewN ?_ _) | (with_reducible refine Kd.C_drew ?_))); (case side2 => exact HC330.out); rintro e w' ⟨rfl, ⟨nd, rfl⟩⟩; (try first | exact ⟨rfl, _, World.drewN_drewN _ _ _⟩ | exact ⟨rfl, _, Eq.trans (World.drewN_drewN _ _ _) (congrArg (World.drewN _) (Nat.add_assoc _ _ _))⟩))); try go_wp2_with (first | (go_at_call 59; (with_reducible refine (nameplateref04_zeros.calls k2 _ _ x4_2 t319 t320 _ ?side1 ?side2 A23.out).mono ?_); (case side1 => exact tC (Kd.R_reads' HO_4.out).2.2); (case side2 => exact (Kd.R_reads' HO_4.out).2.1); rintro e w' ⟨rfl, ⟨nd, rfl⟩⟩; (try first | exact ⟨rfl, _, World.drewN_drewN _ _ _⟩ | exact ⟨rfl, _, Eq.trans (World.drewN_drewN _ _ _) (congrArg (World.drewN _) (Nat.add_assoc _ _ _))⟩); have q37 : (t319 : Int) ≤ ((x4_2.length : Int) : Int) := of_decide_eq_true (by first | (with_reducible assumption) | assumption); obtain ⟨i037, hi037, _, hsz37, _⟩ := info_parts info22; have hroom37 : x4_2.length ≤ co36 := (Kd.R_reads' HO_4.out).2.1; have hC37 : Kd.C (Kd.int .u64) _ Ao36 x4_2.length x4_2 := (Kd.R_reads' HO_4.out).2.2; have hcut37 := cut_to (P := Tryz.prog) 85 22 .i64 Tryz.underlying85 hi037 Ao36 x4_2.length co36 t319 (of_decide_eq_true (by first | (with_reducible assumption) | assumption)) q37 hroom37; have hr37 := Kd.C_take (m := (t319 : Int).toNat) hC37 (by omega); have hy37 : y322.length = (t319 : Int).toNat := (by rw [Ny322.out, List.length_take]; omega); rw [← Ny322.out] at hr37; rw [← hy37] at hcut37; have HR325 := aM hr37; have HC325 := aM (show y322.length ≤ co36 from by omega); clear hr37 hC37 hroom37 hi037 hsz37; have KY37 := aM hy37; clear hy37; have KL37 := aM (show (t319 : Int).toNat ≤ x4_2.length from by omega); replace q37 := eq_true q37) | (go_at_call 60; (with_reducible refine (nameplateref04_joined.calls k2 _ _ y322 t326 _ ?side1 ?side2 A29.out).mono ?_); (case side1 => repeat (first | exact (by repeat (first | (with_reducible exact HR325.out) | (with_reducible refine Kd.C_alloc ?_ _) | (with_reducible refine Kd.C_drewN ?_ _) | (with_reducible refine Kd.C_drew ?_) | exact HR325.out)) | (with_reducible refine Kd.C_alloc ?_ _) | (with_reducible refine Kd.C_drewN ?_ _) | (with_reducible refine Kd.C_drew ?_))); (case side2 => exact HC325.out); rintro e w' ⟨rfl, ⟨nd, rfl⟩⟩; (try first | exact ⟨rfl, _, World.drewN_drewN _ _ _⟩ | exact ⟨rfl, _, Eq.trans (World.drewN_drewN _ _ _) (congrArg (World.drewN _) (Nat.add_assoc _ _ _))⟩); have q38 : ((ji31) : Int) ≤ ((x4_2.length : Int) : Int) := of_decide_eq_true (by first | (with_reducible assumption) | assumption); obtain ⟨i038, hi038, _, hsz38, _⟩ := info_parts info22; have hroom38 : x4_2.length ≤ co36 := (Kd.R_reads' HO_4.out).2.1; have hC38 : Kd.C (Kd.int .u64) _ Ao36 x4_2.length x4_2 := (Kd.R_reads' HO_4.out).2.2; have q038 : (0 : Int) ≤ ((ji31) : Int) := of_decide_eq_true (by first | (with_reducible assumption) | assumption); have hcut38 := cut_from (P := Tryz.prog) 85 22 .i64 Tryz.underlying85 hi038 1 hsz38 Ao36 x4_2.length co36 (ji31) q038 q38; have hr38 := Kd.C_drop (m := ((ji31) : Int).toNat) (c := co36) hC38 (by omega) hroom38; obtain ⟨A38, hA38⟩ : ∃ A1, A1 = (if co36 = ((ji31) : Int).toNat then Ao36 else (Ao36 : Option Addr).map (·.add (((ji31) : Int).toNat * 1))) := ⟨_, rfl⟩; obtain ⟨c38, hc38⟩ : ∃ c1, c1 = co36 - ((ji31) : Int).toNat := ⟨_, rfl⟩; have hy38 : y327.length = x4_2.length - ((ji31) : Int).toNat := (by rw [Ny327.out, List.length_drop] <;> omega); rw [show (x4_2).drop ((ji31) : Int).toNat = y327 from Ny327.out.symm] at hr38; replace hr38 : Kd.C (Kd.int .u64) _ A38 y327.length y327 := (by rw [hA38]; exact hr38); rw [← hy38, ← hA38, ← hc38] at hcut38; have HR330 := aM hr38; have HC330 := aM (show y327.length ≤ c38 from by rw [hy38, hc38]; exact Nat.sub_le_sub_right hroom38 _); clear hr38 hC38 hroom38 hi038 hsz38 hc38; have KY38 := aM hy38; have KA38 := aM hA38; clear hy38 hA38; have KL38 := aM (show ((ji31) : Int).toNat ≤ x4_2.length from by omega); replace q38 := eq_true q38) | (go_at_call 60; (with_reducible refine (nameplateref04_joined.calls k2 _ _ y327 t331 _ ?side1 ?side2 A34.out).mono ?_); (case side1 => repeat (first | exact (by repeat (first | (with_reducible exact HR330.out) | (with_reducible refine Kd.C_alloc ?_ _) | (with_reducible refine Kd.C_drewN ?_ _) | (with_reducible refine Kd.C_drew ?_) | exact HR330.out)) | (with_reducible refine Kd.C_alloc ?_ _) | (with_reducible refine Kd.C_drewN ?_ _) | (with_reducible refine Kd.C_drew ?_))); (case side2 => exact HC330.out); rintro e w' ⟨rfl, ⟨nd, rfl⟩⟩; (try first | exact ⟨rfl, _, World.drewN_drewN _ _ _⟩ | exact ⟨rfl, _, Eq.trans (World.drewN_drewN _ _ _) (congrArg (World.drewN _) (Nat.add_assoc _ _ _))⟩))))
                go_ret2
                exact ⟨by first | rfl | (simp [errW_none, errW_some] <;> rfl) | (simp only [← hji31]; first | rfl | (simp [errW_none, errW_some] <;> rfl)) | (simp [*, errW_none, errW_some] <;> rfl), tB HB.out⟩
               ·rw [if_neg c35] at H
                exact absurd H (by simp)
              ·rw [if_neg c33] at H
               exact absurd H (by simp)
             ·rw [if_neg c32] at H
              exact absurd H (by simp)
            ·rw [if_neg c30] at H
             exact absurd H (by simp)
           ·rw [if_neg c28] at H
            exact absurd H (by simp)
          ·rw [if_neg c27] at H
           exact absurd H (by simp)
  ·replace c4 := Bool.eq_false_iff.mpr c4
   subst c4
   rw [if_neg (show ¬ (false = true) by decide)] at H
   obtain ⟨t309, A39, H⟩ := oB H
   try dsimp only at H
   by_cases c40 : t309.size + 1 ≤ 9223372036854775807
   ·rw [if_pos c40] at H
    have c40b0 := eq_true c40
    have c40b1 : decide (t309.size + 1 ≤ 9223372036854775807) = true := decide_eq_true c40
    try have c40b2 : (9223372036854775807 < t309.size + 1) = False := eq_false (Nat.not_lt.2 c40)
    obtain ⟨t310, A41, H⟩ := oB H
    try dsimp only at H
    by_cases c42 : (t309 ++ (⟨#[46]⟩ : ByteArray)).size + t310.size ≤ 9223372036854775807
    ·rw [if_pos c42] at H
     have c42b0 := eq_true c42
     try have c42b6 : (9223372036854775807 < t309.size + 1 + t310.size) = False := eq_false (by have hh_ := c42; have hz_ : (t309.size + (⟨#[46]⟩ : ByteArray).size + t310.size : Nat) = t309.size + 1 + t310.size := (by rfl); simp only [ByteArray.size_append] at hh_; omega)
     try have c42b5 : decide (t309.size + 1 + t310.size ≤ 9223372036854775807) = true := decide_eq_true (by have hh_ := c42; have hz_ : (t309.size + (⟨#[46]⟩ : ByteArray).size + t310.size : Nat) = t309.size + 1 + t310.size := (by rfl); simp only [ByteArray.size_append] at hh_; omega)
     try have c42b7 : (9223372036854775807 < t309.size + (⟨#[46]⟩ : ByteArray).size + t310.size) = False := eq_false (by have hh_ := c42; simp only [ByteArray.size_append] at hh_; omega)
     try have c42b8 : decide (t309.size + (⟨#[46]⟩ : ByteArray).size + t310.size ≤ 9223372036854775807) = true := decide_eq_true (by have hh_ := c42; simp only [ByteArray.size_append] at hh_; omega)
     have c42b1 : decide ((t309 ++ (⟨#[46]⟩ : ByteArray)).size + t310.size ≤ 9223372036854775807) = true := decide_eq_true c42
     try have c42b2 : (9223372036854775807 < (t309 ++ (⟨#[46]⟩ : ByteArray)).size + t310.size) = False := eq_false (Nat.not_lt.2 c42)
     by_cases c43 : ((t309 ++ (⟨#[46]⟩ : ByteArray)) ++ t310).size + 1 ≤ 9223372036854775807
     ·rw [if_pos c43] at H
      have c43b0 := eq_true c43
      try have c43b6 : (9223372036854775807 < t309.size + 1 + t310.size + 1) = False := eq_false (by have hh_ := c43; have hz_ : (t309.size + (⟨#[46]⟩ : ByteArray).size + t310.size + 1 : Nat) = t309.size + 1 + t310.size + 1 := (by rfl); simp only [ByteArray.size_append] at hh_; omega)
      try have c43b5 : decide (t309.size + 1 + t310.size + 1 ≤ 9223372036854775807) = true := decide_eq_true (by have hh_ := c43; have hz_ : (t309.size + (⟨#[46]⟩ : ByteArray).size + t310.size + 1 : Nat) = t309.size + 1 + t310.size + 1 := (by rfl); simp only [ByteArray.size_append] at hh_; omega)
      try have c43b7 : (9223372036854775807 < t309.size + (⟨#[46]⟩ : ByteArray).size + t310.size + 1) = False := eq_false (by have hh_ := c43; simp only [ByteArray.size_append] at hh_; omega)
      try have c43b8 : decide (t309.size + (⟨#[46]⟩ : ByteArray).size + t310.size + 1 ≤ 9223372036854775807) = true := decide_eq_true (by have hh_ := c43; simp only [ByteArray.size_append] at hh_; omega)
      have c43b1 : decide (((t309 ++ (⟨#[46]⟩ : ByteArray)) ++ t310).size + 1 ≤ 9223372036854775807) = true := decide_eq_true c43
      try have c43b2 : (9223372036854775807 < ((t309 ++ (⟨#[46]⟩ : ByteArray)) ++ t310).size + 1) = False := eq_false (Nat.not_lt.2 c43)
      obtain ⟨t311, A44, H⟩ := oB H
      try dsimp only at H
      by_cases c45 : (((t309 ++ (⟨#[46]⟩ : ByteArray)) ++ t310) ++ (⟨#[46]⟩ : ByteArray)).size + t311.size ≤ 9223372036854775807
      ·rw [if_pos c45] at H
       have c45b0 := eq_true c45
       try have c45b6 : (9223372036854775807 < t309.size + 1 + t310.size + 1 + t311.size) = False := eq_false (by have hh_ := c45; have hz_ : (t309.size + (⟨#[46]⟩ : ByteArray).size + t310.size + (⟨#[46]⟩ : ByteArray).size + t311.size : Nat) = t309.size + 1 + t310.size + 1 + t311.size := (by rfl); simp only [ByteArray.size_append] at hh_; omega)
       try have c45b5 : decide (t309.size + 1 + t310.size + 1 + t311.size ≤ 9223372036854775807) = true := decide_eq_true (by have hh_ := c45; have hz_ : (t309.size + (⟨#[46]⟩ : ByteArray).size + t310.size + (⟨#[46]⟩ : ByteArray).size + t311.size : Nat) = t309.size + 1 + t310.size + 1 + t311.size := (by rfl); simp only [ByteArray.size_append] at hh_; omega)
       try have c45b7 : (9223372036854775807 < t309.size + (⟨#[46]⟩ : ByteArray).size + t310.size + (⟨#[46]⟩ : ByteArray).size + t311.size) = False := eq_false (by have hh_ := c45; simp only [ByteArray.size_append] at hh_; omega)
       try have c45b8 : decide (t309.size + (⟨#[46]⟩ : ByteArray).size + t310.size + (⟨#[46]⟩ : ByteArray).size + t311.size ≤ 9223372036854775807) = true := decide_eq_true (by have hh_ := c45; simp only [ByteArray.size_append] at hh_; omega)
       have c45b1 : decide ((((t309 ++ (⟨#[46]⟩ : ByteArray)) ++ t310) ++ (⟨#[46]⟩ : ByteArray)).size + t311.size ≤ 9223372036854775807) = true := decide_eq_true c45
       try have c45b2 : (9223372036854775807 < (((t309 ++ (⟨#[46]⟩ : ByteArray)) ++ t310) ++ (⟨#[46]⟩ : ByteArray)).size + t311.size) = False := eq_false (Nat.not_lt.2 c45)
       by_cases c46 : ((((t309 ++ (⟨#[46]⟩ : ByteArray)) ++ t310) ++ (⟨#[46]⟩ : ByteArray)) ++ t311).size + 1 ≤ 9223372036854775807
       ·rw [if_pos c46] at H
        have c46b0 := eq_true c46
        try have c46b6 : (9223372036854775807 < t309.size + 1 + t310.size + 1 + t311.size + 1) = False := eq_false (by have hh_ := c46; have hz_ : (t309.size + (⟨#[46]⟩ : ByteArray).size + t310.size + (⟨#[46]⟩ : ByteArray).size + t311.size + 1 : Nat) = t309.size + 1 + t310.size + 1 + t311.size + 1 := (by rfl); simp only [ByteArray.size_append] at hh_; omega)
        try have c46b5 : decide (t309.size + 1 + t310.size + 1 + t311.size + 1 ≤ 9223372036854775807) = true := decide_eq_true (by have hh_ := c46; have hz_ : (t309.size + (⟨#[46]⟩ : ByteArray).size + t310.size + (⟨#[46]⟩ : ByteArray).size + t311.size + 1 : Nat) = t309.size + 1 + t310.size + 1 + t311.size + 1 := (by rfl); simp only [ByteArray.size_append] at hh_; omega)
        try have c46b7 : (9223372036854775807 < t309.size + (⟨#[46]⟩ : ByteArray).size + t310.size + (⟨#[46]⟩ : ByteArray).size + t311.size + 1) = False := eq_false (by have hh_ := c46; simp only [ByteArray.size_append] at hh_; omega)
        try have c46b8 : decide (t309.size + (⟨#[46]⟩ : ByteArray).size + t310.size + (⟨#[46]⟩ : ByteArray).size + t311.size + 1 ≤ 9223372036854775807) = true := decide_eq_true (by have hh_ := c46; simp only [ByteArray.size_append] at hh_; omega)
        have c46b1 : decide (((((t309 ++ (⟨#[46]⟩ : ByteArray)) ++ t310) ++ (⟨#[46]⟩ : ByteArray)) ++ t311).size + 1 ≤ 9223372036854775807) = true := decide_eq_true c46
        try have c46b2 : (9223372036854775807 < ((((t309 ++ (⟨#[46]⟩ : ByteArray)) ++ t310) ++ (⟨#[46]⟩ : ByteArray)) ++ t311).size + 1) = False := eq_false (Nat.not_lt.2 c46)
        obtain ⟨t312, A47, H⟩ := oB H
        try dsimp only at H
        by_cases c48 : (((((t309 ++ (⟨#[46]⟩ : ByteArray)) ++ t310) ++ (⟨#[46]⟩ : ByteArray)) ++ t311) ++ (⟨#[46]⟩ : ByteArray)).size + t312.size ≤ 9223372036854775807
        ·rw [if_pos c48] at H
         have c48b0 := eq_true c48
         try have c48b6 : (9223372036854775807 < t309.size + 1 + t310.size + 1 + t311.size + 1 + t312.size) = False := eq_false (by have hh_ := c48; have hz_ : (t309.size + (⟨#[46]⟩ : ByteArray).size + t310.size + (⟨#[46]⟩ : ByteArray).size + t311.size + (⟨#[46]⟩ : ByteArray).size + t312.size : Nat) = t309.size + 1 + t310.size + 1 + t311.size + 1 + t312.size := (by rfl); simp only [ByteArray.size_append] at hh_; omega)
         try have c48b5 : decide (t309.size + 1 + t310.size + 1 + t311.size + 1 + t312.size ≤ 9223372036854775807) = true := decide_eq_true (by have hh_ := c48; have hz_ : (t309.size + (⟨#[46]⟩ : ByteArray).size + t310.size + (⟨#[46]⟩ : ByteArray).size + t311.size + (⟨#[46]⟩ : ByteArray).size + t312.size : Nat) = t309.size + 1 + t310.size + 1 + t311.size + 1 + t312.size := (by rfl); simp only [ByteArray.size_append] at hh_; omega)
         try have c48b7 : (9223372036854775807 < t309.size + (⟨#[46]⟩ : ByteArray).size + t310.size + (⟨#[46]⟩ : ByteArray).size + t311.size + (⟨#[46]⟩ : ByteArray).size + t312.size) = False := eq_false (by have hh_ := c48; simp only [ByteArray.size_append] at hh_; omega)
         try have c48b8 : decide (t309.size + (⟨#[46]⟩ : ByteArray).size + t310.size + (⟨#[46]⟩ : ByteArray).size + t311.size + (⟨#[46]⟩ : ByteArray).size + t312.size ≤ 9223372036854775807) = true := decide_eq_true (by have hh_ := c48; simp only [ByteArray.size_append] at hh_; omega)
         have c48b1 : decide ((((((t309 ++ (⟨#[46]⟩ : ByteArray)) ++ t310) ++ (⟨#[46]⟩ : ByteArray)) ++ t311) ++ (⟨#[46]⟩ : ByteArray)).size + t312.size ≤ 9223372036854775807) = true := decide_eq_true c48
         try have c48b2 : (9223372036854775807 < (((((t309 ++ (⟨#[46]⟩ : ByteArray)) ++ t310) ++ (⟨#[46]⟩ : ByteArray)) ++ t311) ++ (⟨#[46]⟩ : ByteArray)).size + t312.size) = False := eq_false (Nat.not_lt.2 c48)
         simp only [Option.some.injEq, Prod.mk.injEq] at H
         obtain ⟨rfl, rfl⟩ := H
         go_enter Tryz.func31, Tryz.ntmps31
         go_wp2_with (first | ((with_reducible refine gD 1 rfl ?_); refine bX 1 #[.bool false, .int .u64 a0_1, .int .u64 a0_2] 24 ?_; intro gb307 hg w49 hbox hb; have BK307 := aM hbox; have GW307 := gS hg HB.out; have GE307 := GW307; replace HB := bS HB.out hb; clear hb hbox hg; obtain ⟨hcz50_0, hcz50_1, hcz50_2, hfz50_0, hfz50_1, hfz50_2⟩ := kY3 BK307.out) | (go_at_call 38; (with_reducible refine (nameplateref04_Check.calls false a0_1 a0_2 t308 _ A2.out).mono ?_); rintro e w51 ⟨rfl, hb⟩; replace BK307 := kB BK307.out hb; replace HB := bS HB.out hb; (try clear hb); obtain ⟨hcz52_0, hcz52_1, hcz52_2, hfz52_0, hfz52_1, hfz52_2⟩ := kY3 BK307.out) | (go_at_call 58; (with_reducible refine (nameplateref04_digits.calls k (a0_2 / 16777216) 10 t309 _ A39.out).mono ?_); rintro e w' ⟨rfl, ⟨nd, rfl⟩⟩; (try first | exact ⟨rfl, _, World.drewN_drewN _ _ _⟩ | exact ⟨rfl, _, Eq.trans (World.drewN_drewN _ _ _) (congrArg (World.drewN _) (Nat.add_assoc _ _ _))⟩)) | (go_at_call 58; (with_reducible refine (nameplateref04_digits.calls k (Int.tmod (a0_2 / 65536) 256) 10 t310 _ A41.out).mono ?_); rintro e w' ⟨rfl, ⟨nd, rfl⟩⟩; (try first | exact ⟨rfl, _, World.drewN_drewN _ _ _⟩ | exact ⟨rfl, _, Eq.trans (World.drewN_drewN _ _ _) (congrArg (World.drewN _) (Nat.add_assoc _ _ _))⟩)) | (go_at_call 58; (with_reducible refine (nameplateref04_digits.calls k (Int.tmod (a0_2 / 256) 256) 10 t311 _ A44.out).mono ?_); rintro e w' ⟨rfl, ⟨nd, rfl⟩⟩; (try first | exact ⟨rfl, _, World.drewN_drewN _ _ _⟩ | exact ⟨rfl, _, Eq.trans (World.drewN_drewN _ _ _) (congrArg (World.drewN _) (Nat.add_assoc _ _ _))⟩)) | (go_at_call 58; (with_reducible refine (nameplateref04_digits.calls k (Int.tmod a0_2 256) 10 t312 _ A47.out).mono ?_); rintro e w' ⟨rfl, ⟨nd, rfl⟩⟩; (try first | exact ⟨rfl, _, World.drewN_drewN _ _ _⟩ | exact ⟨rfl, _, Eq.trans (World.drewN_drewN _ _ _) (congrArg (World.drewN _) (Nat.add_assoc _ _ _))⟩)))
         repeat (go_quiet (first | ((with_reducible refine gD 1 rfl ?_); refine bX 1 #[.bool false, .int .u64 a0_1, .int .u64 a0_2] 24 ?_; intro gb307 hg w49 hbox hb; have BK307 := aM hbox; have GW307 := gS hg HB.out; have GE307 := GW307; replace HB := bS HB.out hb; clear hb hbox hg; obtain ⟨hcz50_0, hcz50_1, hcz50_2, hfz50_0, hfz50_1, hfz50_2⟩ := kY3 BK307.out) | (go_at_call 38; (with_reducible refine (nameplateref04_Check.calls false a0_1 a0_2 t308 _ A2.out).mono ?_); rintro e w51 ⟨rfl, hb⟩; replace BK307 := kB BK307.out hb; replace HB := bS HB.out hb; (try clear hb); obtain ⟨hcz52_0, hcz52_1, hcz52_2, hfz52_0, hfz52_1, hfz52_2⟩ := kY3 BK307.out) | (go_at_call 58; (with_reducible refine (nameplateref04_digits.calls k (a0_2 / 16777216) 10 t309 _ A39.out).mono ?_); rintro e w' ⟨rfl, ⟨nd, rfl⟩⟩; (try first | exact ⟨rfl, _, World.drewN_drewN _ _ _⟩ | exact ⟨rfl, _, Eq.trans (World.drewN_drewN _ _ _) (congrArg (World.drewN _) (Nat.add_assoc _ _ _))⟩)) | (go_at_call 58; (with_reducible refine (nameplateref04_digits.calls k (Int.tmod (a0_2 / 65536) 256) 10 t310 _ A41.out).mono ?_); rintro e w' ⟨rfl, ⟨nd, rfl⟩⟩; (try first | exact ⟨rfl, _, World.drewN_drewN _ _ _⟩ | exact ⟨rfl, _, Eq.trans (World.drewN_drewN _ _ _) (congrArg (World.drewN _) (Nat.add_assoc _ _ _))⟩)) | (go_at_call 58; (with_reducible refine (nameplateref04_digits.calls k (Int.tmod (a0_2 / 256) 256) 10 t311 _ A44.out).mono ?_); rintro e w' ⟨rfl, ⟨nd, rfl⟩⟩; (try first | exact ⟨rfl, _, World.drewN_drewN _ _ _⟩ | exact ⟨rfl, _, Eq.trans (World.drewN_drewN _ _ _) (congrArg (World.drewN _) (Nat.add_assoc _ _ _))⟩)) | (go_at_call 58; (with_reducible refine (nameplateref04_digits.calls k (Int.tmod a0_2 256) 10 t312 _ A47.out).mono ?_); rintro e w' ⟨rfl, ⟨nd, rfl⟩⟩; (try first | exact ⟨rfl, _, World.drewN_drewN _ _ _⟩ | exact ⟨rfl, _, Eq.trans (World.drewN_drewN _ _ _) (congrArg (World.drewN _) (Nat.add_assoc _ _ _))⟩))); try go_wp2_with (first | ((with_reducible refine gate_dst (N := 1) rfl ?_); refine box_event ?hg (N := 1) ?hd (cs := #[.bool false, .int .u64 a0_1, .int .u64 a0_2]) (t := 24) ?hr ?_; (case hd => rfl); (case hg => rfl); (case hr => first | (go_simp; done) | (go_simp; rfl)); intro gb307 hg w49 hbox hb; have n0_ := bS HB.out hb; have n1_ := aM hbox; have n2_ := gS hg HB.out; have n3_ := gS hg HB.out; clear HB; have HB := n0_; have BK307 := n1_; have GW307 := n2_; have GE307 := n3_; clear n0_ n1_ n2_ n3_; clear hb hbox hg; have hcz50_0 : w49.cell? ⟨gb307, 0, none⟩ = some (.bool false) := (kC BK307.out 0).trans rfl; have hcz50_1 : w49.cell? ⟨gb307, 1, none⟩ = some (.int .u64 a0_1) := (kC BK307.out 1).trans rfl; have hcz50_2 : w49.cell? ⟨gb307, 2, none⟩ = some (.int .u64 a0_2) := (kC BK307.out 2).trans rfl; have hfz50_0 := kF BK307.out 0; have hfz50_1 := kF BK307.out 1; have hfz50_2 := kF BK307.out 2) | (go_at_call 38; (with_reducible refine (nameplateref04_Check.calls false a0_1 a0_2 t308 _ A2.out).mono ?_); rintro e w51 ⟨rfl, hb⟩; have n0_ := kB BK307.out hb; have n1_ := bS HB.out hb; clear BK307; clear HB; have BK307 := n0_; have HB := n1_; clear n0_ n1_; (try clear hb); (try clear hb2); (try clear hk); (try clear hi); have hcz52_0 : w51.cell? ⟨gb307, 0, none⟩ = some (.bool false) := (kC BK307.out 0).trans rfl; have hcz52_1 : w51.cell? ⟨gb307, 1, none⟩ = some (.int .u64 a0_1) := (kC BK307.out 1).trans rfl; have hcz52_2 : w51.cell? ⟨gb307, 2, none⟩ = some (.int .u64 a0_2) := (kC BK307.out 2).trans rfl; have hfz52_0 := kF BK307.out 0; have hfz52_1 := kF BK307.out 1; have hfz52_2 := kF BK307.out 2) | (go_at_call 58; (with_reducible refine (nameplateref04_digits.calls k (a0_2 / 16777216) 10 t309 _ A39.out).mono ?_); rintro e w' ⟨rfl, ⟨nd, rfl⟩⟩; (try first | exact ⟨rfl, _, World.drewN_drewN _ _ _⟩ | exact ⟨rfl, _, Eq.trans (World.drewN_drewN _ _ _) (congrArg (World.drewN _) (Nat.add_assoc _ _ _))⟩)) | (go_at_call 58; (with_reducible refine (nameplateref04_digits.calls k (Int.tmod (a0_2 / 65536) 256) 10 t310 _ A41.out).mono ?_); rintro e w' ⟨rfl, ⟨nd, rfl⟩⟩; (try first | exact ⟨rfl, _, World.drewN_drewN _ _ _⟩ | exact ⟨rfl, _, Eq.trans (World.drewN_drewN _ _ _) (congrArg (World.drewN _) (Nat.add_assoc _ _ _))⟩)) | (go_at_call 58; (with_reducible refine (nameplateref04_digits.calls k (Int.tmod (a0_2 / 256) 256) 10 t311 _ A44.out).mono ?_); rintro e w' ⟨rfl, ⟨nd, rfl⟩⟩; (try first | exact ⟨rfl, _, World.drewN_drewN _ _ _⟩ | exact ⟨rfl, _, Eq.trans (World.drewN_drewN _ _ _) (congrArg (World.drewN _) (Nat.add_assoc _ _ _))⟩)) | (go_at_call 58; (with_reducible refine (nameplateref04_digits.calls k (Int.tmod a0_2 256) 10 t312 _ A47.out).mono ?_); rintro e w' ⟨rfl, ⟨nd, rfl⟩⟩; (try first | exact ⟨rfl, _, World.drewN_drewN _ _ _⟩ | exact ⟨rfl, _, Eq.trans (World.drewN_drewN _ _ _) (congrArg (World.drewN _) (Nat.add_assoc _ _ _))⟩))))
         go_ret2
         exact ⟨tE, tB HB.out⟩
        ·rw [if_neg c48] at H
         exact absurd H (by simp)
       ·rw [if_neg c46] at H
        exact absurd H (by simp)
      ·rw [if_neg c45] at H
       exact absurd H (by simp)
     ·rw [if_neg c43] at H
      exact absurd H (by simp)
    ·rw [if_neg c42] at H
     exact absurd H (by simp)
   ·rw [if_neg c40] at H
    exact absurd H (by simp)
 ·rw [if_neg c3] at H
  have c3b0 : (t308 == 0) = false := beq_eq_false_iff_ne.mpr c3
  have c3b1 : (t308 != 0) = true := bne_iff_ne.mpr c3
  simp only [Option.some.injEq, Prod.mk.injEq] at H
  obtain ⟨rfl, rfl⟩ := H
  go_enter Tryz.func31, Tryz.ntmps31
  go_wp2_with (first | ((with_reducible refine gD 1 rfl ?_); refine bX 1 #[.bool a0_0, .int .u64 a0_1, .int .u64 a0_2] 24 ?_; intro gb307 hg w53 hbox hb; have BK307 := aM hbox; have GW307 := gS hg HB.out; have GE307 := GW307; replace HB := bS HB.out hb; clear hb hbox hg; obtain ⟨hcz54_0, hcz54_1, hcz54_2, hfz54_0, hfz54_1, hfz54_2⟩ := kY3 BK307.out) | (go_at_call 38; (with_reducible refine (nameplateref04_Check.calls a0_0 a0_1 a0_2 t308 _ A2.out).mono ?_); rintro e w55 ⟨rfl, hb⟩; replace BK307 := kB BK307.out hb; replace HB := bS HB.out hb; (try clear hb)))
  repeat (go_quiet (first | ((with_reducible refine gD 1 rfl ?_); refine bX 1 #[.bool a0_0, .int .u64 a0_1, .int .u64 a0_2] 24 ?_; intro gb307 hg w53 hbox hb; have BK307 := aM hbox; have GW307 := gS hg HB.out; have GE307 := GW307; replace HB := bS HB.out hb; clear hb hbox hg; obtain ⟨hcz54_0, hcz54_1, hcz54_2, hfz54_0, hfz54_1, hfz54_2⟩ := kY3 BK307.out) | (go_at_call 38; (with_reducible refine (nameplateref04_Check.calls a0_0 a0_1 a0_2 t308 _ A2.out).mono ?_); rintro e w55 ⟨rfl, hb⟩; replace BK307 := kB BK307.out hb; replace HB := bS HB.out hb; (try clear hb))); try go_wp2_with (first | ((with_reducible refine gate_dst (N := 1) rfl ?_); refine box_event ?hg (N := 1) ?hd (cs := #[.bool a0_0, .int .u64 a0_1, .int .u64 a0_2]) (t := 24) ?hr ?_; (case hd => rfl); (case hg => rfl); (case hr => first | (go_simp; done) | (go_simp; rfl)); intro gb307 hg w53 hbox hb; have n0_ := bS HB.out hb; have n1_ := aM hbox; have n2_ := gS hg HB.out; have n3_ := gS hg HB.out; clear HB; have HB := n0_; have BK307 := n1_; have GW307 := n2_; have GE307 := n3_; clear n0_ n1_ n2_ n3_; clear hb hbox hg; have hcz54_0 : w53.cell? ⟨gb307, 0, none⟩ = some (.bool a0_0) := (kC BK307.out 0).trans rfl; have hcz54_1 : w53.cell? ⟨gb307, 1, none⟩ = some (.int .u64 a0_1) := (kC BK307.out 1).trans rfl; have hcz54_2 : w53.cell? ⟨gb307, 2, none⟩ = some (.int .u64 a0_2) := (kC BK307.out 2).trans rfl; have hfz54_0 := kF BK307.out 0; have hfz54_1 := kF BK307.out 1; have hfz54_2 := kF BK307.out 2) | (go_at_call 38; (with_reducible refine (nameplateref04_Check.calls a0_0 a0_1 a0_2 t308 _ A2.out).mono ?_); rintro e w55 ⟨rfl, hb⟩; have n0_ := kB BK307.out hb; have n1_ := bS HB.out hb; clear BK307; clear HB; have BK307 := n0_; have HB := n1_; clear n0_ n1_; (try clear hb); (try clear hb2); (try clear hk); (try clear hi))))
  go_ret2
  exact ⟨tE, tB HB.out⟩

/-! ### nameplateref05_Text: function 8 -/
mutual
def nameplateref05_Text.l0 : Nat → ByteArray → ByteArray → Int → Bool → Int → Int → Int → Option (ByteArray × Int)
 | 0, _, _, _, _, _, _, _ => none
 | k + 1, x5, x7, x8, x333000, x333001, x333002, x333003 => if x8 > 9 then (if 0 ≤ (Int.tmod x8 10) then (if (Int.tmod x8 10) ≤ (wrap64 ((Int.tmod x8 10) + 1)) then (if (wrap64 ((Int.tmod x8 10) + 1)) ≤ 10 then (if ((⟨#[48, 49, 50, 51, 52, 53, 54, 55, 56, 57]⟩ : ByteArray).extract ((Int.tmod x8 10) : Int).toNat ((wrap64 ((Int.tmod x8 10) + 1)) : Int).toNat).size + x7.size ≤ 9223372036854775807 then (nameplateref05_Text.l0 k x5 (((⟨#[48, 49, 50, 51, 52, 53, 54, 55, 56, 57]⟩ : ByteArray).extract ((Int.tmod x8 10) : Int).toNat ((wrap64 ((Int.tmod x8 10) + 1)) : Int).toNat) ++ x7) (wrap64 (Int.tdiv x8 10)) x333000 x333001 x333002 x333003) else (none)) else (none)) else (none)) else (none)) else (nameplateref05_Text.l1 k x5 x7 x333003)
def nameplateref05_Text.l1 : Nat → ByteArray → ByteArray → Int → Option (ByteArray × Int)
 | 0, _, _, _ => none
 | k + 1, x5, x7, x9 => if x9 > 9 then (nameplateref05_Text.l1 k x5 x7 (wrap64 (Int.tdiv x9 10))) else (if x5.size + 1 ≤ 9223372036854775807 then (if 0 ≤ x9 then (if x9 ≤ (wrap64 (x9 + 1)) then (if (wrap64 (x9 + 1)) ≤ 10 then (if (x5 ++ (⟨#[47]⟩ : ByteArray)).size + ((⟨#[48, 49, 50, 51, 52, 53, 54, 55, 56, 57]⟩ : ByteArray).extract (x9 : Int).toNat ((wrap64 (x9 + 1)) : Int).toNat).size ≤ 9223372036854775807 then (if ((x5 ++ (⟨#[47]⟩ : ByteArray)) ++ ((⟨#[48, 49, 50, 51, 52, 53, 54, 55, 56, 57]⟩ : ByteArray).extract (x9 : Int).toNat ((wrap64 (x9 + 1)) : Int).toNat)).size + x7.size ≤ 9223372036854775807 then (some (((x5 ++ (⟨#[47]⟩ : ByteArray)) ++ ((⟨#[48, 49, 50, 51, 52, 53, 54, 55, 56, 57]⟩ : ByteArray).extract (x9 : Int).toNat ((wrap64 (x9 + 1)) : Int).toNat)) ++ x7, 0)) else (none)) else (none)) else (none)) else (none)) else (none)) else (none))
end
def nameplateref05_Text.f (k : Nat) (a0_0 : Bool) (a0_1 : Int) (a0_2 : Int) (a0_3 : Int) : Option (ByteArray × Int) := (nameplateref05_Check.f k a0_0 a0_1 a0_2 a0_3).bind fun t333 => (if t333 = 0 then ((nameplateref04_Text.f k a0_0 a0_1 a0_2).bind fun bt334 => (nameplateref05_Text.l0 k bt334.1 (⟨#[]⟩ : ByteArray) a0_3 a0_0 a0_1 a0_2 a0_3)) else (some ((⟨#[]⟩ : ByteArray), t333)))
theorem nameplateref05_Text.mono_l : ∀ k, (∀ y0 y1 y2 y3 y4 y5 y6, LeO (nameplateref05_Text.l0 k y0 y1 y2 y3 y4 y5 y6) (nameplateref05_Text.l0 (k + 1) y0 y1 y2 y3 y4 y5 y6)) ∧ (∀ y0 y1 y2, LeO (nameplateref05_Text.l1 k y0 y1 y2) (nameplateref05_Text.l1 (k + 1) y0 y1 y2))
 | 0 => ⟨fun _ _ _ _ _ _ _ r h => by simp [nameplateref05_Text.l0] at h, fun _ _ _ r h => by simp [nameplateref05_Text.l1] at h⟩
 | k + 1 => by
  obtain ⟨ih0, ih1⟩ := nameplateref05_Text.mono_l k
  refine ⟨?_, ?_⟩
  ·intro y0 y1 y2 y3 y4 y5 y6
   unfold nameplateref05_Text.l0
   repeat' first | (with_reducible first | apply ih0 | apply ih1 | apply nameplateref04_Text.mono | apply nameplateref05_Check.mono | exact LeO.refl _ | exact LeO.none _ | refine LeO.ite ?_ ?_ | refine LeO.bind ?_ (fun _ => ?_)) | apply ih0 | apply ih1 | apply nameplateref04_Text.mono | apply nameplateref05_Check.mono | exact LeO.none _ | refine LeO.ite ?_ ?_ | refine LeO.bind ?_ (fun _ => ?_)
  ·intro y0 y1 y2
   unfold nameplateref05_Text.l1
   repeat' first | (with_reducible first | apply ih0 | apply ih1 | apply nameplateref04_Text.mono | apply nameplateref05_Check.mono | exact LeO.refl _ | exact LeO.none _ | refine LeO.ite ?_ ?_ | refine LeO.bind ?_ (fun _ => ?_)) | apply ih0 | apply ih1 | apply nameplateref04_Text.mono | apply nameplateref05_Check.mono | exact LeO.none _ | refine LeO.ite ?_ ?_ | refine LeO.bind ?_ (fun _ => ?_)
theorem nameplateref05_Text.mono : ∀ a0 a1 a2 a3 k, LeO (nameplateref05_Text.f k a0 a1 a2 a3) (nameplateref05_Text.f (k + 1) a0 a1 a2 a3) := by
 intro a0 a1 a2 a3 k
 obtain ⟨ih0, ih1⟩ := nameplateref05_Text.mono_l k
 unfold nameplateref05_Text.f
 repeat' first | (with_reducible first | apply ih0 | apply ih1 | apply nameplateref04_Text.mono | apply nameplateref05_Check.mono | exact LeO.refl _ | exact LeO.none _ | refine LeO.ite ?_ ?_ | refine LeO.bind ?_ (fun _ => ?_)) | apply ih0 | apply ih1 | apply nameplateref04_Text.mono | apply nameplateref05_Check.mono | exact LeO.none _ | refine LeO.ite ?_ ?_ | refine LeO.bind ?_ (fun _ => ?_)
set_option maxHeartbeats 8000000 in
set_option maxRecDepth 100000 in
theorem nameplateref05_Text.calls (k : Nat) (a0_0 : Bool) (a0_1 : Int) (a0_2 : Int) (a0_3 : Int) (r1 : ByteArray) (r2 : Int) (w : World) (h : nameplateref05_Text.f k a0_0 a0_1 a0_2 a0_3 = some (r1, r2)) :
  Calls Tryz.prog 8 #[.agg #[.bool a0_0, .int .u64 a0_1, .int .u64 a0_2, .int .i64 a0_3]] w fun e w' => e = .returned (.tuple #[.string r1, .int .i64 r2]) ∧ Below w.heap.size w w' := by
 have hu26 := Tryz.underlying26
 have hu24 := Tryz.underlying24
 have HB := aM (Below.refl w.heap.size w)
 have H : ((nameplateref05_Check.f k a0_0 a0_1 a0_2 a0_3).bind fun t333 => (if t333 = 0 then ((nameplateref04_Text.f k a0_0 a0_1 a0_2).bind fun bt334 => (nameplateref05_Text.l0 k bt334.1 (⟨#[]⟩ : ByteArray) a0_3 a0_0 a0_1 a0_2 a0_3)) else (some ((⟨#[]⟩ : ByteArray), t333)))) = some (r1, r2) := h
 clear h
 obtain ⟨t333, A2, H⟩ := oB H
 try dsimp only at H
 by_cases c3 : t333 = 0
 ·rw [if_pos c3] at H
  have c3b0 : (t333 == 0) = true := beq_iff_eq.mpr c3
  have c3b1 : (t333 != 0) = false := bne_eq_false_iff_eq.mpr c3
  clear c3
  obtain ⟨⟨t334, t335⟩, A4, H⟩ := oB H
  try dsimp only at H
  have H' := aM H
  clear H
  go_enter Tryz.func8, Tryz.ntmps8
  go_wp2_with (first | ((with_reducible refine gD 1 rfl ?_); refine bX 1 #[.bool a0_0, .int .u64 a0_1, .int .u64 a0_2, .int .i64 a0_3] 26 ?_; intro gb332 hg w5 hbox hb; have BK332 := aM hbox; have GW332 := gS hg HB.out; have GE332 := GW332; replace HB := bS HB.out hb; clear hb hbox hg; obtain ⟨hcz6_0, hcz6_1, hcz6_2, hcz6_3, hfz6_0, hfz6_1, hfz6_2, hfz6_3⟩ := kY4 BK332.out) | ((with_reducible refine gC 16 rfl ?_); refine gL (some 11) Tryz.func16 #[.agg #[.bool a0_0, .int .u64 a0_1, .int .u64 a0_2, .int .i64 a0_3]] ?_; (with_reducible refine (nameplateref05_Check.calls k a0_0 a0_1 a0_2 a0_3 t333 _ A2.out).mono ?_); rintro e w7 ⟨rfl, hb⟩; refine ⟨_, rfl, ?_⟩; replace BK332 := kB BK332.out hb; replace HB := bS HB.out hb; (try clear hb); obtain ⟨hcz8_0, hcz8_1, hcz8_2, hcz8_3, hfz8_0, hfz8_1, hfz8_2, hfz8_3⟩ := kY4 BK332.out) | ((with_reducible refine gC 31 rfl ?_); refine gL (some 18) Tryz.func31 #[.agg #[.bool a0_0, .int .u64 a0_1, .int .u64 a0_2]] ?_; (with_reducible refine (nameplateref04_Text.calls k a0_0 a0_1 a0_2 t334 t335 _ A4.out).mono ?_); rintro e w9 ⟨rfl, hb⟩; refine ⟨_, rfl, ?_⟩; replace BK332 := kB BK332.out hb; replace HB := bS HB.out hb; (try clear hb); obtain ⟨hcz10_0, hcz10_1, hcz10_2, hcz10_3, hfz10_0, hfz10_1, hfz10_2, hfz10_3⟩ := kY4 BK332.out))
  go_loopg [7, 8] k (fun kq v7 v8 w' => ∃ (x7_1 : ByteArray) (x8_1 : Int), v7 = .string x7_1 ∧ v8 = .int .i64 x8_1 ∧ Aside0 (nameplateref05_Text.l0 kq t334 x7_1 x8_1 a0_0 a0_1 a0_2 a0_3 = some (r1, r2)) ∧ Aside0 (kq ≤ k) ∧ Aside0 (w'.heap[gb332]? = some (.cells #[.bool a0_0, .int .u64 a0_1, .int .u64 a0_2, .int .i64 a0_3] 26 (0, 0))) ∧ Aside0 (Below w.heap.size w w'))
  case atStart => exact ⟨((⟨#[]⟩ : ByteArray)), (a0_3), tF, tF, H', ⟨Nat.le_refl _⟩, ⟨tK BK332.out⟩, ⟨tB HB.out⟩⟩
  case round =>
   clear H'
   try clear c1
   try clear p2
   try clear c3
   try clear c3b0
   try clear c3b1
   try clear c8
   try clear hcz10_0 hcz10_1 hcz10_2 hcz10_3 hcz6_0 hcz6_1 hcz6_2 hcz6_3 hcz8_0 hcz8_1 hcz8_2 hcz8_3 hfz10_0 hfz10_1 hfz10_2 hfz10_3 hfz6_0 hfz6_1 hfz6_2 hfz6_3 hfz8_0 hfz8_1 hfz8_2 hfz8_3
   obtain ⟨x7_1, x8_1, rfl, rfl, HA, HK1, BK332, HB⟩ := hrel
   cases gk with
   | zero => exact absurd HA.out (by simp [nameplateref05_Text.l0])
   | succ k1 =>
    have H := HA.out
    clear HA
    simp only [nameplateref05_Text.l0] at H
    by_cases c11 : x8_1 > 9
    ·rw [if_pos c11] at H
     have c11b0 : decide (9 < x8_1) = true := decide_eq_true c11
     clear c11
     obtain ⟨ji12, hji12⟩ : ∃ j_ : Int, (Int.tmod x8_1 10) = j_ := ⟨_, rfl⟩
     replace H : (if 0 ≤ (ji12) then (if (ji12) ≤ (wrap64 ((ji12) + 1)) then (if (wrap64 ((ji12) + 1)) ≤ 10 then (if ((⟨#[48, 49, 50, 51, 52, 53, 54, 55, 56, 57]⟩ : ByteArray).extract ((ji12) : Int).toNat ((wrap64 ((ji12) + 1)) : Int).toNat).size + x7_1.size ≤ 9223372036854775807 then (nameplateref05_Text.l0 k1 t334 (((⟨#[48, 49, 50, 51, 52, 53, 54, 55, 56, 57]⟩ : ByteArray).extract ((ji12) : Int).toNat ((wrap64 ((ji12) + 1)) : Int).toNat) ++ x7_1) (wrap64 (Int.tdiv x8_1 10)) a0_0 a0_1 a0_2 a0_3) else (none)) else (none)) else (none)) else (none)) = some (r1, r2) := by first | (rw [hji12] at H; exact H) | (simp only [hji12] at H ⊢; exact H)
     by_cases c13 : 0 ≤ (ji12)
     ·rw [if_pos c13] at H
      have c13b0 := eq_true c13
      have c13b1 : decide (0 ≤ (ji12)) = true := decide_eq_true c13
      clear c13
      by_cases c14 : (ji12) ≤ (wrap64 ((ji12) + 1))
      ·rw [if_pos c14] at H
       have c14b0 := eq_true c14
       have c14b1 : decide ((ji12) ≤ (wrap64 ((ji12) + 1))) = true := decide_eq_true c14
       by_cases c15 : (wrap64 ((ji12) + 1)) ≤ 10
       ·rw [if_pos c15] at H
        have c15b0 := eq_true c15
        have c15b1 : decide ((wrap64 ((ji12) + 1)) ≤ 10) = true := decide_eq_true c15
        by_cases c16 : ((⟨#[48, 49, 50, 51, 52, 53, 54, 55, 56, 57]⟩ : ByteArray).extract ((ji12) : Int).toNat ((wrap64 ((ji12) + 1)) : Int).toNat).size + x7_1.size ≤ 9223372036854775807
        ·rw [if_pos c16] at H
         have c16b0 := eq_true c16
         have c16b1 : decide (((⟨#[48, 49, 50, 51, 52, 53, 54, 55, 56, 57]⟩ : ByteArray).extract ((ji12) : Int).toNat ((wrap64 ((ji12) + 1)) : Int).toNat).size + x7_1.size ≤ 9223372036854775807) = true := decide_eq_true c16
         try have c16b2 : (9223372036854775807 < ((⟨#[48, 49, 50, 51, 52, 53, 54, 55, 56, 57]⟩ : ByteArray).extract ((ji12) : Int).toNat ((wrap64 ((ji12) + 1)) : Int).toNat).size + x7_1.size) = False := eq_false (Nat.not_lt.2 c16)
         have H' := aM H
         clear H
         go_wp2
         go_roundg k1
         case measure => have := HK1.out; omega
         case rel => exact ⟨(((⟨#[48, 49, 50, 51, 52, 53, 54, 55, 56, 57]⟩ : ByteArray).extract ((ji12) : Int).toNat ((wrap64 ((ji12) + 1)) : Int).toNat) ++ x7_1), (wrap64 (Int.tdiv x8_1 10)), (by first | rfl | (simp; done) | (simp only [← hji12] <;> (first | rfl | simp)) | (simp [*]; done)), tF, H', ⟨by have := HK1.out; omega⟩, ⟨tK BK332.out⟩, ⟨tB HB.out⟩⟩
        ·rw [if_neg c16] at H
         exact absurd H (by simp)
       ·rw [if_neg c15] at H
        exact absurd H (by simp)
      ·rw [if_neg c14] at H
       exact absurd H (by simp)
     ·rw [if_neg c13] at H
      exact absurd H (by simp)
    ·rw [if_neg c11] at H
     have c11b0 : decide (9 < x8_1) = false := decide_eq_false c11
     clear c11
     have H' := aM H
     clear H
     obtain ⟨hcz17_0, hcz17_1, hcz17_2, hcz17_3, hfz17_0, hfz17_1, hfz17_2, hfz17_3⟩ := kY4 BK332.out
     go_wp2
     go_loopg [9] k1 (fun kq v9 w' => ∃ (x9_2 : Int), v9 = .int .i64 x9_2 ∧ Aside0 (nameplateref05_Text.l1 kq t334 x7_1 x9_2 = some (r1, r2)) ∧ Aside0 (kq ≤ k1) ∧ Aside0 (w'.heap[gb332]? = some (.cells #[.bool a0_0, .int .u64 a0_1, .int .u64 a0_2, .int .i64 a0_3] 26 (0, 0))) ∧ Aside0 (Below w.heap.size w w'))
     case atStart => exact ⟨(a0_3), tF, H', ⟨Nat.le_refl _⟩, ⟨tK BK332.out⟩, ⟨tB HB.out⟩⟩
     case round =>
      clear H'
      try clear c1
      try clear p2
      try clear c3
      try clear c3b0
      try clear c3b1
      try clear p6
      try clear c8
      try clear c11
      try clear c11b0
      try clear c13
      try clear c13b0
      try clear c13b1
      try clear c14
      try clear c14b0
      try clear c14b1
      try clear c15
      try clear c15b0
      try clear c15b1
      try clear c16
      try clear c16b0
      try clear c16b1
      try clear c16b2
      try clear hcz10_0 hcz10_1 hcz10_2 hcz10_3 hcz17_0 hcz17_1 hcz17_2 hcz17_3 hcz6_0 hcz6_1 hcz6_2 hcz6_3 hcz8_0 hcz8_1 hcz8_2 hcz8_3 hfz10_0 hfz10_1 hfz10_2 hfz10_3 hfz17_0 hfz17_1 hfz17_2 hfz17_3 hfz6_0 hfz6_1 hfz6_2 hfz6_3 hfz8_0 hfz8_1 hfz8_2 hfz8_3
      try clear p2
      obtain ⟨x9_2, rfl, HA, HK2, BK332, HB⟩ := hrel
      cases gk with
      | zero => exact absurd HA.out (by simp [nameplateref05_Text.l1])
      | succ k2 =>
       have H := HA.out
       clear HA
       simp only [nameplateref05_Text.l1] at H
       by_cases c18 : x9_2 > 9
       ·rw [if_pos c18] at H
        have c18b0 : decide (9 < x9_2) = true := decide_eq_true c18
        clear c18
        have H' := aM H
        clear H
        go_wp2
        go_roundg k2
        case measure => have := HK1.out; have := HK2.out; omega
        case rel => exact ⟨(wrap64 (Int.tdiv x9_2 10)), tF, H', ⟨by have := HK1.out; have := HK2.out; omega⟩, ⟨tK BK332.out⟩, ⟨tB HB.out⟩⟩
       ·rw [if_neg c18] at H
        have c18b0 : decide (9 < x9_2) = false := decide_eq_false c18
        clear c18
        by_cases c19 : t334.size + 1 ≤ 9223372036854775807
        ·rw [if_pos c19] at H
         have c19b0 := eq_true c19
         have c19b1 : decide (t334.size + 1 ≤ 9223372036854775807) = true := decide_eq_true c19
         try have c19b2 : (9223372036854775807 < t334.size + 1) = False := eq_false (Nat.not_lt.2 c19)
         by_cases c20 : 0 ≤ x9_2
         ·rw [if_pos c20] at H
          have c20b0 := eq_true c20
          have c20b1 : decide (0 ≤ x9_2) = true := decide_eq_true c20
          clear c20
          by_cases c21 : x9_2 ≤ (wrap64 (x9_2 + 1))
          ·rw [if_pos c21] at H
           have c21b0 := eq_true c21
           have c21b1 : decide (x9_2 ≤ (wrap64 (x9_2 + 1))) = true := decide_eq_true c21
           by_cases c22 : (wrap64 (x9_2 + 1)) ≤ 10
           ·rw [if_pos c22] at H
            have c22b0 := eq_true c22
            have c22b1 : decide ((wrap64 (x9_2 + 1)) ≤ 10) = true := decide_eq_true c22
            by_cases c23 : (t334 ++ (⟨#[47]⟩ : ByteArray)).size + ((⟨#[48, 49, 50, 51, 52, 53, 54, 55, 56, 57]⟩ : ByteArray).extract (x9_2 : Int).toNat ((wrap64 (x9_2 + 1)) : Int).toNat).size ≤ 9223372036854775807
            ·rw [if_pos c23] at H
             have c23b0 := eq_true c23
             try have c23b6 : (9223372036854775807 < t334.size + 1 + ((⟨#[48, 49, 50, 51, 52, 53, 54, 55, 56, 57]⟩ : ByteArray).extract (x9_2 : Int).toNat ((wrap64 (x9_2 + 1)) : Int).toNat).size) = False := eq_false (by have hh_ := c23; have hz_ : (t334.size + (⟨#[47]⟩ : ByteArray).size + ((⟨#[48, 49, 50, 51, 52, 53, 54, 55, 56, 57]⟩ : ByteArray).extract (x9_2 : Int).toNat ((wrap64 (x9_2 + 1)) : Int).toNat).size : Nat) = t334.size + 1 + ((⟨#[48, 49, 50, 51, 52, 53, 54, 55, 56, 57]⟩ : ByteArray).extract (x9_2 : Int).toNat ((wrap64 (x9_2 + 1)) : Int).toNat).size := (by rfl); simp only [ByteArray.size_append] at hh_; omega)
             try have c23b5 : decide (t334.size + 1 + ((⟨#[48, 49, 50, 51, 52, 53, 54, 55, 56, 57]⟩ : ByteArray).extract (x9_2 : Int).toNat ((wrap64 (x9_2 + 1)) : Int).toNat).size ≤ 9223372036854775807) = true := decide_eq_true (by have hh_ := c23; have hz_ : (t334.size + (⟨#[47]⟩ : ByteArray).size + ((⟨#[48, 49, 50, 51, 52, 53, 54, 55, 56, 57]⟩ : ByteArray).extract (x9_2 : Int).toNat ((wrap64 (x9_2 + 1)) : Int).toNat).size : Nat) = t334.size + 1 + ((⟨#[48, 49, 50, 51, 52, 53, 54, 55, 56, 57]⟩ : ByteArray).extract (x9_2 : Int).toNat ((wrap64 (x9_2 + 1)) : Int).toNat).size := (by rfl); simp only [ByteArray.size_append] at hh_; omega)
             try have c23b7 : (9223372036854775807 < t334.size + (⟨#[47]⟩ : ByteArray).size + ((⟨#[48, 49, 50, 51, 52, 53, 54, 55, 56, 57]⟩ : ByteArray).extract (x9_2 : Int).toNat ((wrap64 (x9_2 + 1)) : Int).toNat).size) = False := eq_false (by have hh_ := c23; simp only [ByteArray.size_append] at hh_; omega)
             try have c23b8 : decide (t334.size + (⟨#[47]⟩ : ByteArray).size + ((⟨#[48, 49, 50, 51, 52, 53, 54, 55, 56, 57]⟩ : ByteArray).extract (x9_2 : Int).toNat ((wrap64 (x9_2 + 1)) : Int).toNat).size ≤ 9223372036854775807) = true := decide_eq_true (by have hh_ := c23; simp only [ByteArray.size_append] at hh_; omega)
             have c23b1 : decide ((t334 ++ (⟨#[47]⟩ : ByteArray)).size + ((⟨#[48, 49, 50, 51, 52, 53, 54, 55, 56, 57]⟩ : ByteArray).extract (x9_2 : Int).toNat ((wrap64 (x9_2 + 1)) : Int).toNat).size ≤ 9223372036854775807) = true := decide_eq_true c23
             try have c23b2 : (9223372036854775807 < (t334 ++ (⟨#[47]⟩ : ByteArray)).size + ((⟨#[48, 49, 50, 51, 52, 53, 54, 55, 56, 57]⟩ : ByteArray).extract (x9_2 : Int).toNat ((wrap64 (x9_2 + 1)) : Int).toNat).size) = False := eq_false (Nat.not_lt.2 c23)
             by_cases c24 : ((t334 ++ (⟨#[47]⟩ : ByteArray)) ++ ((⟨#[48, 49, 50, 51, 52, 53, 54, 55, 56, 57]⟩ : ByteArray).extract (x9_2 : Int).toNat ((wrap64 (x9_2 + 1)) : Int).toNat)).size + x7_1.size ≤ 9223372036854775807
             ·rw [if_pos c24] at H
              have c24b0 := eq_true c24
              try have c24b6 : (9223372036854775807 < t334.size + 1 + ((⟨#[48, 49, 50, 51, 52, 53, 54, 55, 56, 57]⟩ : ByteArray).extract (x9_2 : Int).toNat ((wrap64 (x9_2 + 1)) : Int).toNat).size + x7_1.size) = False := eq_false (by have hh_ := c24; have hz_ : (t334.size + (⟨#[47]⟩ : ByteArray).size + ((⟨#[48, 49, 50, 51, 52, 53, 54, 55, 56, 57]⟩ : ByteArray).extract (x9_2 : Int).toNat ((wrap64 (x9_2 + 1)) : Int).toNat).size + x7_1.size : Nat) = t334.size + 1 + ((⟨#[48, 49, 50, 51, 52, 53, 54, 55, 56, 57]⟩ : ByteArray).extract (x9_2 : Int).toNat ((wrap64 (x9_2 + 1)) : Int).toNat).size + x7_1.size := (by rfl); simp only [ByteArray.size_append] at hh_; omega)
              try have c24b5 : decide (t334.size + 1 + ((⟨#[48, 49, 50, 51, 52, 53, 54, 55, 56, 57]⟩ : ByteArray).extract (x9_2 : Int).toNat ((wrap64 (x9_2 + 1)) : Int).toNat).size + x7_1.size ≤ 9223372036854775807) = true := decide_eq_true (by have hh_ := c24; have hz_ : (t334.size + (⟨#[47]⟩ : ByteArray).size + ((⟨#[48, 49, 50, 51, 52, 53, 54, 55, 56, 57]⟩ : ByteArray).extract (x9_2 : Int).toNat ((wrap64 (x9_2 + 1)) : Int).toNat).size + x7_1.size : Nat) = t334.size + 1 + ((⟨#[48, 49, 50, 51, 52, 53, 54, 55, 56, 57]⟩ : ByteArray).extract (x9_2 : Int).toNat ((wrap64 (x9_2 + 1)) : Int).toNat).size + x7_1.size := (by rfl); simp only [ByteArray.size_append] at hh_; omega)
              try have c24b7 : (9223372036854775807 < t334.size + (⟨#[47]⟩ : ByteArray).size + ((⟨#[48, 49, 50, 51, 52, 53, 54, 55, 56, 57]⟩ : ByteArray).extract (x9_2 : Int).toNat ((wrap64 (x9_2 + 1)) : Int).toNat).size + x7_1.size) = False := eq_false (by have hh_ := c24; simp only [ByteArray.size_append] at hh_; omega)
              try have c24b8 : decide (t334.size + (⟨#[47]⟩ : ByteArray).size + ((⟨#[48, 49, 50, 51, 52, 53, 54, 55, 56, 57]⟩ : ByteArray).extract (x9_2 : Int).toNat ((wrap64 (x9_2 + 1)) : Int).toNat).size + x7_1.size ≤ 9223372036854775807) = true := decide_eq_true (by have hh_ := c24; simp only [ByteArray.size_append] at hh_; omega)
              have c24b1 : decide (((t334 ++ (⟨#[47]⟩ : ByteArray)) ++ ((⟨#[48, 49, 50, 51, 52, 53, 54, 55, 56, 57]⟩ : ByteArray).extract (x9_2 : Int).toNat ((wrap64 (x9_2 + 1)) : Int).toNat)).size + x7_1.size ≤ 9223372036854775807) = true := decide_eq_true c24
              try have c24b2 : (9223372036854775807 < ((t334 ++ (⟨#[47]⟩ : ByteArray)) ++ ((⟨#[48, 49, 50, 51, 52, 53, 54, 55, 56, 57]⟩ : ByteArray).extract (x9_2 : Int).toNat ((wrap64 (x9_2 + 1)) : Int).toNat)).size + x7_1.size) = False := eq_false (Nat.not_lt.2 c24)
              simp only [Option.some.injEq, Prod.mk.injEq] at H
              obtain ⟨rfl, rfl⟩ := H
              go_wp2
              go_ret2
              exact ⟨tE, tB HB.out⟩
             ·rw [if_neg c24] at H
              exact absurd H (by simp)
            ·rw [if_neg c23] at H
             exact absurd H (by simp)
           ·rw [if_neg c22] at H
            exact absurd H (by simp)
          ·rw [if_neg c21] at H
           exact absurd H (by simp)
         ·rw [if_neg c20] at H
          exact absurd H (by simp)
        ·rw [if_neg c19] at H
         exact absurd H (by simp)
 ·rw [if_neg c3] at H
  have c3b0 : (t333 == 0) = false := beq_eq_false_iff_ne.mpr c3
  have c3b1 : (t333 != 0) = true := bne_iff_ne.mpr c3
  simp only [Option.some.injEq, Prod.mk.injEq] at H
  obtain ⟨rfl, rfl⟩ := H
  go_enter Tryz.func8, Tryz.ntmps8
  go_wp2_with (first | ((with_reducible refine gD 1 rfl ?_); refine bX 1 #[.bool a0_0, .int .u64 a0_1, .int .u64 a0_2, .int .i64 a0_3] 26 ?_; intro gb332 hg w25 hbox hb; have BK332 := aM hbox; have GW332 := gS hg HB.out; have GE332 := GW332; replace HB := bS HB.out hb; clear hb hbox hg; obtain ⟨hcz26_0, hcz26_1, hcz26_2, hcz26_3, hfz26_0, hfz26_1, hfz26_2, hfz26_3⟩ := kY4 BK332.out) | ((with_reducible refine gC 16 rfl ?_); refine gL (some 11) Tryz.func16 #[.agg #[.bool a0_0, .int .u64 a0_1, .int .u64 a0_2, .int .i64 a0_3]] ?_; (with_reducible refine (nameplateref05_Check.calls k a0_0 a0_1 a0_2 a0_3 t333 _ A2.out).mono ?_); rintro e w27 ⟨rfl, hb⟩; refine ⟨_, rfl, ?_⟩; replace BK332 := kB BK332.out hb; replace HB := bS HB.out hb; (try clear hb)))
  go_ret2
  exact ⟨tE, tB HB.out⟩

end Go.Proofs.YtbalmnkbodcigaaGreatDoor.ORc
namespace Go.Proofs.YtbalmnkbodcigaaGreatDoor.ORc
open Go.RowKit Go.Proofs.YtbalmnkbodcigaaGreatDoorW.PrintWords Go.Proofs.YtbalmnkbodcigaaGreatDoorW.PrintLast Go.Proofs.YtbalmnkbodcigaaGreatDoorW.PrintMore
attribute [local go_sem] max2_int min2_int max_two min_two max_three min_three max_four min_four   -- for this text's walks alone
set_option linter.unusedVariables false
set_option linter.unusedSimpArgs false

/-! ### nameplateref05_Size: function 14 -/
def nameplateref05_Size.l0 : Nat → Int → Int → Bool → Int → Int → Int → Option (Int)
 | 0, _, _, _, _, _, _ => none
 | k + 1, x3, x4, x337000, x337001, x337002, x337003 => (nameplateref05_wide.f x337000 x337001 x337002).bind fun t338 => (if x4 < t338 then (if x3 < 65536 then (nameplateref05_Size.l0 k (wrap64 (2 * x3)) (wrap64 (x4 + 1)) x337000 x337001 x337002 x337003) else (some x3)) else (some x3))
def nameplateref05_Size.f (k : Nat) (a0_0 : Bool) (a0_1 : Int) (a0_2 : Int) (a0_3 : Int) : Option (Int) := (nameplateref05_Check.f k a0_0 a0_1 a0_2 a0_3).bind fun t337 => (if t337 = 0 then (nameplateref05_Size.l0 k 1 a0_3 a0_0 a0_1 a0_2 a0_3) else (some 0))
theorem nameplateref05_Size.mono_l : ∀ k, (∀ y0 y1 y2 y3 y4 y5, LeO (nameplateref05_Size.l0 k y0 y1 y2 y3 y4 y5) (nameplateref05_Size.l0 (k + 1) y0 y1 y2 y3 y4 y5))
 | 0 => fun _ _ _ _ _ _ r h => by simp [nameplateref05_Size.l0] at h
 | k + 1 => by
  have ih0 := nameplateref05_Size.mono_l k
  ·intro y0 y1 y2 y3 y4 y5
   unfold nameplateref05_Size.l0
   repeat' first | (with_reducible first | apply ih0 | apply nameplateref05_Check.mono | exact LeO.refl _ | exact LeO.none _ | refine LeO.ite ?_ ?_ | refine LeO.bind ?_ (fun _ => ?_)) | apply ih0 | apply nameplateref05_Check.mono | exact LeO.none _ | refine LeO.ite ?_ ?_ | refine LeO.bind ?_ (fun _ => ?_)
theorem nameplateref05_Size.mono : ∀ a0 a1 a2 a3 k, LeO (nameplateref05_Size.f k a0 a1 a2 a3) (nameplateref05_Size.f (k + 1) a0 a1 a2 a3) := by
 intro a0 a1 a2 a3 k
 have ih0 := nameplateref05_Size.mono_l k
 unfold nameplateref05_Size.f
 repeat' first | (with_reducible first | apply ih0 | apply nameplateref05_Check.mono | exact LeO.refl _ | exact LeO.none _ | refine LeO.ite ?_ ?_ | refine LeO.bind ?_ (fun _ => ?_)) | apply ih0 | apply nameplateref05_Check.mono | exact LeO.none _ | refine LeO.ite ?_ ?_ | refine LeO.bind ?_ (fun _ => ?_)
set_option maxHeartbeats 8000000 in
set_option maxRecDepth 100000 in
theorem nameplateref05_Size.calls (k : Nat) (a0_0 : Bool) (a0_1 : Int) (a0_2 : Int) (a0_3 : Int) (r : Int) (w : World) (h : nameplateref05_Size.f k a0_0 a0_1 a0_2 a0_3 = some r) :
  Calls Tryz.prog 14 #[.agg #[.bool a0_0, .int .u64 a0_1, .int .u64 a0_2, .int .i64 a0_3]] w fun e w' => e = .returned (.int .i64 r) ∧ Below w.heap.size w w' := by
 have hu26 := Tryz.underlying26
 have hu24 := Tryz.underlying24
 have HB := aM (Below.refl w.heap.size w)
 have H : ((nameplateref05_Check.f k a0_0 a0_1 a0_2 a0_3).bind fun t337 => (if t337 = 0 then (nameplateref05_Size.l0 k 1 a0_3 a0_0 a0_1 a0_2 a0_3) else (some 0))) = some r := h
 clear h
 obtain ⟨t337, A2, H⟩ := oB H
 try dsimp only at H
 by_cases c3 : t337 = 0
 ·rw [if_pos c3] at H
  have c3b0 : (t337 == 0) = true := beq_iff_eq.mpr c3
  have c3b1 : (t337 != 0) = false := bne_eq_false_iff_eq.mpr c3
  clear c3
  have H' := aM H
  clear H
  go_enter Tryz.func14, Tryz.ntmps14
  go_wp2_with (first | ((with_reducible refine gD 1 rfl ?_); refine bX 1 #[.bool a0_0, .int .u64 a0_1, .int .u64 a0_2, .int .i64 a0_3] 26 ?_; intro gb336 hg w4 hbox hb; have BK336 := aM hbox; have GW336 := gS hg HB.out; have GE336 := GW336; replace HB := bS HB.out hb; clear hb hbox hg; obtain ⟨hcz5_0, hcz5_1, hcz5_2, hcz5_3, hfz5_0, hfz5_1, hfz5_2, hfz5_3⟩ := kY4 BK336.out) | ((with_reducible refine gC 16 rfl ?_); refine gL (some 6) Tryz.func16 #[.agg #[.bool a0_0, .int .u64 a0_1, .int .u64 a0_2, .int .i64 a0_3]] ?_; (with_reducible refine (nameplateref05_Check.calls k a0_0 a0_1 a0_2 a0_3 t337 _ A2.out).mono ?_); rintro e w6 ⟨rfl, hb⟩; refine ⟨_, rfl, ?_⟩; replace BK336 := kB BK336.out hb; replace HB := bS HB.out hb; (try clear hb); obtain ⟨hcz7_0, hcz7_1, hcz7_2, hcz7_3, hfz7_0, hfz7_1, hfz7_2, hfz7_3⟩ := kY4 BK336.out))
  go_loopg [3, 4] k (fun kq v3 v4 w' => ∃ (x3_1 : Int) (x4_1 : Int), v3 = .int .i64 x3_1 ∧ v4 = .int .i64 x4_1 ∧ Aside0 (nameplateref05_Size.l0 kq x3_1 x4_1 a0_0 a0_1 a0_2 a0_3 = some r) ∧ Aside0 (kq ≤ k) ∧ Aside0 (w'.heap[gb336]? = some (.cells #[.bool a0_0, .int .u64 a0_1, .int .u64 a0_2, .int .i64 a0_3] 26 (0, 0))) ∧ Aside0 (Below w.heap.size w w'))
  case atStart => exact ⟨(1), (a0_3), tF, tF, H', ⟨Nat.le_refl _⟩, ⟨tK BK336.out⟩, ⟨tB HB.out⟩⟩
  case round =>
   clear H'
   try clear c1
   try clear p2
   try clear c3
   try clear c3b0
   try clear c3b1
   try clear hcz5_0 hcz5_1 hcz5_2 hcz5_3 hcz7_0 hcz7_1 hcz7_2 hcz7_3 hfz5_0 hfz5_1 hfz5_2 hfz5_3 hfz7_0 hfz7_1 hfz7_2 hfz7_3
   obtain ⟨x3_1, x4_1, rfl, rfl, HA, HK1, BK336, HB⟩ := hrel
   cases gk with
   | zero => exact absurd HA.out (by simp [nameplateref05_Size.l0])
   | succ k1 =>
    have H := HA.out
    clear HA
    simp only [nameplateref05_Size.l0] at H
    obtain ⟨t338, A8, H⟩ := oB H
    try dsimp only at H
    by_cases c9 : x4_1 < t338
    ·rw [if_pos c9] at H
     have c9b0 : decide (x4_1 < t338) = true := decide_eq_true c9
     clear c9
     by_cases c10 : x3_1 < 65536
     ·rw [if_pos c10] at H
      have c10b0 : decide (x3_1 < 65536) = true := decide_eq_true c10
      clear c10
      have H' := aM H
      clear H
      obtain ⟨hcz11_0, hcz11_1, hcz11_2, hcz11_3, hfz11_0, hfz11_1, hfz11_2, hfz11_3⟩ := kY4 BK336.out
      go_wp2_with (first | ((with_reducible refine gC 35 rfl ?_); refine gL (some 13) Tryz.func35 #[.agg #[.bool a0_0, .int .u64 a0_1, .int .u64 a0_2]] ?_; (with_reducible refine (nameplateref05_wide.calls a0_0 a0_1 a0_2 t338 _ A8.out).mono ?_); rintro e w12 ⟨rfl, hb⟩; refine ⟨_, rfl, ?_⟩; replace BK336 := kB BK336.out hb; replace HB := bS HB.out hb; (try clear hb)))
      go_roundg k1
      case measure => have := HK1.out; omega
      case rel => exact ⟨(wrap64 (2 * x3_1)), (wrap64 (x4_1 + 1)), tF, tF, H', ⟨by have := HK1.out; omega⟩, ⟨tK BK336.out⟩, ⟨tB HB.out⟩⟩
     ·rw [if_neg c10] at H
      have c10b0 : decide (x3_1 < 65536) = false := decide_eq_false c10
      clear c10
      obtain rfl := Option.some.inj H
      obtain ⟨hcz13_0, hcz13_1, hcz13_2, hcz13_3, hfz13_0, hfz13_1, hfz13_2, hfz13_3⟩ := kY4 BK336.out
      go_wp2_with (first | ((with_reducible refine gC 35 rfl ?_); refine gL (some 13) Tryz.func35 #[.agg #[.bool a0_0, .int .u64 a0_1, .int .u64 a0_2]] ?_; (with_reducible refine (nameplateref05_wide.calls a0_0 a0_1 a0_2 t338 _ A8.out).mono ?_); rintro e w14 ⟨rfl, hb⟩; refine ⟨_, rfl, ?_⟩; replace BK336 := kB BK336.out hb; replace HB := bS HB.out hb; (try clear hb)))
      go_ret
      exact ⟨tE, tB HB.out⟩
    ·rw [if_neg c9] at H
     have c9b0 : decide (x4_1 < t338) = false := decide_eq_false c9
     clear c9
     obtain rfl := Option.some.inj H
     obtain ⟨hcz15_0, hcz15_1, hcz15_2, hcz15_3, hfz15_0, hfz15_1, hfz15_2, hfz15_3⟩ := kY4 BK336.out
     go_wp2_with (first | ((with_reducible refine gC 35 rfl ?_); refine gL (some 13) Tryz.func35 #[.agg #[.bool a0_0, .int .u64 a0_1, .int .u64 a0_2]] ?_; (with_reducible refine (nameplateref05_wide.calls a0_0 a0_1 a0_2 t338 _ A8.out).mono ?_); rintro e w16 ⟨rfl, hb⟩; refine ⟨_, rfl, ?_⟩; replace BK336 := kB BK336.out hb; replace HB := bS HB.out hb; (try clear hb)))
     go_ret
     exact ⟨tE, tB HB.out⟩
 ·rw [if_neg c3] at H
  have c3b0 : (t337 == 0) = false := beq_eq_false_iff_ne.mpr c3
  have c3b1 : (t337 != 0) = true := bne_iff_ne.mpr c3
  obtain rfl := Option.some.inj H
  go_enter Tryz.func14, Tryz.ntmps14
  go_wp2_with (first | ((with_reducible refine gD 1 rfl ?_); refine bX 1 #[.bool a0_0, .int .u64 a0_1, .int .u64 a0_2, .int .i64 a0_3] 26 ?_; intro gb336 hg w17 hbox hb; have BK336 := aM hbox; have GW336 := gS hg HB.out; have GE336 := GW336; replace HB := bS HB.out hb; clear hb hbox hg; obtain ⟨hcz18_0, hcz18_1, hcz18_2, hcz18_3, hfz18_0, hfz18_1, hfz18_2, hfz18_3⟩ := kY4 BK336.out) | ((with_reducible refine gC 16 rfl ?_); refine gL (some 6) Tryz.func16 #[.agg #[.bool a0_0, .int .u64 a0_1, .int .u64 a0_2, .int .i64 a0_3]] ?_; (with_reducible refine (nameplateref05_Check.calls k a0_0 a0_1 a0_2 a0_3 t337 _ A2.out).mono ?_); rintro e w19 ⟨rfl, hb⟩; refine ⟨_, rfl, ?_⟩; replace BK336 := kB BK336.out hb; replace HB := bS HB.out hb; (try clear hb)))
  go_ret
  exact ⟨tE, tB HB.out⟩

def nameplateref04_Add.f (a0_0 : Bool) (a0_1 a0_2 : Int) (a1 : Int) : Option (Bool × Int × Int × Bool) := AddrLib.raF nameplateref04_Check.f a0_0 a0_1 a0_2 a1
theorem nameplateref04_Add.calls (a0_0 : Bool) (a0_1 a0_2 : Int) (a1 : Int) (r1 : Bool) (r2 r3 : Int) (r4 : Bool) (w : World) (h : nameplateref04_Add.f a0_0 a0_1 a0_2 a1 = some (r1, r2, r3, r4)) :
  Calls Tryz.prog 33 #[.agg #[.bool a0_0, .int .u64 a0_1, .int .u64 a0_2], .int .u64 a1] w fun e w' => e = .returned (.tuple #[.agg #[.bool r1, .int .u64 r2, .int .u64 r3], .bool r4]) ∧ Below w.heap.size w w' :=
 AddrLib.refadd_calls nameplateref04_Check.f (fun b x y e w h => nameplateref04_Check.calls b x y e w h) a0_0 a0_1 a0_2 a1 (r1, r2, r3, r4) h w

/-! ### nameplateref05_At: function 10 -/
def nameplateref05_At.f (k : Nat) (a0_0 : Bool) (a0_1 : Int) (a0_2 : Int) (a0_3 : Int) (a1 : Int) : Option (Bool × Int × Int × Bool) := if a1 < 0 then (some (false, 0, 0, false)) else ((nameplateref05_Size.f k a0_0 a0_1 a0_2 a0_3).bind fun t341 => (if a1 ≥ t341 then (some (false, 0, 0, false)) else ((nameplateref04_Add.f a0_0 a0_1 a0_2 (IntKind.u64.wrap (a1))).bind fun bt342 => (some (bt342.1, bt342.2.1, bt342.2.2.1, bt342.2.2.2)))))
theorem nameplateref05_At.mono : ∀ a0 a1 a2 a3 a4 k, LeO (nameplateref05_At.f k a0 a1 a2 a3 a4) (nameplateref05_At.f (k + 1) a0 a1 a2 a3 a4) := by
 intro a0 a1 a2 a3 a4 k
 unfold nameplateref05_At.f
 repeat' first | (with_reducible first | apply nameplateref05_Size.mono | exact LeO.refl _ | exact LeO.none _ | refine LeO.ite ?_ ?_ | refine LeO.bind ?_ (fun _ => ?_)) | apply nameplateref05_Size.mono | exact LeO.none _ | refine LeO.ite ?_ ?_ | refine LeO.bind ?_ (fun _ => ?_)
set_option maxHeartbeats 8000000 in
set_option maxRecDepth 100000 in
theorem nameplateref05_At.calls (k : Nat) (a0_0 : Bool) (a0_1 : Int) (a0_2 : Int) (a0_3 : Int) (a1 : Int) (r1 : Bool) (r2 : Int) (r3 : Int) (r4 : Bool) (w : World) (h : nameplateref05_At.f k a0_0 a0_1 a0_2 a0_3 a1 = some (r1, r2, r3, r4)) :
  Calls Tryz.prog 10 #[.agg #[.bool a0_0, .int .u64 a0_1, .int .u64 a0_2, .int .i64 a0_3], .int .i64 a1] w fun e w' => e = .returned (.tuple #[.agg #[.bool r1, .int .u64 r2, .int .u64 r3], .bool r4]) ∧ Below w.heap.size w w' := by
 have hu26 := Tryz.underlying26
 have hu24 := Tryz.underlying24
 have HB := aM (Below.refl w.heap.size w)
 have H : (if a1 < 0 then (some (false, 0, 0, false)) else ((nameplateref05_Size.f k a0_0 a0_1 a0_2 a0_3).bind fun t341 => (if a1 ≥ t341 then (some (false, 0, 0, false)) else ((nameplateref04_Add.f a0_0 a0_1 a0_2 (IntKind.u64.wrap (a1))).bind fun bt342 => (some (bt342.1, bt342.2.1, bt342.2.2.1, bt342.2.2.2)))))) = some (r1, r2, r3, r4) := h
 clear h
 by_cases c3 : a1 < 0
 ·rw [if_pos c3] at H
  have c3b0 : decide (a1 < 0) = true := decide_eq_true c3
  clear c3
  simp only [Option.some.injEq, Prod.mk.injEq] at H
  obtain ⟨rfl, rfl, rfl, rfl⟩ := H
  go_enter Tryz.func10, Tryz.ntmps10
  go_wp2_with (first | ((with_reducible refine gD 2 rfl ?_); refine bX 2 #[.bool a0_0, .int .u64 a0_1, .int .u64 a0_2, .int .i64 a0_3] 26 ?_; intro gb339 hg w4 hbox hb; have BK339 := aM hbox; have GW339 := gS hg HB.out; have GE339 := GW339; replace HB := bS HB.out hb; clear hb hbox hg) | ((with_reducible refine gD 4 rfl ?_); refine bX 4 #[.bool false, .int .u64 0, .int .u64 0] 24 ?_; intro gb340 hg w5 hbox hb; have BK340 := aM hbox; have GW340 := gS hg HB.out; have GE340 := GW340; have NB339_340 := nB hg BK339.out; have NB340_339 := nS (nB hg BK339.out); replace BK339 := kB BK339.out hb; replace HB := bS HB.out hb; clear hb hbox hg; have hnb6 := NB340_339.out; have hnc6 := NB339_340.out; obtain ⟨hcz7_0, hcz7_1, hcz7_2, hfz7_0, hfz7_1, hfz7_2⟩ := kY3 BK340.out))
  refine bodyPost_ret (results_ct rfl _ _ gb340 24 #[.bool false, .int .u64 0, .int .u64 0] (0, 0) _ rfl (tP BK340.out) Tryz.underlying24 rfl (by kernel_rfl)) rfl ?_
  exact ⟨tE, tB HB.out⟩
 ·rw [if_neg c3] at H
  have c3b0 : decide (a1 < 0) = false := decide_eq_false c3
  clear c3
  obtain ⟨t341, A8, H⟩ := oB H
  try dsimp only at H
  by_cases c9 : a1 ≥ t341
  ·rw [if_pos c9] at H
   have c9b0 : decide (t341 ≤ a1) = true := decide_eq_true c9
   clear c9
   simp only [Option.some.injEq, Prod.mk.injEq] at H
   obtain ⟨rfl, rfl, rfl, rfl⟩ := H
   go_enter Tryz.func10, Tryz.ntmps10
   go_wp2_with (first | ((with_reducible refine gD 2 rfl ?_); refine bX 2 #[.bool a0_0, .int .u64 a0_1, .int .u64 a0_2, .int .i64 a0_3] 26 ?_; intro gb339 hg w10 hbox hb; have BK339 := aM hbox; have GW339 := gS hg HB.out; have GE339 := GW339; replace HB := bS HB.out hb; clear hb hbox hg) | ((with_reducible refine gD 4 rfl ?_); refine bX 4 #[.bool false, .int .u64 0, .int .u64 0] 24 ?_; intro gb340 hg w11 hbox hb; have BK340 := aM hbox; have GW340 := gS hg HB.out; have GE340 := GW340; have NB339_340 := nB hg BK339.out; have NB340_339 := nS (nB hg BK339.out); replace BK339 := kB BK339.out hb; replace HB := bS HB.out hb; clear hb hbox hg; have hnb12 := NB339_340.out; have hnc12 := NB340_339.out; obtain ⟨hcz13_0, hcz13_1, hcz13_2, hcz13_3, hfz13_0, hfz13_1, hfz13_2, hfz13_3⟩ := kY4 BK339.out) | (go_at_call 14; (with_reducible refine (nameplateref05_Size.calls k a0_0 a0_1 a0_2 a0_3 t341 _ A8.out).mono ?_); rintro e w14 ⟨rfl, hb⟩; replace BK339 := kB BK339.out hb; replace BK340 := kB BK340.out hb; replace HB := bS HB.out hb; (try clear hb); obtain ⟨hcz15_0, hcz15_1, hcz15_2, hfz15_0, hfz15_1, hfz15_2⟩ := kY3 BK340.out))
   refine bodyPost_ret (results_ct rfl _ _ gb340 24 #[.bool false, .int .u64 0, .int .u64 0] (0, 0) _ rfl (tP BK340.out) Tryz.underlying24 rfl (by kernel_rfl)) rfl ?_
   exact ⟨tE, tB HB.out⟩
  ·rw [if_neg c9] at H
   have c9b0 : decide (t341 ≤ a1) = false := decide_eq_false c9
   clear c9
   obtain ⟨⟨t342, t343, t344, t345⟩, A16, H⟩ := oB H
   try dsimp only at H
   simp only [Option.some.injEq, Prod.mk.injEq] at H
   obtain ⟨rfl, rfl, rfl, rfl⟩ := H
   go_enter Tryz.func10, Tryz.ntmps10
   go_wp2_with (first | ((with_reducible refine gD 2 rfl ?_); refine bX 2 #[.bool a0_0, .int .u64 a0_1, .int .u64 a0_2, .int .i64 a0_3] 26 ?_; intro gb339 hg w17 hbox hb; have BK339 := aM hbox; have GW339 := gS hg HB.out; have GE339 := GW339; replace HB := bS HB.out hb; clear hb hbox hg) | ((with_reducible refine gD 4 rfl ?_); refine bX 4 #[.bool false, .int .u64 0, .int .u64 0] 24 ?_; intro gb340 hg w18 hbox hb; have BK340 := aM hbox; have GW340 := gS hg HB.out; have GE340 := GW340; have NB339_340 := nB hg BK339.out; have NB340_339 := nS (nB hg BK339.out); replace BK339 := kB BK339.out hb; replace HB := bS HB.out hb; clear hb hbox hg; have hnb19 := NB339_340.out; have hnc19 := NB340_339.out; obtain ⟨hcz20_0, hcz20_1, hcz20_2, hcz20_3, hfz20_0, hfz20_1, hfz20_2, hfz20_3⟩ := kY4 BK339.out) | (go_at_call 14; (with_reducible refine (nameplateref05_Size.calls k a0_0 a0_1 a0_2 a0_3 t341 _ A8.out).mono ?_); rintro e w21 ⟨rfl, hb⟩; replace BK339 := kB BK339.out hb; replace BK340 := kB BK340.out hb; replace HB := bS HB.out hb; (try clear hb); obtain ⟨hcz22_0, hcz22_1, hcz22_2, hcz22_3, hfz22_0, hfz22_1, hfz22_2, hfz22_3⟩ := kY4 BK339.out) | ((with_reducible refine gC 33 rfl ?_); refine gL (some 19) Tryz.func33 #[.agg #[.bool a0_0, .int .u64 a0_1, .int .u64 a0_2], .int .u64 (IntKind.u64.wrap (a1))] ?_; (with_reducible refine (nameplateref04_Add.calls a0_0 a0_1 a0_2 (IntKind.u64.wrap (a1)) t342 t343 t344 t345 _ A16.out).mono ?_); rintro e w23 ⟨rfl, hb⟩; refine ⟨_, rfl, ?_⟩; replace BK339 := kB BK339.out hb; replace BK340 := kB BK340.out hb; replace HB := bS HB.out hb; (try clear hb); obtain ⟨hcz24_0, hcz24_1, hcz24_2, hfz24_0, hfz24_1, hfz24_2⟩ := kY3 BK340.out))
   refine bodyPost_ret (results_ct rfl _ _ gb340 24 #[.bool t342, .int .u64 t343, .int .u64 t344] (0, 0) _ rfl (tP BK340.out) Tryz.underlying24 rfl (by kernel_rfl)) rfl ?_
   exact ⟨tE, tB HB.out⟩

end Go.Proofs.YtbalmnkbodcigaaGreatDoor.ORc
namespace Go.Proofs.YtbalmnkbodcigaaGreatDoor.ORc
open Go.RowKit Go.Proofs.YtbalmnkbodcigaaGreatDoorW.PrintWords Go.Proofs.YtbalmnkbodcigaaGreatDoorW.PrintLast Go.Proofs.YtbalmnkbodcigaaGreatDoorW.PrintMore
attribute [local go_sem] max2_int min2_int max_two min_two max_three min_three max_four min_four   -- for this text's walks alone
set_option linter.unusedVariables false
set_option linter.unusedSimpArgs false

attribute [local go_sem high] eqA24
/-! ### ranges_Has: function 17 -/
def ranges_Has.f (a0_0 : Bool) (a0_1 : Int) (a0_2 : Int) (a0_3 : Int) (a1_0 : Bool) (a1_1 : Int) (a1_2 : Int) : Option (Bool) := (ranges_Check.f a0_0 a0_1 a0_2 a0_3).bind fun t348 => (if t348 = 0 then ((addr_Check.f a1_0 a1_1 a1_2).bind fun t349 => (if t349 = 0 then (if (a1_0 == a0_0) = true then ((ranges_head.f a1_0 a1_1 a1_2 a0_3).bind fun bt350 => (some (bt350.1 == a0_0 && (bt350.2.1 == a0_1 && (bt350.2.2 == a0_2))))) else (some false)) else (some false))) else (some false))
def ranges_Has.T1 : Bool × List (List Nat × List Nat) := (true, [([], []), ([0], [0]), ([1], [1]), ([2, 1], [2]), ([3], [3]), ([4, 3, 3], [3, 4]), ([5, 3], [3, 5]), ([3, 6], [3, 6]), ([7, 5], [7]), ([8], [8]), ([9, 8], [8, 9]), ([8], [8]), ([11, 8], [8, 11]), ([12, 8], [8, 12]), ([10, 13, 8], [8, 10, 13]), ([8, 14], [8, 14]), ([15, 8], [15]), ([16], [16]), ([16], [16]), ([18, 16], [16, 18]), ([17, 19, 16, 16], [16, 17, 19]), ([16], [16]), ([21, 16], [16, 21]), ([20, 22, 16], [16, 20, 22]), ([16, 23], [16, 23]), ([24, 20, 0, 1, 2, 3, 4, 5, 6, 7, 8, 9, 10, 11, 12, 13, 14, 15, 16, 17, 18, 19, 20, 21, 22, 23, 24], [24])])
def ranges_Has.B1 : List Nat := [0, 1, 3, 7, 15, 31, 63, 127, 255, 511, 1023, 511, 2559, 6655, 16383, 32767, 65535, 131071, 131071, 393215, 1048575, 131071, 2228223, 8388607, 16777215, 33554431]
theorem ranges_Has.tab1 : rtab .any (opsOf Tryz.f17 1) = ranges_Has.T1 := by kernel_rfl
theorem ranges_Has.bits1 : waitsOk ranges_Has.T1.2 ranges_Has.B1 = true := by kernel_rfl
set_option maxHeartbeats 8000000 in
set_option maxRecDepth 100000 in
theorem ranges_Has.calls (a0_0 : Bool) (a0_1 : Int) (a0_2 : Int) (a0_3 : Int) (a1_0 : Bool) (a1_1 : Int) (a1_2 : Int) (r : Bool) (w : World) (h : ranges_Has.f a0_0 a0_1 a0_2 a0_3 a1_0 a1_1 a1_2 = some r) :
  Calls Tryz.prog 17 #[.agg #[.bool a0_0, .int .u64 a0_1, .int .u64 a0_2, .int .i64 a0_3], .agg #[.bool a1_0, .int .u64 a1_1, .int .u64 a1_2]] w fun e w' => e = .returned (.bool r) ∧ Below w.heap.size w w' := by
 have hu26 := Tryz.underlying26
 have hu24 := Tryz.underlying24
 have HB := aM (Below.refl w.heap.size w)
 have H : ((ranges_Check.f a0_0 a0_1 a0_2 a0_3).bind fun t348 => (if t348 = 0 then ((addr_Check.f a1_0 a1_1 a1_2).bind fun t349 => (if t349 = 0 then (if (a1_0 == a0_0) = true then ((ranges_head.f a1_0 a1_1 a1_2 a0_3).bind fun bt350 => (some (bt350.1 == a0_0 && (bt350.2.1 == a0_1 && (bt350.2.2 == a0_2))))) else (some false)) else (some false))) else (some false))) = some r := h
 clear h
 obtain ⟨t348, A3, H⟩ := oB H
 try dsimp only at H
 by_cases c4 : t348 = 0
 ·rw [if_pos c4] at H
  have c4b0 : (t348 == 0) = true := beq_iff_eq.mpr c4
  have c4b1 : (t348 != 0) = false := bne_eq_false_iff_eq.mpr c4
  clear c4
  obtain ⟨t349, A5, H⟩ := oB H
  try dsimp only at H
  by_cases c6 : t349 = 0
  ·rw [if_pos c6] at H
   have c6b0 : (t349 == 0) = true := beq_iff_eq.mpr c6
   have c6b1 : (t349 != 0) = false := bne_eq_false_iff_eq.mpr c6
   clear c6
   by_cases c7 : (a1_0 == a0_0) = true
   ·rw [if_pos c7] at H
    have c7b0 : (a1_0 == a0_0) = true := c7
    (try (have c7b1 : decide (a1_0 = a0_0) = true := by simpa using c7))
    (try (have c7b2 : (a1_0 == a0_0) = true := by simpa using c7))
    clear c7
    obtain ⟨⟨t350, t351, t352⟩, A8, H⟩ := oB H
    try dsimp only at H
    obtain rfl := Option.some.inj H
    go_enter Tryz.func17, Tryz.ntmps17
    try go_wp2_with (first | ((with_reducible refine gD 2 rfl ?_); refine bX 2 #[.bool a0_0, .int .u64 a0_1, .int .u64 a0_2, .int .i64 a0_3] 26 ?_; intro gb346 hg w9 hbox hb; have BK346 := aM hbox; have GW346 := gS hg HB.out; have GE346 := GW346; replace HB := bS HB.out hb; clear hb hbox hg) | ((with_reducible refine gD 3 rfl ?_); refine bX 3 #[.bool a1_0, .int .u64 a1_1, .int .u64 a1_2] 24 ?_; intro gb347 hg w10 hbox hb; have BK347 := aM hbox; have GW347 := gS hg HB.out; have GE347 := GW347; have NB346_347 := nB hg BK346.out; have NB347_346 := nS (nB hg BK346.out); replace BK346 := kB BK346.out hb; replace HB := bS HB.out hb; clear hb hbox hg))
    replace BK346 := aM (kD BK346.out)
    replace BK347 := aM (kD BK347.out)
    replace HB := aM (bD HB.out)
    refine pS 26 (S := fun w' => cZ4 w' gb346 (.bool a0_0) (.int .u64 a0_1) (.int .u64 a0_2) (.int .i64 a0_3) ∧ cZ3 w' gb347 (.bool a1_0) (.int .u64 a1_1) (.int .u64 a1_2)) (ds := []) ⟨kZ4 BK346.out, kZ3 BK347.out⟩ (fun hHeld => ?_); refine with_tabW ranges_Has.tab1 ranges_Has.bits1 (fun HT_ HW_ => ?_)
    generalize w10.drew = w11 at BK346 BK347 HB hHeld ⊢
    refine pT 0 5 ?_
    refine pO 1 6 (fun K hK => ?_)
    refine gO Tryz.func15 #[.agg #[.bool a0_0, .int .u64 a0_1, .int .u64 a0_2, .int .i64 a0_3]] ?_
    with_reducible refine (ranges_Check.calls a0_0 a0_1 a0_2 a0_3 t348 _ A3.out).mono ?_
    rintro e w12 ⟨rfl, hb⟩
    refine ⟨_, rfl, ?_⟩
    replace BK346 := kB BK346.out hb
    replace BK347 := kB BK347.out hb
    replace HB := bS HB.out hb
    (try clear hb)
    refine hK.out _ _ ⟨kZ4 BK346.out, kZ3 BK347.out⟩ (fun hHeld => ?_)
    clear hK K
    refine pN ?_
    refine pP 2 7 ?_
    refine pP 3 8 ?_
    refine pT 4 9 ?_
    refine pO 5 10 (fun K hK => ?_)
    refine gO Tryz.func36 #[.agg #[.bool a1_0, .int .u64 a1_1, .int .u64 a1_2]] ?_
    with_reducible refine (addr_Check.calls a1_0 a1_1 a1_2 t349 _ A5.out).mono ?_
    rintro e w13 ⟨rfl, hb⟩
    refine ⟨_, rfl, ?_⟩
    replace BK346 := kB BK346.out hb
    replace BK347 := kB BK347.out hb
    replace HB := bS HB.out hb
    (try clear hb)
    refine hK.out _ _ ⟨kZ4 BK346.out, kZ3 BK347.out⟩ (fun hHeld => ?_)
    clear hK K
    refine pN ?_
    refine pP 6 11 ?_
    refine pP 7 12 ?_
    refine pP 8 13 ?_
    refine pP 9 14 ?_
    refine pP 11 16 ?_
    refine pP 12 17 ?_
    refine pT 10 15 ?_
    refine pT 13 18 ?_
    refine pP 14 19 ?_
    refine pP 15 20 ?_
    refine pP 16 21 ?_
    refine pP 18 23 ?_
    refine pP 21 26 ?_
    refine pT 17 22 ?_
    refine pT 19 24 ?_
    refine pT 22 27 ?_
    refine pO 20 25 (fun K hK => ?_)
    refine gO Tryz.func37 #[.agg #[.bool a1_0, .int .u64 a1_1, .int .u64 a1_2], .int .i64 a0_3] ?_
    with_reducible refine (ranges_head.calls a1_0 a1_1 a1_2 a0_3 t350 t351 t352 _ A8.out).mono ?_
    rintro e w14 ⟨rfl, hb⟩
    refine ⟨_, rfl, ?_⟩
    replace BK346 := kB BK346.out hb
    replace BK347 := kB BK347.out hb
    replace HB := bS HB.out hb
    (try clear hb)
    refine hK.out _ _ ⟨kZ4 BK346.out, kZ3 BK347.out⟩ (fun hHeld => ?_)
    clear hK K
    refine pN ?_
    refine pP 23 28 ?_
    refine pP 24 29 ?_
    refine pP 25 4 ?_
    refine pD ?_
    try go_wp2
    go_ret
    exact ⟨tE, tB HB.out⟩
   ·rw [if_neg c7] at H
    have c7b0 : (a1_0 == a0_0) = false := by simpa using c7
    (try (have c7b1 : decide (a1_0 = a0_0) = false := by simpa using c7))
    (try (have c7b2 : (a1_0 == a0_0) = false := by simpa using c7))
    (try (have c7b3 : ¬ (a1_0 = a0_0) := by simpa using c7))
    clear c7
    obtain rfl := Option.some.inj H
    go_enter Tryz.func17, Tryz.ntmps17
    try go_wp2_with (first | ((with_reducible refine gD 2 rfl ?_); refine bX 2 #[.bool a0_0, .int .u64 a0_1, .int .u64 a0_2, .int .i64 a0_3] 26 ?_; intro gb346 hg w15 hbox hb; have BK346 := aM hbox; have GW346 := gS hg HB.out; have GE346 := GW346; replace HB := bS HB.out hb; clear hb hbox hg) | ((with_reducible refine gD 3 rfl ?_); refine bX 3 #[.bool a1_0, .int .u64 a1_1, .int .u64 a1_2] 24 ?_; intro gb347 hg w16 hbox hb; have BK347 := aM hbox; have GW347 := gS hg HB.out; have GE347 := GW347; have NB346_347 := nB hg BK346.out; have NB347_346 := nS (nB hg BK346.out); replace BK346 := kB BK346.out hb; replace HB := bS HB.out hb; clear hb hbox hg))
    replace BK346 := aM (kD BK346.out)
    replace BK347 := aM (kD BK347.out)
    replace HB := aM (bD HB.out)
    refine pS 26 (S := fun w' => cZ4 w' gb346 (.bool a0_0) (.int .u64 a0_1) (.int .u64 a0_2) (.int .i64 a0_3) ∧ cZ3 w' gb347 (.bool a1_0) (.int .u64 a1_1) (.int .u64 a1_2)) (ds := []) ⟨kZ4 BK346.out, kZ3 BK347.out⟩ (fun hHeld => ?_); refine with_tabW ranges_Has.tab1 ranges_Has.bits1 (fun HT_ HW_ => ?_)
    generalize w16.drew = w17 at BK346 BK347 HB hHeld ⊢
    refine pT 0 5 ?_
    refine pO 1 6 (fun K hK => ?_)
    refine gO Tryz.func15 #[.agg #[.bool a0_0, .int .u64 a0_1, .int .u64 a0_2, .int .i64 a0_3]] ?_
    with_reducible refine (ranges_Check.calls a0_0 a0_1 a0_2 a0_3 t348 _ A3.out).mono ?_
    rintro e w18 ⟨rfl, hb⟩
    refine ⟨_, rfl, ?_⟩
    replace BK346 := kB BK346.out hb
    replace BK347 := kB BK347.out hb
    replace HB := bS HB.out hb
    (try clear hb)
    refine hK.out _ _ ⟨kZ4 BK346.out, kZ3 BK347.out⟩ (fun hHeld => ?_)
    clear hK K
    refine pN ?_
    refine pP 2 7 ?_
    refine pP 3 8 ?_
    refine pT 4 9 ?_
    refine pO 5 10 (fun K hK => ?_)
    refine gO Tryz.func36 #[.agg #[.bool a1_0, .int .u64 a1_1, .int .u64 a1_2]] ?_
    with_reducible refine (addr_Check.calls a1_0 a1_1 a1_2 t349 _ A5.out).mono ?_
    rintro e w19 ⟨rfl, hb⟩
    refine ⟨_, rfl, ?_⟩
    replace BK346 := kB BK346.out hb
    replace BK347 := kB BK347.out hb
    replace HB := bS HB.out hb
    (try clear hb)
    refine hK.out _ _ ⟨kZ4 BK346.out, kZ3 BK347.out⟩ (fun hHeld => ?_)
    clear hK K
    refine pN ?_
    refine pP 6 11 ?_
    refine pP 7 12 ?_
    refine pP 8 13 ?_
    refine pP 9 14 ?_
    refine pP 11 16 ?_
    refine pP 12 17 ?_
    refine pT 10 15 ?_
    refine pT 13 18 ?_
    refine pP 14 19 ?_
    refine pP 15 20 ?_
    refine pP 16 21 ?_
    refine pU 17 22 ?_
    refine pU 18 23 ?_
    refine pU 19 24 ?_
    refine pU 20 25 ?_
    refine pU 21 26 ?_
    refine pU 22 27 ?_
    refine pU 23 28 ?_
    refine pP 24 29 ?_
    refine pP 25 4 ?_
    refine pD ?_
    try go_wp2
    go_ret
    exact ⟨tE, tB HB.out⟩
  ·rw [if_neg c6] at H
   have c6b0 : (t349 == 0) = false := beq_eq_false_iff_ne.mpr c6
   have c6b1 : (t349 != 0) = true := bne_iff_ne.mpr c6
   obtain rfl := Option.some.inj H
   go_enter Tryz.func17, Tryz.ntmps17
   try go_wp2_with (first | ((with_reducible refine gD 2 rfl ?_); refine bX 2 #[.bool a0_0, .int .u64 a0_1, .int .u64 a0_2, .int .i64 a0_3] 26 ?_; intro gb346 hg w20 hbox hb; have BK346 := aM hbox; have GW346 := gS hg HB.out; have GE346 := GW346; replace HB := bS HB.out hb; clear hb hbox hg) | ((with_reducible refine gD 3 rfl ?_); refine bX 3 #[.bool a1_0, .int .u64 a1_1, .int .u64 a1_2] 24 ?_; intro gb347 hg w21 hbox hb; have BK347 := aM hbox; have GW347 := gS hg HB.out; have GE347 := GW347; have NB346_347 := nB hg BK346.out; have NB347_346 := nS (nB hg BK346.out); replace BK346 := kB BK346.out hb; replace HB := bS HB.out hb; clear hb hbox hg))
   replace BK346 := aM (kD BK346.out)
   replace BK347 := aM (kD BK347.out)
   replace HB := aM (bD HB.out)
   refine pS 26 (S := fun w' => cZ4 w' gb346 (.bool a0_0) (.int .u64 a0_1) (.int .u64 a0_2) (.int .i64 a0_3) ∧ cZ3 w' gb347 (.bool a1_0) (.int .u64 a1_1) (.int .u64 a1_2)) (ds := []) ⟨kZ4 BK346.out, kZ3 BK347.out⟩ (fun hHeld => ?_); refine with_tabW ranges_Has.tab1 ranges_Has.bits1 (fun HT_ HW_ => ?_)
   generalize w21.drew = w22 at BK346 BK347 HB hHeld ⊢
   refine pT 0 5 ?_
   refine pO 1 6 (fun K hK => ?_)
   refine gO Tryz.func15 #[.agg #[.bool a0_0, .int .u64 a0_1, .int .u64 a0_2, .int .i64 a0_3]] ?_
   with_reducible refine (ranges_Check.calls a0_0 a0_1 a0_2 a0_3 t348 _ A3.out).mono ?_
   rintro e w23 ⟨rfl, hb⟩
   refine ⟨_, rfl, ?_⟩
   replace BK346 := kB BK346.out hb
   replace BK347 := kB BK347.out hb
   replace HB := bS HB.out hb
   (try clear hb)
   refine hK.out _ _ ⟨kZ4 BK346.out, kZ3 BK347.out⟩ (fun hHeld => ?_)
   clear hK K
   refine pN ?_
   refine pP 2 7 ?_
   refine pP 3 8 ?_
   refine pT 4 9 ?_
   refine pO 5 10 (fun K hK => ?_)
   refine gO Tryz.func36 #[.agg #[.bool a1_0, .int .u64 a1_1, .int .u64 a1_2]] ?_
   with_reducible refine (addr_Check.calls a1_0 a1_1 a1_2 t349 _ A5.out).mono ?_
   rintro e w24 ⟨rfl, hb⟩
   refine ⟨_, rfl, ?_⟩
   replace BK346 := kB BK346.out hb
   replace BK347 := kB BK347.out hb
   replace HB := bS HB.out hb
   (try clear hb)
   refine hK.out _ _ ⟨kZ4 BK346.out, kZ3 BK347.out⟩ (fun hHeld => ?_)
   clear hK K
   refine pN ?_
   refine pP 6 11 ?_
   refine pP 7 12 ?_
   refine pP 8 13 ?_
   refine pU 9 14 ?_
   refine pU 10 15 ?_
   refine pU 11 16 ?_
   refine pU 12 17 ?_
   refine pU 13 18 ?_
   refine pU 14 19 ?_
   refine pP 15 20 ?_
   refine pP 16 21 ?_
   refine pU 17 22 ?_
   refine pU 18 23 ?_
   refine pU 19 24 ?_
   refine pU 20 25 ?_
   refine pU 21 26 ?_
   refine pU 22 27 ?_
   refine pU 23 28 ?_
   refine pP 24 29 ?_
   refine pP 25 4 ?_
   refine pD ?_
   try go_wp2
   go_ret
   exact ⟨tE, tB HB.out⟩
 ·rw [if_neg c4] at H
  have c4b0 : (t348 == 0) = false := beq_eq_false_iff_ne.mpr c4
  have c4b1 : (t348 != 0) = true := bne_iff_ne.mpr c4
  obtain rfl := Option.some.inj H
  go_enter Tryz.func17, Tryz.ntmps17
  try go_wp2_with (first | ((with_reducible refine gD 2 rfl ?_); refine bX 2 #[.bool a0_0, .int .u64 a0_1, .int .u64 a0_2, .int .i64 a0_3] 26 ?_; intro gb346 hg w25 hbox hb; have BK346 := aM hbox; have GW346 := gS hg HB.out; have GE346 := GW346; replace HB := bS HB.out hb; clear hb hbox hg) | ((with_reducible refine gD 3 rfl ?_); refine bX 3 #[.bool a1_0, .int .u64 a1_1, .int .u64 a1_2] 24 ?_; intro gb347 hg w26 hbox hb; have BK347 := aM hbox; have GW347 := gS hg HB.out; have GE347 := GW347; have NB346_347 := nB hg BK346.out; have NB347_346 := nS (nB hg BK346.out); replace BK346 := kB BK346.out hb; replace HB := bS HB.out hb; clear hb hbox hg))
  replace BK346 := aM (kD BK346.out)
  replace BK347 := aM (kD BK347.out)
  replace HB := aM (bD HB.out)
  refine pS 26 (S := fun w' => cZ4 w' gb346 (.bool a0_0) (.int .u64 a0_1) (.int .u64 a0_2) (.int .i64 a0_3)) (ds := []) (kZ4 BK346.out) (fun hHeld => ?_); refine with_tabW ranges_Has.tab1 ranges_Has.bits1 (fun HT_ HW_ => ?_)
  generalize w26.drew = w27 at BK346 BK347 HB hHeld ⊢
  refine pT 0 5 ?_
  refine pO 1 6 (fun K hK => ?_)
  refine gO Tryz.func15 #[.agg #[.bool a0_0, .int .u64 a0_1, .int .u64 a0_2, .int .i64 a0_3]] ?_
  with_reducible refine (ranges_Check.calls a0_0 a0_1 a0_2 a0_3 t348 _ A3.out).mono ?_
  rintro e w28 ⟨rfl, hb⟩
  refine ⟨_, rfl, ?_⟩
  replace BK346 := kB BK346.out hb
  replace BK347 := kB BK347.out hb
  replace HB := bS HB.out hb
  (try clear hb)
  refine hK.out _ _ (kZ4 BK346.out) (fun hHeld => ?_)
  clear hK K
  refine pN ?_
  refine pP 2 7 ?_
  refine pP 3 8 ?_
  refine pU 4 9 ?_
  refine pU 5 10 ?_
  refine pU 6 11 ?_
  refine pP 7 12 ?_
  refine pP 8 13 ?_
  refine pU 9 14 ?_
  refine pU 10 15 ?_
  refine pU 11 16 ?_
  refine pU 12 17 ?_
  refine pU 13 18 ?_
  refine pU 14 19 ?_
  refine pP 15 20 ?_
  refine pP 16 21 ?_
  refine pU 17 22 ?_
  refine pU 18 23 ?_
  refine pU 19 24 ?_
  refine pU 20 25 ?_
  refine pU 21 26 ?_
  refine pU 22 27 ?_
  refine pU 23 28 ?_
  refine pP 24 29 ?_
  refine pP 25 4 ?_
  refine pD ?_
  try go_wp2
  go_ret
  exact ⟨tE, tB HB.out⟩

end Go.Proofs.YtbalmnkbodcigaaGreatDoor.ORc
namespace Go.Proofs.YtbalmnkbodcigaaGreatDoor.ORc
open Go.RowKit Go.Proofs.YtbalmnkbodcigaaGreatDoorW.PrintWords Go.Proofs.YtbalmnkbodcigaaGreatDoorW.PrintLast Go.Proofs.YtbalmnkbodcigaaGreatDoorW.PrintMore
attribute [local go_sem] max2_int min2_int max_two min_two max_three min_three max_four min_four   -- for this text's walks alone
set_option linter.unusedVariables false
set_option linter.unusedSimpArgs false

/-! ### ranges_Index: function 11 -/
def ranges_Index.f (a0_0 : Bool) (a0_1 : Int) (a0_2 : Int) (a0_3 : Int) (a1_0 : Bool) (a1_1 : Int) (a1_2 : Int) : Option (Int × Bool) := (ranges_Has.f a0_0 a0_1 a0_2 a0_3 a1_0 a1_1 a1_2).bind fun t355 => (if t355 = true then (if a1_1 = a0_1 then ((ranges_Size.f a0_0 a0_1 a0_2 a0_3).bind fun t356 => (if (IntKind.u64.wrap (a1_2 - a0_2)) ≥ (IntKind.u64.wrap (t356)) then (some (0, false)) else (some (wrap64 (IntKind.u64.wrap (a1_2 - a0_2)), true)))) else (some (0, false))) else (some (0, false)))
def ranges_Index.T1 : Bool × List (List Nat × List Nat) := (true, [([], []), ([], []), ([0, 1], [0, 1]), ([2], [2]), ([3, 2], [3]), ([4], [4]), ([5, 4], [4, 5]), ([4], [4]), ([7, 4], [4, 7]), ([8, 4], [4, 8]), ([6, 9, 4], [4, 6, 9]), ([4, 10], [4, 10]), ([11, 4], [11]), ([12], [12]), ([13, 12], [12, 13]), ([12], [12]), ([15, 12], [12, 15]), ([16, 12], [12, 16]), ([14, 17, 12], [12, 14, 17]), ([12], [12]), ([19, 12, 12], [12, 19]), ([20, 12], [12, 20]), ([18, 21, 12], [12, 18, 21]), ([12, 22], [12, 22])])
def ranges_Index.B1 : List Nat := [0, 0, 3, 7, 15, 31, 63, 31, 159, 415, 1023, 2047, 4095, 8191, 16383, 8191, 40959, 106495, 262143, 8191, 532479, 1581055, 4194303, 8388607]
theorem ranges_Index.tab1 : rtab .any (opsOf Tryz.f11 1) = ranges_Index.T1 := by kernel_rfl
theorem ranges_Index.bits1 : waitsOk ranges_Index.T1.2 ranges_Index.B1 = true := by kernel_rfl
set_option maxHeartbeats 8000000 in
set_option maxRecDepth 100000 in
theorem ranges_Index.calls (a0_0 : Bool) (a0_1 : Int) (a0_2 : Int) (a0_3 : Int) (a1_0 : Bool) (a1_1 : Int) (a1_2 : Int) (r1 : Int) (r2 : Bool) (w : World) (h : ranges_Index.f a0_0 a0_1 a0_2 a0_3 a1_0 a1_1 a1_2 = some (r1, r2)) :
  Calls Tryz.prog 11 #[.agg #[.bool a0_0, .int .u64 a0_1, .int .u64 a0_2, .int .i64 a0_3], .agg #[.bool a1_0, .int .u64 a1_1, .int .u64 a1_2]] w fun e w' => e = .returned (.tuple #[.int .i64 r1, .bool r2]) ∧ Below w.heap.size w w' := by
 have hu26 := Tryz.underlying26
 have hu24 := Tryz.underlying24
 have HB := aM (Below.refl w.heap.size w)
 have H : ((ranges_Has.f a0_0 a0_1 a0_2 a0_3 a1_0 a1_1 a1_2).bind fun t355 => (if t355 = true then (if a1_1 = a0_1 then ((ranges_Size.f a0_0 a0_1 a0_2 a0_3).bind fun t356 => (if (IntKind.u64.wrap (a1_2 - a0_2)) ≥ (IntKind.u64.wrap (t356)) then (some (0, false)) else (some (wrap64 (IntKind.u64.wrap (a1_2 - a0_2)), true)))) else (some (0, false))) else (some (0, false)))) = some (r1, r2) := h
 clear h
 obtain ⟨t355, A3, H⟩ := oB H
 try dsimp only at H
 by_cases c4 : t355 = true
 ·subst c4
  rw [if_pos rfl] at H
  by_cases c5 : a1_1 = a0_1
  ·rw [if_pos c5] at H
   have c5b0 : (a1_1 == a0_1) = true := beq_iff_eq.mpr c5
   have c5b1 : (a1_1 != a0_1) = false := bne_eq_false_iff_eq.mpr c5
   clear c5
   obtain ⟨t356, A6, H⟩ := oB H
   try dsimp only at H
   by_cases c7 : (IntKind.u64.wrap (a1_2 - a0_2)) ≥ (IntKind.u64.wrap (t356))
   ·rw [if_pos c7] at H
    have c7b0 : decide ((IntKind.u64.wrap (t356)) ≤ (IntKind.u64.wrap (a1_2 - a0_2))) = true := decide_eq_true c7
    clear c7
    simp only [Option.some.injEq, Prod.mk.injEq] at H
    obtain ⟨rfl, rfl⟩ := H
    go_enter Tryz.func11, Tryz.ntmps11
    try go_wp2_with (first | ((with_reducible refine gD 2 rfl ?_); refine bX 2 #[.bool a0_0, .int .u64 a0_1, .int .u64 a0_2, .int .i64 a0_3] 26 ?_; intro gb353 hg w8 hbox hb; have BK353 := aM hbox; have GW353 := gS hg HB.out; have GE353 := GW353; replace HB := bS HB.out hb; clear hb hbox hg) | ((with_reducible refine gD 3 rfl ?_); refine bX 3 #[.bool a1_0, .int .u64 a1_1, .int .u64 a1_2] 24 ?_; intro gb354 hg w9 hbox hb; have BK354 := aM hbox; have GW354 := gS hg HB.out; have GE354 := GW354; have NB353_354 := nB hg BK353.out; have NB354_353 := nS (nB hg BK353.out); replace BK353 := kB BK353.out hb; replace HB := bS HB.out hb; clear hb hbox hg))
    replace BK353 := aM (kD BK353.out)
    replace BK354 := aM (kD BK354.out)
    replace HB := aM (bD HB.out)
    refine pS 24 (S := fun w' => cZ4 w' gb353 (.bool a0_0) (.int .u64 a0_1) (.int .u64 a0_2) (.int .i64 a0_3) ∧ cZ3 w' gb354 (.bool a1_0) (.int .u64 a1_1) (.int .u64 a1_2)) (ds := []) ⟨kZ4 BK353.out, kZ3 BK354.out⟩ (fun hHeld => ?_); refine with_tabW ranges_Index.tab1 ranges_Index.bits1 (fun HT_ HW_ => ?_)
    generalize w9.drew = w10 at BK353 BK354 HB hHeld ⊢
    refine pT 0 6 ?_
    refine pT 1 7 ?_
    refine pO 2 8 (fun K hK => ?_)
    refine gO Tryz.func17 #[.agg #[.bool a0_0, .int .u64 a0_1, .int .u64 a0_2, .int .i64 a0_3], .agg #[.bool a1_0, .int .u64 a1_1, .int .u64 a1_2]] ?_
    with_reducible refine (ranges_Has.calls a0_0 a0_1 a0_2 a0_3 a1_0 a1_1 a1_2 true _ A3.out).mono ?_
    rintro e w11 ⟨rfl, hb⟩
    refine ⟨_, rfl, ?_⟩
    replace BK353 := kB BK353.out hb
    replace BK354 := kB BK354.out hb
    replace HB := bS HB.out hb
    (try clear hb)
    refine hK.out _ _ ⟨kZ4 BK353.out, kZ3 BK354.out⟩ (fun hHeld => ?_)
    clear hK K
    refine pN ?_
    refine pP 3 9 ?_
    refine pP 4 10 ?_
    refine pP 5 11 ?_
    refine pP 7 13 ?_
    refine pP 8 14 ?_
    refine pT 6 12 ?_
    refine pT 9 15 ?_
    refine pP 10 16 ?_
    refine pP 11 17 ?_
    refine pP 12 18 ?_
    refine pP 13 19 ?_
    refine pP 15 21 ?_
    refine pP 16 22 ?_
    refine pT 14 20 ?_
    refine pT 17 23 ?_
    refine pP 18 24 ?_
    refine pT 19 25 ?_
    refine pO 20 26 (fun K hK => ?_)
    refine gO Tryz.func13 #[.agg #[.bool a0_0, .int .u64 a0_1, .int .u64 a0_2, .int .i64 a0_3]] ?_
    with_reducible refine (ranges_Size.calls a0_0 a0_1 a0_2 a0_3 t356 _ A6.out).mono ?_
    rintro e w12 ⟨rfl, hb⟩
    refine ⟨_, rfl, ?_⟩
    replace BK353 := kB BK353.out hb
    replace BK354 := kB BK354.out hb
    replace HB := bS HB.out hb
    (try clear hb)
    refine hK.out _ _ ⟨kZ4 BK353.out, kZ3 BK354.out⟩ (fun hHeld => ?_)
    clear hK K
    refine pN ?_
    refine pP 21 27 ?_
    refine pP 22 28 ?_
    refine pP 23 29 ?_
    refine pD ?_
    try go_wp2
    go_ret2
    exact ⟨tE, tB HB.out⟩
   ·rw [if_neg c7] at H
    have c7b0 : decide ((IntKind.u64.wrap (t356)) ≤ (IntKind.u64.wrap (a1_2 - a0_2))) = false := decide_eq_false c7
    clear c7
    simp only [Option.some.injEq, Prod.mk.injEq] at H
    obtain ⟨rfl, rfl⟩ := H
    go_enter Tryz.func11, Tryz.ntmps11
    try go_wp2_with (first | ((with_reducible refine gD 2 rfl ?_); refine bX 2 #[.bool a0_0, .int .u64 a0_1, .int .u64 a0_2, .int .i64 a0_3] 26 ?_; intro gb353 hg w13 hbox hb; have BK353 := aM hbox; have GW353 := gS hg HB.out; have GE353 := GW353; replace HB := bS HB.out hb; clear hb hbox hg) | ((with_reducible refine gD 3 rfl ?_); refine bX 3 #[.bool a1_0, .int .u64 a1_1, .int .u64 a1_2] 24 ?_; intro gb354 hg w14 hbox hb; have BK354 := aM hbox; have GW354 := gS hg HB.out; have GE354 := GW354; have NB353_354 := nB hg BK353.out; have NB354_353 := nS (nB hg BK353.out); replace BK353 := kB BK353.out hb; replace HB := bS HB.out hb; clear hb hbox hg))
    replace BK353 := aM (kD BK353.out)
    replace BK354 := aM (kD BK354.out)
    replace HB := aM (bD HB.out)
    refine pS 24 (S := fun w' => cZ4 w' gb353 (.bool a0_0) (.int .u64 a0_1) (.int .u64 a0_2) (.int .i64 a0_3) ∧ cZ3 w' gb354 (.bool a1_0) (.int .u64 a1_1) (.int .u64 a1_2)) (ds := []) ⟨kZ4 BK353.out, kZ3 BK354.out⟩ (fun hHeld => ?_); refine with_tabW ranges_Index.tab1 ranges_Index.bits1 (fun HT_ HW_ => ?_)
    generalize w14.drew = w15 at BK353 BK354 HB hHeld ⊢
    refine pT 0 6 ?_
    refine pT 1 7 ?_
    refine pO 2 8 (fun K hK => ?_)
    refine gO Tryz.func17 #[.agg #[.bool a0_0, .int .u64 a0_1, .int .u64 a0_2, .int .i64 a0_3], .agg #[.bool a1_0, .int .u64 a1_1, .int .u64 a1_2]] ?_
    with_reducible refine (ranges_Has.calls a0_0 a0_1 a0_2 a0_3 a1_0 a1_1 a1_2 true _ A3.out).mono ?_
    rintro e w16 ⟨rfl, hb⟩
    refine ⟨_, rfl, ?_⟩
    replace BK353 := kB BK353.out hb
    replace BK354 := kB BK354.out hb
    replace HB := bS HB.out hb
    (try clear hb)
    refine hK.out _ _ ⟨kZ4 BK353.out, kZ3 BK354.out⟩ (fun hHeld => ?_)
    clear hK K
    refine pN ?_
    refine pP 3 9 ?_
    refine pP 4 10 ?_
    refine pP 5 11 ?_
    refine pP 7 13 ?_
    refine pP 8 14 ?_
    refine pT 6 12 ?_
    refine pT 9 15 ?_
    refine pP 10 16 ?_
    refine pP 11 17 ?_
    refine pP 12 18 ?_
    refine pP 13 19 ?_
    refine pP 15 21 ?_
    refine pP 16 22 ?_
    refine pT 14 20 ?_
    refine pT 17 23 ?_
    refine pP 18 24 ?_
    refine pT 19 25 ?_
    refine pO 20 26 (fun K hK => ?_)
    refine gO Tryz.func13 #[.agg #[.bool a0_0, .int .u64 a0_1, .int .u64 a0_2, .int .i64 a0_3]] ?_
    with_reducible refine (ranges_Size.calls a0_0 a0_1 a0_2 a0_3 t356 _ A6.out).mono ?_
    rintro e w17 ⟨rfl, hb⟩
    refine ⟨_, rfl, ?_⟩
    replace BK353 := kB BK353.out hb
    replace BK354 := kB BK354.out hb
    replace HB := bS HB.out hb
    (try clear hb)
    refine hK.out _ _ ⟨kZ4 BK353.out, kZ3 BK354.out⟩ (fun hHeld => ?_)
    clear hK K
    refine pN ?_
    refine pP 21 27 ?_
    refine pP 22 28 ?_
    refine pP 23 29 ?_
    refine pD ?_
    have hnb18 := NB354_353.out
    have hnc18 := NB353_354.out
    obtain ⟨hcz19_0, hcz19_1, hcz19_2, hfz19_0, hfz19_1, hfz19_2⟩ := kY3 BK354.out
    obtain ⟨hcz20_0, hcz20_1, hcz20_2, hcz20_3, hfz20_0, hfz20_1, hfz20_2, hfz20_3⟩ := kY4 BK353.out
    try go_wp2
    go_ret2
    exact ⟨tE, tB HB.out⟩
  ·rw [if_neg c5] at H
   have c5b0 : (a1_1 == a0_1) = false := beq_eq_false_iff_ne.mpr c5
   have c5b1 : (a1_1 != a0_1) = true := bne_iff_ne.mpr c5
   simp only [Option.some.injEq, Prod.mk.injEq] at H
   obtain ⟨rfl, rfl⟩ := H
   go_enter Tryz.func11, Tryz.ntmps11
   try go_wp2_with (first | ((with_reducible refine gD 2 rfl ?_); refine bX 2 #[.bool a0_0, .int .u64 a0_1, .int .u64 a0_2, .int .i64 a0_3] 26 ?_; intro gb353 hg w21 hbox hb; have BK353 := aM hbox; have GW353 := gS hg HB.out; have GE353 := GW353; replace HB := bS HB.out hb; clear hb hbox hg) | ((with_reducible refine gD 3 rfl ?_); refine bX 3 #[.bool a1_0, .int .u64 a1_1, .int .u64 a1_2] 24 ?_; intro gb354 hg w22 hbox hb; have BK354 := aM hbox; have GW354 := gS hg HB.out; have GE354 := GW354; have NB353_354 := nB hg BK353.out; have NB354_353 := nS (nB hg BK353.out); replace BK353 := kB BK353.out hb; replace HB := bS HB.out hb; clear hb hbox hg))
   replace BK353 := aM (kD BK353.out)
   replace BK354 := aM (kD BK354.out)
   replace HB := aM (bD HB.out)
   refine pS 24 (S := fun w' => cZ4 w' gb353 (.bool a0_0) (.int .u64 a0_1) (.int .u64 a0_2) (.int .i64 a0_3) ∧ cZ3 w' gb354 (.bool a1_0) (.int .u64 a1_1) (.int .u64 a1_2)) (ds := []) ⟨kZ4 BK353.out, kZ3 BK354.out⟩ (fun hHeld => ?_); refine with_tabW ranges_Index.tab1 ranges_Index.bits1 (fun HT_ HW_ => ?_)
   generalize w22.drew = w23 at BK353 BK354 HB hHeld ⊢
   refine pT 0 6 ?_
   refine pT 1 7 ?_
   refine pO 2 8 (fun K hK => ?_)
   refine gO Tryz.func17 #[.agg #[.bool a0_0, .int .u64 a0_1, .int .u64 a0_2, .int .i64 a0_3], .agg #[.bool a1_0, .int .u64 a1_1, .int .u64 a1_2]] ?_
   with_reducible refine (ranges_Has.calls a0_0 a0_1 a0_2 a0_3 a1_0 a1_1 a1_2 true _ A3.out).mono ?_
   rintro e w24 ⟨rfl, hb⟩
   refine ⟨_, rfl, ?_⟩
   replace BK353 := kB BK353.out hb
   replace BK354 := kB BK354.out hb
   replace HB := bS HB.out hb
   (try clear hb)
   refine hK.out _ _ ⟨kZ4 BK353.out, kZ3 BK354.out⟩ (fun hHeld => ?_)
   clear hK K
   refine pN ?_
   refine pP 3 9 ?_
   refine pP 4 10 ?_
   refine pP 5 11 ?_
   refine pP 7 13 ?_
   refine pP 8 14 ?_
   refine pT 6 12 ?_
   refine pT 9 15 ?_
   refine pP 10 16 ?_
   refine pP 11 17 ?_
   refine pP 12 18 ?_
   refine pU 13 19 ?_
   refine pU 14 20 ?_
   refine pU 15 21 ?_
   refine pU 16 22 ?_
   refine pU 17 23 ?_
   refine pU 18 24 ?_
   refine pU 19 25 ?_
   refine pU 20 26 ?_
   refine pU 21 27 ?_
   refine pU 22 28 ?_
   refine pP 23 29 ?_
   refine pD ?_
   try go_wp2
   go_ret2
   exact ⟨tE, tB HB.out⟩
 ·replace c4 := Bool.eq_false_iff.mpr c4
  subst c4
  rw [if_neg (show ¬ (false = true) by decide)] at H
  simp only [Option.some.injEq, Prod.mk.injEq] at H
  obtain ⟨rfl, rfl⟩ := H
  go_enter Tryz.func11, Tryz.ntmps11
  try go_wp2_with (first | ((with_reducible refine gD 2 rfl ?_); refine bX 2 #[.bool a0_0, .int .u64 a0_1, .int .u64 a0_2, .int .i64 a0_3] 26 ?_; intro gb353 hg w25 hbox hb; have BK353 := aM hbox; have GW353 := gS hg HB.out; have GE353 := GW353; replace HB := bS HB.out hb; clear hb hbox hg) | ((with_reducible refine gD 3 rfl ?_); refine bX 3 #[.bool a1_0, .int .u64 a1_1, .int .u64 a1_2] 24 ?_; intro gb354 hg w26 hbox hb; have BK354 := aM hbox; have GW354 := gS hg HB.out; have GE354 := GW354; have NB353_354 := nB hg BK353.out; have NB354_353 := nS (nB hg BK353.out); replace BK353 := kB BK353.out hb; replace HB := bS HB.out hb; clear hb hbox hg))
  replace BK353 := aM (kD BK353.out)
  replace BK354 := aM (kD BK354.out)
  replace HB := aM (bD HB.out)
  refine pS 24 (S := fun w' => cZ4 w' gb353 (.bool a0_0) (.int .u64 a0_1) (.int .u64 a0_2) (.int .i64 a0_3) ∧ cZ3 w' gb354 (.bool a1_0) (.int .u64 a1_1) (.int .u64 a1_2)) (ds := []) ⟨kZ4 BK353.out, kZ3 BK354.out⟩ (fun hHeld => ?_); refine with_tabW ranges_Index.tab1 ranges_Index.bits1 (fun HT_ HW_ => ?_)
  generalize w26.drew = w27 at BK353 BK354 HB hHeld ⊢
  refine pT 0 6 ?_
  refine pT 1 7 ?_
  refine pO 2 8 (fun K hK => ?_)
  refine gO Tryz.func17 #[.agg #[.bool a0_0, .int .u64 a0_1, .int .u64 a0_2, .int .i64 a0_3], .agg #[.bool a1_0, .int .u64 a1_1, .int .u64 a1_2]] ?_
  with_reducible refine (ranges_Has.calls a0_0 a0_1 a0_2 a0_3 a1_0 a1_1 a1_2 false _ A3.out).mono ?_
  rintro e w28 ⟨rfl, hb⟩
  refine ⟨_, rfl, ?_⟩
  replace BK353 := kB BK353.out hb
  replace BK354 := kB BK354.out hb
  replace HB := bS HB.out hb
  (try clear hb)
  refine hK.out _ _ ⟨kZ4 BK353.out, kZ3 BK354.out⟩ (fun hHeld => ?_)
  clear hK K
  refine pN ?_
  refine pP 3 9 ?_
  refine pP 4 10 ?_
  refine pU 5 11 ?_
  refine pU 6 12 ?_
  refine pU 7 13 ?_
  refine pU 8 14 ?_
  refine pU 9 15 ?_
  refine pU 10 16 ?_
  refine pP 11 17 ?_
  refine pP 12 18 ?_
  refine pU 13 19 ?_
  refine pU 14 20 ?_
  refine pU 15 21 ?_
  refine pU 16 22 ?_
  refine pU 17 23 ?_
  refine pU 18 24 ?_
  refine pU 19 25 ?_
  refine pU 20 26 ?_
  refine pU 21 27 ?_
  refine pU 22 28 ?_
  refine pP 23 29 ?_
  refine pD ?_
  try go_wp2
  go_ret2
  exact ⟨tE, tB HB.out⟩

end Go.Proofs.YtbalmnkbodcigaaGreatDoor.ORc
namespace Go.Proofs.YtbalmnkbodcigaaGreatDoor.ORc
open Go.RowKit Go.Proofs.YtbalmnkbodcigaaGreatDoorW.PrintWords Go.Proofs.YtbalmnkbodcigaaGreatDoorW.PrintLast Go.Proofs.YtbalmnkbodcigaaGreatDoorW.PrintMore
attribute [local go_sem] max2_int min2_int max_two min_two max_three min_three max_four min_four   -- for this text's walks alone
set_option linter.unusedVariables false
set_option linter.unusedSimpArgs false

/-! ### nameplateref05_Has: function 18 -/
mutual
def nameplateref05_Has.j0 : Nat → Bool → Bool → Int → Int → Int → Bool → Int → Int → Option (Bool)
 | 0, _, _, _, _, _, _, _, _ => none
 | k + 1, x21, x358000, x358001, x358002, x358003, x359000, x359001, x359002 => if x21 = true then (some false) else (nameplateref05_Has.l0 k 0 x358000 x358001 x358002 x358003 x359000 x359001 x359002)
def nameplateref05_Has.l0 : Nat → Int → Bool → Int → Int → Int → Bool → Int → Int → Option (Bool)
 | 0, _, _, _, _, _, _, _, _ => none
 | k + 1, x5, x358000, x358001, x358002, x358003, x359000, x359001, x359002 => if x5 < x358003 then ((nameplateref05_bit.f x358000 x358001 x358002 x5).bind fun t361 => ((nameplateref05_bit.f x359000 x359001 x359002 x5).bind fun t362 => (if t361 = t362 then (nameplateref05_Has.l0 k (wrap64 (x5 + 1)) x358000 x358001 x358002 x358003 x359000 x359001 x359002) else (some false)))) else (some true)
end
def nameplateref05_Has.f (k : Nat) (a0_0 : Bool) (a0_1 : Int) (a0_2 : Int) (a0_3 : Int) (a1_0 : Bool) (a1_1 : Int) (a1_2 : Int) : Option (Bool) := (nameplateref05_Check.f k a0_0 a0_1 a0_2 a0_3).bind fun t359 => (if t359 = 0 then ((nameplateref04_Check.f a1_0 a1_1 a1_2).bind fun t360 => (if t360 = 0 then (nameplateref05_Has.j0 k (a0_0 != a1_0) a0_0 a0_1 a0_2 a0_3 a1_0 a1_1 a1_2) else (nameplateref05_Has.j0 k true a0_0 a0_1 a0_2 a0_3 a1_0 a1_1 a1_2))) else (nameplateref05_Has.j0 k true a0_0 a0_1 a0_2 a0_3 a1_0 a1_1 a1_2))
theorem nameplateref05_Has.mono_l : ∀ k, (∀ y0 y1 y2 y3 y4 y5 y6 y7, LeO (nameplateref05_Has.j0 k y0 y1 y2 y3 y4 y5 y6 y7) (nameplateref05_Has.j0 (k + 1) y0 y1 y2 y3 y4 y5 y6 y7)) ∧ (∀ y0 y1 y2 y3 y4 y5 y6 y7, LeO (nameplateref05_Has.l0 k y0 y1 y2 y3 y4 y5 y6 y7) (nameplateref05_Has.l0 (k + 1) y0 y1 y2 y3 y4 y5 y6 y7))
 | 0 => ⟨fun _ _ _ _ _ _ _ _ r h => by simp [nameplateref05_Has.j0] at h, fun _ _ _ _ _ _ _ _ r h => by simp [nameplateref05_Has.l0] at h⟩
 | k + 1 => by
  obtain ⟨ih0, ih1⟩ := nameplateref05_Has.mono_l k
  refine ⟨?_, ?_⟩
  ·intro y0 y1 y2 y3 y4 y5 y6 y7
   unfold nameplateref05_Has.j0
   repeat' first | (with_reducible first | apply ih0 | apply ih1 | apply nameplateref05_Check.mono | exact LeO.refl _ | exact LeO.none _ | refine LeO.ite ?_ ?_ | refine LeO.bind ?_ (fun _ => ?_)) | apply ih0 | apply ih1 | apply nameplateref05_Check.mono | exact LeO.none _ | refine LeO.ite ?_ ?_ | refine LeO.bind ?_ (fun _ => ?_)
  ·intro y0 y1 y2 y3 y4 y5 y6 y7
   unfold nameplateref05_Has.l0
   repeat' first | (with_reducible first | apply ih0 | apply ih1 | apply nameplateref05_Check.mono | exact LeO.refl _ | exact LeO.none _ | refine LeO.ite ?_ ?_ | refine LeO.bind ?_ (fun _ => ?_)) | apply ih0 | apply ih1 | apply nameplateref05_Check.mono | exact LeO.none _ | refine LeO.ite ?_ ?_ | refine LeO.bind ?_ (fun _ => ?_)
theorem nameplateref05_Has.mono : ∀ a0 a1 a2 a3 a4 a5 a6 k, LeO (nameplateref05_Has.f k a0 a1 a2 a3 a4 a5 a6) (nameplateref05_Has.f (k + 1) a0 a1 a2 a3 a4 a5 a6) := by
 intro a0 a1 a2 a3 a4 a5 a6 k
 obtain ⟨ih0, ih1⟩ := nameplateref05_Has.mono_l k
 unfold nameplateref05_Has.f
 repeat' first | (with_reducible first | apply ih0 | apply ih1 | apply nameplateref05_Check.mono | exact LeO.refl _ | exact LeO.none _ | refine LeO.ite ?_ ?_ | refine LeO.bind ?_ (fun _ => ?_)) | apply ih0 | apply ih1 | apply nameplateref05_Check.mono | exact LeO.none _ | refine LeO.ite ?_ ?_ | refine LeO.bind ?_ (fun _ => ?_)
def nameplateref05_Has.T6 : Bool × List (List Nat × List Nat) := (true, [([], []), ([0], [0]), ([], []), ([1, 2], [1, 2]), ([], []), ([], []), ([4, 5, 3], [4, 5]), ([3, 6], [3, 6])])
def nameplateref05_Has.B6 : List Nat := [0, 1, 0, 7, 0, 0, 63, 127]
theorem nameplateref05_Has.tab6 : rtab .any (opsOf Tryz.f18 6) = nameplateref05_Has.T6 := by kernel_rfl
theorem nameplateref05_Has.bits6 : waitsOk nameplateref05_Has.T6.2 nameplateref05_Has.B6 = true := by kernel_rfl
set_option maxHeartbeats 8000000 in
set_option maxRecDepth 100000 in
theorem nameplateref05_Has.calls (k : Nat) (a0_0 : Bool) (a0_1 : Int) (a0_2 : Int) (a0_3 : Int) (a1_0 : Bool) (a1_1 : Int) (a1_2 : Int) (r : Bool) (w : World) (h : nameplateref05_Has.f k a0_0 a0_1 a0_2 a0_3 a1_0 a1_1 a1_2 = some r) :
  Calls Tryz.prog 18 #[.agg #[.bool a0_0, .int .u64 a0_1, .int .u64 a0_2, .int .i64 a0_3], .agg #[.bool a1_0, .int .u64 a1_1, .int .u64 a1_2]] w fun e w' => e = .returned (.bool r) ∧ Below w.heap.size w w' := by
 have hu26 := Tryz.underlying26
 have hu24 := Tryz.underlying24
 have HB := aM (Below.refl w.heap.size w)
 have H : ((nameplateref05_Check.f k a0_0 a0_1 a0_2 a0_3).bind fun t359 => (if t359 = 0 then ((nameplateref04_Check.f a1_0 a1_1 a1_2).bind fun t360 => (if t360 = 0 then (nameplateref05_Has.j0 k (a0_0 != a1_0) a0_0 a0_1 a0_2 a0_3 a1_0 a1_1 a1_2) else (nameplateref05_Has.j0 k true a0_0 a0_1 a0_2 a0_3 a1_0 a1_1 a1_2))) else (nameplateref05_Has.j0 k true a0_0 a0_1 a0_2 a0_3 a1_0 a1_1 a1_2))) = some r := h
 clear h
 have HC3 := aM H
 clear H
 go_enter Tryz.func18, Tryz.ntmps18
 go_upto_region 1 with (first | ((with_reducible refine gD 2 rfl ?_); refine bX 2 #[.bool a0_0, .int .u64 a0_1, .int .u64 a0_2, .int .i64 a0_3] 26 ?_; intro gb357 hg w4 hbox hb; have BK357 := aM hbox; have GW357 := gS hg HB.out; have GE357 := GW357; replace HB := bS HB.out hb; clear hb hbox hg) | ((with_reducible refine gD 3 rfl ?_); refine bX 3 #[.bool a1_0, .int .u64 a1_1, .int .u64 a1_2] 24 ?_; intro gb358 hg w5 hbox hb; have BK358 := aM hbox; have GW358 := gS hg HB.out; have GE358 := GW358; have NB357_358 := nB hg BK357.out; have NB358_357 := nS (nB hg BK357.out); replace BK357 := kB BK357.out hb; replace HB := bS HB.out hb; clear hb hbox hg))
 (try simp only [Act.put, List.setIfInBounds_toArray, List.set_cons_zero, List.set_cons_succ])
 go_cut [21] (fun v21 wc => ∃ (kq : Nat) (x21_2 : Bool), v21 = .bool x21_2 ∧ Aside0 (nameplateref05_Has.j0 kq x21_2 a0_0 a0_1 a0_2 a0_3 a1_0 a1_1 a1_2 = some r) ∧ Aside0 (kq ≤ k) ∧ Aside0 (wc.heap[gb357]? = some (.cells #[.bool a0_0, .int .u64 a0_1, .int .u64 a0_2, .int .i64 a0_3] 26 (0, 0))) ∧ Aside0 (wc.heap[gb358]? = some (.cells #[.bool a1_0, .int .u64 a1_1, .int .u64 a1_2] 24 (0, 0))) ∧ Aside0 (Below w.heap.size w wc))
 case first =>
  have H := HC3.out
  clear HC3
  obtain ⟨t359, A6, H⟩ := oB H
  try dsimp only at H
  by_cases c7 : t359 = 0
  ·rw [if_pos c7] at H
   have c7b0 : (t359 == 0) = true := beq_iff_eq.mpr c7
   have c7b1 : (t359 != 0) = false := bne_eq_false_iff_eq.mpr c7
   clear c7
   (first | rw [c7b0] | (simp only [i64_w, i32_w]; rw [c7b0]) | skip)
   obtain ⟨t360, A8, H⟩ := oB H
   try dsimp only at H
   by_cases c9 : t360 = 0
   ·rw [if_pos c9] at H
    have c9b0 : (t360 == 0) = true := beq_iff_eq.mpr c9
    have c9b1 : (t360 != 0) = false := bne_eq_false_iff_eq.mpr c9
    clear c9
    have H' := aM H
    clear H
    have hnb10 := NB357_358.out
    have hnc10 := NB358_357.out
    obtain ⟨hcz11_0, hcz11_1, hcz11_2, hcz11_3, hfz11_0, hfz11_1, hfz11_2, hfz11_3⟩ := kY4 BK357.out
    go_wp2_with (first | ((with_reducible refine gC 16 rfl ?_); refine gL (some 7) Tryz.func16 #[.agg #[.bool a0_0, .int .u64 a0_1, .int .u64 a0_2, .int .i64 a0_3]] ?_; (with_reducible refine (nameplateref05_Check.calls k a0_0 a0_1 a0_2 a0_3 t359 _ A6.out).mono ?_); rintro e w12 ⟨rfl, hb⟩; refine ⟨_, rfl, ?_⟩; replace BK357 := kB BK357.out hb; replace BK358 := kB BK358.out hb; replace HB := bS HB.out hb; (try clear hb); obtain ⟨hcz13_0, hcz13_1, hcz13_2, hfz13_0, hfz13_1, hfz13_2⟩ := kY3 BK358.out) | (go_at_call 38; (with_reducible refine (nameplateref04_Check.calls a1_0 a1_1 a1_2 t360 _ A8.out).mono ?_); rintro e w14 ⟨rfl, hb⟩; replace BK357 := kB BK357.out hb; replace BK358 := kB BK358.out hb; replace HB := bS HB.out hb; (try clear hb); obtain ⟨hcz15_0, hcz15_1, hcz15_2, hcz15_3, hfz15_0, hfz15_1, hfz15_2, hfz15_3⟩ := kY4 BK357.out; obtain ⟨hcz16_0, hcz16_1, hcz16_2, hfz16_0, hfz16_1, hfz16_2⟩ := kY3 BK358.out))
    go_meet
    case rel => exact ⟨_, ((a0_0 != a1_0)), tF, H', ⟨by first | omega | exact Nat.le_refl _⟩, ⟨tK BK357.out⟩, ⟨tK BK358.out⟩, ⟨tB HB.out⟩⟩
   ·rw [if_neg c9] at H
    have c9b0 : (t360 == 0) = false := beq_eq_false_iff_ne.mpr c9
    have c9b1 : (t360 != 0) = true := bne_iff_ne.mpr c9
    have H' := aM H
    clear H
    have hnb17 := NB357_358.out
    have hnc17 := NB358_357.out
    obtain ⟨hcz18_0, hcz18_1, hcz18_2, hcz18_3, hfz18_0, hfz18_1, hfz18_2, hfz18_3⟩ := kY4 BK357.out
    go_wp2_with (first | ((with_reducible refine gC 16 rfl ?_); refine gL (some 7) Tryz.func16 #[.agg #[.bool a0_0, .int .u64 a0_1, .int .u64 a0_2, .int .i64 a0_3]] ?_; (with_reducible refine (nameplateref05_Check.calls k a0_0 a0_1 a0_2 a0_3 t359 _ A6.out).mono ?_); rintro e w19 ⟨rfl, hb⟩; refine ⟨_, rfl, ?_⟩; replace BK357 := kB BK357.out hb; replace BK358 := kB BK358.out hb; replace HB := bS HB.out hb; (try clear hb); obtain ⟨hcz20_0, hcz20_1, hcz20_2, hfz20_0, hfz20_1, hfz20_2⟩ := kY3 BK358.out) | (go_at_call 38; (with_reducible refine (nameplateref04_Check.calls a1_0 a1_1 a1_2 t360 _ A8.out).mono ?_); rintro e w21 ⟨rfl, hb⟩; replace BK357 := kB BK357.out hb; replace BK358 := kB BK358.out hb; replace HB := bS HB.out hb; (try clear hb)))
    go_meet
    case rel => exact ⟨_, (true), tF, H', ⟨by first | omega | exact Nat.le_refl _⟩, ⟨tK BK357.out⟩, ⟨tK BK358.out⟩, ⟨tB HB.out⟩⟩
  ·rw [if_neg c7] at H
   have c7b0 : (t359 == 0) = false := beq_eq_false_iff_ne.mpr c7
   have c7b1 : (t359 != 0) = true := bne_iff_ne.mpr c7
   (first | rw [c7b0] | (simp only [i64_w, i32_w]; rw [c7b0]) | skip)
   have H' := aM H
   clear H
   have hnb22 := NB357_358.out
   have hnc22 := NB358_357.out
   obtain ⟨hcz23_0, hcz23_1, hcz23_2, hcz23_3, hfz23_0, hfz23_1, hfz23_2, hfz23_3⟩ := kY4 BK357.out
   go_wp2_with (first | ((with_reducible refine gC 16 rfl ?_); refine gL (some 7) Tryz.func16 #[.agg #[.bool a0_0, .int .u64 a0_1, .int .u64 a0_2, .int .i64 a0_3]] ?_; (with_reducible refine (nameplateref05_Check.calls k a0_0 a0_1 a0_2 a0_3 t359 _ A6.out).mono ?_); rintro e w24 ⟨rfl, hb⟩; refine ⟨_, rfl, ?_⟩; replace BK357 := kB BK357.out hb; replace BK358 := kB BK358.out hb; replace HB := bS HB.out hb; (try clear hb)))
   go_meet
   case rel => exact ⟨_, (true), tF, H', ⟨by first | omega | exact Nat.le_refl _⟩, ⟨tK BK357.out⟩, ⟨tK BK358.out⟩, ⟨tB HB.out⟩⟩
 case rest =>
  clear HC3
  try clear c1
  try clear c2
  try clear p2
  try clear c7
  try clear c7b0
  try clear c7b1
  try clear c9
  try clear c9b0
  try clear c9b1
  try clear c10
  try clear c16
  try clear c17
  try clear c18
  try clear c22
  try clear hcz11_0 hcz11_1 hcz11_2 hcz11_3 hcz13_0 hcz13_1 hcz13_2 hcz15_0 hcz15_1 hcz15_2 hcz15_3 hcz16_0 hcz16_1 hcz16_2 hcz18_0 hcz18_1 hcz18_2 hcz18_3 hcz20_0 hcz20_1 hcz20_2 hcz23_0 hcz23_1 hcz23_2 hcz23_3 hfz11_0 hfz11_1 hfz11_2 hfz11_3 hfz13_0 hfz13_1 hfz13_2 hfz15_0 hfz15_1 hfz15_2 hfz15_3 hfz16_0 hfz16_1 hfz16_2 hfz18_0 hfz18_1 hfz18_2 hfz18_3 hfz20_0 hfz20_1 hfz20_2 hfz23_0 hfz23_1 hfz23_2 hfz23_3
  obtain ⟨kq, x21_2, rfl, HA, HJ2, BK357, BK358, HB⟩ := hcut
  cases kq with
  | zero => exact absurd HA.out (by simp [nameplateref05_Has.j0])
  | succ kj2 =>
   have H := HA.out
   clear HA
   simp only [nameplateref05_Has.j0] at H
   by_cases c25 : x21_2 = true
   ·subst c25
    rw [if_pos rfl] at H
    obtain rfl := Option.some.inj H
    go_wp2
    go_ret
    exact ⟨tE, tB HB.out⟩
   ·replace c25 := Bool.eq_false_iff.mpr c25
    subst c25
    rw [if_neg (show ¬ (false = true) by decide)] at H
    have H' := aM H
    clear H
    go_wp2
    go_loopg [5] kj2 (fun kq v5 w' => ∃ (x5_2 : Int), v5 = .int .i64 x5_2 ∧ Aside0 (nameplateref05_Has.l0 kq x5_2 a0_0 a0_1 a0_2 a0_3 a1_0 a1_1 a1_2 = some r) ∧ Aside0 (kq ≤ kj2) ∧ Aside0 (w'.heap[gb357]? = some (.cells #[.bool a0_0, .int .u64 a0_1, .int .u64 a0_2, .int .i64 a0_3] 26 (0, 0))) ∧ Aside0 (w'.heap[gb358]? = some (.cells #[.bool a1_0, .int .u64 a1_1, .int .u64 a1_2] 24 (0, 0))) ∧ Aside0 (Below w.heap.size w w'))
    case atStart => exact ⟨(0), tF, H', ⟨Nat.le_refl _⟩, ⟨tK BK357.out⟩, ⟨tK BK358.out⟩, ⟨tB HB.out⟩⟩
    case round =>
     clear H'
     try clear c1
     try clear c2
     try clear p2
     try clear c7
     try clear c7b0
     try clear c7b1
     try clear c9
     try clear c9b0
     try clear c9b1
     try clear c10
     try clear c16
     try clear c17
     try clear c18
     try clear c22
     try clear c25
     try clear hcz11_0 hcz11_1 hcz11_2 hcz11_3 hcz13_0 hcz13_1 hcz13_2 hcz15_0 hcz15_1 hcz15_2 hcz15_3 hcz16_0 hcz16_1 hcz16_2 hcz18_0 hcz18_1 hcz18_2 hcz18_3 hcz20_0 hcz20_1 hcz20_2 hcz23_0 hcz23_1 hcz23_2 hcz23_3 hfz11_0 hfz11_1 hfz11_2 hfz11_3 hfz13_0 hfz13_1 hfz13_2 hfz15_0 hfz15_1 hfz15_2 hfz15_3 hfz16_0 hfz16_1 hfz16_2 hfz18_0 hfz18_1 hfz18_2 hfz18_3 hfz20_0 hfz20_1 hfz20_2 hfz23_0 hfz23_1 hfz23_2 hfz23_3
     try clear p2
     obtain ⟨x5_2, rfl, HA, HK2, BK357, BK358, HB⟩ := hrel
     cases gk with
     | zero => exact absurd HA.out (by simp [nameplateref05_Has.l0])
     | succ k2 =>
      have H := HA.out
      clear HA
      simp only [nameplateref05_Has.l0] at H
      by_cases c26 : x5_2 < a0_3
      ·rw [if_pos c26] at H
       have c26b0 : decide (x5_2 < a0_3) = true := decide_eq_true c26
       clear c26
       obtain ⟨t361, A27, H⟩ := oB H
       try dsimp only at H
       obtain ⟨t362, A28, H⟩ := oB H
       try dsimp only at H
       by_cases c29 : t361 = t362
       ·rw [if_pos c29] at H
        have c29b0 : (t361 == t362) = true := beq_iff_eq.mpr c29
        have c29b1 : (t361 != t362) = false := bne_eq_false_iff_eq.mpr c29
        clear c29
        have H' := aM H
        clear H
        have hnb30 := NB357_358.out
        have hnc30 := NB358_357.out
        obtain ⟨hcz31_0, hcz31_1, hcz31_2, hcz31_3, hfz31_0, hfz31_1, hfz31_2, hfz31_3⟩ := kY4 BK357.out
        try go_wp2
        replace BK357 := aM (kD BK357.out)
        replace BK358 := aM (kD BK358.out)
        replace HB := aM (bD HB.out)
        refine pS 8 (S := fun w' => cZ4 w' gb357 (.bool a0_0) (.int .u64 a0_1) (.int .u64 a0_2) (.int .i64 a0_3) ∧ cZ3 w' gb358 (.bool a1_0) (.int .u64 a1_1) (.int .u64 a1_2)) (ds := []) ⟨kZ4 BK357.out, kZ3 BK358.out⟩ (fun hHeld => ?_); refine with_tabW nameplateref05_Has.tab6 nameplateref05_Has.bits6 (fun HT_ HW_ => ?_)
        generalize wr.drew = w32 at BK357 BK358 HB hHeld ⊢
        refine pP 0 28 ?_
        refine pP 2 30 ?_
        refine pP 5 33 ?_
        refine pT 1 29 ?_
        refine pT 4 32 ?_
        refine pO 3 31 (fun K hK => ?_)
        refine gO Tryz.func39 #[.agg #[.bool a0_0, .int .u64 a0_1, .int .u64 a0_2], .int .i64 x5_2] ?_
        with_reducible refine (nameplateref05_bit.calls a0_0 a0_1 a0_2 x5_2 t361 _ A27.out).mono ?_
        rintro e w33 ⟨rfl, hb⟩
        refine ⟨_, rfl, ?_⟩
        replace BK357 := kB BK357.out hb
        replace BK358 := kB BK358.out hb
        replace HB := bS HB.out hb
        (try clear hb)
        refine hK.out _ _ ⟨kZ4 BK357.out, kZ3 BK358.out⟩ (fun hHeld => ?_)
        clear hK K
        refine pN ?_
        refine pO 6 34 (fun K hK => ?_)
        refine gO Tryz.func39 #[.agg #[.bool a1_0, .int .u64 a1_1, .int .u64 a1_2], .int .i64 x5_2] ?_
        with_reducible refine (nameplateref05_bit.calls a1_0 a1_1 a1_2 x5_2 t362 _ A28.out).mono ?_
        rintro e w34 ⟨rfl, hb⟩
        refine ⟨_, rfl, ?_⟩
        replace BK357 := kB BK357.out hb
        replace BK358 := kB BK358.out hb
        replace HB := bS HB.out hb
        (try clear hb)
        refine hK.out _ _ ⟨kZ4 BK357.out, kZ3 BK358.out⟩ (fun hHeld => ?_)
        clear hK K
        refine pN ?_
        refine pP 7 35 ?_
        refine pD ?_
        try go_wp2
        go_roundg k2
        case measure => have := HJ2.out; have := HK2.out; omega
        case rel => exact ⟨(wrap64 (x5_2 + 1)), tF, H', ⟨by have := HJ2.out; have := HK2.out; omega⟩, ⟨tK BK357.out⟩, ⟨tK BK358.out⟩, ⟨tB HB.out⟩⟩
       ·rw [if_neg c29] at H
        have c29b0 : (t361 == t362) = false := beq_eq_false_iff_ne.mpr c29
        have c29b1 : (t361 != t362) = true := bne_iff_ne.mpr c29
        obtain rfl := Option.some.inj H
        have hnb35 := NB357_358.out
        have hnc35 := NB358_357.out
        obtain ⟨hcz36_0, hcz36_1, hcz36_2, hcz36_3, hfz36_0, hfz36_1, hfz36_2, hfz36_3⟩ := kY4 BK357.out
        try go_wp2
        replace BK357 := aM (kD BK357.out)
        replace BK358 := aM (kD BK358.out)
        replace HB := aM (bD HB.out)
        refine pS 8 (S := fun w' => cZ4 w' gb357 (.bool a0_0) (.int .u64 a0_1) (.int .u64 a0_2) (.int .i64 a0_3) ∧ cZ3 w' gb358 (.bool a1_0) (.int .u64 a1_1) (.int .u64 a1_2)) (ds := []) ⟨kZ4 BK357.out, kZ3 BK358.out⟩ (fun hHeld => ?_); refine with_tabW nameplateref05_Has.tab6 nameplateref05_Has.bits6 (fun HT_ HW_ => ?_)
        generalize wr.drew = w37 at BK357 BK358 HB hHeld ⊢
        refine pP 0 28 ?_
        refine pP 2 30 ?_
        refine pP 5 33 ?_
        refine pT 1 29 ?_
        refine pT 4 32 ?_
        refine pO 3 31 (fun K hK => ?_)
        refine gO Tryz.func39 #[.agg #[.bool a0_0, .int .u64 a0_1, .int .u64 a0_2], .int .i64 x5_2] ?_
        with_reducible refine (nameplateref05_bit.calls a0_0 a0_1 a0_2 x5_2 t361 _ A27.out).mono ?_
        rintro e w38 ⟨rfl, hb⟩
        refine ⟨_, rfl, ?_⟩
        replace BK357 := kB BK357.out hb
        replace BK358 := kB BK358.out hb
        replace HB := bS HB.out hb
        (try clear hb)
        refine hK.out _ _ ⟨kZ4 BK357.out, kZ3 BK358.out⟩ (fun hHeld => ?_)
        clear hK K
        refine pN ?_
        refine pO 6 34 (fun K hK => ?_)
        refine gO Tryz.func39 #[.agg #[.bool a1_0, .int .u64 a1_1, .int .u64 a1_2], .int .i64 x5_2] ?_
        with_reducible refine (nameplateref05_bit.calls a1_0 a1_1 a1_2 x5_2 t362 _ A28.out).mono ?_
        rintro e w39 ⟨rfl, hb⟩
        refine ⟨_, rfl, ?_⟩
        replace BK357 := kB BK357.out hb
        replace BK358 := kB BK358.out hb
        replace HB := bS HB.out hb
        (try clear hb)
        refine hK.out _ _ ⟨kZ4 BK357.out, kZ3 BK358.out⟩ (fun hHeld => ?_)
        clear hK K
        refine pN ?_
        refine pP 7 35 ?_
        refine pD ?_
        try go_wp2
        go_ret
        exact ⟨tE, tB HB.out⟩
      ·rw [if_neg c26] at H
       have c26b0 : decide (x5_2 < a0_3) = false := decide_eq_false c26
       clear c26
       obtain rfl := Option.some.inj H
       have hnb40 := NB357_358.out
       have hnc40 := NB358_357.out
       obtain ⟨hcz41_0, hcz41_1, hcz41_2, hcz41_3, hfz41_0, hfz41_1, hfz41_2, hfz41_3⟩ := kY4 BK357.out
       go_wp2
       go_ret
       exact ⟨tE, tB HB.out⟩

end Go.Proofs.YtbalmnkbodcigaaGreatDoor.ORc
namespace Go.Proofs.YtbalmnkbodcigaaGreatDoor.ORc
open Go.RowKit Go.Proofs.YtbalmnkbodcigaaGreatDoorW.PrintWords Go.Proofs.YtbalmnkbodcigaaGreatDoorW.PrintLast Go.Proofs.YtbalmnkbodcigaaGreatDoorW.PrintMore
attribute [local go_sem] max2_int min2_int max_two min_two max_three min_three max_four min_four   -- for this text's walks alone
set_option linter.unusedVariables false
set_option linter.unusedSimpArgs false

/-! ### nameplateref05_Index: function 12 -/
def nameplateref05_Index.f (k : Nat) (a0_0 : Bool) (a0_1 : Int) (a0_2 : Int) (a0_3 : Int) (a1_0 : Bool) (a1_1 : Int) (a1_2 : Int) : Option (Int × Bool) := (nameplateref05_Has.f k a0_0 a0_1 a0_2 a0_3 a1_0 a1_1 a1_2).bind fun t365 => (if t365 = true then (if a1_1 = a0_1 then ((nameplateref05_Size.f k a0_0 a0_1 a0_2 a0_3).bind fun t366 => (if (IntKind.u64.wrap (a1_2 - a0_2)) ≥ (IntKind.u64.wrap (t366)) then (some (0, false)) else (some (wrap64 (IntKind.u64.wrap (a1_2 - a0_2)), true)))) else (some (0, false))) else (some (0, false)))
theorem nameplateref05_Index.mono : ∀ a0 a1 a2 a3 a4 a5 a6 k, LeO (nameplateref05_Index.f k a0 a1 a2 a3 a4 a5 a6) (nameplateref05_Index.f (k + 1) a0 a1 a2 a3 a4 a5 a6) := by
 intro a0 a1 a2 a3 a4 a5 a6 k
 unfold nameplateref05_Index.f
 repeat' first | (with_reducible first | apply nameplateref05_Has.mono | apply nameplateref05_Size.mono | exact LeO.refl _ | exact LeO.none _ | refine LeO.ite ?_ ?_ | refine LeO.bind ?_ (fun _ => ?_)) | apply nameplateref05_Has.mono | apply nameplateref05_Size.mono | exact LeO.none _ | refine LeO.ite ?_ ?_ | refine LeO.bind ?_ (fun _ => ?_)
def nameplateref05_Index.T1 : Bool × List (List Nat × List Nat) := (true, [([], []), ([], []), ([0, 1], [0, 1]), ([2], [2]), ([3, 2], [3]), ([4], [4]), ([5, 4], [4, 5]), ([4], [4]), ([7, 4], [4, 7]), ([8, 4], [4, 8]), ([6, 9, 4], [4, 6, 9]), ([4, 10], [4, 10]), ([11, 4], [11]), ([12], [12]), ([13, 12], [12, 13]), ([12], [12]), ([15, 12], [12, 15]), ([16, 12], [12, 16]), ([14, 17, 12], [12, 14, 17]), ([12], [12]), ([19, 12, 12], [12, 19]), ([20, 12], [12, 20]), ([18, 21, 12], [12, 18, 21]), ([12, 22], [12, 22])])
def nameplateref05_Index.B1 : List Nat := [0, 0, 3, 7, 15, 31, 63, 31, 159, 415, 1023, 2047, 4095, 8191, 16383, 8191, 40959, 106495, 262143, 8191, 532479, 1581055, 4194303, 8388607]
theorem nameplateref05_Index.tab1 : rtab .any (opsOf Tryz.f12 1) = nameplateref05_Index.T1 := by kernel_rfl
theorem nameplateref05_Index.bits1 : waitsOk nameplateref05_Index.T1.2 nameplateref05_Index.B1 = true := by kernel_rfl
set_option maxHeartbeats 8000000 in
set_option maxRecDepth 100000 in
theorem nameplateref05_Index.calls (k : Nat) (a0_0 : Bool) (a0_1 : Int) (a0_2 : Int) (a0_3 : Int) (a1_0 : Bool) (a1_1 : Int) (a1_2 : Int) (r1 : Int) (r2 : Bool) (w : World) (h : nameplateref05_Index.f k a0_0 a0_1 a0_2 a0_3 a1_0 a1_1 a1_2 = some (r1, r2)) :
  Calls Tryz.prog 12 #[.agg #[.bool a0_0, .int .u64 a0_1, .int .u64 a0_2, .int .i64 a0_3], .agg #[.bool a1_0, .int .u64 a1_1, .int .u64 a1_2]] w fun e w' => e = .returned (.tuple #[.int .i64 r1, .bool r2]) ∧ Below w.heap.size w w' := by
 have hu26 := Tryz.underlying26
 have hu24 := Tryz.underlying24
 have HB := aM (Below.refl w.heap.size w)
 have H : ((nameplateref05_Has.f k a0_0 a0_1 a0_2 a0_3 a1_0 a1_1 a1_2).bind fun t365 => (if t365 = true then (if a1_1 = a0_1 then ((nameplateref05_Size.f k a0_0 a0_1 a0_2 a0_3).bind fun t366 => (if (IntKind.u64.wrap (a1_2 - a0_2)) ≥ (IntKind.u64.wrap (t366)) then (some (0, false)) else (some (wrap64 (IntKind.u64.wrap (a1_2 - a0_2)), true)))) else (some (0, false))) else (some (0, false)))) = some (r1, r2) := h
 clear h
 obtain ⟨t365, A3, H⟩ := oB H
 try dsimp only at H
 by_cases c4 : t365 = true
 ·subst c4
  rw [if_pos rfl] at H
  by_cases c5 : a1_1 = a0_1
  ·rw [if_pos c5] at H
   have c5b0 : (a1_1 == a0_1) = true := beq_iff_eq.mpr c5
   have c5b1 : (a1_1 != a0_1) = false := bne_eq_false_iff_eq.mpr c5
   clear c5
   obtain ⟨t366, A6, H⟩ := oB H
   try dsimp only at H
   by_cases c7 : (IntKind.u64.wrap (a1_2 - a0_2)) ≥ (IntKind.u64.wrap (t366))
   ·rw [if_pos c7] at H
    have c7b0 : decide ((IntKind.u64.wrap (t366)) ≤ (IntKind.u64.wrap (a1_2 - a0_2))) = true := decide_eq_true c7
    clear c7
    simp only [Option.some.injEq, Prod.mk.injEq] at H
    obtain ⟨rfl, rfl⟩ := H
    go_enter Tryz.func12, Tryz.ntmps12
    try go_wp2_with (first | ((with_reducible refine gD 2 rfl ?_); refine bX 2 #[.bool a0_0, .int .u64 a0_1, .int .u64 a0_2, .int .i64 a0_3] 26 ?_; intro gb363 hg w8 hbox hb; have BK363 := aM hbox; have GW363 := gS hg HB.out; have GE363 := GW363; replace HB := bS HB.out hb; clear hb hbox hg) | ((with_reducible refine gD 3 rfl ?_); refine bX 3 #[.bool a1_0, .int .u64 a1_1, .int .u64 a1_2] 24 ?_; intro gb364 hg w9 hbox hb; have BK364 := aM hbox; have GW364 := gS hg HB.out; have GE364 := GW364; have NB363_364 := nB hg BK363.out; have NB364_363 := nS (nB hg BK363.out); replace BK363 := kB BK363.out hb; replace HB := bS HB.out hb; clear hb hbox hg))
    replace BK363 := aM (kD BK363.out)
    replace BK364 := aM (kD BK364.out)
    replace HB := aM (bD HB.out)
    refine pS 24 (S := fun w' => cZ4 w' gb363 (.bool a0_0) (.int .u64 a0_1) (.int .u64 a0_2) (.int .i64 a0_3) ∧ cZ3 w' gb364 (.bool a1_0) (.int .u64 a1_1) (.int .u64 a1_2)) (ds := []) ⟨kZ4 BK363.out, kZ3 BK364.out⟩ (fun hHeld => ?_); refine with_tabW nameplateref05_Index.tab1 nameplateref05_Index.bits1 (fun HT_ HW_ => ?_)
    generalize w9.drew = w10 at BK363 BK364 HB hHeld ⊢
    refine pT 0 6 ?_
    refine pT 1 7 ?_
    refine pO 2 8 (fun K hK => ?_)
    refine gO Tryz.func18 #[.agg #[.bool a0_0, .int .u64 a0_1, .int .u64 a0_2, .int .i64 a0_3], .agg #[.bool a1_0, .int .u64 a1_1, .int .u64 a1_2]] ?_
    with_reducible refine (nameplateref05_Has.calls k a0_0 a0_1 a0_2 a0_3 a1_0 a1_1 a1_2 true _ A3.out).mono ?_
    rintro e w11 ⟨rfl, hb⟩
    refine ⟨_, rfl, ?_⟩
    replace BK363 := kB BK363.out hb
    replace BK364 := kB BK364.out hb
    replace HB := bS HB.out hb
    (try clear hb)
    refine hK.out _ _ ⟨kZ4 BK363.out, kZ3 BK364.out⟩ (fun hHeld => ?_)
    clear hK K
    refine pN ?_
    refine pP 3 9 ?_
    refine pP 4 10 ?_
    refine pP 5 11 ?_
    refine pP 7 13 ?_
    refine pP 8 14 ?_
    refine pT 6 12 ?_
    refine pT 9 15 ?_
    refine pP 10 16 ?_
    refine pP 11 17 ?_
    refine pP 12 18 ?_
    refine pP 13 19 ?_
    refine pP 15 21 ?_
    refine pP 16 22 ?_
    refine pT 14 20 ?_
    refine pT 17 23 ?_
    refine pP 18 24 ?_
    refine pT 19 25 ?_
    refine pO 20 26 (fun K hK => ?_)
    refine gO Tryz.func14 #[.agg #[.bool a0_0, .int .u64 a0_1, .int .u64 a0_2, .int .i64 a0_3]] ?_
    with_reducible refine (nameplateref05_Size.calls k a0_0 a0_1 a0_2 a0_3 t366 _ A6.out).mono ?_
    rintro e w12 ⟨rfl, hb⟩
    refine ⟨_, rfl, ?_⟩
    replace BK363 := kB BK363.out hb
    replace BK364 := kB BK364.out hb
    replace HB := bS HB.out hb
    (try clear hb)
    refine hK.out _ _ ⟨kZ4 BK363.out, kZ3 BK364.out⟩ (fun hHeld => ?_)
    clear hK K
    refine pN ?_
    refine pP 21 27 ?_
    refine pP 22 28 ?_
    refine pP 23 29 ?_
    refine pD ?_
    try go_wp2
    go_ret2
    exact ⟨tE, tB HB.out⟩
   ·rw [if_neg c7] at H
    have c7b0 : decide ((IntKind.u64.wrap (t366)) ≤ (IntKind.u64.wrap (a1_2 - a0_2))) = false := decide_eq_false c7
    clear c7
    simp only [Option.some.injEq, Prod.mk.injEq] at H
    obtain ⟨rfl, rfl⟩ := H
    go_enter Tryz.func12, Tryz.ntmps12
    try go_wp2_with (first | ((with_reducible refine gD 2 rfl ?_); refine bX 2 #[.bool a0_0, .int .u64 a0_1, .int .u64 a0_2, .int .i64 a0_3] 26 ?_; intro gb363 hg w13 hbox hb; have BK363 := aM hbox; have GW363 := gS hg HB.out; have GE363 := GW363; replace HB := bS HB.out hb; clear hb hbox hg) | ((with_reducible refine gD 3 rfl ?_); refine bX 3 #[.bool a1_0, .int .u64 a1_1, .int .u64 a1_2] 24 ?_; intro gb364 hg w14 hbox hb; have BK364 := aM hbox; have GW364 := gS hg HB.out; have GE364 := GW364; have NB363_364 := nB hg BK363.out; have NB364_363 := nS (nB hg BK363.out); replace BK363 := kB BK363.out hb; replace HB := bS HB.out hb; clear hb hbox hg))
    replace BK363 := aM (kD BK363.out)
    replace BK364 := aM (kD BK364.out)
    replace HB := aM (bD HB.out)
    refine pS 24 (S := fun w' => cZ4 w' gb363 (.bool a0_0) (.int .u64 a0_1) (.int .u64 a0_2) (.int .i64 a0_3) ∧ cZ3 w' gb364 (.bool a1_0) (.int .u64 a1_1) (.int .u64 a1_2)) (ds := []) ⟨kZ4 BK363.out, kZ3 BK364.out⟩ (fun hHeld => ?_); refine with_tabW nameplateref05_Index.tab1 nameplateref05_Index.bits1 (fun HT_ HW_ => ?_)
    generalize w14.drew = w15 at BK363 BK364 HB hHeld ⊢
    refine pT 0 6 ?_
    refine pT 1 7 ?_
    refine pO 2 8 (fun K hK => ?_)
    refine gO Tryz.func18 #[.agg #[.bool a0_0, .int .u64 a0_1, .int .u64 a0_2, .int .i64 a0_3], .agg #[.bool a1_0, .int .u64 a1_1, .int .u64 a1_2]] ?_
    with_reducible refine (nameplateref05_Has.calls k a0_0 a0_1 a0_2 a0_3 a1_0 a1_1 a1_2 true _ A3.out).mono ?_
    rintro e w16 ⟨rfl, hb⟩
    refine ⟨_, rfl, ?_⟩
    replace BK363 := kB BK363.out hb
    replace BK364 := kB BK364.out hb
    replace HB := bS HB.out hb
    (try clear hb)
    refine hK.out _ _ ⟨kZ4 BK363.out, kZ3 BK364.out⟩ (fun hHeld => ?_)
    clear hK K
    refine pN ?_
    refine pP 3 9 ?_
    refine pP 4 10 ?_
    refine pP 5 11 ?_
    refine pP 7 13 ?_
    refine pP 8 14 ?_
    refine pT 6 12 ?_
    refine pT 9 15 ?_
    refine pP 10 16 ?_
    refine pP 11 17 ?_
    refine pP 12 18 ?_
    refine pP 13 19 ?_
    refine pP 15 21 ?_
    refine pP 16 22 ?_
    refine pT 14 20 ?_
    refine pT 17 23 ?_
    refine pP 18 24 ?_
    refine pT 19 25 ?_
    refine pO 20 26 (fun K hK => ?_)
    refine gO Tryz.func14 #[.agg #[.bool a0_0, .int .u64 a0_1, .int .u64 a0_2, .int .i64 a0_3]] ?_
    with_reducible refine (nameplateref05_Size.calls k a0_0 a0_1 a0_2 a0_3 t366 _ A6.out).mono ?_
    rintro e w17 ⟨rfl, hb⟩
    refine ⟨_, rfl, ?_⟩
    replace BK363 := kB BK363.out hb
    replace BK364 := kB BK364.out hb
    replace HB := bS HB.out hb
    (try clear hb)
    refine hK.out _ _ ⟨kZ4 BK363.out, kZ3 BK364.out⟩ (fun hHeld => ?_)
    clear hK K
    refine pN ?_
    refine pP 21 27 ?_
    refine pP 22 28 ?_
    refine pP 23 29 ?_
    refine pD ?_
    have hnb18 := NB364_363.out
    have hnc18 := NB363_364.out
    obtain ⟨hcz19_0, hcz19_1, hcz19_2, hfz19_0, hfz19_1, hfz19_2⟩ := kY3 BK364.out
    obtain ⟨hcz20_0, hcz20_1, hcz20_2, hcz20_3, hfz20_0, hfz20_1, hfz20_2, hfz20_3⟩ := kY4 BK363.out
    try go_wp2
    go_ret2
    exact ⟨tE, tB HB.out⟩
  ·rw [if_neg c5] at H
   have c5b0 : (a1_1 == a0_1) = false := beq_eq_false_iff_ne.mpr c5
   have c5b1 : (a1_1 != a0_1) = true := bne_iff_ne.mpr c5
   simp only [Option.some.injEq, Prod.mk.injEq] at H
   obtain ⟨rfl, rfl⟩ := H
   go_enter Tryz.func12, Tryz.ntmps12
   try go_wp2_with (first | ((with_reducible refine gD 2 rfl ?_); refine bX 2 #[.bool a0_0, .int .u64 a0_1, .int .u64 a0_2, .int .i64 a0_3] 26 ?_; intro gb363 hg w21 hbox hb; have BK363 := aM hbox; have GW363 := gS hg HB.out; have GE363 := GW363; replace HB := bS HB.out hb; clear hb hbox hg) | ((with_reducible refine gD 3 rfl ?_); refine bX 3 #[.bool a1_0, .int .u64 a1_1, .int .u64 a1_2] 24 ?_; intro gb364 hg w22 hbox hb; have BK364 := aM hbox; have GW364 := gS hg HB.out; have GE364 := GW364; have NB363_364 := nB hg BK363.out; have NB364_363 := nS (nB hg BK363.out); replace BK363 := kB BK363.out hb; replace HB := bS HB.out hb; clear hb hbox hg))
   replace BK363 := aM (kD BK363.out)
   replace BK364 := aM (kD BK364.out)
   replace HB := aM (bD HB.out)
   refine pS 24 (S := fun w' => cZ4 w' gb363 (.bool a0_0) (.int .u64 a0_1) (.int .u64 a0_2) (.int .i64 a0_3) ∧ cZ3 w' gb364 (.bool a1_0) (.int .u64 a1_1) (.int .u64 a1_2)) (ds := []) ⟨kZ4 BK363.out, kZ3 BK364.out⟩ (fun hHeld => ?_); refine with_tabW nameplateref05_Index.tab1 nameplateref05_Index.bits1 (fun HT_ HW_ => ?_)
   generalize w22.drew = w23 at BK363 BK364 HB hHeld ⊢
   refine pT 0 6 ?_
   refine pT 1 7 ?_
   refine pO 2 8 (fun K hK => ?_)
   refine gO Tryz.func18 #[.agg #[.bool a0_0, .int .u64 a0_1, .int .u64 a0_2, .int .i64 a0_3], .agg #[.bool a1_0, .int .u64 a1_1, .int .u64 a1_2]] ?_
   with_reducible refine (nameplateref05_Has.calls k a0_0 a0_1 a0_2 a0_3 a1_0 a1_1 a1_2 true _ A3.out).mono ?_
   rintro e w24 ⟨rfl, hb⟩
   refine ⟨_, rfl, ?_⟩
   replace BK363 := kB BK363.out hb
   replace BK364 := kB BK364.out hb
   replace HB := bS HB.out hb
   (try clear hb)
   refine hK.out _ _ ⟨kZ4 BK363.out, kZ3 BK364.out⟩ (fun hHeld => ?_)
   clear hK K
   refine pN ?_
   refine pP 3 9 ?_
   refine pP 4 10 ?_
   refine pP 5 11 ?_
   refine pP 7 13 ?_
   refine pP 8 14 ?_
   refine pT 6 12 ?_
   refine pT 9 15 ?_
   refine pP 10 16 ?_
   refine pP 11 17 ?_
   refine pP 12 18 ?_
   refine pU 13 19 ?_
   refine pU 14 20 ?_
   refine pU 15 21 ?_
   refine pU 16 22 ?_
   refine pU 17 23 ?_
   refine pU 18 24 ?_
   refine pU 19 25 ?_
   refine pU 20 26 ?_
   refine pU 21 27 ?_
   refine pU 22 28 ?_
   refine pP 23 29 ?_
   refine pD ?_
   try go_wp2
   go_ret2
   exact ⟨tE, tB HB.out⟩
 ·replace c4 := Bool.eq_false_iff.mpr c4
  subst c4
  rw [if_neg (show ¬ (false = true) by decide)] at H
  simp only [Option.some.injEq, Prod.mk.injEq] at H
  obtain ⟨rfl, rfl⟩ := H
  go_enter Tryz.func12, Tryz.ntmps12
  try go_wp2_with (first | ((with_reducible refine gD 2 rfl ?_); refine bX 2 #[.bool a0_0, .int .u64 a0_1, .int .u64 a0_2, .int .i64 a0_3] 26 ?_; intro gb363 hg w25 hbox hb; have BK363 := aM hbox; have GW363 := gS hg HB.out; have GE363 := GW363; replace HB := bS HB.out hb; clear hb hbox hg) | ((with_reducible refine gD 3 rfl ?_); refine bX 3 #[.bool a1_0, .int .u64 a1_1, .int .u64 a1_2] 24 ?_; intro gb364 hg w26 hbox hb; have BK364 := aM hbox; have GW364 := gS hg HB.out; have GE364 := GW364; have NB363_364 := nB hg BK363.out; have NB364_363 := nS (nB hg BK363.out); replace BK363 := kB BK363.out hb; replace HB := bS HB.out hb; clear hb hbox hg))
  replace BK363 := aM (kD BK363.out)
  replace BK364 := aM (kD BK364.out)
  replace HB := aM (bD HB.out)
  refine pS 24 (S := fun w' => cZ4 w' gb363 (.bool a0_0) (.int .u64 a0_1) (.int .u64 a0_2) (.int .i64 a0_3) ∧ cZ3 w' gb364 (.bool a1_0) (.int .u64 a1_1) (.int .u64 a1_2)) (ds := []) ⟨kZ4 BK363.out, kZ3 BK364.out⟩ (fun hHeld => ?_); refine with_tabW nameplateref05_Index.tab1 nameplateref05_Index.bits1 (fun HT_ HW_ => ?_)
  generalize w26.drew = w27 at BK363 BK364 HB hHeld ⊢
  refine pT 0 6 ?_
  refine pT 1 7 ?_
  refine pO 2 8 (fun K hK => ?_)
  refine gO Tryz.func18 #[.agg #[.bool a0_0, .int .u64 a0_1, .int .u64 a0_2, .int .i64 a0_3], .agg #[.bool a1_0, .int .u64 a1_1, .int .u64 a1_2]] ?_
  with_reducible refine (nameplateref05_Has.calls k a0_0 a0_1 a0_2 a0_3 a1_0 a1_1 a1_2 false _ A3.out).mono ?_
  rintro e w28 ⟨rfl, hb⟩
  refine ⟨_, rfl, ?_⟩
  replace BK363 := kB BK363.out hb
  replace BK364 := kB BK364.out hb
  replace HB := bS HB.out hb
  (try clear hb)
  refine hK.out _ _ ⟨kZ4 BK363.out, kZ3 BK364.out⟩ (fun hHeld => ?_)
  clear hK K
  refine pN ?_
  refine pP 3 9 ?_
  refine pP 4 10 ?_
  refine pU 5 11 ?_
  refine pU 6 12 ?_
  refine pU 7 13 ?_
  refine pU 8 14 ?_
  refine pU 9 15 ?_
  refine pU 10 16 ?_
  refine pP 11 17 ?_
  refine pP 12 18 ?_
  refine pU 13 19 ?_
  refine pU 14 20 ?_
  refine pU 15 21 ?_
  refine pU 16 22 ?_
  refine pU 17 23 ?_
  refine pU 18 24 ?_
  refine pU 19 25 ?_
  refine pU 20 26 ?_
  refine pU 21 27 ?_
  refine pU 22 28 ?_
  refine pP 23 29 ?_
  refine pD ?_
  try go_wp2
  go_ret2
  exact ⟨tE, tB HB.out⟩

end Go.Proofs.YtbalmnkbodcigaaGreatDoor.ORc
namespace Go.Proofs.YtbalmnkbodcigaaGreatDoor.ORc
open Go.RowKit Go.Proofs.YtbalmnkbodcigaaGreatDoorW.PrintWords Go.Proofs.YtbalmnkbodcigaaGreatDoorW.PrintLast Go.Proofs.YtbalmnkbodcigaaGreatDoorW.PrintMore
attribute [local go_sem] max2_int min2_int max_two min_two max_three min_three max_four min_four   -- for this text's walks alone
set_option linter.unusedVariables false
set_option linter.unusedSimpArgs false

/-! ### ranges_Meet: function 19 -/
def ranges_Meet.f (a0_0 : Bool) (a0_1 : Int) (a0_2 : Int) (a0_3 : Int) (a1_0 : Bool) (a1_1 : Int) (a1_2 : Int) (a1_3 : Int) : Option (Bool) := (ranges_Has.f a0_0 a0_1 a0_2 a0_3 a1_0 a1_1 a1_2).bind fun t369 => (if t369 = true then ((ranges_Check.f a1_0 a1_1 a1_2 a1_3).bind fun t370 => (if t370 = 0 then (some true) else ((ranges_Has.f a1_0 a1_1 a1_2 a1_3 a0_0 a0_1 a0_2).bind fun t371 => (if t371 = true then ((ranges_Check.f a0_0 a0_1 a0_2 a0_3).bind fun t372 => (some (t372 == 0))) else (some false))))) else ((ranges_Has.f a1_0 a1_1 a1_2 a1_3 a0_0 a0_1 a0_2).bind fun t373 => (if t373 = true then ((ranges_Check.f a0_0 a0_1 a0_2 a0_3).bind fun t374 => (some (t374 == 0))) else (some false))))
set_option maxHeartbeats 8000000 in
set_option maxRecDepth 100000 in
theorem ranges_Meet.calls (a0_0 : Bool) (a0_1 : Int) (a0_2 : Int) (a0_3 : Int) (a1_0 : Bool) (a1_1 : Int) (a1_2 : Int) (a1_3 : Int) (r : Bool) (w : World) (h : ranges_Meet.f a0_0 a0_1 a0_2 a0_3 a1_0 a1_1 a1_2 a1_3 = some r) :
  Calls Tryz.prog 19 #[.agg #[.bool a0_0, .int .u64 a0_1, .int .u64 a0_2, .int .i64 a0_3], .agg #[.bool a1_0, .int .u64 a1_1, .int .u64 a1_2, .int .i64 a1_3]] w fun e w' => e = .returned (.bool r) ∧ Below w.heap.size w w' := by
 have hu26 := Tryz.underlying26
 have hu24 := Tryz.underlying24
 have HB := aM (Below.refl w.heap.size w)
 have H : ((ranges_Has.f a0_0 a0_1 a0_2 a0_3 a1_0 a1_1 a1_2).bind fun t369 => (if t369 = true then ((ranges_Check.f a1_0 a1_1 a1_2 a1_3).bind fun t370 => (if t370 = 0 then (some true) else ((ranges_Has.f a1_0 a1_1 a1_2 a1_3 a0_0 a0_1 a0_2).bind fun t371 => (if t371 = true then ((ranges_Check.f a0_0 a0_1 a0_2 a0_3).bind fun t372 => (some (t372 == 0))) else (some false))))) else ((ranges_Has.f a1_0 a1_1 a1_2 a1_3 a0_0 a0_1 a0_2).bind fun t373 => (if t373 = true then ((ranges_Check.f a0_0 a0_1 a0_2 a0_3).bind fun t374 => (some (t374 == 0))) else (some false))))) = some r := h
 clear h
 obtain ⟨t369, A3, H⟩ := oB H
 try dsimp only at H
 by_cases c4 : t369 = true
 ·subst c4
  rw [if_pos rfl] at H
  obtain ⟨t370, A5, H⟩ := oB H
  try dsimp only at H
  by_cases c6 : t370 = 0
  ·rw [if_pos c6] at H
   have c6b0 : (t370 == 0) = true := beq_iff_eq.mpr c6
   have c6b1 : (t370 != 0) = false := bne_eq_false_iff_eq.mpr c6
   clear c6
   obtain rfl := Option.some.inj H
   go_enter Tryz.func19, Tryz.ntmps19
   go_wp2_with (first | ((with_reducible refine gD 2 rfl ?_); refine bX 2 #[.bool a0_0, .int .u64 a0_1, .int .u64 a0_2, .int .i64 a0_3] 26 ?_; intro gb367 hg w7 hbox hb; have BK367 := aM hbox; have GW367 := gS hg HB.out; have GE367 := GW367; replace HB := bS HB.out hb; clear hb hbox hg) | ((with_reducible refine gD 3 rfl ?_); refine bX 3 #[.bool a1_0, .int .u64 a1_1, .int .u64 a1_2, .int .i64 a1_3] 26 ?_; intro gb368 hg w8 hbox hb; have BK368 := aM hbox; have GW368 := gS hg HB.out; have GE368 := GW368; have NB367_368 := nB hg BK367.out; have NB368_367 := nS (nB hg BK367.out); replace BK367 := kB BK367.out hb; replace HB := bS HB.out hb; clear hb hbox hg; have hnb9 := NB367_368.out; have hnc9 := NB368_367.out; obtain ⟨hcz10_0, hcz10_1, hcz10_2, hcz10_3, hfz10_0, hfz10_1, hfz10_2, hfz10_3⟩ := kY4 BK367.out; obtain ⟨hcz11_0, hcz11_1, hcz11_2, hcz11_3, hfz11_0, hfz11_1, hfz11_2, hfz11_3⟩ := kY4 BK368.out) | ((with_reducible refine gC 17 rfl ?_); refine gL (some 8) Tryz.func17 #[.agg #[.bool a0_0, .int .u64 a0_1, .int .u64 a0_2, .int .i64 a0_3], .agg #[.bool a1_0, .int .u64 a1_1, .int .u64 a1_2]] ?_; (with_reducible refine (ranges_Has.calls a0_0 a0_1 a0_2 a0_3 a1_0 a1_1 a1_2 true _ A3.out).mono ?_); rintro e w12 ⟨rfl, hb⟩; refine ⟨_, rfl, ?_⟩; replace BK367 := kB BK367.out hb; replace BK368 := kB BK368.out hb; replace HB := bS HB.out hb; (try clear hb); obtain ⟨hcz13_0, hcz13_1, hcz13_2, hcz13_3, hfz13_0, hfz13_1, hfz13_2, hfz13_3⟩ := kY4 BK368.out) | (go_at_call 15; (with_reducible refine (ranges_Check.calls a1_0 a1_1 a1_2 a1_3 t370 _ A5.out).mono ?_); rintro e w14 ⟨rfl, hb⟩; replace BK367 := kB BK367.out hb; replace BK368 := kB BK368.out hb; replace HB := bS HB.out hb; (try clear hb)))
   go_ret
   exact ⟨tE, tB HB.out⟩
  ·rw [if_neg c6] at H
   have c6b0 : (t370 == 0) = false := beq_eq_false_iff_ne.mpr c6
   have c6b1 : (t370 != 0) = true := bne_iff_ne.mpr c6
   obtain ⟨t371, A15, H⟩ := oB H
   try dsimp only at H
   by_cases c16 : t371 = true
   ·subst c16
    rw [if_pos rfl] at H
    obtain ⟨t372, A17, H⟩ := oB H
    try dsimp only at H
    obtain rfl := Option.some.inj H
    go_enter Tryz.func19, Tryz.ntmps19
    go_wp2_with (first | ((with_reducible refine gD 2 rfl ?_); refine bX 2 #[.bool a0_0, .int .u64 a0_1, .int .u64 a0_2, .int .i64 a0_3] 26 ?_; intro gb367 hg w18 hbox hb; have BK367 := aM hbox; have GW367 := gS hg HB.out; have GE367 := GW367; replace HB := bS HB.out hb; clear hb hbox hg) | ((with_reducible refine gD 3 rfl ?_); refine bX 3 #[.bool a1_0, .int .u64 a1_1, .int .u64 a1_2, .int .i64 a1_3] 26 ?_; intro gb368 hg w19 hbox hb; have BK368 := aM hbox; have GW368 := gS hg HB.out; have GE368 := GW368; have NB367_368 := nB hg BK367.out; have NB368_367 := nS (nB hg BK367.out); replace BK367 := kB BK367.out hb; replace HB := bS HB.out hb; clear hb hbox hg; have hnb20 := NB367_368.out; have hnc20 := NB368_367.out; obtain ⟨hcz21_0, hcz21_1, hcz21_2, hcz21_3, hfz21_0, hfz21_1, hfz21_2, hfz21_3⟩ := kY4 BK367.out; obtain ⟨hcz22_0, hcz22_1, hcz22_2, hcz22_3, hfz22_0, hfz22_1, hfz22_2, hfz22_3⟩ := kY4 BK368.out) | ((with_reducible refine gC 17 rfl ?_); refine gL (some 8) Tryz.func17 #[.agg #[.bool a0_0, .int .u64 a0_1, .int .u64 a0_2, .int .i64 a0_3], .agg #[.bool a1_0, .int .u64 a1_1, .int .u64 a1_2]] ?_; (with_reducible refine (ranges_Has.calls a0_0 a0_1 a0_2 a0_3 a1_0 a1_1 a1_2 true _ A3.out).mono ?_); rintro e w23 ⟨rfl, hb⟩; refine ⟨_, rfl, ?_⟩; replace BK367 := kB BK367.out hb; replace BK368 := kB BK368.out hb; replace HB := bS HB.out hb; (try clear hb); obtain ⟨hcz24_0, hcz24_1, hcz24_2, hcz24_3, hfz24_0, hfz24_1, hfz24_2, hfz24_3⟩ := kY4 BK368.out) | (go_at_call 15; (with_reducible refine (ranges_Check.calls a1_0 a1_1 a1_2 a1_3 t370 _ A5.out).mono ?_); rintro e w25 ⟨rfl, hb⟩; replace BK367 := kB BK367.out hb; replace BK368 := kB BK368.out hb; replace HB := bS HB.out hb; (try clear hb); obtain ⟨hcz26_0, hcz26_1, hcz26_2, hcz26_3, hfz26_0, hfz26_1, hfz26_2, hfz26_3⟩ := kY4 BK368.out; obtain ⟨hcz27_0, hcz27_1, hcz27_2, hcz27_3, hfz27_0, hfz27_1, hfz27_2, hfz27_3⟩ := kY4 BK367.out) | (go_at_call 17; (with_reducible refine (ranges_Has.calls a1_0 a1_1 a1_2 a1_3 a0_0 a0_1 a0_2 true _ A15.out).mono ?_); rintro e w28 ⟨rfl, hb⟩; replace BK367 := kB BK367.out hb; replace BK368 := kB BK368.out hb; replace HB := bS HB.out hb; (try clear hb); obtain ⟨hcz29_0, hcz29_1, hcz29_2, hcz29_3, hfz29_0, hfz29_1, hfz29_2, hfz29_3⟩ := kY4 BK367.out) | (go_at_call 15; (with_reducible refine (ranges_Check.calls a0_0 a0_1 a0_2 a0_3 t372 _ A17.out).mono ?_); rintro e w30 ⟨rfl, hb⟩; replace BK367 := kB BK367.out hb; replace BK368 := kB BK368.out hb; replace HB := bS HB.out hb; (try clear hb)))
    go_ret
    exact ⟨tE, tB HB.out⟩
   ·replace c16 := Bool.eq_false_iff.mpr c16
    subst c16
    rw [if_neg (show ¬ (false = true) by decide)] at H
    obtain rfl := Option.some.inj H
    go_enter Tryz.func19, Tryz.ntmps19
    go_wp2_with (first | ((with_reducible refine gD 2 rfl ?_); refine bX 2 #[.bool a0_0, .int .u64 a0_1, .int .u64 a0_2, .int .i64 a0_3] 26 ?_; intro gb367 hg w31 hbox hb; have BK367 := aM hbox; have GW367 := gS hg HB.out; have GE367 := GW367; replace HB := bS HB.out hb; clear hb hbox hg) | ((with_reducible refine gD 3 rfl ?_); refine bX 3 #[.bool a1_0, .int .u64 a1_1, .int .u64 a1_2, .int .i64 a1_3] 26 ?_; intro gb368 hg w32 hbox hb; have BK368 := aM hbox; have GW368 := gS hg HB.out; have GE368 := GW368; have NB367_368 := nB hg BK367.out; have NB368_367 := nS (nB hg BK367.out); replace BK367 := kB BK367.out hb; replace HB := bS HB.out hb; clear hb hbox hg; have hnb33 := NB367_368.out; have hnc33 := NB368_367.out; obtain ⟨hcz34_0, hcz34_1, hcz34_2, hcz34_3, hfz34_0, hfz34_1, hfz34_2, hfz34_3⟩ := kY4 BK367.out; obtain ⟨hcz35_0, hcz35_1, hcz35_2, hcz35_3, hfz35_0, hfz35_1, hfz35_2, hfz35_3⟩ := kY4 BK368.out) | ((with_reducible refine gC 17 rfl ?_); refine gL (some 8) Tryz.func17 #[.agg #[.bool a0_0, .int .u64 a0_1, .int .u64 a0_2, .int .i64 a0_3], .agg #[.bool a1_0, .int .u64 a1_1, .int .u64 a1_2]] ?_; (with_reducible refine (ranges_Has.calls a0_0 a0_1 a0_2 a0_3 a1_0 a1_1 a1_2 true _ A3.out).mono ?_); rintro e w36 ⟨rfl, hb⟩; refine ⟨_, rfl, ?_⟩; replace BK367 := kB BK367.out hb; replace BK368 := kB BK368.out hb; replace HB := bS HB.out hb; (try clear hb); obtain ⟨hcz37_0, hcz37_1, hcz37_2, hcz37_3, hfz37_0, hfz37_1, hfz37_2, hfz37_3⟩ := kY4 BK368.out) | (go_at_call 15; (with_reducible refine (ranges_Check.calls a1_0 a1_1 a1_2 a1_3 t370 _ A5.out).mono ?_); rintro e w38 ⟨rfl, hb⟩; replace BK367 := kB BK367.out hb; replace BK368 := kB BK368.out hb; replace HB := bS HB.out hb; (try clear hb); obtain ⟨hcz39_0, hcz39_1, hcz39_2, hcz39_3, hfz39_0, hfz39_1, hfz39_2, hfz39_3⟩ := kY4 BK368.out; obtain ⟨hcz40_0, hcz40_1, hcz40_2, hcz40_3, hfz40_0, hfz40_1, hfz40_2, hfz40_3⟩ := kY4 BK367.out) | (go_at_call 17; (with_reducible refine (ranges_Has.calls a1_0 a1_1 a1_2 a1_3 a0_0 a0_1 a0_2 false _ A15.out).mono ?_); rintro e w41 ⟨rfl, hb⟩; replace BK367 := kB BK367.out hb; replace BK368 := kB BK368.out hb; replace HB := bS HB.out hb; (try clear hb)))
    go_ret
    exact ⟨tE, tB HB.out⟩
 ·replace c4 := Bool.eq_false_iff.mpr c4
  subst c4
  rw [if_neg (show ¬ (false = true) by decide)] at H
  obtain ⟨t373, A42, H⟩ := oB H
  try dsimp only at H
  by_cases c43 : t373 = true
  ·subst c43
   rw [if_pos rfl] at H
   obtain ⟨t374, A44, H⟩ := oB H
   try dsimp only at H
   obtain rfl := Option.some.inj H
   go_enter Tryz.func19, Tryz.ntmps19
   go_wp2_with (first | ((with_reducible refine gD 2 rfl ?_); refine bX 2 #[.bool a0_0, .int .u64 a0_1, .int .u64 a0_2, .int .i64 a0_3] 26 ?_; intro gb367 hg w45 hbox hb; have BK367 := aM hbox; have GW367 := gS hg HB.out; have GE367 := GW367; replace HB := bS HB.out hb; clear hb hbox hg) | ((with_reducible refine gD 3 rfl ?_); refine bX 3 #[.bool a1_0, .int .u64 a1_1, .int .u64 a1_2, .int .i64 a1_3] 26 ?_; intro gb368 hg w46 hbox hb; have BK368 := aM hbox; have GW368 := gS hg HB.out; have GE368 := GW368; have NB367_368 := nB hg BK367.out; have NB368_367 := nS (nB hg BK367.out); replace BK367 := kB BK367.out hb; replace HB := bS HB.out hb; clear hb hbox hg; have hnb47 := NB367_368.out; have hnc47 := NB368_367.out; obtain ⟨hcz48_0, hcz48_1, hcz48_2, hcz48_3, hfz48_0, hfz48_1, hfz48_2, hfz48_3⟩ := kY4 BK367.out; obtain ⟨hcz49_0, hcz49_1, hcz49_2, hcz49_3, hfz49_0, hfz49_1, hfz49_2, hfz49_3⟩ := kY4 BK368.out) | ((with_reducible refine gC 17 rfl ?_); refine gL (some 8) Tryz.func17 #[.agg #[.bool a0_0, .int .u64 a0_1, .int .u64 a0_2, .int .i64 a0_3], .agg #[.bool a1_0, .int .u64 a1_1, .int .u64 a1_2]] ?_; (with_reducible refine (ranges_Has.calls a0_0 a0_1 a0_2 a0_3 a1_0 a1_1 a1_2 false _ A3.out).mono ?_); rintro e w50 ⟨rfl, hb⟩; refine ⟨_, rfl, ?_⟩; replace BK367 := kB BK367.out hb; replace BK368 := kB BK368.out hb; replace HB := bS HB.out hb; (try clear hb); obtain ⟨hcz51_0, hcz51_1, hcz51_2, hcz51_3, hfz51_0, hfz51_1, hfz51_2, hfz51_3⟩ := kY4 BK368.out; obtain ⟨hcz52_0, hcz52_1, hcz52_2, hcz52_3, hfz52_0, hfz52_1, hfz52_2, hfz52_3⟩ := kY4 BK367.out) | (go_at_call 17; (with_reducible refine (ranges_Has.calls a1_0 a1_1 a1_2 a1_3 a0_0 a0_1 a0_2 true _ A42.out).mono ?_); rintro e w53 ⟨rfl, hb⟩; replace BK367 := kB BK367.out hb; replace BK368 := kB BK368.out hb; replace HB := bS HB.out hb; (try clear hb); obtain ⟨hcz54_0, hcz54_1, hcz54_2, hcz54_3, hfz54_0, hfz54_1, hfz54_2, hfz54_3⟩ := kY4 BK367.out) | (go_at_call 15; (with_reducible refine (ranges_Check.calls a0_0 a0_1 a0_2 a0_3 t374 _ A44.out).mono ?_); rintro e w55 ⟨rfl, hb⟩; replace BK367 := kB BK367.out hb; replace BK368 := kB BK368.out hb; replace HB := bS HB.out hb; (try clear hb)))
   go_ret
   exact ⟨tE, tB HB.out⟩
  ·replace c43 := Bool.eq_false_iff.mpr c43
   subst c43
   rw [if_neg (show ¬ (false = true) by decide)] at H
   obtain rfl := Option.some.inj H
   go_enter Tryz.func19, Tryz.ntmps19
   go_wp2_with (first | ((with_reducible refine gD 2 rfl ?_); refine bX 2 #[.bool a0_0, .int .u64 a0_1, .int .u64 a0_2, .int .i64 a0_3] 26 ?_; intro gb367 hg w56 hbox hb; have BK367 := aM hbox; have GW367 := gS hg HB.out; have GE367 := GW367; replace HB := bS HB.out hb; clear hb hbox hg) | ((with_reducible refine gD 3 rfl ?_); refine bX 3 #[.bool a1_0, .int .u64 a1_1, .int .u64 a1_2, .int .i64 a1_3] 26 ?_; intro gb368 hg w57 hbox hb; have BK368 := aM hbox; have GW368 := gS hg HB.out; have GE368 := GW368; have NB367_368 := nB hg BK367.out; have NB368_367 := nS (nB hg BK367.out); replace BK367 := kB BK367.out hb; replace HB := bS HB.out hb; clear hb hbox hg; have hnb58 := NB367_368.out; have hnc58 := NB368_367.out; obtain ⟨hcz59_0, hcz59_1, hcz59_2, hcz59_3, hfz59_0, hfz59_1, hfz59_2, hfz59_3⟩ := kY4 BK367.out; obtain ⟨hcz60_0, hcz60_1, hcz60_2, hcz60_3, hfz60_0, hfz60_1, hfz60_2, hfz60_3⟩ := kY4 BK368.out) | ((with_reducible refine gC 17 rfl ?_); refine gL (some 8) Tryz.func17 #[.agg #[.bool a0_0, .int .u64 a0_1, .int .u64 a0_2, .int .i64 a0_3], .agg #[.bool a1_0, .int .u64 a1_1, .int .u64 a1_2]] ?_; (with_reducible refine (ranges_Has.calls a0_0 a0_1 a0_2 a0_3 a1_0 a1_1 a1_2 false _ A3.out).mono ?_); rintro e w61 ⟨rfl, hb⟩; refine ⟨_, rfl, ?_⟩; replace BK367 := kB BK367.out hb; replace BK368 := kB BK368.out hb; replace HB := bS HB.out hb; (try clear hb); obtain ⟨hcz62_0, hcz62_1, hcz62_2, hcz62_3, hfz62_0, hfz62_1, hfz62_2, hfz62_3⟩ := kY4 BK368.out; obtain ⟨hcz63_0, hcz63_1, hcz63_2, hcz63_3, hfz63_0, hfz63_1, hfz63_2, hfz63_3⟩ := kY4 BK367.out) | (go_at_call 17; (with_reducible refine (ranges_Has.calls a1_0 a1_1 a1_2 a1_3 a0_0 a0_1 a0_2 false _ A42.out).mono ?_); rintro e w64 ⟨rfl, hb⟩; replace BK367 := kB BK367.out hb; replace BK368 := kB BK368.out hb; replace HB := bS HB.out hb; (try clear hb)))
   go_ret
   exact ⟨tE, tB HB.out⟩

/-! ### nameplateref05_Meet: function 20 -/
def nameplateref05_Meet.f (k : Nat) (a0_0 : Bool) (a0_1 : Int) (a0_2 : Int) (a0_3 : Int) (a1_0 : Bool) (a1_1 : Int) (a1_2 : Int) (a1_3 : Int) : Option (Bool) := (nameplateref05_Check.f k a0_0 a0_1 a0_2 a0_3).bind fun t377 => (if t377 = 0 then ((nameplateref05_Check.f k a1_0 a1_1 a1_2 a1_3).bind fun t378 => (if t378 = 0 then ((nameplateref05_Has.f k a0_0 a0_1 a0_2 a0_3 a1_0 a1_1 a1_2).bind fun t379 => (if t379 = true then (some true) else ((nameplateref05_Has.f k a1_0 a1_1 a1_2 a1_3 a0_0 a0_1 a0_2).bind fun t380 => (some t380)))) else (some false))) else (some false))
theorem nameplateref05_Meet.mono : ∀ a0 a1 a2 a3 a4 a5 a6 a7 k, LeO (nameplateref05_Meet.f k a0 a1 a2 a3 a4 a5 a6 a7) (nameplateref05_Meet.f (k + 1) a0 a1 a2 a3 a4 a5 a6 a7) := by
 intro a0 a1 a2 a3 a4 a5 a6 a7 k
 unfold nameplateref05_Meet.f
 repeat' first | (with_reducible first | apply nameplateref05_Check.mono | apply nameplateref05_Has.mono | exact LeO.refl _ | exact LeO.none _ | refine LeO.ite ?_ ?_ | refine LeO.bind ?_ (fun _ => ?_)) | apply nameplateref05_Check.mono | apply nameplateref05_Has.mono | exact LeO.none _ | refine LeO.ite ?_ ?_ | refine LeO.bind ?_ (fun _ => ?_)
set_option maxHeartbeats 8000000 in
set_option maxRecDepth 100000 in
theorem nameplateref05_Meet.calls (k : Nat) (a0_0 : Bool) (a0_1 : Int) (a0_2 : Int) (a0_3 : Int) (a1_0 : Bool) (a1_1 : Int) (a1_2 : Int) (a1_3 : Int) (r : Bool) (w : World) (h : nameplateref05_Meet.f k a0_0 a0_1 a0_2 a0_3 a1_0 a1_1 a1_2 a1_3 = some r) :
  Calls Tryz.prog 20 #[.agg #[.bool a0_0, .int .u64 a0_1, .int .u64 a0_2, .int .i64 a0_3], .agg #[.bool a1_0, .int .u64 a1_1, .int .u64 a1_2, .int .i64 a1_3]] w fun e w' => e = .returned (.bool r) ∧ Below w.heap.size w w' := by
 have hu26 := Tryz.underlying26
 have hu24 := Tryz.underlying24
 have HB := aM (Below.refl w.heap.size w)
 have H : ((nameplateref05_Check.f k a0_0 a0_1 a0_2 a0_3).bind fun t377 => (if t377 = 0 then ((nameplateref05_Check.f k a1_0 a1_1 a1_2 a1_3).bind fun t378 => (if t378 = 0 then ((nameplateref05_Has.f k a0_0 a0_1 a0_2 a0_3 a1_0 a1_1 a1_2).bind fun t379 => (if t379 = true then (some true) else ((nameplateref05_Has.f k a1_0 a1_1 a1_2 a1_3 a0_0 a0_1 a0_2).bind fun t380 => (some t380)))) else (some false))) else (some false))) = some r := h
 clear h
 obtain ⟨t377, A3, H⟩ := oB H
 try dsimp only at H
 by_cases c4 : t377 = 0
 ·rw [if_pos c4] at H
  have c4b0 : (t377 == 0) = true := beq_iff_eq.mpr c4
  have c4b1 : (t377 != 0) = false := bne_eq_false_iff_eq.mpr c4
  clear c4
  obtain ⟨t378, A5, H⟩ := oB H
  try dsimp only at H
  by_cases c6 : t378 = 0
  ·rw [if_pos c6] at H
   have c6b0 : (t378 == 0) = true := beq_iff_eq.mpr c6
   have c6b1 : (t378 != 0) = false := bne_eq_false_iff_eq.mpr c6
   clear c6
   obtain ⟨t379, A7, H⟩ := oB H
   try dsimp only at H
   by_cases c8 : t379 = true
   ·subst c8
    rw [if_pos rfl] at H
    obtain rfl := Option.some.inj H
    go_enter Tryz.func20, Tryz.ntmps20
    go_wp2_with (first | ((with_reducible refine gD 2 rfl ?_); refine bX 2 #[.bool a0_0, .int .u64 a0_1, .int .u64 a0_2, .int .i64 a0_3] 26 ?_; intro gb375 hg w9 hbox hb; have BK375 := aM hbox; have GW375 := gS hg HB.out; have GE375 := GW375; replace HB := bS HB.out hb; clear hb hbox hg) | ((with_reducible refine gD 3 rfl ?_); refine bX 3 #[.bool a1_0, .int .u64 a1_1, .int .u64 a1_2, .int .i64 a1_3] 26 ?_; intro gb376 hg w10 hbox hb; have BK376 := aM hbox; have GW376 := gS hg HB.out; have GE376 := GW376; have NB375_376 := nB hg BK375.out; have NB376_375 := nS (nB hg BK375.out); replace BK375 := kB BK375.out hb; replace HB := bS HB.out hb; clear hb hbox hg; have hnb11 := NB375_376.out; have hnc11 := NB376_375.out; obtain ⟨hcz12_0, hcz12_1, hcz12_2, hcz12_3, hfz12_0, hfz12_1, hfz12_2, hfz12_3⟩ := kY4 BK375.out) | ((with_reducible refine gC 16 rfl ?_); refine gL (some 6) Tryz.func16 #[.agg #[.bool a0_0, .int .u64 a0_1, .int .u64 a0_2, .int .i64 a0_3]] ?_; (with_reducible refine (nameplateref05_Check.calls k a0_0 a0_1 a0_2 a0_3 t377 _ A3.out).mono ?_); rintro e w13 ⟨rfl, hb⟩; refine ⟨_, rfl, ?_⟩; replace BK375 := kB BK375.out hb; replace BK376 := kB BK376.out hb; replace HB := bS HB.out hb; (try clear hb); obtain ⟨hcz14_0, hcz14_1, hcz14_2, hcz14_3, hfz14_0, hfz14_1, hfz14_2, hfz14_3⟩ := kY4 BK376.out) | (go_at_call 16; (with_reducible refine (nameplateref05_Check.calls k a1_0 a1_1 a1_2 a1_3 t378 _ A5.out).mono ?_); rintro e w15 ⟨rfl, hb⟩; replace BK375 := kB BK375.out hb; replace BK376 := kB BK376.out hb; replace HB := bS HB.out hb; (try clear hb); obtain ⟨hcz16_0, hcz16_1, hcz16_2, hcz16_3, hfz16_0, hfz16_1, hfz16_2, hfz16_3⟩ := kY4 BK375.out; obtain ⟨hcz17_0, hcz17_1, hcz17_2, hcz17_3, hfz17_0, hfz17_1, hfz17_2, hfz17_3⟩ := kY4 BK376.out) | (go_at_call 18; (with_reducible refine (nameplateref05_Has.calls k a0_0 a0_1 a0_2 a0_3 a1_0 a1_1 a1_2 true _ A7.out).mono ?_); rintro e w18 ⟨rfl, hb⟩; replace BK375 := kB BK375.out hb; replace BK376 := kB BK376.out hb; replace HB := bS HB.out hb; (try clear hb)))
    go_ret
    exact ⟨tE, tB HB.out⟩
   ·replace c8 := Bool.eq_false_iff.mpr c8
    subst c8
    rw [if_neg (show ¬ (false = true) by decide)] at H
    obtain ⟨t380, A19, H⟩ := oB H
    try dsimp only at H
    obtain rfl := Option.some.inj H
    go_enter Tryz.func20, Tryz.ntmps20
    go_wp2_with (first | ((with_reducible refine gD 2 rfl ?_); refine bX 2 #[.bool a0_0, .int .u64 a0_1, .int .u64 a0_2, .int .i64 a0_3] 26 ?_; intro gb375 hg w20 hbox hb; have BK375 := aM hbox; have GW375 := gS hg HB.out; have GE375 := GW375; replace HB := bS HB.out hb; clear hb hbox hg) | ((with_reducible refine gD 3 rfl ?_); refine bX 3 #[.bool a1_0, .int .u64 a1_1, .int .u64 a1_2, .int .i64 a1_3] 26 ?_; intro gb376 hg w21 hbox hb; have BK376 := aM hbox; have GW376 := gS hg HB.out; have GE376 := GW376; have NB375_376 := nB hg BK375.out; have NB376_375 := nS (nB hg BK375.out); replace BK375 := kB BK375.out hb; replace HB := bS HB.out hb; clear hb hbox hg; have hnb22 := NB375_376.out; have hnc22 := NB376_375.out; obtain ⟨hcz23_0, hcz23_1, hcz23_2, hcz23_3, hfz23_0, hfz23_1, hfz23_2, hfz23_3⟩ := kY4 BK375.out) | ((with_reducible refine gC 16 rfl ?_); refine gL (some 6) Tryz.func16 #[.agg #[.bool a0_0, .int .u64 a0_1, .int .u64 a0_2, .int .i64 a0_3]] ?_; (with_reducible refine (nameplateref05_Check.calls k a0_0 a0_1 a0_2 a0_3 t377 _ A3.out).mono ?_); rintro e w24 ⟨rfl, hb⟩; refine ⟨_, rfl, ?_⟩; replace BK375 := kB BK375.out hb; replace BK376 := kB BK376.out hb; replace HB := bS HB.out hb; (try clear hb); obtain ⟨hcz25_0, hcz25_1, hcz25_2, hcz25_3, hfz25_0, hfz25_1, hfz25_2, hfz25_3⟩ := kY4 BK376.out) | (go_at_call 16; (with_reducible refine (nameplateref05_Check.calls k a1_0 a1_1 a1_2 a1_3 t378 _ A5.out).mono ?_); rintro e w26 ⟨rfl, hb⟩; replace BK375 := kB BK375.out hb; replace BK376 := kB BK376.out hb; replace HB := bS HB.out hb; (try clear hb); obtain ⟨hcz27_0, hcz27_1, hcz27_2, hcz27_3, hfz27_0, hfz27_1, hfz27_2, hfz27_3⟩ := kY4 BK375.out; obtain ⟨hcz28_0, hcz28_1, hcz28_2, hcz28_3, hfz28_0, hfz28_1, hfz28_2, hfz28_3⟩ := kY4 BK376.out) | (go_at_call 18; (with_reducible refine (nameplateref05_Has.calls k a0_0 a0_1 a0_2 a0_3 a1_0 a1_1 a1_2 false _ A7.out).mono ?_); rintro e w29 ⟨rfl, hb⟩; replace BK375 := kB BK375.out hb; replace BK376 := kB BK376.out hb; replace HB := bS HB.out hb; (try clear hb); obtain ⟨hcz30_0, hcz30_1, hcz30_2, hcz30_3, hfz30_0, hfz30_1, hfz30_2, hfz30_3⟩ := kY4 BK376.out; obtain ⟨hcz31_0, hcz31_1, hcz31_2, hcz31_3, hfz31_0, hfz31_1, hfz31_2, hfz31_3⟩ := kY4 BK375.out) | (go_at_call 18; (with_reducible refine (nameplateref05_Has.calls k a1_0 a1_1 a1_2 a1_3 a0_0 a0_1 a0_2 t380 _ A19.out).mono ?_); rintro e w32 ⟨rfl, hb⟩; replace BK375 := kB BK375.out hb; replace BK376 := kB BK376.out hb; replace HB := bS HB.out hb; (try clear hb)))
    go_ret
    exact ⟨tE, tB HB.out⟩
  ·rw [if_neg c6] at H
   have c6b0 : (t378 == 0) = false := beq_eq_false_iff_ne.mpr c6
   have c6b1 : (t378 != 0) = true := bne_iff_ne.mpr c6
   obtain rfl := Option.some.inj H
   go_enter Tryz.func20, Tryz.ntmps20
   go_wp2_with (first | ((with_reducible refine gD 2 rfl ?_); refine bX 2 #[.bool a0_0, .int .u64 a0_1, .int .u64 a0_2, .int .i64 a0_3] 26 ?_; intro gb375 hg w33 hbox hb; have BK375 := aM hbox; have GW375 := gS hg HB.out; have GE375 := GW375; replace HB := bS HB.out hb; clear hb hbox hg) | ((with_reducible refine gD 3 rfl ?_); refine bX 3 #[.bool a1_0, .int .u64 a1_1, .int .u64 a1_2, .int .i64 a1_3] 26 ?_; intro gb376 hg w34 hbox hb; have BK376 := aM hbox; have GW376 := gS hg HB.out; have GE376 := GW376; have NB375_376 := nB hg BK375.out; have NB376_375 := nS (nB hg BK375.out); replace BK375 := kB BK375.out hb; replace HB := bS HB.out hb; clear hb hbox hg; have hnb35 := NB375_376.out; have hnc35 := NB376_375.out; obtain ⟨hcz36_0, hcz36_1, hcz36_2, hcz36_3, hfz36_0, hfz36_1, hfz36_2, hfz36_3⟩ := kY4 BK375.out) | ((with_reducible refine gC 16 rfl ?_); refine gL (some 6) Tryz.func16 #[.agg #[.bool a0_0, .int .u64 a0_1, .int .u64 a0_2, .int .i64 a0_3]] ?_; (with_reducible refine (nameplateref05_Check.calls k a0_0 a0_1 a0_2 a0_3 t377 _ A3.out).mono ?_); rintro e w37 ⟨rfl, hb⟩; refine ⟨_, rfl, ?_⟩; replace BK375 := kB BK375.out hb; replace BK376 := kB BK376.out hb; replace HB := bS HB.out hb; (try clear hb); obtain ⟨hcz38_0, hcz38_1, hcz38_2, hcz38_3, hfz38_0, hfz38_1, hfz38_2, hfz38_3⟩ := kY4 BK376.out) | (go_at_call 16; (with_reducible refine (nameplateref05_Check.calls k a1_0 a1_1 a1_2 a1_3 t378 _ A5.out).mono ?_); rintro e w39 ⟨rfl, hb⟩; replace BK375 := kB BK375.out hb; replace BK376 := kB BK376.out hb; replace HB := bS HB.out hb; (try clear hb)))
   go_ret
   exact ⟨tE, tB HB.out⟩
 ·rw [if_neg c4] at H
  have c4b0 : (t377 == 0) = false := beq_eq_false_iff_ne.mpr c4
  have c4b1 : (t377 != 0) = true := bne_iff_ne.mpr c4
  obtain rfl := Option.some.inj H
  go_enter Tryz.func20, Tryz.ntmps20
  go_wp2_with (first | ((with_reducible refine gD 2 rfl ?_); refine bX 2 #[.bool a0_0, .int .u64 a0_1, .int .u64 a0_2, .int .i64 a0_3] 26 ?_; intro gb375 hg w40 hbox hb; have BK375 := aM hbox; have GW375 := gS hg HB.out; have GE375 := GW375; replace HB := bS HB.out hb; clear hb hbox hg) | ((with_reducible refine gD 3 rfl ?_); refine bX 3 #[.bool a1_0, .int .u64 a1_1, .int .u64 a1_2, .int .i64 a1_3] 26 ?_; intro gb376 hg w41 hbox hb; have BK376 := aM hbox; have GW376 := gS hg HB.out; have GE376 := GW376; have NB375_376 := nB hg BK375.out; have NB376_375 := nS (nB hg BK375.out); replace BK375 := kB BK375.out hb; replace HB := bS HB.out hb; clear hb hbox hg; have hnb42 := NB375_376.out; have hnc42 := NB376_375.out; obtain ⟨hcz43_0, hcz43_1, hcz43_2, hcz43_3, hfz43_0, hfz43_1, hfz43_2, hfz43_3⟩ := kY4 BK375.out) | ((with_reducible refine gC 16 rfl ?_); refine gL (some 6) Tryz.func16 #[.agg #[.bool a0_0, .int .u64 a0_1, .int .u64 a0_2, .int .i64 a0_3]] ?_; (with_reducible refine (nameplateref05_Check.calls k a0_0 a0_1 a0_2 a0_3 t377 _ A3.out).mono ?_); rintro e w44 ⟨rfl, hb⟩; refine ⟨_, rfl, ?_⟩; replace BK375 := kB BK375.out hb; replace BK376 := kB BK376.out hb; replace HB := bS HB.out hb; (try clear hb)))
  go_ret
  exact ⟨tE, tB HB.out⟩

/-! ### nameplatelaw05_light: function 21 -/
def nameplatelaw05_light.f (a0_0 : Bool) (a0_1 : Int) (a0_2 : Int) (a0_3 : Int) : Option (Bool) := (ranges_Size.f a0_0 a0_1 a0_2 a0_3).bind fun t382 => (some (decide (t382 ≤ 300)))
set_option maxHeartbeats 8000000 in
set_option maxRecDepth 100000 in
theorem nameplatelaw05_light.calls (a0_0 : Bool) (a0_1 : Int) (a0_2 : Int) (a0_3 : Int) (r : Bool) (w : World) (h : nameplatelaw05_light.f a0_0 a0_1 a0_2 a0_3 = some r) :
  Calls Tryz.prog 21 #[.agg #[.bool a0_0, .int .u64 a0_1, .int .u64 a0_2, .int .i64 a0_3]] w fun e w' => e = .returned (.bool r) ∧ Below w.heap.size w w' := by
 have hu26 := Tryz.underlying26
 have HB := aM (Below.refl w.heap.size w)
 have H : ((ranges_Size.f a0_0 a0_1 a0_2 a0_3).bind fun t382 => (some (decide (t382 ≤ 300)))) = some r := h
 clear h
 obtain ⟨t382, A2, H⟩ := oB H
 try dsimp only at H
 obtain rfl := Option.some.inj H
 go_enter Tryz.func21, Tryz.ntmps21
 go_wp2_with (first | ((with_reducible refine gD 1 rfl ?_); refine bX 1 #[.bool a0_0, .int .u64 a0_1, .int .u64 a0_2, .int .i64 a0_3] 26 ?_; intro gb381 hg w3 hbox hb; have BK381 := aM hbox; have GW381 := gS hg HB.out; have GE381 := GW381; replace HB := bS HB.out hb; clear hb hbox hg; obtain ⟨hcz4_0, hcz4_1, hcz4_2, hcz4_3, hfz4_0, hfz4_1, hfz4_2, hfz4_3⟩ := kY4 BK381.out) | ((with_reducible refine gC 13 rfl ?_); refine gL (some 4) Tryz.func13 #[.agg #[.bool a0_0, .int .u64 a0_1, .int .u64 a0_2, .int .i64 a0_3]] ?_; (with_reducible refine (ranges_Size.calls a0_0 a0_1 a0_2 a0_3 t382 _ A2.out).mono ?_); rintro e w5 ⟨rfl, hb⟩; refine ⟨_, rfl, ?_⟩; replace BK381 := kB BK381.out hb; replace HB := bS HB.out hb; (try clear hb)))
 go_ret
 exact ⟨tE, tB HB.out⟩




def ranges_Free.f (a0_0 : Bool) (a0_1 a0_2 a0_3 : Int) (l1 : List S26) : Option Int := RangeFree.freeF (fun x a => ranges_Has.f x.six x.hi x.lo x.bits a.six a.hi a.lo) (fun x => ranges_Size.f x.six x.hi x.lo x.bits) (fun a n => addr_Add.f a.six a.hi a.lo n) ⟨a0_0, a0_1, a0_2, a0_3⟩ (l1.map fun x => ⟨x.f0.f0, x.f0.f1, x.f0.f2, x.f1⟩)
theorem ranges_Free.calls (a0_0 : Bool) (a0_1 a0_2 a0_3 : Int) (A1 : Option Addr) (c1 : Nat) (l1 : List S26) (r : Int) (w : World) (hr1 : Kd.C k26 w A1 l1.length l1) (hc1 : l1.length ≤ c1) (h : ranges_Free.f a0_0 a0_1 a0_2 a0_3 l1 = some r) :
  Calls Tryz.prog 22 #[.agg #[.bool a0_0, .int .u64 a0_1, .int .u64 a0_2, .int .i64 a0_3], .slice A1 l1.length c1] w fun e w' => e = .returned (.int .i64 r) ∧ Below w.heap.size w w' := by
 have hc := RangeFree.row_of (q := fun x : S26 => (⟨x.f0.f0, x.f0.f1, x.f0.f2, x.f1⟩ : RangeRow.Rng)) rfl (fun x cs h => by obtain rfl := k26_open h; exact RangeRow.kR_mk _ _) hr1
 have hl : l1.length = (l1.map fun x : S26 => (⟨x.f0.f0, x.f0.f1, x.f0.f2, x.f1⟩ : RangeRow.Rng)).length := (List.length_map _).symm
 rw [hl] at hc ⊢
 exact RangeFree.free_calls _ _ _ (fun x a v w h => ranges_Has.calls _ _ _ _ _ _ _ v w h) (fun x v w h => ranges_Size.calls _ _ _ _ v w h) (fun a n v w h => addr_Add.calls _ _ _ n v.1 v.2.1 v.2.2.1 v.2.2.2 w h) _ _ r h A1 c1 w hc

/-! ### api_Range_23: function 23 -/
def api_Range_23.f (l0 : List (S26)) : Option ((List (S26))) := (some (([] : List (S26)) : List (S26))).bind fun y383 => (if y383.length + l0.length < 4398046511104 then (some (y383 ++ l0)) else (none))
set_option maxHeartbeats 8000000 in
set_option maxRecDepth 100000 in
theorem api_Range_23.calls (A0 : Option Addr) (c0 : Nat) (l0 : List (S26)) (r : List (S26)) (w : World) (hr0 : Kd.C k26 w A0 l0.length l0) (hc0 : l0.length ≤ c0) (h : api_Range_23.f l0 = some r) :
  Calls Tryz.prog 23 #[.slice A0 l0.length c0] w fun e w' => ∃ v0_ : Value, e = .returned (v0_) ∧ Kd.R k26 26 w' w.heap.size (fun _ => True) v0_ r ∧ Below w.heap.size w w' := by
 have HR0 := aM hr0
 have HC0 := aM hc0
 clear hr0 hc0
 have HB := aM (Below.refl w.heap.size w)
 have H : ((some (([] : List (S26)) : List (S26))).bind fun y383 => (if y383.length + l0.length < 4398046511104 then (some (y383 ++ l0)) else (none))) = some r := h
 clear h
 obtain ⟨y383, hy383⟩ : ∃ y_ : List (S26), y_ = (([] : List (S26))) := ⟨_, rfl⟩
 replace H : (if y383.length + l0.length < 4398046511104 then (some (y383 ++ l0)) else (none)) = some r := by first | (rw [hy383]; with_reducible exact H) | (have H2_ := (Option.bind_some _ _).symm.trans H; rw [hy383]; with_reducible exact H2_) | (have H2_ := (Option.bind_some _ _).symm.trans H; with_reducible exact H2_) | with_reducible exact H | (rw [hy383]; exact H) | exact H
 have Ny383 := aM hy383
 clear hy383
 by_cases c2 : y383.length + l0.length < 4398046511104
 ·rw [if_pos c2] at H
  have LMc2 := aM c2
  clear c2
  obtain ⟨y386, hy386⟩ : ∃ y_ : List (S26), y_ = (y383 ++ l0) := ⟨_, rfl⟩
  replace H : (some y386) = some r := by first | (rw [hy386]; with_reducible exact H) | (have H2_ := (Option.bind_some _ _).symm.trans H; rw [hy386]; with_reducible exact H2_) | (have H2_ := (Option.bind_some _ _).symm.trans H; with_reducible exact H2_) | with_reducible exact H | (rw [hy386]; exact H) | exact H
  have Ny386 := aM hy386
  clear hy386
  obtain rfl := Option.some.inj H
  go_enter Tryz.func23, Tryz.ntmps23
  go_wp2_with (first | ((with_reducible refine gD 3 rfl ?_); refine Kd.R_lit k26 _ 26 ?hg (N := 3) ?hd (xs := ([] : List (S26))) (inner := []) (ok := fun _ => True) (okp := fun _ => True) ?hr ?hp (fun _ hk => hk) trivial (Below.refl _ _) (Nat.le_refl _) (by simp) ?_; (case hd => rfl); (case hg => rfl); (case hr => first | (go_simp; done) | (go_simp; rfl)); (case hp => exact (Reps.none _ _)); intro v384 w3 ho4 hb hg_ hnew_; clear hg_ hnew_; (first | rw [← Ny383.out] at ho4 | (simp only [Int.reduceToNat] at ho4; rw [← Ny383.out] at ho4)); have HO385 := aM (Kd.R_lower ho4 (below_size (tB HB.out))); replace HB := bS HB.out hb; clear hb ho4) | ((with_reducible refine gate_builtin (b := .append) (xs := #[.tmp 3, .tmp 4]) rfl ?_); at_builtin; refine Kd.R_append_rows k26 (w0 := w) w.heap.size rfl (.tmp 3) (.tmp 4) 27 26 (.agg #[(.bool false), (.int .u64 0), (.int .u64 0), (.int .i64 0)]) 32 rfl Tryz.underlying27 info26 rfl (by decide) (by omega) v384 y383 l0 _ _ _ (fun _ => True) (fun _ => False) rfl rfl ?aO ?aR (fun _ _ h => h) (fun _ h => h.elim) ?aF ?aB ?aS ?aL ?_; (case aR => exact tC (Kd.C_below HR0.out HB.out)); (case aB => exact (tB HB.out)); (case aF => exact (fun _ _ => trivial)); (case aO => exact (tR HO385.out)); (case aS => exact (below_size (tB HB.out))); (case aL => have := LMc2.out; omega); intro v387 w5 ho hb hg hat; rw [← Ny386.out] at ho; have HO388 := aM ho; replace HB := aM hb; clear HO385; clear ho hb hg hat))
  go_ret
  exact ⟨_, tE, tR HO388.out, tB HB.out⟩
 ·rw [if_neg c2] at H
  exact absurd H (by simp)

/-! ### nameplateref05_Free: function 24 -/
mutual
def nameplateref05_Free.l0 : Nat → List (S26) → Int → Int → Bool → Int → Int → Int → Option (Int)
 | 0, _, _, _, _, _, _, _ => none
 | k + 1, x1, x5, x6, x390000, x390001, x390002, x390003 => (nameplateref05_Size.f k x390000 x390001 x390002 x390003).bind fun t390 => (if x6 < t390 then ((nameplateref05_At.f k x390000 x390001 x390002 x390003 x6).bind fun bt391 => (nameplateref05_Free.l1 k x1 x5 x6 true 0 x390000 x390001 x390002 x390003 bt391.1 bt391.2.1 bt391.2.2.1)) else (some x5))
def nameplateref05_Free.l1 : Nat → List (S26) → Int → Int → Bool → Int → Bool → Int → Int → Int → Bool → Int → Int → Option (Int)
 | 0, _, _, _, _, _, _, _, _, _, _, _, _ => none
 | k + 1, x1, x5, x6, x9, x10, x390000, x390001, x390002, x390003, x396000, x396001, x396002 => if x10 < (x1.length : Int) then (if x9 = true then (if 0 ≤ x10 then ((nameplateref05_Has.f k ((rd_T26 x1 x10).f0.f0) ((rd_T26 x1 x10).f0.f1) ((rd_T26 x1 x10).f0.f2) ((rd_T26 x1 x10).f1) x396000 x396001 x396002).bind fun t397 => (nameplateref05_Free.l1 k x1 x5 x6 (!t397) (wrap64 (x10 + 1)) x390000 x390001 x390002 x390003 x396000 x396001 x396002)) else (none)) else (nameplateref05_Free.l0 k x1 x5 (wrap64 (x6 + 1)) x390000 x390001 x390002 x390003)) else (if x9 = true then (nameplateref05_Free.l0 k x1 (wrap64 (x5 + 1)) (wrap64 (x6 + 1)) x390000 x390001 x390002 x390003) else (nameplateref05_Free.l0 k x1 x5 (wrap64 (x6 + 1)) x390000 x390001 x390002 x390003))
end
def nameplateref05_Free.f (k : Nat) (a0_0 : Bool) (a0_1 : Int) (a0_2 : Int) (a0_3 : Int) (l1 : List (S26)) : Option (Int) := nameplateref05_Free.l0 k l1 0 0 a0_0 a0_1 a0_2 a0_3
theorem nameplateref05_Free.mono_l : ∀ k, (∀ y0 y1 y2 y3 y4 y5 y6, LeO (nameplateref05_Free.l0 k y0 y1 y2 y3 y4 y5 y6) (nameplateref05_Free.l0 (k + 1) y0 y1 y2 y3 y4 y5 y6)) ∧ (∀ y0 y1 y2 y3 y4 y5 y6 y7 y8 y9 y10 y11, LeO (nameplateref05_Free.l1 k y0 y1 y2 y3 y4 y5 y6 y7 y8 y9 y10 y11) (nameplateref05_Free.l1 (k + 1) y0 y1 y2 y3 y4 y5 y6 y7 y8 y9 y10 y11))
 | 0 => ⟨fun _ _ _ _ _ _ _ r h => by simp [nameplateref05_Free.l0] at h, fun _ _ _ _ _ _ _ _ _ _ _ _ r h => by simp [nameplateref05_Free.l1] at h⟩
 | k + 1 => by
  obtain ⟨ih0, ih1⟩ := nameplateref05_Free.mono_l k
  refine ⟨?_, ?_⟩
  ·intro y0 y1 y2 y3 y4 y5 y6
   unfold nameplateref05_Free.l0
   repeat' first | (with_reducible first | apply ih0 | apply ih1 | apply nameplateref05_At.mono | apply nameplateref05_Has.mono | apply nameplateref05_Size.mono | exact LeO.refl _ | exact LeO.none _ | refine LeO.ite ?_ ?_ | refine LeO.bind ?_ (fun _ => ?_)) | apply ih0 | apply ih1 | apply nameplateref05_At.mono | apply nameplateref05_Has.mono | apply nameplateref05_Size.mono | exact LeO.none _ | refine LeO.ite ?_ ?_ | refine LeO.bind ?_ (fun _ => ?_)
  ·intro y0 y1 y2 y3 y4 y5 y6 y7 y8 y9 y10 y11
   unfold nameplateref05_Free.l1
   repeat' first | (with_reducible first | apply ih0 | apply ih1 | apply nameplateref05_At.mono | apply nameplateref05_Has.mono | apply nameplateref05_Size.mono | exact LeO.refl _ | exact LeO.none _ | refine LeO.ite ?_ ?_ | refine LeO.bind ?_ (fun _ => ?_)) | apply ih0 | apply ih1 | apply nameplateref05_At.mono | apply nameplateref05_Has.mono | apply nameplateref05_Size.mono | exact LeO.none _ | refine LeO.ite ?_ ?_ | refine LeO.bind ?_ (fun _ => ?_)
theorem nameplateref05_Free.mono : ∀ a0 a1 a2 a3 a4 k, LeO (nameplateref05_Free.f k a0 a1 a2 a3 a4) (nameplateref05_Free.f (k + 1) a0 a1 a2 a3 a4) := by
 intro a0 a1 a2 a3 a4 k
 obtain ⟨ih0, ih1⟩ := nameplateref05_Free.mono_l k
 unfold nameplateref05_Free.f
 repeat' first | (with_reducible first | apply ih0 | apply ih1 | apply nameplateref05_At.mono | apply nameplateref05_Has.mono | apply nameplateref05_Size.mono | exact LeO.refl _ | exact LeO.none _ | refine LeO.ite ?_ ?_ | refine LeO.bind ?_ (fun _ => ?_)) | apply ih0 | apply ih1 | apply nameplateref05_At.mono | apply nameplateref05_Has.mono | apply nameplateref05_Size.mono | exact LeO.none _ | refine LeO.ite ?_ ?_ | refine LeO.bind ?_ (fun _ => ?_)
def nameplateref05_Free.T10 : Bool × List (List Nat × List Nat) := (true, [([], []), ([], []), ([0, 1], [0, 1]), ([2], [2]), ([], []), ([3, 4], [3, 4]), ([5], [5]), ([6, 5, 0, 1, 2, 3, 4, 5, 6], [6])])
def nameplateref05_Free.B10 : List Nat := [0, 0, 3, 7, 0, 31, 63, 127]
theorem nameplateref05_Free.tab10 : rtab .any (opsOf Tryz.f24 10) = nameplateref05_Free.T10 := by kernel_rfl
theorem nameplateref05_Free.bits10 : waitsOk nameplateref05_Free.T10.2 nameplateref05_Free.B10 = true := by kernel_rfl
set_option maxHeartbeats 8000000 in
set_option maxRecDepth 100000 in
theorem nameplateref05_Free.calls (k : Nat) (a0_0 : Bool) (a0_1 : Int) (a0_2 : Int) (a0_3 : Int) (A1 : Option Addr) (c1 : Nat) (l1 : List (S26)) (r : Int) (w : World) (hr1 : Kd.C k26 w A1 l1.length l1) (hc1 : l1.length ≤ c1) (h : nameplateref05_Free.f k a0_0 a0_1 a0_2 a0_3 l1 = some r) :
  Calls Tryz.prog 24 #[.agg #[.bool a0_0, .int .u64 a0_1, .int .u64 a0_2, .int .i64 a0_3], .slice A1 l1.length c1] w fun e w' => e = .returned (.int .i64 r) ∧ Below w.heap.size w w' := by
 have hu26 := Tryz.underlying26
 have hu24 := Tryz.underlying24
 have HR1 := aM hr1
 have HC1 := aM hc1
 clear hr1 hc1
 have HB := aM (Below.refl w.heap.size w)
 have H : (nameplateref05_Free.l0 k l1 0 0 a0_0 a0_1 a0_2 a0_3) = some r := h
 clear h
 have H' := aM H
 clear H
 go_enter Tryz.func24, Tryz.ntmps24
 go_wp2_with (first | ((with_reducible refine gD 2 rfl ?_); refine bX 2 #[.bool a0_0, .int .u64 a0_1, .int .u64 a0_2, .int .i64 a0_3] 26 ?_; intro gb389 hg w3 hbox hb; have BK389 := aM hbox; have GW389 := gS hg HB.out; have GE389 := GW389; replace HB := bS HB.out hb; clear hb hbox hg))
 go_loopg [5, 6] k (fun kq v5 v6 w' => ∃ (x5_1 : Int) (x6_1 : Int), v5 = .int .i64 x5_1 ∧ v6 = .int .i64 x6_1 ∧ Aside0 (nameplateref05_Free.l0 kq l1 x5_1 x6_1 a0_0 a0_1 a0_2 a0_3 = some r) ∧ Aside0 (kq ≤ k) ∧ Aside0 (w'.heap[gb389]? = some (.cells #[.bool a0_0, .int .u64 a0_1, .int .u64 a0_2, .int .i64 a0_3] 26 (0, 0))) ∧ Aside0 (Below w.heap.size w w'))
 case atStart => exact ⟨(0), (0), tF, tF, H', ⟨Nat.le_refl _⟩, ⟨tK BK389.out⟩, ⟨tB HB.out⟩⟩
 case round =>
  clear H'
  try clear c1
  try clear c2
  try clear p2
  obtain ⟨x5_1, x6_1, rfl, rfl, HA, HK1, BK389, HB⟩ := hrel
  cases gk with
  | zero => exact absurd HA.out (by simp [nameplateref05_Free.l0])
  | succ k1 =>
   have H := HA.out
   clear HA
   simp only [nameplateref05_Free.l0] at H
   obtain ⟨t390, A4, H⟩ := oB H
   try dsimp only at H
   by_cases c5 : x6_1 < t390
   ·rw [if_pos c5] at H
    have c5b0 : decide (x6_1 < t390) = true := decide_eq_true c5
    clear c5
    obtain ⟨⟨t391, t392, t393, t394⟩, A6, H⟩ := oB H
    try dsimp only at H
    have H' := aM H
    clear H
    obtain ⟨hcz7_0, hcz7_1, hcz7_2, hcz7_3, hfz7_0, hfz7_1, hfz7_2, hfz7_3⟩ := kY4 BK389.out
    go_wp2_with (first | ((with_reducible refine gC 14 rfl ?_); refine gL (some 13) Tryz.func14 #[.agg #[.bool a0_0, .int .u64 a0_1, .int .u64 a0_2, .int .i64 a0_3]] ?_; (with_reducible refine (nameplateref05_Size.calls k1 a0_0 a0_1 a0_2 a0_3 t390 _ A4.out).mono ?_); rintro e w8 ⟨rfl, hb⟩; refine ⟨_, rfl, ?_⟩; replace BK389 := kB BK389.out hb; replace HB := bS HB.out hb; (try clear hb); obtain ⟨hcz9_0, hcz9_1, hcz9_2, hcz9_3, hfz9_0, hfz9_1, hfz9_2, hfz9_3⟩ := kY4 BK389.out) | ((with_reducible refine gC 10 rfl ?_); refine gL (some 20) Tryz.func10 #[.agg #[.bool a0_0, .int .u64 a0_1, .int .u64 a0_2, .int .i64 a0_3], .int .i64 x6_1] ?_; (with_reducible refine (nameplateref05_At.calls k1 a0_0 a0_1 a0_2 a0_3 x6_1 t391 t392 t393 t394 _ A6.out).mono ?_); rintro e w10 ⟨rfl, hb⟩; refine ⟨_, rfl, ?_⟩; replace BK389 := kB BK389.out hb; replace HB := bS HB.out hb; (try clear hb)) | ((with_reducible refine gD 7 rfl ?_); refine bX 7 #[.bool false, .int .u64 0, .int .u64 0] 24 ?_; intro gb395 hg w11 hbox hb; have BK395 := aM hbox; have GW395 := gS hg HB.out; have GE395 := GW395; have NB389_395 := nB hg BK389.out; have NB395_389 := nS (nB hg BK389.out); replace BK389 := kB BK389.out hb; replace HB := bS HB.out hb; clear hb hbox hg; have hnb12 := NB395_389.out; have hnc12 := NB389_395.out; obtain ⟨hcz13_0, hcz13_1, hcz13_2, hfz13_0, hfz13_1, hfz13_2⟩ := kY3 BK395.out))
    go_loopg [9, 10] k1 (fun kq v9 v10 w' => ∃ (x9_2 : Bool) (x10_2 : Int), v9 = .bool x9_2 ∧ v10 = .int .i64 x10_2 ∧ Aside0 (nameplateref05_Free.l1 kq l1 x5_1 x6_1 x9_2 x10_2 a0_0 a0_1 a0_2 a0_3 t391 t392 t393 = some r) ∧ Aside0 (kq ≤ k1) ∧ Aside0 (w'.heap[gb389]? = some (.cells #[.bool a0_0, .int .u64 a0_1, .int .u64 a0_2, .int .i64 a0_3] 26 (0, 0))) ∧ Aside0 (w'.heap[gb395]? = some (.cells #[.bool t391, .int .u64 t392, .int .u64 t393] 24 (0, 0))) ∧ Aside0 (Below w.heap.size w w'))
    case atStart => exact ⟨(true), (0), tF, tF, H', ⟨Nat.le_refl _⟩, ⟨tP BK389.out⟩, ⟨tP BK395.out⟩, ⟨tB HB.out⟩⟩
    case round =>
     clear H'
     try clear c1
     try clear c2
     try clear p2
     try clear c5
     try clear c5b0
     try clear c10
     try clear c12
     try clear hcz13_0 hcz13_1 hcz13_2 hcz7_0 hcz7_1 hcz7_2 hcz7_3 hcz9_0 hcz9_1 hcz9_2 hcz9_3 hfz13_0 hfz13_1 hfz13_2 hfz7_0 hfz7_1 hfz7_2 hfz7_3 hfz9_0 hfz9_1 hfz9_2 hfz9_3
     try clear p2
     obtain ⟨x9_2, x10_2, rfl, rfl, HA, HK2, BK389, BK395, HB⟩ := hrel
     cases gk with
     | zero => exact absurd HA.out (by simp [nameplateref05_Free.l1])
     | succ k2 =>
      have H := HA.out
      clear HA
      simp only [nameplateref05_Free.l1] at H
      by_cases c14 : x10_2 < (l1.length : Int)
      ·rw [if_pos c14] at H
       have c14b0 : decide (x10_2 < (l1.length : Int)) = true := decide_eq_true c14
       clear c14
       by_cases c15 : x9_2 = true
       ·subst c15
        rw [if_pos rfl] at H
        by_cases c16 : 0 ≤ x10_2
        ·rw [if_pos c16] at H
         have c16b0 : decide (0 ≤ x10_2) = true := decide_eq_true c16
         clear c16
         obtain ⟨t397, A17, H⟩ := oB H
         try dsimp only at H
         have H' := aM H
         clear H
         try go_wp2
         replace BK389 := aM (kD BK389.out)
         replace BK395 := aM (kD BK395.out)
         replace HB := aM (bD HB.out)
         have p396 : 0 ≤ (x10_2 : Int) := of_decide_eq_true (by first | (with_reducible assumption) | assumption)
         have q396 : x10_2 < (l1.length : Int) := of_decide_eq_true (by first | (with_reducible assumption) | assumption)
         obtain ⟨ad396, e396, hx396_0, hx396_1, hx396_2, hx396_3⟩ := at_T26 HR1.out x10_2 p396 q396
         have hw396_3 := hx396_3
         have hw396_2 := hx396_2
         have hw396_1 := hx396_1
         have hw396_0 := hx396_0
         cases e396
         replace hx396_0 := (HB.out.cell (World.block_lt_of_cell? w _ hx396_0)).trans hx396_0
         replace hx396_1 := (HB.out.cell (World.block_lt_of_cell? w _ hx396_1)).trans hx396_1
         replace hx396_2 := (HB.out.cell (World.block_lt_of_cell? w _ hx396_2)).trans hx396_2
         replace hx396_3 := (HB.out.cell (World.block_lt_of_cell? w _ hx396_3)).trans hx396_3
         replace p396 := eq_true p396
         replace q396 := eq_true q396
         refine pS 8 (S := fun w' => cZ3 w' gb395 (.bool t391) (.int .u64 t392) (.int .u64 t393) ∧ w'.cell? (ad396.add ((x10_2).toNat * 4)) = some (.bool ((rd_T26 l1 x10_2).f0.f0)) ∧ w'.cell? ⟨(ad396.add ((x10_2).toNat * 4)).block, (ad396.add ((x10_2).toNat * 4)).off + 1, none⟩ = some (.int .u64 ((rd_T26 l1 x10_2).f0.f1)) ∧ w'.cell? ⟨(ad396.add ((x10_2).toNat * 4)).block, (ad396.add ((x10_2).toNat * 4)).off + 2, none⟩ = some (.int .u64 ((rd_T26 l1 x10_2).f0.f2)) ∧ w'.cell? ⟨(ad396.add ((x10_2).toNat * 4)).block, (ad396.add ((x10_2).toNat * 4)).off + 3, none⟩ = some (.int .i64 ((rd_T26 l1 x10_2).f1))) (ds := []) ⟨kZ3 BK395.out, ((HB.out.cell (World.block_lt_of_cell? w _ hw396_0)).trans hw396_0), ((HB.out.cell (World.block_lt_of_cell? w _ hw396_1)).trans hw396_1), ((HB.out.cell (World.block_lt_of_cell? w _ hw396_2)).trans hw396_2), ((HB.out.cell (World.block_lt_of_cell? w _ hw396_3)).trans hw396_3)⟩ (fun hHeld => ?_); refine with_tabW nameplateref05_Free.tab10 nameplateref05_Free.bits10 (fun HT_ HW_ => ?_)
         generalize wr.drew = w18 at BK389 BK395 HB hx396_0 hx396_1 hx396_2 hx396_3 hHeld ⊢
         refine pP 0 32 ?_
         refine pP 1 33 ?_
         refine pP 2 34 ?_
         refine pT 3 35 ?_
         refine pT 4 36 ?_
         refine pO 5 37 (fun K hK => ?_)
         refine gO Tryz.func18 #[.agg #[.bool ((rd_T26 l1 x10_2).f0.f0), .int .u64 ((rd_T26 l1 x10_2).f0.f1), .int .u64 ((rd_T26 l1 x10_2).f0.f2), .int .i64 ((rd_T26 l1 x10_2).f1)], .agg #[.bool t391, .int .u64 t392, .int .u64 t393]] ?_
         with_reducible refine (nameplateref05_Has.calls k2 ((rd_T26 l1 x10_2).f0.f0) ((rd_T26 l1 x10_2).f0.f1) ((rd_T26 l1 x10_2).f0.f2) ((rd_T26 l1 x10_2).f1) t391 t392 t393 t397 _ A17.out).mono ?_
         rintro e w19 ⟨rfl, hb⟩
         refine ⟨_, rfl, ?_⟩
         replace BK389 := kB BK389.out hb
         replace BK395 := kB BK395.out hb
         replace HB := bS HB.out hb
         (try clear hb)
         refine hK.out _ _ ⟨kZ3 BK395.out, ((HB.out.cell (World.block_lt_of_cell? w _ hw396_0)).trans hw396_0), ((HB.out.cell (World.block_lt_of_cell? w _ hw396_1)).trans hw396_1), ((HB.out.cell (World.block_lt_of_cell? w _ hw396_2)).trans hw396_2), ((HB.out.cell (World.block_lt_of_cell? w _ hw396_3)).trans hw396_3)⟩ (fun hHeld => ?_)
         clear hK K
         refine pN ?_
         refine pP 6 38 ?_
         refine pP 7 9 ?_
         refine pD ?_
         try go_wp2
         go_roundg k2
         case measure => have := HK1.out; have := HK2.out; omega
         case rel => exact ⟨(!t397), (wrap64 (x10_2 + 1)), tF, tF, H', ⟨by have := HK1.out; have := HK2.out; omega⟩, ⟨tK BK389.out⟩, ⟨tK BK395.out⟩, ⟨tB HB.out⟩⟩
        ·rw [if_neg c16] at H
         exact absurd H (by simp)
       ·replace c15 := Bool.eq_false_iff.mpr c15
        subst c15
        rw [if_neg (show ¬ (false = true) by decide)] at H
        have H' := aM H
        clear H
        go_wp2
        go_roundg k2
        case measure => have := HK1.out; have := HK2.out; omega
        case rel => exact ⟨(x5_1), (wrap64 (x6_1 + 1)), tF, tF, H', ⟨by have := HK1.out; have := HK2.out; omega⟩, ⟨tK BK389.out⟩, ⟨tB HB.out⟩⟩
      ·rw [if_neg c14] at H
       have c14b0 : decide (x10_2 < (l1.length : Int)) = false := decide_eq_false c14
       clear c14
       by_cases c20 : x9_2 = true
       ·subst c20
        rw [if_pos rfl] at H
        have H' := aM H
        clear H
        go_wp2
        go_roundg k2
        case measure => have := HK1.out; have := HK2.out; omega
        case rel => exact ⟨(wrap64 (x5_1 + 1)), (wrap64 (x6_1 + 1)), tF, tF, H', ⟨by have := HK1.out; have := HK2.out; omega⟩, ⟨tK BK389.out⟩, ⟨tB HB.out⟩⟩
       ·replace c20 := Bool.eq_false_iff.mpr c20
        subst c20
        rw [if_neg (show ¬ (false = true) by decide)] at H
        have H' := aM H
        clear H
        go_wp2
        go_roundg k2
        case measure => have := HK1.out; have := HK2.out; omega
        case rel => exact ⟨(x5_1), (wrap64 (x6_1 + 1)), tF, tF, H', ⟨by have := HK1.out; have := HK2.out; omega⟩, ⟨tK BK389.out⟩, ⟨tB HB.out⟩⟩
   ·rw [if_neg c5] at H
    have c5b0 : decide (x6_1 < t390) = false := decide_eq_false c5
    clear c5
    obtain rfl := Option.some.inj H
    obtain ⟨hcz21_0, hcz21_1, hcz21_2, hcz21_3, hfz21_0, hfz21_1, hfz21_2, hfz21_3⟩ := kY4 BK389.out
    go_wp2_with (first | ((with_reducible refine gC 14 rfl ?_); refine gL (some 13) Tryz.func14 #[.agg #[.bool a0_0, .int .u64 a0_1, .int .u64 a0_2, .int .i64 a0_3]] ?_; (with_reducible refine (nameplateref05_Size.calls k1 a0_0 a0_1 a0_2 a0_3 t390 _ A4.out).mono ?_); rintro e w22 ⟨rfl, hb⟩; refine ⟨_, rfl, ?_⟩; replace BK389 := kB BK389.out hb; replace HB := bS HB.out hb; (try clear hb)))
    go_ret
    exact ⟨tE, tB HB.out⟩

end Go.Proofs.YtbalmnkbodcigaaGreatDoor.ORc
