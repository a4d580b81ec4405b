/- This text proves, for each Go function named below, which plain Lean function its call computes, in whatever memory; a program of this session has written it. -/
import Derived.Test.YtbalmnkbodcigaaGreatDoorORcx8
namespace Go.Proofs.YtbalmnkbodcigaaGreatDoor.ORc
open Go.RowKit Go.Proofs.YtbalmnkbodcigaaGreatDoorW.PrintWords Go.Proofs.YtbalmnkbodcigaaGreatDoorW.PrintLast Go.Proofs.YtbalmnkbodcigaaGreatDoorW.PrintMore
attribute [local go_sem] max2_int min2_int max_two min_two max_three min_three max_four min_four   -- for this text's walks alone
set_option linter.unusedVariables false
set_option linter.unusedSimpArgs false

/-! ### nameplateref04_parts: function 71 -/
def nameplateref04_parts.l0 : Nat → ByteArray → Int → List ByteArray → Int → Option (List ByteArray)
 | 0, _, _, _, _ => none
 | k + 1, x0, x1, x5, x6 => if x6 < (x0.size : Int) then (if 0 ≤ x6 then (if (bt x0 x6) = x1 then (if x5.length < 8796093022208 then (nameplateref04_parts.l0 k x0 x1 (x5 ++ [(⟨#[]⟩ : ByteArray)]) (wrap64 (x6 + 1))) else (none)) else (if 0 ≤ (wrap64 ((x5.length : Int) - 1)) then (if (wrap64 ((x5.length : Int) - 1)) < (x5.length : Int) then (if x6 ≤ (wrap64 (x6 + 1)) then (if (wrap64 (x6 + 1)) ≤ (x0.size : Int) then (if (rdOf ByteArray.empty x5 (wrap64 ((x5.length : Int) - 1))).size + (x0.extract (x6 : Int).toNat ((wrap64 (x6 + 1)) : Int).toNat).size ≤ 9223372036854775807 then (nameplateref04_parts.l0 k x0 x1 (x5.set ((wrap64 ((x5.length : Int) - 1)) : Int).toNat ((rdOf ByteArray.empty x5 (wrap64 ((x5.length : Int) - 1))) ++ (x0.extract (x6 : Int).toNat ((wrap64 (x6 + 1)) : Int).toNat))) (wrap64 (x6 + 1))) else (none)) else (none)) else (none)) else (none)) else (none))) else (none)) else (some x5)
def nameplateref04_parts.f (k : Nat) (a0 : ByteArray) (a1 : Int) : Option (List ByteArray) := nameplateref04_parts.l0 k a0 a1 (([(⟨#[]⟩ : ByteArray)] : List ByteArray)) 0
theorem nameplateref04_parts.mono_l : ∀ k, (∀ y0 y1 y2 y3, LeO (nameplateref04_parts.l0 k y0 y1 y2 y3) (nameplateref04_parts.l0 (k + 1) y0 y1 y2 y3))
 | 0 => fun _ _ _ _ r h => by simp [nameplateref04_parts.l0] at h
 | k + 1 => by
  have ih0 := nameplateref04_parts.mono_l k
  ·intro y0 y1 y2 y3
   unfold nameplateref04_parts.l0
   repeat' first | (with_reducible first | apply ih0 | exact LeO.refl _ | exact LeO.none _ | refine LeO.ite ?_ ?_ | refine LeO.bind ?_ (fun _ => ?_)) | apply ih0 | exact LeO.none _ | refine LeO.ite ?_ ?_ | refine LeO.bind ?_ (fun _ => ?_)
theorem nameplateref04_parts.mono : ∀ a0 a1 k, LeO (nameplateref04_parts.f k a0 a1) (nameplateref04_parts.f (k + 1) a0 a1) := by
 intro a0 a1 k
 have ih0 := nameplateref04_parts.mono_l k
 unfold nameplateref04_parts.f
 repeat' first | (with_reducible first | apply ih0 | exact LeO.refl _ | exact LeO.none _ | refine LeO.ite ?_ ?_ | refine LeO.bind ?_ (fun _ => ?_)) | apply ih0 | exact LeO.none _ | refine LeO.ite ?_ ?_ | refine LeO.bind ?_ (fun _ => ?_)
def nameplateref04_parts.T7 : Bool × List (List Nat × List Nat) := (true, [([], []), ([], []), ([1], [1]), ([2], [2]), ([], []), ([], []), ([5], [5]), ([6], [6]), ([4, 7], [4, 7]), ([8], [8]), ([], []), ([], []), ([], []), ([12], [12]), ([10, 11, 13], [10, 11, 13]), ([9, 14], [9, 14]), ([0, 3, 0, 1, 2, 3, 4, 5, 6, 7, 8, 9, 10, 11, 12, 13, 14, 15], [0, 3]), ([16, 15, 0, 1, 2, 3, 4, 5, 6, 7, 8, 9, 10, 11, 12, 13, 14, 15], [15, 16])])
def nameplateref04_parts.B7 : List Nat := [0, 0, 2, 6, 0, 0, 32, 96, 240, 496, 0, 0, 0, 4096, 15360, 32752, 65535, 131071]
theorem nameplateref04_parts.tab7 : rtab .any (opsOf Tryz.f71 7) = nameplateref04_parts.T7 := by kernel_rfl
theorem nameplateref04_parts.bits7 : waitsOk nameplateref04_parts.T7.2 nameplateref04_parts.B7 = true := by kernel_rfl
set_option maxHeartbeats 8000000 in
set_option maxRecDepth 100000 in
theorem nameplateref04_parts.calls (k : Nat) (a0 : ByteArray) (a1 : Int) (r : List ByteArray) (w : World) (h : nameplateref04_parts.f k a0 a1 = some r) :
  Calls Tryz.prog 71 #[.string a0, .int .u8 a1] w fun e w' => ∃ v0_ : Value, e = .returned (v0_) ∧ Kd.R Kd.string 9 w' w.heap.size (fun _ => True) v0_ r ∧ Below w.heap.size w w' := by
 have HB := aM (Below.refl w.heap.size w)
 have H : (nameplateref04_parts.l0 k a0 a1 (([(⟨#[]⟩ : ByteArray)] : List ByteArray)) 0) = some r := h
 clear h
 obtain ⟨y217, hy217⟩ : ∃ y_ : List ByteArray, y_ = (([(⟨#[]⟩ : ByteArray)] : List ByteArray)) := ⟨_, rfl⟩
 replace H : (nameplateref04_parts.l0 k a0 a1 y217 0) = some r := by first | (rw [hy217]; with_reducible exact H) | (have H2_ := (Option.bind_some _ _).symm.trans H; rw [hy217]; with_reducible exact H2_) | (have H2_ := (Option.bind_some _ _).symm.trans H; with_reducible exact H2_) | with_reducible exact H | (rw [hy217]; exact H) | exact H
 have Ny217 := aM hy217
 clear hy217
 have H' := aM H
 clear H
 go_enter Tryz.func71, Tryz.ntmps71
 go_wp2_with (first | ((with_reducible refine gD 7 rfl ?_); refine Kd.R_lit Kd.string _ 9 ?hg (N := 7) ?hd (xs := ([(⟨#[]⟩ : ByteArray)] : List ByteArray)) (inner := [.string (⟨#[]⟩ : ByteArray)]) (ok := fun _ => True) (okp := fun _ => True) ?hr ?hp (fun _ hk => hk) trivial (Below.refl _ _) (Nat.le_refl _) (by simp) ?_; (case hd => rfl); (case hg => rfl); (case hr => first | (go_simp; done) | (go_simp; rfl)); (case hp => exact (Reps.one (show Kd.M Kd.string _ _ _ (⟨#[]⟩ : ByteArray) [.string (⟨#[]⟩ : ByteArray)] from rfl) (Reps.none _ _))); intro v218 w3 ho4 hb hg_ hnew_; clear hg_ hnew_; (first | rw [← Ny217.out] at ho4 | (simp only [Int.reduceToNat] at ho4; rw [← Ny217.out] at ho4)); have HO219 := aM (Kd.R_lower ho4 (below_size (tB HB.out))); replace HB := bS HB.out hb; clear hb ho4))
 go_loopg [5, 6] k (fun kq v5 v6 w' => ∃ (x5_1 : List ByteArray) (x6_1 : Int), v6 = .int .i64 x6_1 ∧ Aside0 (nameplateref04_parts.l0 kq a0 a1 x5_1 x6_1 = some r) ∧ Aside0 (kq ≤ k) ∧ Aside0 (Kd.R Kd.string 9 w' w.heap.size (fun _ => True) v5 x5_1) ∧ Aside0 (Below w.heap.size w w'))
 case atStart => exact ⟨(y217), (0), tF, H', ⟨Nat.le_refl _⟩, ⟨tR HO219.out⟩, ⟨tB HB.out⟩⟩
 case round =>
  clear H'
  try clear p2
  obtain ⟨x5_1, x6_1, rfl, HA, HK1, HO_5, HB⟩ := hrel
  cases gk with
  | zero => exact absurd HA.out (by simp [nameplateref04_parts.l0])
  | succ k1 =>
   have H := HA.out
   clear HA
   simp only [nameplateref04_parts.l0] at H
   by_cases c5 : x6_1 < (a0.size : Int)
   ·rw [if_pos c5] at H
    have c5b0 : decide (x6_1 < (a0.size : Int)) = true := decide_eq_true c5
    clear c5
    by_cases c6 : 0 ≤ x6_1
    ·rw [if_pos c6] at H
     have c6b0 : decide (0 ≤ x6_1) = true := decide_eq_true c6
     clear c6
     by_cases c8 : (bt a0 x6_1) = a1
     ·rw [if_pos c8] at H
      have c8b0 : ((bt a0 x6_1) == a1) = true := beq_iff_eq.mpr c8
      have c8b1 : ((bt a0 x6_1) != a1) = false := bne_eq_false_iff_eq.mpr c8
      clear c8
      by_cases c9 : x5_1.length < 8796093022208
      ·rw [if_pos c9] at H
       have LMc9 := aM c9
       clear c9
       obtain ⟨y220, hy220⟩ : ∃ y_ : List ByteArray, y_ = (x5_1 ++ [(⟨#[]⟩ : ByteArray)]) := ⟨_, rfl⟩
       replace H : (nameplateref04_parts.l0 k1 a0 a1 y220 (wrap64 (x6_1 + 1))) = some r := by first | (rw [hy220]; with_reducible exact H) | (have H2_ := (Option.bind_some _ _).symm.trans H; rw [hy220]; with_reducible exact H2_) | (have H2_ := (Option.bind_some _ _).symm.trans H; with_reducible exact H2_) | with_reducible exact H | (rw [hy220]; exact H) | exact H
       have Ny220 := aM hy220
       clear hy220
       have H' := aM H
       clear H
       have p7 : 0 ≤ (x6_1 : Int) := of_decide_eq_true (by first | (with_reducible assumption) | assumption)
       have q7 : x6_1 < (a0.size : Int) := of_decide_eq_true (by first | (with_reducible assumption) | assumption)
       have hx7 := bt_at a0 x6_1
       replace p7 := eq_true p7
       replace q7 := eq_true q7
       go_wp2_with (first | ((with_reducible refine gate_builtin (b := .append) (xs := #[.tmp 19, .tmp 20]) rfl ?_); at_builtin; refine Kd.R_append Kd.string (w0 := w) w.heap.size rfl (.tmp 19) (.tmp 20) 75 9 (.string ⟨#[]⟩) 16 rfl Tryz.underlying75 info9 rfl (by decide) (by omega) u5 x5_1 (⟨#[]⟩ : ByteArray) [.string (⟨#[]⟩ : ByteArray)] (fun _ => True) (fun _ => False) rfl rfl ?aP (fun _ hk => hk.elim) ?aF ?aO ?aB ?aS ?aL ?_; (case aP => exact rfl); (case aB => exact (tB HB.out)); (case aF => exact (fun _ _ => trivial)); (case aO => exact (tR HO_5.out)); (case aS => exact (below_size (tB HB.out))); (case aL => have := LMc9.out; omega); intro v221 w10 ho hb hg hat; rw [← Ny220.out] at ho; have HO222 := aM ho; replace HB := aM hb; clear HO_5; clear ho hb hg hat))
       go_roundg k1
       case measure => have := HK1.out; omega
       case rel => exact ⟨(y220), (wrap64 (x6_1 + 1)), tF, H', ⟨by have := HK1.out; omega⟩, ⟨tR HO222.out⟩, ⟨tB HB.out⟩⟩
      ·rw [if_neg c9] at H
       exact absurd H (by simp)
     ·rw [if_neg c8] at H
      have c8b0 : ((bt a0 x6_1) == a1) = false := beq_eq_false_iff_ne.mpr c8
      have c8b1 : ((bt a0 x6_1) != a1) = true := bne_iff_ne.mpr c8
      obtain ⟨ji11, hji11⟩ : ∃ j_ : Int, (wrap64 ((x5_1.length : Int) - 1)) = j_ := ⟨_, rfl⟩
      replace H : (if 0 ≤ (ji11) then (if (ji11) < (x5_1.length : Int) then (if x6_1 ≤ (wrap64 (x6_1 + 1)) then (if (wrap64 (x6_1 + 1)) ≤ (a0.size : Int) then (if (rdOf ByteArray.empty x5_1 (ji11)).size + (a0.extract (x6_1 : Int).toNat ((wrap64 (x6_1 + 1)) : Int).toNat).size ≤ 9223372036854775807 then (nameplateref04_parts.l0 k1 a0 a1 (x5_1.set ((ji11) : Int).toNat ((rdOf ByteArray.empty x5_1 (ji11)) ++ (a0.extract (x6_1 : Int).toNat ((wrap64 (x6_1 + 1)) : Int).toNat))) (wrap64 (x6_1 + 1))) else (none)) else (none)) else (none)) else (none)) else (none)) = some r := by first | (rw [hji11] at H; exact H) | (simp only [hji11] at H ⊢; exact H)
      have hji11w : (IntKind.i64.wrap ((x5_1.length : Int) - 1)) = ji11 := (i64_w _).trans hji11
      by_cases c12 : 0 ≤ (ji11)
      ·rw [if_pos c12] at H
       have c12b0 : decide (0 ≤ (ji11)) = true := decide_eq_true c12
       clear c12
       by_cases c13 : (ji11) < (x5_1.length : Int)
       ·rw [if_pos c13] at H
        have c13b0 : decide ((ji11) < (x5_1.length : Int)) = true := decide_eq_true c13
        clear c13
        have c14b0 := eq_true (of_decide_eq_true (by first | (with_reducible assumption) | assumption) : 0 ≤ x6_1)
        by_cases c15 : x6_1 ≤ (wrap64 (x6_1 + 1))
        ·rw [if_pos c15] at H
         have c15b0 := eq_true c15
         have c15b1 : decide (x6_1 ≤ (wrap64 (x6_1 + 1))) = true := decide_eq_true c15
         by_cases c16 : (wrap64 (x6_1 + 1)) ≤ (a0.size : Int)
         ·rw [if_pos c16] at H
          have c16b0 := eq_true c16
          have c16b1 : decide ((wrap64 (x6_1 + 1)) ≤ (a0.size : Int)) = true := decide_eq_true c16
          by_cases c17 : (rdOf ByteArray.empty x5_1 (ji11)).size + (a0.extract (x6_1 : Int).toNat ((wrap64 (x6_1 + 1)) : Int).toNat).size ≤ 9223372036854775807
          ·rw [if_pos c17] at H
           have c17b0 := eq_true c17
           have c17b1 : decide ((rdOf ByteArray.empty x5_1 (ji11)).size + (a0.extract (x6_1 : Int).toNat ((wrap64 (x6_1 + 1)) : Int).toNat).size ≤ 9223372036854775807) = true := decide_eq_true c17
           try have c17b2 : (9223372036854775807 < (rdOf ByteArray.empty x5_1 (ji11)).size + (a0.extract (x6_1 : Int).toNat ((wrap64 (x6_1 + 1)) : Int).toNat).size) = False := eq_false (Nat.not_lt.2 c17)
           have c17b9 : (9223372036854775807 < (rdOf ByteArray.empty x5_1 ji11).size + ((wrap64 (x6_1 + 1)).toNat - x6_1.toNat)) = False := eq_false (by have hh_ := c17; rw [ByteArray.size_extract] at hh_; have h16_ : (wrap64 (x6_1 + 1)) ≤ (a0.size : Int) := of_decide_eq_true (by assumption); omega)
           obtain ⟨y224, hy224⟩ : ∃ y_ : List ByteArray, y_ = (x5_1.set ((ji11) : Int).toNat ((rdOf ByteArray.empty x5_1 (ji11)) ++ (a0.extract (x6_1 : Int).toNat ((wrap64 (x6_1 + 1)) : Int).toNat))) := ⟨_, rfl⟩
           replace H : (nameplateref04_parts.l0 k1 a0 a1 y224 (wrap64 (x6_1 + 1))) = some r := by first | (rw [hy224]; with_reducible exact H) | (have H2_ := (Option.bind_some _ _).symm.trans H; rw [hy224]; with_reducible exact H2_) | (have H2_ := (Option.bind_some _ _).symm.trans H; with_reducible exact H2_) | with_reducible exact H | (rw [hy224]; exact H) | exact H
           have Ny224 := aM hy224
           clear hy224
           have H' := aM H
           clear H
           have p7 : 0 ≤ (x6_1 : Int) := of_decide_eq_true (by first | (with_reducible assumption) | assumption)
           have q7 : x6_1 < (a0.size : Int) := of_decide_eq_true (by first | (with_reducible assumption) | assumption)
           have hx7 := bt_at a0 x6_1
           replace p7 := eq_true p7
           replace q7 := eq_true q7
           try go_wp2
           replace HO_5 := aM (Kd.R_drew HO_5.out)
           replace HB := aM (bD HB.out)
           obtain ⟨Ao20, co20, eo20⟩ := Kd.R_slice HO_5.out
           (first | subst eo20 | (injection eo20 with f1_ f2_ f3_; have f4_ := f1_.symm; have f5_ := f3_.symm; clear f1_ f2_ f3_; subst f4_; subst f5_))
           have p223 : 0 ≤ ((ji11) : Int) := of_decide_eq_true (by first | (with_reducible assumption) | assumption)
           have q223 : (ji11) < (x5_1.length : Int) := of_decide_eq_true (by first | (with_reducible assumption) | assumption)
           obtain ⟨ad223, e223, hx223_0⟩ := Kd.at_string (Kd.R_reads' HO_5.out).2.2 (ji11) p223 q223
           cases e223
           replace p223 := eq_true p223
           replace q223 := eq_true q223
           have p18 : 0 ≤ ((ji11) : Int) := of_decide_eq_true (by first | (with_reducible assumption) | assumption)
           have q18 : ((ji11) : Int) < ((x5_1.length : Int) : Int) := of_decide_eq_true (by first | (with_reducible assumption) | assumption)
           obtain ⟨go18, co18, eo18, gb18, gl18, cl18, HG18⟩ := Kd.R_form HO_5.out (by omega)
           (first | cases eo18 | (injection eo18 with ea_ en_ ec_; (first | subst ea_ | (injection ea_ with ea_; subst ea_)); subst ec_; clear en_))
           have GB18 := aM gb18
           have GG18 := aM HG18
           clear gb18 gl18 HG18
           (first | simp only [add_plain] at hx223_0 | skip)
           obtain ⟨hx18_0, hf18_0⟩ := Kd.R_celln (⟨#[]⟩ : ByteArray) HO_5.out ((ji11) : Int) p18 q18
           replace p18 := eq_true p18
           replace q18 := eq_true q18
           have HP21 := Kd.R_putn HO_5.out ((ji11) : Int) ((rdOf ByteArray.empty x5_1 (ji11)) ++ (a0.extract (x6_1 : Int).toNat ((wrap64 (x6_1 + 1)) : Int).toNat))
           rw [← Ny224.out] at HP21
           have HQ21 := aM HP21
           clear HP21
           refine pS 18 (S := fun w' => w'.cell? ⟨go18, ((ji11)).toNat, none⟩ = some (.string (rdOf ByteArray.empty x5_1 (ji11)))) (ds := [17]) (hx223_0) (fun hHeld => ?_); refine with_tabW nameplateref04_parts.tab7 nameplateref04_parts.bits7 (fun HT_ HW_ => ?_)
           generalize wr.drew = w19 at HO_5 HB GG18 HQ21 hf18_0 hx18_0 hx223_0 hHeld ⊢
           refine pP 0 22 ?_
           refine pP 1 23 ?_
           refine pP 2 24 ?_
           refine pP 3 25 ?_
           refine pP 4 26 ?_
           refine pP 5 27 ?_
           refine pP 6 28 ?_
           refine pP 7 29 ?_
           refine pP 8 30 ?_
           refine pP 10 32 ?_
           refine pP 11 33 ?_
           refine pP 12 34 ?_
           refine pP 13 35 ?_
           refine pP 14 36 ?_
           refine pT 9 31 ?_
           refine pP 15 37 ?_
           refine pP 16 38 ?_
           refine pL 17 none (fun K hK => ?_)
           refine skip_ (w1 := ?_) (by rfl) rfl ?_ ?_
           rotate_left
           ·go_simp
            rfl
           refine hK.out _ _ ?_
           clear hK K
           refine pD ?_
           try go_wp2
           go_roundg k1
           case measure => have := HK1.out; omega
           case rel => exact ⟨(y224), (wrap64 (x6_1 + 1)), tF, H', ⟨by have := HK1.out; omega⟩, ⟨tR HQ21.out⟩, ⟨by repeat (first | (with_reducible first | exact HB.out | apply bA | apply bN | apply bD | refine below_set ?_ GB18.out) | exact HB.out)⟩⟩
          ·rw [if_neg c17] at H
           exact absurd H (by simp)
         ·rw [if_neg c16] at H
          exact absurd H (by simp)
        ·rw [if_neg c15] at H
         exact absurd H (by simp)
       ·rw [if_neg c13] at H
        exact absurd H (by simp)
      ·rw [if_neg c12] at H
       exact absurd H (by simp)
    ·rw [if_neg c6] at H
     exact absurd H (by simp)
   ·rw [if_neg c5] at H
    have c5b0 : decide (x6_1 < (a0.size : Int)) = false := decide_eq_false c5
    clear c5
    obtain rfl := Option.some.inj H
    go_wp2
    go_ret
    exact ⟨_, tE, tR HO_5.out, tB HB.out⟩

/-! ### nameplateref04_small: function 72 -/
mutual
def nameplateref04_small.j0 : Nat → ByteArray → Bool → Option (Int)
 | 0, _, _ => none
 | k + 1, x0, x22 => if x22 = true then (some (-1)) else (nameplateref04_small.l0 k x0 0 0)
def nameplateref04_small.l0 : Nat → ByteArray → Int → Int → Option (Int)
 | 0, _, _, _ => none
 | k + 1, x0, x3, x4 => if x4 < (x0.size : Int) then (if 0 ≤ x4 then (if (bt x0 x4) < 48 then (some (-1)) else (if (bt x0 x4) > 57 then (some (-1)) else (nameplateref04_small.l0 k x0 (wrap64 ((wrap64 (10 * x3)) + (((bt x0 x4) - 48) % 256))) (wrap64 (x4 + 1))))) else (none)) else (if x3 > 255 then (some (-1)) else (some x3))
end
def nameplateref04_small.f (k : Nat) (a0 : ByteArray) : Option (Int) := if (a0.size : Int) < 1 then (nameplateref04_small.j0 k a0 true) else (if (a0.size : Int) > 3 then (nameplateref04_small.j0 k a0 true) else (if (a0.size : Int) > 1 then (if 0 < (a0.size : Int) then (nameplateref04_small.j0 k a0 ((bt a0 0) == 48)) else (none)) else (nameplateref04_small.j0 k a0 false)))
theorem nameplateref04_small.mono_l : ∀ k, (∀ y0 y1, LeO (nameplateref04_small.j0 k y0 y1) (nameplateref04_small.j0 (k + 1) y0 y1)) ∧ (∀ y0 y1 y2, LeO (nameplateref04_small.l0 k y0 y1 y2) (nameplateref04_small.l0 (k + 1) y0 y1 y2))
 | 0 => ⟨fun _ _ r h => by simp [nameplateref04_small.j0] at h, fun _ _ _ r h => by simp [nameplateref04_small.l0] at h⟩
 | k + 1 => by
  obtain ⟨ih0, ih1⟩ := nameplateref04_small.mono_l k
  refine ⟨?_, ?_⟩
  ·intro y0 y1
   unfold nameplateref04_small.j0
   repeat' first | (with_reducible first | apply ih0 | apply ih1 | exact LeO.refl _ | exact LeO.none _ | refine LeO.ite ?_ ?_ | refine LeO.bind ?_ (fun _ => ?_)) | apply ih0 | apply ih1 | exact LeO.none _ | refine LeO.ite ?_ ?_ | refine LeO.bind ?_ (fun _ => ?_)
  ·intro y0 y1 y2
   unfold nameplateref04_small.l0
   repeat' first | (with_reducible first | apply ih0 | apply ih1 | exact LeO.refl _ | exact LeO.none _ | refine LeO.ite ?_ ?_ | refine LeO.bind ?_ (fun _ => ?_)) | apply ih0 | apply ih1 | exact LeO.none _ | refine LeO.ite ?_ ?_ | refine LeO.bind ?_ (fun _ => ?_)
theorem nameplateref04_small.mono : ∀ a0 k, LeO (nameplateref04_small.f k a0) (nameplateref04_small.f (k + 1) a0) := by
 intro a0 k
 obtain ⟨ih0, ih1⟩ := nameplateref04_small.mono_l k
 unfold nameplateref04_small.f
 repeat' first | (with_reducible first | apply ih0 | apply ih1 | exact LeO.refl _ | exact LeO.none _ | refine LeO.ite ?_ ?_ | refine LeO.bind ?_ (fun _ => ?_)) | apply ih0 | apply ih1 | exact LeO.none _ | refine LeO.ite ?_ ?_ | refine LeO.bind ?_ (fun _ => ?_)
set_option maxHeartbeats 8000000 in
set_option maxRecDepth 100000 in
theorem nameplateref04_small.calls (k : Nat) (a0 : ByteArray) (r : Int) (w : World) (h : nameplateref04_small.f k a0 = some r) :
  Calls Tryz.prog 72 #[.string a0] w fun e w' => e = .returned (.int .i64 r) ∧ Drawn0 w w' := by
 have H : (if (a0.size : Int) < 1 then (nameplateref04_small.j0 k a0 true) else (if (a0.size : Int) > 3 then (nameplateref04_small.j0 k a0 true) else (if (a0.size : Int) > 1 then (if 0 < (a0.size : Int) then (nameplateref04_small.j0 k a0 ((bt a0 0) == 48)) else (none)) else (nameplateref04_small.j0 k a0 false)))) = some r := h
 clear h
 have HC2 := aM H
 clear H
 go_enter Tryz.func72, Tryz.ntmps72
 go_upto_region 1 with (fail)
 go_cut [22] (fun v22 wc => ∃ (kq : Nat) (x22_1 : Bool), v22 = .bool x22_1 ∧ Aside0 (nameplateref04_small.j0 kq a0 x22_1 = some r) ∧ Aside0 (kq ≤ k) ∧ Drawn0 w wc)
 case first =>
  have H := HC2.out
  clear HC2
  by_cases c3 : (a0.size : Int) < 1
  ·rw [if_pos c3] at H
   have c3b0 : decide ((a0.size : Int) < 1) = true := decide_eq_true c3
   have c3b1 : decide (a0.size < 1) = true := decide_eq_true (by omega)
   clear c3
   (first | rw [c3b0] | (simp only [i64_w, i32_w]; rw [c3b0]) | skip)
   have H' := aM H
   clear H
   go_wp2
   go_meet
   case rel => exact ⟨_, (true), tF, H', ⟨by first | omega | exact Nat.le_refl _⟩, by repeat (first | exact Drawn0.refl _ | apply Drawn0.step)⟩
  ·rw [if_neg c3] at H
   have c3b0 : decide ((a0.size : Int) < 1) = false := decide_eq_false c3
   have c3b1 : decide (a0.size < 1) = false := decide_eq_false (by omega)
   clear c3
   (first | rw [c3b0] | (simp only [i64_w, i32_w]; rw [c3b0]) | skip)
   by_cases c4 : (a0.size : Int) > 3
   ·rw [if_pos c4] at H
    have c4b0 : decide (3 < (a0.size : Int)) = true := decide_eq_true c4
    have c4b1 : decide (3 < a0.size) = true := decide_eq_true (by omega)
    clear c4
    have H' := aM H
    clear H
    go_wp2
    go_meet
    case rel => exact ⟨_, (true), tF, H', ⟨by first | omega | exact Nat.le_refl _⟩, by repeat (first | exact Drawn0.refl _ | apply Drawn0.step)⟩
   ·rw [if_neg c4] at H
    have c4b0 : decide (3 < (a0.size : Int)) = false := decide_eq_false c4
    have c4b1 : decide (3 < a0.size) = false := decide_eq_false (by omega)
    clear c4
    by_cases c5 : (a0.size : Int) > 1
    ·rw [if_pos c5] at H
     have c5b0 : decide (1 < (a0.size : Int)) = true := decide_eq_true c5
     have c5b1 : decide (1 < a0.size) = true := decide_eq_true (by omega)
     clear c5
     by_cases c6 : 0 < (a0.size : Int)
     ·rw [if_pos c6] at H
      have c6b0 : decide (0 < (a0.size : Int)) = true := decide_eq_true c6
      have c6b1 : decide (0 < a0.size) = true := decide_eq_true (by omega)
      clear c6
      have H' := aM H
      clear H
      have p7 : 0 ≤ (0 : Int) := (by omega)
      have q7 : 0 < a0.size := (by have : (0 : Int) < (a0.size : Int) := of_decide_eq_true (by first | (with_reducible assumption) | assumption); omega)
      have hx7 : ∀ h : 0 < a0.size, ((a0[0]'h).toNat : Int) = bt a0 0 := bt_at a0 0
      clear p7
      have qi7 : (0 < (a0.size : Int)) = True := eq_true (of_decide_eq_true (by first | (with_reducible assumption) | assumption))
      replace q7 := eq_true q7
      go_wp2
      go_meet
      case rel => exact ⟨_, (((bt a0 0) == 48)), tF, H', ⟨by first | omega | exact Nat.le_refl _⟩, by repeat (first | exact Drawn0.refl _ | apply Drawn0.step)⟩
     ·rw [if_neg c6] at H
      exact absurd H (by simp)
    ·rw [if_neg c5] at H
     have c5b0 : decide (1 < (a0.size : Int)) = false := decide_eq_false c5
     have c5b1 : decide (1 < a0.size) = false := decide_eq_false (by omega)
     clear c5
     have H' := aM H
     clear H
     go_wp2
     go_meet
     case rel => exact ⟨_, (false), tF, H', ⟨by first | omega | exact Nat.le_refl _⟩, by repeat (first | exact Drawn0.refl _ | apply Drawn0.step)⟩
 case rest =>
  clear HC2
  try clear p2
  try clear c3
  try clear c3b0
  try clear c3b1
  try clear c4
  try clear c4b0
  try clear c4b1
  try clear c5
  try clear c5b0
  try clear c5b1
  try clear c6
  try clear c6b0
  try clear c6b1
  try clear c7
  try clear p7
  try clear q7
  try clear hx7
  try clear qi7
  try clear p7
  try clear q7
  obtain ⟨kq, x22_1, rfl, HA, HJ1, ⟨mc1, rfl⟩⟩ := hcut
  cases kq with
  | zero => exact absurd HA.out (by simp [nameplateref04_small.j0])
  | succ kj1 =>
   have H := HA.out
   clear HA
   simp only [nameplateref04_small.j0] at H
   by_cases c8 : x22_1 = true
   ·subst c8
    rw [if_pos rfl] at H
    obtain rfl := Option.some.inj H
    go_wp2
    go_ret
    exact ⟨by first | rfl | (simp; done) | (simp [*]; done), by repeat (first | exact Drawn0.refl _ | apply Drawn0.step)⟩
   ·replace c8 := Bool.eq_false_iff.mpr c8
    subst c8
    rw [if_neg (show ¬ (false = true) by decide)] at H
    have H' := aM H
    clear H
    go_wp2
    go_loopg [3, 4] kj1 (fun kq v3 v4 w' => ∃ (x3_2 : Int) (x4_2 : Int), v3 = .int .i64 x3_2 ∧ v4 = .int .i64 x4_2 ∧ Aside0 (nameplateref04_small.l0 kq a0 x3_2 x4_2 = some r) ∧ Aside0 (kq ≤ kj1) ∧ Drawn0 w w')
    case atStart => exact ⟨(0), (0), tF, tF, H', ⟨Nat.le_refl _⟩, by repeat (first | exact Drawn0.refl _ | apply Drawn0.step)⟩
    case round =>
     clear H'
     try clear c1
     try clear p2
     try clear c3
     try clear c3b0
     try clear c3b1
     try clear c4
     try clear c4b0
     try clear c4b1
     try clear c5
     try clear c5b0
     try clear c5b1
     try clear c6
     try clear c6b0
     try clear c6b1
     try clear c7
     try clear p7
     try clear q7
     try clear hx7
     try clear qi7
     try clear c8
     try clear p2
     try clear p7
     try clear q7
     obtain ⟨x3_2, x4_2, rfl, rfl, HA, HK2, ⟨m2, rfl⟩⟩ := hrel
     cases gk with
     | zero => exact absurd HA.out (by simp [nameplateref04_small.l0])
     | succ k2 =>
      have H := HA.out
      clear HA
      simp only [nameplateref04_small.l0] at H
      by_cases c9 : x4_2 < (a0.size : Int)
      ·rw [if_pos c9] at H
       have c9b0 : decide (x4_2 < (a0.size : Int)) = true := decide_eq_true c9
       clear c9
       by_cases c10 : 0 ≤ x4_2
       ·rw [if_pos c10] at H
        have c10b0 : decide (0 ≤ x4_2) = true := decide_eq_true c10
        clear c10
        by_cases c12 : (bt a0 x4_2) < 48
        ·rw [if_pos c12] at H
         have c12b0 : decide ((bt a0 x4_2) < 48) = true := decide_eq_true c12
         clear c12
         obtain rfl := Option.some.inj H
         have p11 : 0 ≤ (x4_2 : Int) := of_decide_eq_true (by first | (with_reducible assumption) | assumption)
         have q11 : x4_2 < (a0.size : Int) := of_decide_eq_true (by first | (with_reducible assumption) | assumption)
         have hx11 := bt_at a0 x4_2
         replace p11 := eq_true p11
         replace q11 := eq_true q11
         go_wp2
         go_ret
         exact ⟨by first | rfl | (simp; done) | (simp [*]; done), by repeat (first | exact Drawn0.refl _ | apply Drawn0.step)⟩
        ·rw [if_neg c12] at H
         have c12b0 : decide ((bt a0 x4_2) < 48) = false := decide_eq_false c12
         clear c12
         by_cases c14 : (bt a0 x4_2) > 57
         ·rw [if_pos c14] at H
          have c14b0 : decide (57 < (bt a0 x4_2)) = true := decide_eq_true c14
          clear c14
          obtain rfl := Option.some.inj H
          have p11 : 0 ≤ (x4_2 : Int) := of_decide_eq_true (by first | (with_reducible assumption) | assumption)
          have q11 : x4_2 < (a0.size : Int) := of_decide_eq_true (by first | (with_reducible assumption) | assumption)
          have hx11 := bt_at a0 x4_2
          replace p11 := eq_true p11
          replace q11 := eq_true q11
          have p13 : 0 ≤ (x4_2 : Int) := of_decide_eq_true (by first | (with_reducible assumption) | assumption)
          have q13 : x4_2 < (a0.size : Int) := of_decide_eq_true (by first | (with_reducible assumption) | assumption)
          have hx13 := bt_at a0 x4_2
          replace p13 := eq_true p13
          replace q13 := eq_true q13
          go_wp2
          go_ret
          exact ⟨by first | rfl | (simp; done) | (simp [*]; done), by repeat (first | exact Drawn0.refl _ | apply Drawn0.step)⟩
         ·rw [if_neg c14] at H
          have c14b0 : decide (57 < (bt a0 x4_2)) = false := decide_eq_false c14
          clear c14
          have H' := aM H
          clear H
          have p11 : 0 ≤ (x4_2 : Int) := of_decide_eq_true (by first | (with_reducible assumption) | assumption)
          have q11 : x4_2 < (a0.size : Int) := of_decide_eq_true (by first | (with_reducible assumption) | assumption)
          have hx11 := bt_at a0 x4_2
          replace p11 := eq_true p11
          replace q11 := eq_true q11
          have p13 : 0 ≤ (x4_2 : Int) := of_decide_eq_true (by first | (with_reducible assumption) | assumption)
          have q13 : x4_2 < (a0.size : Int) := of_decide_eq_true (by first | (with_reducible assumption) | assumption)
          have hx13 := bt_at a0 x4_2
          replace p13 := eq_true p13
          replace q13 := eq_true q13
          have p15 : 0 ≤ (x4_2 : Int) := of_decide_eq_true (by first | (with_reducible assumption) | assumption)
          have q15 : x4_2 < (a0.size : Int) := of_decide_eq_true (by first | (with_reducible assumption) | assumption)
          have hx15 := bt_at a0 x4_2
          replace p15 := eq_true p15
          replace q15 := eq_true q15
          go_wp2
          go_roundg k2
          case measure => have := HJ1.out; have := HK2.out; omega
          case rel => exact ⟨(wrap64 ((wrap64 (10 * x3_2)) + (((bt a0 x4_2) - 48) % 256))), (wrap64 (x4_2 + 1)), tF, tF, H', ⟨by have := HJ1.out; have := HK2.out; omega⟩, by repeat (first | exact Drawn0.refl _ | apply Drawn0.step)⟩
       ·rw [if_neg c10] at H
        exact absurd H (by simp)
      ·rw [if_neg c9] at H
       have c9b0 : decide (x4_2 < (a0.size : Int)) = false := decide_eq_false c9
       clear c9
       by_cases c16 : x3_2 > 255
       ·rw [if_pos c16] at H
        have c16b0 : decide (255 < x3_2) = true := decide_eq_true c16
        clear c16
        obtain rfl := Option.some.inj H
        go_wp2
        go_ret
        exact ⟨by first | rfl | (simp; done) | (simp [*]; done), by repeat (first | exact Drawn0.refl _ | apply Drawn0.step)⟩
       ·rw [if_neg c16] at H
        have c16b0 : decide (255 < x3_2) = false := decide_eq_false c16
        clear c16
        obtain rfl := Option.some.inj H
        go_wp2
        go_ret
        exact ⟨by first | rfl | (simp; done) | (simp [*]; done), by repeat (first | exact Drawn0.refl _ | apply Drawn0.step)⟩

/-! ### nameplateref04_Four: function 73 -/
def nameplateref04_Four.f (a0 : Int) (a1 : Int) (a2 : Int) (a3 : Int) : Option (Bool × Int × Int) := some (false, 0, Go.bits .or .u64 (Go.bits .or .u64 (Go.bits .or .u64 (IntKind.u64.wrap ((IntKind.u64.wrap (a0)) * 16777216)) (IntKind.u64.wrap ((IntKind.u64.wrap (a1)) * 65536))) (IntKind.u64.wrap ((IntKind.u64.wrap (a2)) * 256))) (IntKind.u64.wrap (a3)))
set_option maxHeartbeats 8000000 in
set_option maxRecDepth 100000 in
theorem nameplateref04_Four.calls (a0 : Int) (a1 : Int) (a2 : Int) (a3 : Int) (r1 : Bool) (r2 : Int) (r3 : Int) (w : World) (h : nameplateref04_Four.f a0 a1 a2 a3 = some (r1, r2, r3)) :
  Calls Tryz.prog 73 #[.int .u8 a0, .int .u8 a1, .int .u8 a2, .int .u8 a3] w fun e w' => e = .returned (.agg #[.bool r1, .int .u64 r2, .int .u64 r3]) ∧ Below w.heap.size w w' := by
 have hu24 := Tryz.underlying24
 have HB := aM (Below.refl w.heap.size w)
 have H : (some (false, 0, Go.bits .or .u64 (Go.bits .or .u64 (Go.bits .or .u64 (IntKind.u64.wrap ((IntKind.u64.wrap (a0)) * 16777216)) (IntKind.u64.wrap ((IntKind.u64.wrap (a1)) * 65536))) (IntKind.u64.wrap ((IntKind.u64.wrap (a2)) * 256))) (IntKind.u64.wrap (a3)))) = some (r1, r2, r3) := h
 clear h
 simp only [Option.some.injEq, Prod.mk.injEq] at H
 obtain ⟨rfl, rfl, rfl⟩ := H
 go_enter Tryz.func73, Tryz.ntmps73
 go_wp2_with (first | ((with_reducible refine gD 8 rfl ?_); refine bX 8 #[.bool false, .int .u64 0, .int .u64 0] 24 ?_; intro gb225 hg w5 hbox hb; have BK225 := aM hbox; have GW225 := gS hg HB.out; have GE225 := GW225; replace HB := bS HB.out hb; clear hb hbox hg; obtain ⟨hcz6_0, hcz6_1, hcz6_2, hfz6_0, hfz6_1, hfz6_2⟩ := kY3 BK225.out))
 refine bodyPost_ret (results_cell_row rfl _ _ gb225 24 #[.bool false, .int .u64 0, .int .u64 (Go.bits .or .u64 (Go.bits .or .u64 (Go.bits .or .u64 (IntKind.u64.wrap ((IntKind.u64.wrap (a0)) * 16777216)) (IntKind.u64.wrap ((IntKind.u64.wrap (a1)) * 65536))) (IntKind.u64.wrap ((IntKind.u64.wrap (a2)) * 256))) (IntKind.u64.wrap (a3)))] (0, 0) _ rfl (tP BK225.out) Tryz.underlying24 rfl (by kernel_rfl)) rfl ?_
 exact ⟨tE, tB HB.out⟩

def nameplateref04_elder.f (k : Nat) (a0 : ByteArray) : Option (Bool × Int × Int × Bool) := AddrLib.refElderF (fun s => nameplateref04_parts.f k s 46) (nameplateref04_small.f k) nameplateref04_Four.f a0
theorem nameplateref04_elder.calls (k : Nat) (a0 : ByteArray) (r1 : Bool) (r2 r3 : Int) (r4 : Bool) (w : World) (h : nameplateref04_elder.f k a0 = some (r1, r2, r3, r4)) :
  Calls Tryz.prog 49 #[.string a0] w fun e w' => e = .returned (.tuple #[.agg #[.bool r1, .int .u64 r2, .int .u64 r3], .bool r4]) ∧ Below w.heap.size w w' :=
 AddrLib.refElder_calls (fun s => nameplateref04_parts.f k s 46) (nameplateref04_small.f k) nameplateref04_Four.f (fun s l w h => nameplateref04_parts.calls k s 46 l w h) (fun s n w h => nameplateref04_small.calls k s n w h) (fun a b c d t w h => nameplateref04_Four.calls a b c d t.1 t.2.1 t.2.2 w h) a0 (r1, r2, r3, r4) h w
theorem nameplateref04_elder.mono : ∀ a0 k, LeO (nameplateref04_elder.f k a0) (nameplateref04_elder.f (k + 1) a0) := fun a0 k => AddrLib.refElderF_mono (fun s => nameplateref04_parts.mono s 46 k) (fun s => nameplateref04_small.mono s k) (fun _ _ _ _ => LeO.refl _) a0

/-! ### nameplateref04_twice: function 50 -/
def nameplateref04_twice.l0 : Nat → ByteArray → Int → Option (Int)
 | 0, _, _ => none
 | k + 1, x0, x3 => if (wrap64 (x3 + 1)) < (x0.size : Int) then (if 0 ≤ x3 then (if x3 ≤ (wrap64 (x3 + 2)) then (if (wrap64 (x3 + 2)) ≤ (x0.size : Int) then (if (x0.extract (x3 : Int).toNat ((wrap64 (x3 + 2)) : Int).toNat).toList = ([58, 58] : List UInt8) then (some x3) else (nameplateref04_twice.l0 k x0 (wrap64 (x3 + 1)))) else (none)) else (none)) else (none)) else (some (-1))
def nameplateref04_twice.f (k : Nat) (a0 : ByteArray) : Option (Int) := nameplateref04_twice.l0 k a0 0
theorem nameplateref04_twice.mono_l : ∀ k, (∀ y0 y1, LeO (nameplateref04_twice.l0 k y0 y1) (nameplateref04_twice.l0 (k + 1) y0 y1))
 | 0 => fun _ _ r h => by simp [nameplateref04_twice.l0] at h
 | k + 1 => by
  have ih0 := nameplateref04_twice.mono_l k
  ·intro y0 y1
   unfold nameplateref04_twice.l0
   repeat' first | (with_reducible first | apply ih0 | exact LeO.refl _ | exact LeO.none _ | refine LeO.ite ?_ ?_ | refine LeO.bind ?_ (fun _ => ?_)) | apply ih0 | exact LeO.none _ | refine LeO.ite ?_ ?_ | refine LeO.bind ?_ (fun _ => ?_)
theorem nameplateref04_twice.mono : ∀ a0 k, LeO (nameplateref04_twice.f k a0) (nameplateref04_twice.f (k + 1) a0) := by
 intro a0 k
 have ih0 := nameplateref04_twice.mono_l k
 unfold nameplateref04_twice.f
 repeat' first | (with_reducible first | apply ih0 | exact LeO.refl _ | exact LeO.none _ | refine LeO.ite ?_ ?_ | refine LeO.bind ?_ (fun _ => ?_)) | apply ih0 | exact LeO.none _ | refine LeO.ite ?_ ?_ | refine LeO.bind ?_ (fun _ => ?_)
set_option maxHeartbeats 8000000 in
set_option maxRecDepth 100000 in
theorem nameplateref04_twice.calls (k : Nat) (a0 : ByteArray) (r : Int) (w : World) (h : nameplateref04_twice.f k a0 = some r) :
  Calls Tryz.prog 50 #[.string a0] w fun e w' => e = .returned (.int .i64 r) ∧ Drawn0 w w' := by
 have H : (nameplateref04_twice.l0 k a0 0) = some r := h
 clear h
 have H' := aM H
 clear H
 go_enter Tryz.func50, Tryz.ntmps50
 go_wp2
 go_loopg [3] k (fun kq v3 w' => ∃ (x3_1 : Int), v3 = .int .i64 x3_1 ∧ Aside0 (nameplateref04_twice.l0 kq a0 x3_1 = some r) ∧ Aside0 (kq ≤ k) ∧ Drawn0 w w')
 case atStart => exact ⟨(0), tF, H', ⟨Nat.le_refl _⟩, by repeat (first | exact Drawn0.refl _ | apply Drawn0.step)⟩
 case round =>
  clear H'
  obtain ⟨x3_1, rfl, HA, HK1, ⟨m1, rfl⟩⟩ := hrel
  cases gk with
  | zero => exact absurd HA.out (by simp [nameplateref04_twice.l0])
  | succ k1 =>
   have H := HA.out
   clear HA
   simp only [nameplateref04_twice.l0] at H
   by_cases c2 : (wrap64 (x3_1 + 1)) < (a0.size : Int)
   ·rw [if_pos c2] at H
    have c2b0 : decide ((wrap64 (x3_1 + 1)) < (a0.size : Int)) = true := decide_eq_true c2
    clear c2
    by_cases c3 : 0 ≤ x3_1
    ·rw [if_pos c3] at H
     have c3b0 := eq_true c3
     have c3b1 : decide (0 ≤ x3_1) = true := decide_eq_true c3
     clear c3
     by_cases c4 : x3_1 ≤ (wrap64 (x3_1 + 2))
     ·rw [if_pos c4] at H
      have c4b0 := eq_true c4
      have c4b1 : decide (x3_1 ≤ (wrap64 (x3_1 + 2))) = true := decide_eq_true c4
      by_cases c5 : (wrap64 (x3_1 + 2)) ≤ (a0.size : Int)
      ·rw [if_pos c5] at H
       have c5b0 := eq_true c5
       have c5b1 : decide ((wrap64 (x3_1 + 2)) ≤ (a0.size : Int)) = true := decide_eq_true c5
       by_cases c6 : (a0.extract (x3_1 : Int).toNat ((wrap64 (x3_1 + 2)) : Int).toNat).toList = ([58, 58] : List UInt8)
       ·rw [if_pos c6] at H
        have c6b0 : ((a0.extract (x3_1 : Int).toNat ((wrap64 (x3_1 + 2)) : Int).toNat).toList == ([58, 58] : List UInt8)) = true := beq_iff_eq.mpr c6
        have c6b1 : ((a0.extract (x3_1 : Int).toNat ((wrap64 (x3_1 + 2)) : Int).toNat).toList != ([58, 58] : List UInt8)) = false := bne_eq_false_iff_eq.mpr c6
        clear c6
        obtain rfl := Option.some.inj H
        go_wp2
        go_ret
        exact ⟨by first | rfl | (simp; done) | (simp [*]; done), by repeat (first | exact Drawn0.refl _ | apply Drawn0.step)⟩
       ·rw [if_neg c6] at H
        have c6b0 : ((a0.extract (x3_1 : Int).toNat ((wrap64 (x3_1 + 2)) : Int).toNat).toList == ([58, 58] : List UInt8)) = false := beq_eq_false_iff_ne.mpr c6
        have c6b1 : ((a0.extract (x3_1 : Int).toNat ((wrap64 (x3_1 + 2)) : Int).toNat).toList != ([58, 58] : List UInt8)) = true := bne_iff_ne.mpr c6
        have H' := aM H
        clear H
        go_wp2
        go_roundg k1
        case measure => have := HK1.out; omega
        case rel => exact ⟨(wrap64 (x3_1 + 1)), tF, H', ⟨by have := HK1.out; omega⟩, by repeat (first | exact Drawn0.refl _ | apply Drawn0.step)⟩
      ·rw [if_neg c5] at H
       exact absurd H (by simp)
     ·rw [if_neg c4] at H
      exact absurd H (by simp)
    ·rw [if_neg c3] at H
     exact absurd H (by simp)
   ·rw [if_neg c2] at H
    have c2b0 : decide ((wrap64 (x3_1 + 1)) < (a0.size : Int)) = false := decide_eq_false c2
    clear c2
    obtain rfl := Option.some.inj H
    go_wp2
    go_ret
    exact ⟨by first | rfl | (simp; done) | (simp [*]; done), by repeat (first | exact Drawn0.refl _ | apply Drawn0.step)⟩

/-! ### nameplateref01_Fold: function 89; by hand -/
set_option maxHeartbeats 1000000 in
set_option maxRecDepth 100000 in
theorem nameplateref01_Fold.walk_ (s : ByteArray) (w : World) (hs : s.size ≤ 9223372036854775807) : Calls Tryz.prog 89 #[.string s] w fun e w' => e = .returned (.string (strOfNums ((bytesOf s).map foldI))) ∧ Below w.heap.size w w' := by
 have HB := aM (Below.refl w.heap.size w)
 go_enter Tryz.func89, Tryz.ntmps89
 go_wp2_with (first | ((with_reducible refine gD 6 rfl ?_); refine conv_row_event (src := 9) (dst := 51) (e := 5) (s := s) (w := w) rfl (N := 6) rfl Tryz.underlying9 Tryz.underlying51 Tryz.underlying5 ?cvr hs HB.out ?_; (case cvr => intro kb_; first | (go_simp; done) | (go_simp; rfl)); intro g c w1 hrow hc hg hb; have HROW := aM hrow; have HB2 := aM hb; have HC := aM hc; clear hrow hb hc))
 obtain ⟨xs, hxs⟩ : ∃ xs, xs = bytesOf s := ⟨_, rfl⟩
 rw [← hxs] at HROW HC ⊢
 have HXS := aM hxs
 have HL := aM (show xs.length ≤ 9223372036854775807 by rw [hxs, bytesOf_length]; exact hs)
 clear hxs
 go_loopw [4] (fun i wr => ∃ k : Nat, k ≤ xs.length ∧ i = .int .i64 k ∧ Aside0 (ConvRow wr 5 g xs.length (foldTo xs k)) ∧ Aside0 (Below w.heap.size w wr)) (fun i _ => xs.length - (intOf i).toNat)
 case atStart => exact ⟨0, Nat.zero_le _, rfl, ⟨by rw [foldTo_zero]; exact HROW.out⟩, HB2⟩
 case round =>
  clear HROW HB2 HB
  obtain ⟨k, hk, rfl, HR, HB⟩ := hrel
  have hL := HL.out
  by_cases hlt : k < xs.length
  ·have hx := HR.out.cell k hlt
   have hf := HR.out.free k hlt
   rw [foldTo_at xs k hlt] at hx
   have hb01 : 0 ≤ xs.getD k 0 ∧ xs.getD k 0 ≤ 255 := by rw [HXS.out]; exact byte_range_ s k
   obtain ⟨hb0, hb1⟩ := hb01
   have HS := aM (show ConvRow (wr.setCell ⟨g, k, none⟩ (.int .u8 (foldI (xs.getD k 0)))) 5 g xs.length (foldTo xs (k + 1)) by rw [← foldTo_set xs k hlt]; exact HR.out.set k (foldI (xs.getD k 0)))
   have HN := aM (fun e => foldTo_same xs k hlt e)
   generalize xs.getD k 0 = x at hx hb0 hb1 HS HN
   by_cases hA : 65 ≤ x
   ·by_cases hZ : x ≤ 90
    ·have HF := aM (foldI_yes hA hZ)
     rw [HF.out] at HS
     go_wp2
     go_roundw
     case rel => exact ⟨k + 1, by omega, by go_num, HS, ⟨below_set HB.out hg⟩⟩
     case measure => simp [intOf]; omega
    ·have HF := aM (HN.out (foldI_big hZ))
     have hZ' : decide (x ≤ 90) = false := by simpa using hZ
     go_wp2
     go_roundw
     case rel => exact ⟨k + 1, by omega, by go_num, ⟨by rw [HF.out]; exact HR.out⟩, HB⟩
     case measure => simp [intOf]; omega
   ·have HF := aM (HN.out (foldI_small hA))
    have hA' : decide (65 ≤ x) = false := by simpa using hA
    go_wp2
    go_roundw
    case rel => exact ⟨k + 1, by omega, by go_num, ⟨by rw [HF.out]; exact HR.out⟩, HB⟩
    case measure => simp [intOf]; omega
  ·have hk' : k = xs.length := by omega
   subst hk'
   have hcv := Kd.C_string (P := Tryz.prog) (A := some ⟨g, 0, none⟩) (c := c) Tryz.underlying51 Tryz.underlying5 Tryz.underlying9 HR.out.reads
   go_wp2
   go_ret
   exact ⟨by rw [← HXS.out, ← foldTo_all xs]; rfl, HB.out⟩
def nameplateref01_Fold.f (a0 : ByteArray) : Option (ByteArray) := if a0.size ≤ 9223372036854775807 then (some (foldS a0)) else (none)
theorem nameplateref01_Fold.calls (a0 : ByteArray) (r : ByteArray) (w : World) (h : nameplateref01_Fold.f a0 = some r) :
  Calls Tryz.prog 89 #[.string a0] w fun e w' => e = .returned (.string r) ∧ Below w.heap.size w w' := by
 unfold nameplateref01_Fold.f at h
 by_cases hs : a0.size ≤ 9223372036854775807
 ·rw [if_pos hs] at h
  obtain rfl := Option.some.inj h
  exact nameplateref01_Fold.walk_ a0 w hs
 ·rw [if_neg hs] at h
  cases h

end Go.Proofs.YtbalmnkbodcigaaGreatDoor.ORc
namespace Go.Proofs.YtbalmnkbodcigaaGreatDoor.ORc
open Go.RowKit Go.Proofs.YtbalmnkbodcigaaGreatDoorW.PrintWords Go.Proofs.YtbalmnkbodcigaaGreatDoorW.PrintLast Go.Proofs.YtbalmnkbodcigaaGreatDoorW.PrintMore
attribute [local go_sem] max2_int min2_int max_two min_two max_three min_three max_four min_four   -- for this text's walks alone
set_option linter.unusedVariables false
set_option linter.unusedSimpArgs false

/-! ### nameplateref04_group: function 74 -/
mutual
def nameplateref04_group.j0 : Nat → ByteArray → Bool → Option (Int)
 | 0, _, _ => none
 | k + 1, x0, x13 => if x13 = true then (some (-1)) else (nameplateref04_group.l0 k x0 0 0)
def nameplateref04_group.l0 : Nat → ByteArray → Int → Int → Option (Int)
 | 0, _, _, _ => none
 | k + 1, x0, x3, x4 => if x4 < (x0.size : Int) then (if 0 ≤ x4 then (if x4 ≤ (wrap64 (x4 + 1)) then (if (wrap64 (x4 + 1)) ≤ (x0.size : Int) then ((nameplateref01_Fold.f (x0.extract (x4 : Int).toNat ((wrap64 (x4 + 1)) : Int).toNat)).bind fun t226 => (if 0 < (t226.size : Int) then (if (bt t226 0) ≥ 48 then (nameplateref04_group.j2 k x0 x3 x4 (bt t226 0) (decide ((bt t226 0) ≤ 57))) else (nameplateref04_group.j2 k x0 x3 x4 (bt t226 0) false)) else (none))) else (none)) else (none)) else (none)) else (some x3)
def nameplateref04_group.j2 : Nat → ByteArray → Int → Int → Int → Bool → Option (Int)
 | 0, _, _, _, _, _ => none
 | k + 1, x0, x3, x4, x5, x27 => if x27 = true then (nameplateref04_group.l0 k x0 (wrap64 ((wrap64 (16 * x3)) + ((x5 - 48) % 256))) (wrap64 (x4 + 1))) else (if x5 ≥ 97 then (if x5 ≤ 102 then (nameplateref04_group.l0 k x0 (wrap64 ((wrap64 ((wrap64 (16 * x3)) + ((x5 - 97) % 256))) + 10)) (wrap64 (x4 + 1))) else (some (-1))) else (some (-1)))
end
def nameplateref04_group.f (k : Nat) (a0 : ByteArray) : Option (Int) := if (a0.size : Int) < 1 then (nameplateref04_group.j0 k a0 true) else (nameplateref04_group.j0 k a0 (decide ((a0.size : Int) > 4)))
theorem nameplateref04_group.mono_l : ∀ k, (∀ y0 y1, LeO (nameplateref04_group.j0 k y0 y1) (nameplateref04_group.j0 (k + 1) y0 y1)) ∧ (∀ y0 y1 y2, LeO (nameplateref04_group.l0 k y0 y1 y2) (nameplateref04_group.l0 (k + 1) y0 y1 y2)) ∧ (∀ y0 y1 y2 y3 y4, LeO (nameplateref04_group.j2 k y0 y1 y2 y3 y4) (nameplateref04_group.j2 (k + 1) y0 y1 y2 y3 y4))
 | 0 => ⟨fun _ _ r h => by simp [nameplateref04_group.j0] at h, fun _ _ _ r h => by simp [nameplateref04_group.l0] at h, fun _ _ _ _ _ r h => by simp [nameplateref04_group.j2] at h⟩
 | k + 1 => by
  obtain ⟨ih0, ih1, ih2⟩ := nameplateref04_group.mono_l k
  refine ⟨?_, ?_, ?_⟩
  ·intro y0 y1
   unfold nameplateref04_group.j0
   repeat' first | (with_reducible first | apply ih0 | apply ih1 | apply ih2 | exact LeO.refl _ | exact LeO.none _ | refine LeO.ite ?_ ?_ | refine LeO.bind ?_ (fun _ => ?_)) | apply ih0 | apply ih1 | apply ih2 | exact LeO.none _ | refine LeO.ite ?_ ?_ | refine LeO.bind ?_ (fun _ => ?_)
  ·intro y0 y1 y2
   unfold nameplateref04_group.l0
   repeat' first | (with_reducible first | apply ih0 | apply ih1 | apply ih2 | exact LeO.refl _ | exact LeO.none _ | refine LeO.ite ?_ ?_ | refine LeO.bind ?_ (fun _ => ?_)) | apply ih0 | apply ih1 | apply ih2 | exact LeO.none _ | refine LeO.ite ?_ ?_ | refine LeO.bind ?_ (fun _ => ?_)
  ·intro y0 y1 y2 y3 y4
   unfold nameplateref04_group.j2
   repeat' first | (with_reducible first | apply ih0 | apply ih1 | apply ih2 | exact LeO.refl _ | exact LeO.none _ | refine LeO.ite ?_ ?_ | refine LeO.bind ?_ (fun _ => ?_)) | apply ih0 | apply ih1 | apply ih2 | exact LeO.none _ | refine LeO.ite ?_ ?_ | refine LeO.bind ?_ (fun _ => ?_)
theorem nameplateref04_group.mono : ∀ a0 k, LeO (nameplateref04_group.f k a0) (nameplateref04_group.f (k + 1) a0) := by
 intro a0 k
 obtain ⟨ih0, ih1, ih2⟩ := nameplateref04_group.mono_l k
 unfold nameplateref04_group.f
 repeat' first | (with_reducible first | apply ih0 | apply ih1 | apply ih2 | exact LeO.refl _ | exact LeO.none _ | refine LeO.ite ?_ ?_ | refine LeO.bind ?_ (fun _ => ?_)) | apply ih0 | apply ih1 | apply ih2 | exact LeO.none _ | refine LeO.ite ?_ ?_ | refine LeO.bind ?_ (fun _ => ?_)
set_option maxHeartbeats 8000000 in
set_option maxRecDepth 100000 in
theorem nameplateref04_group.calls (k : Nat) (a0 : ByteArray) (r : Int) (w : World) (h : nameplateref04_group.f k a0 = some r) :
  Calls Tryz.prog 74 #[.string a0] w fun e w' => e = .returned (.int .i64 r) ∧ Below w.heap.size w w' := by
 have HB := aM (Below.refl w.heap.size w)
 have H : (if (a0.size : Int) < 1 then (nameplateref04_group.j0 k a0 true) else (nameplateref04_group.j0 k a0 (decide ((a0.size : Int) > 4)))) = some r := h
 clear h
 have HC2 := aM H
 clear H
 go_enter Tryz.func74, Tryz.ntmps74
 go_upto_region 1 with (fail)
 go_cut [13] (fun v13 wc => ∃ (kq : Nat) (x13_1 : Bool), v13 = .bool x13_1 ∧ Aside0 (nameplateref04_group.j0 kq a0 x13_1 = some r) ∧ Aside0 (kq ≤ k) ∧ Aside0 (Below w.heap.size w wc))
 case first =>
  have H := HC2.out
  clear HC2
  by_cases c3 : (a0.size : Int) < 1
  ·rw [if_pos c3] at H
   have c3b0 : decide ((a0.size : Int) < 1) = true := decide_eq_true c3
   have c3b1 : decide (a0.size < 1) = true := decide_eq_true (by omega)
   clear c3
   (first | rw [c3b0] | (simp only [i64_w, i32_w]; rw [c3b0]) | skip)
   have H' := aM H
   clear H
   go_wp2
   go_meet
   case rel => exact ⟨_, (true), tF, H', ⟨by first | omega | exact Nat.le_refl _⟩, ⟨tB HB.out⟩⟩
  ·rw [if_neg c3] at H
   have c3b0 : decide ((a0.size : Int) < 1) = false := decide_eq_false c3
   have c3b1 : decide (a0.size < 1) = false := decide_eq_false (by omega)
   clear c3
   (first | rw [c3b0] | (simp only [i64_w, i32_w]; rw [c3b0]) | skip)
   have H' := aM H
   clear H
   go_wp2
   go_meet
   case rel => exact ⟨_, (decide ((a0.size : Int) > 4)), tF, H', ⟨by first | omega | exact Nat.le_refl _⟩, ⟨tB HB.out⟩⟩
 case rest =>
  clear HC2
  try clear p2
  try clear c3
  try clear c3b0
  try clear c3b1
  obtain ⟨kq, x13_1, rfl, HA, HJ1, HB⟩ := hcut
  cases kq with
  | zero => exact absurd HA.out (by simp [nameplateref04_group.j0])
  | succ kj1 =>
   have H := HA.out
   clear HA
   simp only [nameplateref04_group.j0] at H
   by_cases c4 : x13_1 = true
   ·subst c4
    rw [if_pos rfl] at H
    obtain rfl := Option.some.inj H
    go_wp2
    go_ret
    exact ⟨tE, tB HB.out⟩
   ·replace c4 := Bool.eq_false_iff.mpr c4
    subst c4
    rw [if_neg (show ¬ (false = true) by decide)] at H
    have H' := aM H
    clear H
    go_wp2
    go_loopg [3, 4] kj1 (fun kq v3 v4 w' => ∃ (x3_2 : Int) (x4_2 : Int), v3 = .int .i64 x3_2 ∧ v4 = .int .i64 x4_2 ∧ Aside0 (nameplateref04_group.l0 kq a0 x3_2 x4_2 = some r) ∧ Aside0 (kq ≤ kj1) ∧ Aside0 (Below w.heap.size w w'))
    case atStart => exact ⟨(0), (0), tF, tF, H', ⟨Nat.le_refl _⟩, ⟨tB HB.out⟩⟩
    case round =>
     clear H'
     try clear p2
     try clear c3
     try clear c3b0
     try clear c3b1
     try clear c4
     try clear p2
     obtain ⟨x3_2, x4_2, rfl, rfl, HA, HK2, HB⟩ := hrel
     cases gk with
     | zero => exact absurd HA.out (by simp [nameplateref04_group.l0])
     | succ k2 =>
      have H := HA.out
      clear HA
      simp only [nameplateref04_group.l0] at H
      by_cases c5 : x4_2 < (a0.size : Int)
      ·rw [if_pos c5] at H
       have c5b0 : decide (x4_2 < (a0.size : Int)) = true := decide_eq_true c5
       clear c5
       by_cases c6 : 0 ≤ x4_2
       ·rw [if_pos c6] at H
        have c6b0 := eq_true c6
        have c6b1 : decide (0 ≤ x4_2) = true := decide_eq_true c6
        clear c6
        by_cases c7 : x4_2 ≤ (wrap64 (x4_2 + 1))
        ·rw [if_pos c7] at H
         have c7b0 := eq_true c7
         have c7b1 : decide (x4_2 ≤ (wrap64 (x4_2 + 1))) = true := decide_eq_true c7
         by_cases c8 : (wrap64 (x4_2 + 1)) ≤ (a0.size : Int)
         ·rw [if_pos c8] at H
          have c8b0 := eq_true c8
          have c8b1 : decide ((wrap64 (x4_2 + 1)) ≤ (a0.size : Int)) = true := decide_eq_true c8
          obtain ⟨t226, A9, H⟩ := oB H
          try dsimp only at H
          by_cases c10 : 0 < (t226.size : Int)
          ·rw [if_pos c10] at H
           have c10b0 : decide (0 < (t226.size : Int)) = true := decide_eq_true c10
           have c10b1 : decide (0 < t226.size) = true := decide_eq_true (by omega)
           clear c10
           have HC12 := aM H
           clear H
           go_upto_region 9 with (first | ((with_reducible refine gC 89 rfl ?_); refine gL (some 25) Tryz.func89 #[.string (a0.extract (x4_2 : Int).toNat ((wrap64 (x4_2 + 1)) : Int).toNat)] ?_; (with_reducible refine (nameplateref01_Fold.calls (a0.extract (x4_2 : Int).toNat ((wrap64 (x4_2 + 1)) : Int).toNat) t226 _ A9.out).mono ?_); rintro e w13 ⟨rfl, hb⟩; refine ⟨_, rfl, ?_⟩; replace HB := bS HB.out hb; (try clear hb); have p11 : 0 ≤ (0 : Int) := (by omega); have q11 : 0 < t226.size := (by have : (0 : Int) < (t226.size : Int) := of_decide_eq_true (by first | (with_reducible assumption) | assumption); omega); have hx11 : ∀ h : 0 < t226.size, ((t226[0]'h).toNat : Int) = bt t226 0 := bt_at t226 0; clear p11; have qi11 : (0 < (t226.size : Int)) = True := eq_true (of_decide_eq_true (by first | (with_reducible assumption) | assumption)); replace q11 := eq_true q11))
           (try simp only [Act.put, List.setIfInBounds_toArray, List.set_cons_zero, List.set_cons_succ])
           go_cut [27] (fun v27 wc => ∃ (kq : Nat) (x27_11 : Bool), v27 = .bool x27_11 ∧ Aside0 (nameplateref04_group.j2 kq a0 x3_2 x4_2 (bt t226 0) x27_11 = some r) ∧ Aside0 (kq ≤ k2) ∧ Aside0 (Below w.heap.size w wc))
           case first =>
            have H := HC12.out
            clear HC12
            by_cases c14 : (bt t226 0) ≥ 48
            ·rw [if_pos c14] at H
             have c14b0 : decide (48 ≤ (bt t226 0)) = true := decide_eq_true c14
             clear c14
             (first | rw [c14b0] | (simp only [i64_w, i32_w]; rw [c14b0]) | skip)
             have H' := aM H
             clear H
             go_wp2
             go_meet
             case rel => exact ⟨_, (decide ((bt t226 0) ≤ 57)), tF, H', ⟨by have := HJ1.out; have := HK2.out; first | omega | exact Nat.le_refl _⟩, ⟨tB HB.out⟩⟩
            ·rw [if_neg c14] at H
             have c14b0 : decide (48 ≤ (bt t226 0)) = false := decide_eq_false c14
             clear c14
             (first | rw [c14b0] | (simp only [i64_w, i32_w]; rw [c14b0]) | skip)
             have H' := aM H
             clear H
             go_wp2
             go_meet
             case rel => exact ⟨_, (false), tF, H', ⟨by have := HJ1.out; have := HK2.out; first | omega | exact Nat.le_refl _⟩, ⟨tB HB.out⟩⟩
           case rest =>
            clear HC12
            try clear c1
            try clear p1
            try clear q1
            try clear hx1
            try clear qi1
            try clear p2
            try clear c3
            try clear c3b0
            try clear c3b1
            try clear c4
            try clear c5
            try clear c5b0
            try clear c6
            try clear c6b0
            try clear c6b1
            try clear p6
            try clear c7
            try clear c7b0
            try clear c7b1
            try clear c8
            try clear c8b0
            try clear c8b1
            try clear c10
            try clear c10b0
            try clear c10b1
            try clear p11
            try clear q11
            try clear hx11
            try clear qi11
            try clear c14
            try clear c14b0
            try clear p11
            try clear p2
            try clear q11
            obtain ⟨kq, x27_11, rfl, HA, HJ11, HB⟩ := hcut
            cases kq with
            | zero => exact absurd HA.out (by simp [nameplateref04_group.j2])
            | succ kj11 =>
             have H := HA.out
             clear HA
             simp only [nameplateref04_group.j2] at H
             by_cases c15 : x27_11 = true
             ·subst c15
              rw [if_pos rfl] at H
              have H' := aM H
              clear H
              go_wp2
              go_roundg kj11
              case measure => have := HJ1.out; have := HK2.out; have := HJ11.out; omega
              case rel => exact ⟨(wrap64 ((wrap64 (16 * x3_2)) + (((bt t226 0) - 48) % 256))), (wrap64 (x4_2 + 1)), tF, tF, H', ⟨by have := HJ1.out; have := HK2.out; have := HJ11.out; omega⟩, ⟨tB HB.out⟩⟩
             ·replace c15 := Bool.eq_false_iff.mpr c15
              subst c15
              rw [if_neg (show ¬ (false = true) by decide)] at H
              by_cases c16 : (bt t226 0) ≥ 97
              ·rw [if_pos c16] at H
               have c16b0 : decide (97 ≤ (bt t226 0)) = true := decide_eq_true c16
               clear c16
               by_cases c17 : (bt t226 0) ≤ 102
               ·rw [if_pos c17] at H
                have c17b0 : decide ((bt t226 0) ≤ 102) = true := decide_eq_true c17
                clear c17
                have H' := aM H
                clear H
                go_wp2
                go_roundg kj11
                case measure => have := HJ1.out; have := HK2.out; have := HJ11.out; omega
                case rel => exact ⟨(wrap64 ((wrap64 ((wrap64 (16 * x3_2)) + (((bt t226 0) - 97) % 256))) + 10)), (wrap64 (x4_2 + 1)), tF, tF, H', ⟨by have := HJ1.out; have := HK2.out; have := HJ11.out; omega⟩, ⟨tB HB.out⟩⟩
               ·rw [if_neg c17] at H
                have c17b0 : decide ((bt t226 0) ≤ 102) = false := decide_eq_false c17
                clear c17
                obtain rfl := Option.some.inj H
                go_wp2
                go_ret
                exact ⟨tE, tB HB.out⟩
              ·rw [if_neg c16] at H
               have c16b0 : decide (97 ≤ (bt t226 0)) = false := decide_eq_false c16
               clear c16
               obtain rfl := Option.some.inj H
               go_wp2
               go_ret
               exact ⟨tE, tB HB.out⟩
          ·rw [if_neg c10] at H
           exact absurd H (by simp)
         ·rw [if_neg c8] at H
          exact absurd H (by simp)
        ·rw [if_neg c7] at H
         exact absurd H (by simp)
       ·rw [if_neg c6] at H
        exact absurd H (by simp)
      ·rw [if_neg c5] at H
       have c5b0 : decide (x4_2 < (a0.size : Int)) = false := decide_eq_false c5
       clear c5
       obtain rfl := Option.some.inj H
       go_wp2
       go_ret
       exact ⟨tE, tB HB.out⟩

/-! ### nameplateref04_groups: function 51 -/
mutual
def nameplateref04_groups.l0 : Nat → Bool → List ByteArray → List Int → Int → Option (List Int × Bool)
 | 0, _, _, _, _ => none
 | k + 1, x1, x6, x7, x8 => if x8 < (x6.length : Int) then (if 0 ≤ x8 then ((nameplateref04_elder.f k (rdOf ByteArray.empty x6 x8)).bind fun bt231 => (if x1 = true then (if bt231.2.2.2 = true then (nameplateref04_groups.j1 k x1 x6 x7 x8 (x8 == (wrap64 ((x6.length : Int) - 1))) bt231.1 bt231.2.1 bt231.2.2.1) else (nameplateref04_groups.j1 k x1 x6 x7 x8 false bt231.1 bt231.2.1 bt231.2.2.1)) else (nameplateref04_groups.j1 k x1 x6 x7 x8 false bt231.1 bt231.2.1 bt231.2.2.1))) else (none)) else (some (x7, true))
def nameplateref04_groups.j1 : Nat → Bool → List ByteArray → List Int → Int → Bool → Bool → Int → Int → Option (List Int × Bool)
 | 0, _, _, _, _, _, _, _, _ => none
 | k + 1, x1, x6, x7, x8, x40, x236000, x236001, x236002 => if x40 = true then ((some (([wrap64 (x236002 / 65536), wrap64 (Int.tmod x236002 65536)] : List Int) : List Int)).bind fun y236 => (if x7.length + y236.length < 17592186044416 then (nameplateref04_groups.l0 k x1 x6 (x7 ++ y236) (wrap64 (x8 + 1))) else (none))) else (if 0 ≤ x8 then (if x8 < (x6.length : Int) then ((nameplateref04_group.f k (rdOf ByteArray.empty x6 x8)).bind fun t243 => (if t243 < 0 then (some (([] : List Int), false)) else (if x7.length < 17592186044416 then (nameplateref04_groups.l0 k x1 x6 (x7 ++ [t243]) (wrap64 (x8 + 1))) else (none)))) else (none)) else (none))
end
def nameplateref04_groups.f (k : Nat) (a0 : ByteArray) (a1 : Bool) : Option (List Int × Bool) := if a0.toList = ([] : List UInt8) then (some (([] : List Int), true)) else ((nameplateref04_parts.f k a0 58).bind fun t227 => (nameplateref04_groups.l0 k a1 t227 ([] : List Int) 0))
theorem nameplateref04_groups.mono_l : ∀ k, (∀ y0 y1 y2 y3, LeO (nameplateref04_groups.l0 k y0 y1 y2 y3) (nameplateref04_groups.l0 (k + 1) y0 y1 y2 y3)) ∧ (∀ y0 y1 y2 y3 y4 y5 y6 y7, LeO (nameplateref04_groups.j1 k y0 y1 y2 y3 y4 y5 y6 y7) (nameplateref04_groups.j1 (k + 1) y0 y1 y2 y3 y4 y5 y6 y7))
 | 0 => ⟨fun _ _ _ _ r h => by simp [nameplateref04_groups.l0] at h, fun _ _ _ _ _ _ _ _ r h => by simp [nameplateref04_groups.j1] at h⟩
 | k + 1 => by
  obtain ⟨ih0, ih1⟩ := nameplateref04_groups.mono_l k
  refine ⟨?_, ?_⟩
  ·intro y0 y1 y2 y3
   unfold nameplateref04_groups.l0
   repeat' first | (with_reducible first | apply ih0 | apply ih1 | apply nameplateref04_elder.mono | apply nameplateref04_group.mono | apply nameplateref04_parts.mono | exact LeO.refl _ | exact LeO.none _ | refine LeO.ite ?_ ?_ | refine LeO.bind ?_ (fun _ => ?_)) | apply ih0 | apply ih1 | apply nameplateref04_elder.mono | apply nameplateref04_group.mono | apply nameplateref04_parts.mono | exact LeO.none _ | refine LeO.ite ?_ ?_ | refine LeO.bind ?_ (fun _ => ?_)
  ·intro y0 y1 y2 y3 y4 y5 y6 y7
   unfold nameplateref04_groups.j1
   repeat' first | (with_reducible first | apply ih0 | apply ih1 | apply nameplateref04_elder.mono | apply nameplateref04_group.mono | apply nameplateref04_parts.mono | exact LeO.refl _ | exact LeO.none _ | refine LeO.ite ?_ ?_ | refine LeO.bind ?_ (fun _ => ?_)) | apply ih0 | apply ih1 | apply nameplateref04_elder.mono | apply nameplateref04_group.mono | apply nameplateref04_parts.mono | exact LeO.none _ | refine LeO.ite ?_ ?_ | refine LeO.bind ?_ (fun _ => ?_)
theorem nameplateref04_groups.mono : ∀ a0 a1 k, LeO (nameplateref04_groups.f k a0 a1) (nameplateref04_groups.f (k + 1) a0 a1) := by
 intro a0 a1 k
 obtain ⟨ih0, ih1⟩ := nameplateref04_groups.mono_l k
 unfold nameplateref04_groups.f
 repeat' first | (with_reducible first | apply ih0 | apply ih1 | apply nameplateref04_elder.mono | apply nameplateref04_group.mono | apply nameplateref04_parts.mono | exact LeO.refl _ | exact LeO.none _ | refine LeO.ite ?_ ?_ | refine LeO.bind ?_ (fun _ => ?_)) | apply ih0 | apply ih1 | apply nameplateref04_elder.mono | apply nameplateref04_group.mono | apply nameplateref04_parts.mono | exact LeO.none _ | refine LeO.ite ?_ ?_ | refine LeO.bind ?_ (fun _ => ?_)
set_option maxHeartbeats 8000000 in
set_option maxRecDepth 100000 in
theorem nameplateref04_groups.calls (k : Nat) (a0 : ByteArray) (a1 : Bool) (r1 : List Int) (r2 : Bool) (w : World) (h : nameplateref04_groups.f k a0 a1 = some (r1, r2)) :
  Calls Tryz.prog 51 #[.string a0, .bool a1] w fun e w' => ∃ v0_ : Value, e = .returned (.tuple #[v0_, .bool r2]) ∧ Kd.R (Kd.int .i64) 3 w' w.heap.size (fun _ => True) v0_ r1 ∧ Below w.heap.size w w' := by
 have hu24 := Tryz.underlying24
 have HB := aM (Below.refl w.heap.size w)
 have H : (if a0.toList = ([] : List UInt8) then (some (([] : List Int), true)) else ((nameplateref04_parts.f k a0 58).bind fun t227 => (nameplateref04_groups.l0 k a1 t227 ([] : List Int) 0))) = some (r1, r2) := h
 clear h
 by_cases c3 : a0.toList = ([] : List UInt8)
 ·rw [if_pos c3] at H
  have c3b0 : (a0.toList == ([] : List UInt8)) = true := beq_iff_eq.mpr c3
  have c3b1 : (a0.toList != ([] : List UInt8)) = false := bne_eq_false_iff_eq.mpr c3
  clear c3
  simp only [Option.some.injEq, Prod.mk.injEq] at H
  obtain ⟨rfl, rfl⟩ := H
  go_enter Tryz.func51, Tryz.ntmps51
  go_wp2
  go_ret2
  exact ⟨_, tE, by first | exact Kd.R_nil _ _ _ _ _ | exact Kd.N_nil _ _ _ _ _ | exact Kd.V_nil _ _ _ _ _ | exact Kd.Q_nil _ _ _ _ _ | exact Kd.S_nil _ _ _ _ _, tB HB.out⟩
 ·rw [if_neg c3] at H
  have c3b0 : (a0.toList == ([] : List UInt8)) = false := beq_eq_false_iff_ne.mpr c3
  have c3b1 : (a0.toList != ([] : List UInt8)) = true := bne_iff_ne.mpr c3
  obtain ⟨t227, A4, H⟩ := oB H
  try dsimp only at H
  have H' := aM H
  clear H
  go_enter Tryz.func51, Tryz.ntmps51
  go_wp2_with (first | ((with_reducible refine gC 71 rfl ?_); refine gL (some 15) Tryz.func71 #[.string a0, .int .u8 58] ?_; (with_reducible refine (nameplateref04_parts.calls k a0 58 t227 _ A4.out).mono ?_); rintro e w5 ⟨v228, rfl, ho0, hb⟩; refine ⟨_, rfl, ?_⟩; have HO229 := aM (Kd.R_lower ho0 (below_size (tB HB.out))); replace HB := bS HB.out hb; (try clear hb); (try clear ho0)))
  go_loopg [7, 8] k (fun kq v7 v8 w' => ∃ (x7_1 : List Int) (x8_1 : Int), v8 = .int .i64 x8_1 ∧ Aside0 (nameplateref04_groups.l0 kq a1 t227 x7_1 x8_1 = some (r1, r2)) ∧ Aside0 (kq ≤ k) ∧ Aside0 (Kd.R Kd.string 9 w' w.heap.size (fun _ => True) v228 t227) ∧ Aside0 (Kd.R (Kd.int .i64) 3 w' w.heap.size (fun _ => True) v7 x7_1) ∧ Aside0 (Below w.heap.size w w'))
  case atStart => exact ⟨(([] : List Int)), (0), tF, H', ⟨Nat.le_refl _⟩, ⟨tR HO229.out⟩, ⟨by first | exact Kd.R_nil _ _ _ _ _ | exact Kd.N_nil _ _ _ _ _ | exact Kd.V_nil _ _ _ _ _ | exact Kd.Q_nil _ _ _ _ _ | exact Kd.S_nil _ _ _ _ _⟩, ⟨tB HB.out⟩⟩
  case round =>
   clear H'
   try clear p2
   try clear c3
   try clear c3b0
   try clear c3b1
   try clear c5
   obtain ⟨x7_1, x8_1, rfl, HA, HK1, HO_6, HO_7, HB⟩ := hrel
   cases gk with
   | zero => exact absurd HA.out (by simp [nameplateref04_groups.l0])
   | succ k1 =>
    have H := HA.out
    clear HA
    simp only [nameplateref04_groups.l0] at H
    by_cases c6 : x8_1 < (t227.length : Int)
    ·rw [if_pos c6] at H
     have c6b0 : decide (x8_1 < (t227.length : Int)) = true := decide_eq_true c6
     clear c6
     by_cases c7 : 0 ≤ x8_1
     ·rw [if_pos c7] at H
      have c7b0 : decide (0 ≤ x8_1) = true := decide_eq_true c7
      clear c7
      obtain ⟨⟨t231, t232, t233, t234⟩, A8, H⟩ := oB H
      try dsimp only at H
      have HC9 := aM H
      clear H
      obtain ⟨Ao10, co10, eo10⟩ := Kd.R_slice HO_6.out
      subst eo10
      have p230 : 0 ≤ (x8_1 : Int) := of_decide_eq_true (by first | (with_reducible assumption) | assumption)
      have q230 : x8_1 < (t227.length : Int) := of_decide_eq_true (by first | (with_reducible assumption) | assumption)
      obtain ⟨ad230, e230, hx230_0⟩ := Kd.at_string (Kd.R_reads' HO_6.out).2.2 x8_1 p230 q230
      cases e230
      replace p230 := eq_true p230
      replace q230 := eq_true q230
      go_upto_region 9 with (first | ((with_reducible refine gC 49 rfl ?_); refine gL (some 27) Tryz.func49 #[.string (rdOf ByteArray.empty t227 x8_1)] ?_; (with_reducible refine (nameplateref04_elder.calls k1 (rdOf ByteArray.empty t227 x8_1) t231 t232 t233 t234 _ A8.out).mono ?_); rintro e w11 ⟨rfl, hb⟩; refine ⟨_, rfl, ?_⟩; replace HO_6 := aM (Kd.R_below (tR HO_6.out) hb); replace HO_7 := aM (Kd.R_below (tR HO_7.out) hb); replace HB := bS HB.out hb; (try clear hb)) | ((with_reducible refine gD 9 rfl ?_); (try (refine gate_guard (by rfl) ?_; dsimp only)); refine bX 9 #[.bool false, .int .u64 0, .int .u64 0] 24 ?_; intro gb235 hg w12 hbox hb; have BK235 := aM hbox; have GW235 := gS hg HB.out; have GE235 := GW235; replace HO_6 := aM (Kd.R_below (tR HO_6.out) hb); replace HO_7 := aM (Kd.R_below (tR HO_7.out) hb); replace HB := bS HB.out hb; clear hb hbox hg; obtain ⟨hcz13_0, hcz13_1, hcz13_2, hfz13_0, hfz13_1, hfz13_2⟩ := kY3 BK235.out))
      (try simp only [Act.put, List.setIfInBounds_toArray, List.set_cons_zero, List.set_cons_succ])
      go_cut [40] (fun v40 wc => ∃ (kq : Nat) (x40_8 : Bool), v40 = .bool x40_8 ∧ Aside0 (nameplateref04_groups.j1 kq a1 t227 x7_1 x8_1 x40_8 t231 t232 t233 = some (r1, r2)) ∧ Aside0 (kq ≤ k1) ∧ Aside0 (Kd.R Kd.string 9 wc w.heap.size (fun _ => True) (.slice (some ad230) t227.length co10) t227) ∧ Aside0 (Kd.R (Kd.int .i64) 3 wc w.heap.size (fun _ => True) u7 x7_1) ∧ Aside0 (wc.heap[gb235]? = some (.cells #[.bool t231, .int .u64 t232, .int .u64 t233] 24 (0, 0))) ∧ Aside0 (Below w.heap.size w wc))
      case first =>
       have H := HC9.out
       clear HC9
       by_cases c14 : a1 = true
       ·subst c14
        rw [if_pos rfl] at H
        by_cases c15 : t234 = true
        ·subst c15
         rw [if_pos rfl] at H
         have H' := aM H
         clear H
         go_wp2
         go_meet
         case rel => exact ⟨_, ((x8_1 == (wrap64 ((t227.length : Int) - 1)))), tF, H', ⟨by have := HK1.out; first | omega | exact Nat.le_refl _⟩, ⟨tR (Kd.R_mono (Kd.R_far (p := ⟨gb235, 2, none⟩) (Kd.R_far (p := ⟨gb235, 1, none⟩) (Kd.R_far (p := ⟨gb235, 0, none⟩) (Kd.R_types HO_6.out BK235.out (by decide)) (fun _ hk => hk.2) (.bool t231)) (fun _ hk => hk.2) (.int .u64 t232)) (fun _ hk => hk.2) (.int .u64 t233)) (fun _ hk => trivial))⟩, ⟨tR (Kd.R_mono (Kd.R_far (p := ⟨gb235, 2, none⟩) (Kd.R_far (p := ⟨gb235, 1, none⟩) (Kd.R_far (p := ⟨gb235, 0, none⟩) (Kd.R_types HO_7.out BK235.out (by decide)) (fun _ hk => hk.2) (.bool t231)) (fun _ hk => hk.2) (.int .u64 t232)) (fun _ hk => hk.2) (.int .u64 t233)) (fun _ hk => trivial))⟩, ⟨tP BK235.out⟩, ⟨tB HB.out⟩⟩
        ·replace c15 := Bool.eq_false_iff.mpr c15
         subst c15
         rw [if_neg (show ¬ (false = true) by decide)] at H
         have H' := aM H
         clear H
         go_wp2
         go_meet
         case rel => exact ⟨_, (false), tF, H', ⟨by have := HK1.out; first | omega | exact Nat.le_refl _⟩, ⟨tR (Kd.R_mono (Kd.R_far (p := ⟨gb235, 2, none⟩) (Kd.R_far (p := ⟨gb235, 1, none⟩) (Kd.R_far (p := ⟨gb235, 0, none⟩) (Kd.R_types HO_6.out BK235.out (by decide)) (fun _ hk => hk.2) (.bool t231)) (fun _ hk => hk.2) (.int .u64 t232)) (fun _ hk => hk.2) (.int .u64 t233)) (fun _ hk => trivial))⟩, ⟨tR (Kd.R_mono (Kd.R_far (p := ⟨gb235, 2, none⟩) (Kd.R_far (p := ⟨gb235, 1, none⟩) (Kd.R_far (p := ⟨gb235, 0, none⟩) (Kd.R_types HO_7.out BK235.out (by decide)) (fun _ hk => hk.2) (.bool t231)) (fun _ hk => hk.2) (.int .u64 t232)) (fun _ hk => hk.2) (.int .u64 t233)) (fun _ hk => trivial))⟩, ⟨tP BK235.out⟩, ⟨tB HB.out⟩⟩
       ·replace c14 := Bool.eq_false_iff.mpr c14
        subst c14
        rw [if_neg (show ¬ (false = true) by decide)] at H
        have H' := aM H
        clear H
        go_wp2
        go_meet
        case rel => exact ⟨_, (false), tF, H', ⟨by have := HK1.out; first | omega | exact Nat.le_refl _⟩, ⟨tR (Kd.R_mono (Kd.R_far (p := ⟨gb235, 2, none⟩) (Kd.R_far (p := ⟨gb235, 1, none⟩) (Kd.R_far (p := ⟨gb235, 0, none⟩) (Kd.R_types HO_6.out BK235.out (by decide)) (fun _ hk => hk.2) (.bool t231)) (fun _ hk => hk.2) (.int .u64 t232)) (fun _ hk => hk.2) (.int .u64 t233)) (fun _ hk => trivial))⟩, ⟨tR (Kd.R_mono (Kd.R_far (p := ⟨gb235, 2, none⟩) (Kd.R_far (p := ⟨gb235, 1, none⟩) (Kd.R_far (p := ⟨gb235, 0, none⟩) (Kd.R_types HO_7.out BK235.out (by decide)) (fun _ hk => hk.2) (.bool t231)) (fun _ hk => hk.2) (.int .u64 t232)) (fun _ hk => hk.2) (.int .u64 t233)) (fun _ hk => trivial))⟩, ⟨tP BK235.out⟩, ⟨tB HB.out⟩⟩
      case rest =>
       clear HC9
       try clear c1
       try clear p2
       try clear q2
       try clear hx2
       try clear c3
       try clear c3b0
       try clear c3b1
       try clear c4
       try clear c5
       try clear c6
       try clear c6b0
       try clear p6
       try clear c7
       try clear c7b0
       try clear c14
       try clear c15
       try clear hcz13_0 hcz13_1 hcz13_2 hfz13_0 hfz13_1 hfz13_2
       try clear hx230_0
       try clear p2
       try clear p230
       try clear q230
       obtain ⟨kq, x40_8, rfl, HA, HJ8, HO_6, HO_7, BK235, HB⟩ := hcut
       cases kq with
       | zero => exact absurd HA.out (by simp [nameplateref04_groups.j1])
       | succ kj8 =>
        have H := HA.out
        clear HA
        simp only [nameplateref04_groups.j1] at H
        by_cases c16 : x40_8 = true
        ·subst c16
         rw [if_pos rfl] at H
         obtain ⟨y236, hy236⟩ : ∃ y_ : List Int, y_ = (([wrap64 (t233 / 65536), wrap64 (Int.tmod t233 65536)] : List Int)) := ⟨_, rfl⟩
         replace H : (if x7_1.length + y236.length < 17592186044416 then (nameplateref04_groups.l0 kj8 a1 t227 (x7_1 ++ y236) (wrap64 (x8_1 + 1))) else (none)) = some (r1, r2) := by first | (rw [hy236]; with_reducible exact H) | (have H2_ := (Option.bind_some _ _).symm.trans H; rw [hy236]; with_reducible exact H2_) | (have H2_ := (Option.bind_some _ _).symm.trans H; with_reducible exact H2_) | with_reducible exact H | (rw [hy236]; exact H) | exact H
         have Ny236 := aM hy236
         clear hy236
         by_cases c17 : x7_1.length + y236.length < 17592186044416
         ·rw [if_pos c17] at H
          have LMc17 := aM c17
          clear c17
          obtain ⟨y239, hy239⟩ : ∃ y_ : List Int, y_ = (x7_1 ++ y236) := ⟨_, rfl⟩
          replace H : (nameplateref04_groups.l0 kj8 a1 t227 y239 (wrap64 (x8_1 + 1))) = some (r1, r2) := by first | (rw [hy239]; with_reducible exact H) | (have H2_ := (Option.bind_some _ _).symm.trans H; rw [hy239]; with_reducible exact H2_) | (have H2_ := (Option.bind_some _ _).symm.trans H; with_reducible exact H2_) | with_reducible exact H | (rw [hy239]; exact H) | exact H
          have Ny239 := aM hy239
          clear hy239
          have H' := aM H
          clear H
          obtain ⟨hcz18_0, hcz18_1, hcz18_2, hfz18_0, hfz18_1, hfz18_2⟩ := kY3 BK235.out
          go_wp2_with (first | ((with_reducible refine gD 50 rfl ?_); (try (refine gate_guard (by rfl) ?_; dsimp only)); refine Kd.R_lit (Kd.int .i64) _ 3 ?hg (N := 50) ?hd (xs := ([wrap64 (t233 / 65536), wrap64 (Int.tmod t233 65536)] : List Int)) (inner := [.int .i64 (wrap64 (t233 / 65536)), .int .i64 (wrap64 (Int.tmod t233 65536))]) (ok := fun _ => True) (okp := fun _ => True) ?hr ?hp (fun _ hk => hk) trivial (Below.refl _ _) (Nat.le_refl _) (by simp) ?_; (case hd => rfl); (case hg => rfl); (case hr => first | (go_simp; done) | (go_simp; rfl)); (case hp => exact (Reps.one (show Kd.M (Kd.int .i64) _ _ _ (wrap64 (t233 / 65536)) [.int .i64 (wrap64 (t233 / 65536))] from rfl) (Reps.one (show Kd.M (Kd.int .i64) _ _ _ (wrap64 (Int.tmod t233 65536)) [.int .i64 (wrap64 (Int.tmod t233 65536))] from rfl) (Reps.none _ _)))); intro v237 w19 ho20 hb hg_ hnew_; clear hg_ hnew_; (first | rw [← Ny236.out] at ho20 | (simp only [Int.reduceToNat] at ho20; rw [← Ny236.out] at ho20)); have HO238 := aM (Kd.R_lower (Kd.R_new' ho20 (Kd.R_lt (tR HO_7.out))) (below_size (tB HB.out))); replace HO_6 := aM (Kd.R_below (tR HO_6.out) hb); replace HO_7 := aM (Kd.R_elder' (tR HO_7.out) (Kd.R_base ho20) hb); replace BK235 := kB BK235.out hb; replace HB := bS HB.out hb; clear hb ho20; obtain ⟨Ao22, co22, eo22⟩ := Kd.R_slice HO238.out; subst eo22) | ((with_reducible refine gate_builtin (b := .append) (xs := #[.tmp 41, .tmp 50]) rfl ?_); (try (refine gate_guard (by rfl) ?_; dsimp only)); at_builtin; refine Kd.R_append_rows (Kd.int .i64) (w0 := w) w.heap.size rfl (.tmp 41) (.tmp 50) 71 3 (.int .i64 0) 8 rfl Tryz.underlying71 info3 rfl (by decide) (by omega) u7 x7_1 y236 _ _ _ (fun k_ => some k_ ≠ (.slice Ao22 y236.length co22 : Value).ownBlock) (fun _ => False) rfl rfl ?aO ?aR (fun _ _ h => h) (fun _ h => h.elim) ?aF ?aB ?aS ?aL ?_; (case aR => exact tC (Kd.R_reads' HO238.out).2.2); (case aB => exact (tB HB.out)); (case aF => exact (fun k_ hk => Kd.fresh' (Kd.R_lt (tR HO238.out)) k_ hk)); (case aO => exact (tR (Kd.R_mono HO_7.out (fun _ hk => hk.2)))); (case aS => exact (below_size (tB HB.out))); (case aL => have := LMc17.out; omega); intro v240 w21 ho hb hg hat; rw [← Ny239.out] at ho; have HO241 := aM ho; replace HO_6 := aM (Kd.R_over' (tR HO_6.out) (Kd.R_typed (tR HO_7.out)) (by decide) hg); replace BK235 := aM (blk_grown (g := gb235) (o := .cells #[.bool t231, .int .u64 t232, .int .u64 t233] 24 (0, 0)) (tK BK235.out) hg (Kd.R_ne HO_7.out BK235.out (by decide))); replace HO238 := aM (Kd.R_after (ok := (fun _ => True)) (tR HO238.out) hg hat); replace HB := aM hb; clear HO_7; clear ho hb hg hat))
          go_roundg kj8
          case measure => have := HK1.out; have := HJ8.out; omega
          case rel => exact ⟨(y239), (wrap64 (x8_1 + 1)), tF, H', ⟨by have := HK1.out; have := HJ8.out; omega⟩, ⟨tR HO_6.out⟩, ⟨tR (Kd.R_mono HO241.out (fun _ hk => trivial))⟩, ⟨tB HB.out⟩⟩
         ·rw [if_neg c17] at H
          exact absurd H (by simp)
        ·replace c16 := Bool.eq_false_iff.mpr c16
         subst c16
         rw [if_neg (show ¬ (false = true) by decide)] at H
         by_cases c23 : 0 ≤ x8_1
         ·rw [if_pos c23] at H
          have c23b0 : decide (0 ≤ x8_1) = true := decide_eq_true c23
          clear c23
          by_cases c24 : x8_1 < (t227.length : Int)
          ·rw [if_pos c24] at H
           have c24b0 : decide (x8_1 < (t227.length : Int)) = true := decide_eq_true c24
           clear c24
           obtain ⟨t243, A25, H⟩ := oB H
           try dsimp only at H
           by_cases c26 : t243 < 0
           ·rw [if_pos c26] at H
            have c26b0 : decide (t243 < 0) = true := decide_eq_true c26
            clear c26
            simp only [Option.some.injEq, Prod.mk.injEq] at H
            obtain ⟨rfl, rfl⟩ := H
            have p242 : 0 ≤ (x8_1 : Int) := of_decide_eq_true (by first | (with_reducible assumption) | assumption)
            have q242 : x8_1 < (t227.length : Int) := of_decide_eq_true (by first | (with_reducible assumption) | assumption)
            obtain ⟨ad242, e242, hx242_0⟩ := Kd.at_string (Kd.R_reads' HO_6.out).2.2 x8_1 p242 q242
            obtain rfl : ad230 = ad242 := (by injection e242)
            replace p242 := eq_true p242
            replace q242 := eq_true q242
            go_wp2_with (first | ((with_reducible refine gC 74 rfl ?_); refine gL (some 56) Tryz.func74 #[.string (rdOf ByteArray.empty t227 x8_1)] ?_; (with_reducible refine (nameplateref04_group.calls kj8 (rdOf ByteArray.empty t227 x8_1) t243 _ A25.out).mono ?_); rintro e w27 ⟨rfl, hb⟩; refine ⟨_, rfl, ?_⟩; replace HO_6 := aM (Kd.R_below (tR HO_6.out) hb); replace HO_7 := aM (Kd.R_below (tR HO_7.out) hb); replace BK235 := kB BK235.out hb; replace HB := bS HB.out hb; (try clear hb)))
            go_ret2
            exact ⟨_, tE, by first | exact Kd.R_nil _ _ _ _ _ | exact Kd.N_nil _ _ _ _ _ | exact Kd.V_nil _ _ _ _ _ | exact Kd.Q_nil _ _ _ _ _ | exact Kd.S_nil _ _ _ _ _, tB HB.out⟩
           ·rw [if_neg c26] at H
            have c26b0 : decide (t243 < 0) = false := decide_eq_false c26
            clear c26
            by_cases c28 : x7_1.length < 17592186044416
            ·rw [if_pos c28] at H
             have LMc28 := aM c28
             clear c28
             obtain ⟨y244, hy244⟩ : ∃ y_ : List Int, y_ = (x7_1 ++ [t243]) := ⟨_, rfl⟩
             replace H : (nameplateref04_groups.l0 kj8 a1 t227 y244 (wrap64 (x8_1 + 1))) = some (r1, r2) := by first | (rw [hy244]; with_reducible exact H) | (have H2_ := (Option.bind_some _ _).symm.trans H; rw [hy244]; with_reducible exact H2_) | (have H2_ := (Option.bind_some _ _).symm.trans H; with_reducible exact H2_) | with_reducible exact H | (rw [hy244]; exact H) | exact H
             have Ny244 := aM hy244
             clear hy244
             have H' := aM H
             clear H
             have p242 : 0 ≤ (x8_1 : Int) := of_decide_eq_true (by first | (with_reducible assumption) | assumption)
             have q242 : x8_1 < (t227.length : Int) := of_decide_eq_true (by first | (with_reducible assumption) | assumption)
             obtain ⟨ad242, e242, hx242_0⟩ := Kd.at_string (Kd.R_reads' HO_6.out).2.2 x8_1 p242 q242
             obtain rfl : ad230 = ad242 := (by injection e242)
             replace p242 := eq_true p242
             replace q242 := eq_true q242
             go_wp2_with (first | ((with_reducible refine gC 74 rfl ?_); refine gL (some 56) Tryz.func74 #[.string (rdOf ByteArray.empty t227 x8_1)] ?_; (with_reducible refine (nameplateref04_group.calls kj8 (rdOf ByteArray.empty t227 x8_1) t243 _ A25.out).mono ?_); rintro e w29 ⟨rfl, hb⟩; refine ⟨_, rfl, ?_⟩; replace HO_6 := aM (Kd.R_below (tR HO_6.out) hb); replace HO_7 := aM (Kd.R_below (tR HO_7.out) hb); replace BK235 := kB BK235.out hb; replace HB := bS HB.out hb; (try clear hb)) | ((with_reducible refine gate_builtin (b := .append) (xs := #[.tmp 59, .tmp 61]) rfl ?_); (try (refine gate_guard (by rfl) ?_; dsimp only)); at_builtin; refine Kd.R_append (Kd.int .i64) (w0 := w) w.heap.size rfl (.tmp 59) (.tmp 61) 71 3 (.int .i64 0) 8 rfl Tryz.underlying71 info3 rfl (by decide) (by omega) u7 x7_1 t243 [.int .i64 t243] (fun _ => True) (fun _ => False) rfl rfl ?aP (fun _ hk => hk.elim) ?aF ?aO ?aB ?aS ?aL ?_; (case aP => exact rfl); (case aB => exact (tB HB.out)); (case aF => exact (fun _ _ => trivial)); (case aO => exact (tR HO_7.out)); (case aS => exact (below_size (tB HB.out))); (case aL => have := LMc28.out; omega); intro v245 w30 ho hb hg hat; rw [← Ny244.out] at ho; have HO246 := aM ho; replace HO_6 := aM (Kd.R_over' (tR HO_6.out) (Kd.R_typed (tR HO_7.out)) (by decide) hg); replace BK235 := aM (blk_grown (g := gb235) (o := .cells #[.bool t231, .int .u64 t232, .int .u64 t233] 24 (0, 0)) (tK BK235.out) hg (Kd.R_ne HO_7.out BK235.out (by decide))); replace HB := aM hb; clear HO_7; clear ho hb hg hat))
             go_roundg kj8
             case measure => have := HK1.out; have := HJ8.out; omega
             case rel => exact ⟨(y244), (wrap64 (x8_1 + 1)), tF, H', ⟨by have := HK1.out; have := HJ8.out; omega⟩, ⟨tR HO_6.out⟩, ⟨tR HO246.out⟩, ⟨tB HB.out⟩⟩
            ·rw [if_neg c28] at H
             exact absurd H (by simp)
          ·rw [if_neg c24] at H
           exact absurd H (by simp)
         ·rw [if_neg c23] at H
          exact absurd H (by simp)
     ·rw [if_neg c7] at H
      exact absurd H (by simp)
    ·rw [if_neg c6] at H
     have c6b0 : decide (x8_1 < (t227.length : Int)) = false := decide_eq_false c6
     clear c6
     simp only [Option.some.injEq, Prod.mk.injEq] at H
     obtain ⟨rfl, rfl⟩ := H
     obtain ⟨Ao31, co31, eo31⟩ := Kd.R_slice HO_6.out
     subst eo31
     go_wp2
     go_ret2
     exact ⟨_, tE, tR HO_7.out, tB HB.out⟩

end Go.Proofs.YtbalmnkbodcigaaGreatDoor.ORc
namespace Go.Proofs.YtbalmnkbodcigaaGreatDoor.ORc
open Go.RowKit Go.Proofs.YtbalmnkbodcigaaGreatDoorW.PrintWords Go.Proofs.YtbalmnkbodcigaaGreatDoorW.PrintLast Go.Proofs.YtbalmnkbodcigaaGreatDoorW.PrintMore
attribute [local go_sem] max2_int min2_int max_two min_two max_three min_three max_four min_four   -- for this text's walks alone
set_option linter.unusedVariables false
set_option linter.unusedSimpArgs false

/-! ### nameplateref04_newer: function 52 -/
def nameplateref04_newer.l0 : Nat → List Int → Int → Bool → Int → Int → Option (Bool × Int × Int)
 | 0, _, _, _, _, _ => none
 | k + 1, x0, x4, x249000, x249001, x249002 => if x4 < 8 then (if x4 < 4 then (if 0 ≤ x4 then (if x4 < (x0.length : Int) then (nameplateref04_newer.l0 k x0 (wrap64 (x4 + 1)) x249000 (Go.bits .or .u64 (IntKind.u64.wrap (x249001 * 65536)) (IntKind.u64.wrap (rd x0 x4))) x249002) else (none)) else (none)) else (if 0 ≤ x4 then (if x4 < (x0.length : Int) then (nameplateref04_newer.l0 k x0 (wrap64 (x4 + 1)) x249000 x249001 (Go.bits .or .u64 (IntKind.u64.wrap (x249002 * 65536)) (IntKind.u64.wrap (rd x0 x4)))) else (none)) else (none))) else (some (x249000, x249001, x249002))
def nameplateref04_newer.f (k : Nat) (l0 : List Int) : Option (Bool × Int × Int) := nameplateref04_newer.l0 k l0 0 true 0 0
theorem nameplateref04_newer.mono_l : ∀ k, (∀ y0 y1 y2 y3 y4, LeO (nameplateref04_newer.l0 k y0 y1 y2 y3 y4) (nameplateref04_newer.l0 (k + 1) y0 y1 y2 y3 y4))
 | 0 => fun _ _ _ _ _ r h => by simp [nameplateref04_newer.l0] at h
 | k + 1 => by
  have ih0 := nameplateref04_newer.mono_l k
  ·intro y0 y1 y2 y3 y4
   unfold nameplateref04_newer.l0
   repeat' first | (with_reducible first | apply ih0 | exact LeO.refl _ | exact LeO.none _ | refine LeO.ite ?_ ?_ | refine LeO.bind ?_ (fun _ => ?_)) | apply ih0 | exact LeO.none _ | refine LeO.ite ?_ ?_ | refine LeO.bind ?_ (fun _ => ?_)
theorem nameplateref04_newer.mono : ∀ a0 k, LeO (nameplateref04_newer.f k a0) (nameplateref04_newer.f (k + 1) a0) := by
 intro a0 k
 have ih0 := nameplateref04_newer.mono_l k
 unfold nameplateref04_newer.f
 repeat' first | (with_reducible first | apply ih0 | exact LeO.refl _ | exact LeO.none _ | refine LeO.ite ?_ ?_ | refine LeO.bind ?_ (fun _ => ?_)) | apply ih0 | exact LeO.none _ | refine LeO.ite ?_ ?_ | refine LeO.bind ?_ (fun _ => ?_)
def nameplateref04_newer.T6 : Bool × List (List Nat × List Nat) := (true, [([], []), ([0], [0]), ([1], [1]), ([], []), ([], []), ([3, 4], [3, 4]), ([5], [5]), ([6], [6]), ([2, 7], [2, 7]), ([0, 1, 2, 3, 4, 5, 6, 7, 8], []), ([9, 8, 0, 1, 2, 3, 4, 5, 6, 7, 8], [8, 9])])
def nameplateref04_newer.B6 : List Nat := [0, 1, 3, 0, 0, 24, 56, 120, 255, 511, 1023]
theorem nameplateref04_newer.tab6 : rtab .any (opsOf Tryz.f52 6) = nameplateref04_newer.T6 := by kernel_rfl
theorem nameplateref04_newer.bits6 : waitsOk nameplateref04_newer.T6.2 nameplateref04_newer.B6 = true := by kernel_rfl
def nameplateref04_newer.T7 : Bool × List (List Nat × List Nat) := (true, [([], []), ([0], [0]), ([1], [1]), ([], []), ([], []), ([3, 4], [3, 4]), ([5], [5]), ([6], [6]), ([2, 7], [2, 7]), ([0, 1, 2, 3, 4, 5, 6, 7, 8], []), ([9, 8, 0, 1, 2, 3, 4, 5, 6, 7, 8], [8, 9])])
def nameplateref04_newer.B7 : List Nat := [0, 1, 3, 0, 0, 24, 56, 120, 255, 511, 1023]
theorem nameplateref04_newer.tab7 : rtab .any (opsOf Tryz.f52 7) = nameplateref04_newer.T7 := by kernel_rfl
theorem nameplateref04_newer.bits7 : waitsOk nameplateref04_newer.T7.2 nameplateref04_newer.B7 = true := by kernel_rfl
set_option maxHeartbeats 8000000 in
set_option maxRecDepth 100000 in
theorem nameplateref04_newer.calls (k : Nat) (A0 : Option Addr) (c0 : Nat) (l0 : List Int) (r1 : Bool) (r2 : Int) (r3 : Int) (w : World) (hr0 : Kd.C (Kd.int .i64) w A0 l0.length l0) (hc0 : l0.length ≤ c0) (h : nameplateref04_newer.f k l0 = some (r1, r2, r3)) :
  Calls Tryz.prog 52 #[.slice A0 l0.length c0] w fun e w' => e = .returned (.agg #[.bool r1, .int .u64 r2, .int .u64 r3]) ∧ Below w.heap.size w w' := by
 have hu24 := Tryz.underlying24
 have HR0 := aM hr0
 have HC0 := aM hc0
 clear hr0 hc0
 have HB := aM (Below.refl w.heap.size w)
 have H : (nameplateref04_newer.l0 k l0 0 true 0 0) = some (r1, r2, r3) := h
 clear h
 have H' := aM H
 clear H
 go_enter Tryz.func52, Tryz.ntmps52
 go_wp2_with (first | ((with_reducible refine gD 2 rfl ?_); refine bX 2 #[.bool false, .int .u64 0, .int .u64 0] 24 ?_; intro gb247 hg w2 hbox hb; have BK247 := aM hbox; have GW247 := gS hg HB.out; have GE247 := GW247; replace HB := bS HB.out hb; clear hb hbox hg) | ((with_reducible refine gD 3 rfl ?_); refine bX 3 #[.bool false, .int .u64 0, .int .u64 0] 24 ?_; intro gb248 hg w3 hbox hb; have BK248 := aM hbox; have GW248 := gS hg HB.out; have GE248 := GW248; have NB247_248 := nB hg BK247.out; have NB248_247 := nS (nB hg BK247.out); replace BK247 := kB BK247.out hb; replace HB := bS HB.out hb; clear hb hbox hg; have hnb4 := NB248_247.out; have hnc4 := NB247_248.out; obtain ⟨hcz5_0, hcz5_1, hcz5_2, hfz5_0, hfz5_1, hfz5_2⟩ := kY3 BK248.out))
 go_loopg [4] k (fun kq v4 w' => ∃ (x4_1 : Int) (x249001_1 : Int) (x249002_1 : Int), v4 = .int .i64 x4_1 ∧ Aside0 (nameplateref04_newer.l0 kq l0 x4_1 true x249001_1 x249002_1 = some (r1, r2, r3)) ∧ Aside0 (kq ≤ k) ∧ Aside0 (w'.heap[gb247]? = some (.cells #[.bool false, .int .u64 0, .int .u64 0] 24 (0, 0))) ∧ Aside0 (w'.heap[gb248]? = some (.cells #[.bool true, .int .u64 x249001_1, .int .u64 x249002_1] 24 (0, 0))) ∧ Aside0 (Below w.heap.size w w'))
 case atStart => exact ⟨(0), (0), (0), tF, H', ⟨Nat.le_refl _⟩, ⟨tP BK247.out⟩, ⟨tP BK248.out⟩, ⟨tB HB.out⟩⟩
 case round =>
  clear H'
  try clear p2
  try clear c4
  try clear c5
  try clear hcz5_0 hcz5_1 hcz5_2 hfz5_0 hfz5_1 hfz5_2
  obtain ⟨x4_1, x249001_1, x249002_1, rfl, HA, HK1, BK247, BK248, HB⟩ := hrel
  cases gk with
  | zero => exact absurd HA.out (by simp [nameplateref04_newer.l0])
  | succ k1 =>
   have H := HA.out
   clear HA
   simp only [nameplateref04_newer.l0] at H
   by_cases c6 : x4_1 < 8
   ·rw [if_pos c6] at H
    have c6b0 : decide (x4_1 < 8) = true := decide_eq_true c6
    clear c6
    by_cases c7 : x4_1 < 4
    ·rw [if_pos c7] at H
     have c7b0 : decide (x4_1 < 4) = true := decide_eq_true c7
     clear c7
     by_cases c8 : 0 ≤ x4_1
     ·rw [if_pos c8] at H
      have c8b0 : decide (0 ≤ x4_1) = true := decide_eq_true c8
      clear c8
      by_cases c9 : x4_1 < (l0.length : Int)
      ·rw [if_pos c9] at H
       have c9b0 : decide (x4_1 < (l0.length : Int)) = true := decide_eq_true c9
       clear c9
       have H' := aM H
       clear H
       try go_wp2
       replace BK247 := aM (kD BK247.out)
       replace BK248 := aM (kD BK248.out)
       replace HB := aM (bD HB.out)
       have p249 : 0 ≤ (x4_1 : Int) := of_decide_eq_true (by first | (with_reducible assumption) | assumption)
       have q249 : x4_1 < (l0.length : Int) := of_decide_eq_true (by first | (with_reducible assumption) | assumption)
       obtain ⟨ad249, e249, hx249_0⟩ := Kd.at_int HR0.out x4_1 p249 q249
       have hw249_0 := hx249_0
       cases e249
       replace hx249_0 := (HB.out.cell (World.block_lt_of_cell? w _ hx249_0)).trans hx249_0
       replace p249 := eq_true p249
       replace q249 := eq_true q249
       refine pS 11 (S := fun w' => cZ3 w' gb248 (.bool true) (.int .u64 x249001_1) (.int .u64 x249002_1) ∧ w'.cell? (ad249.add (x4_1).toNat) = some (.int .i64 (rd l0 x4_1))) (ds := [10]) ⟨kZ3 BK248.out, ((HB.out.cell (World.block_lt_of_cell? w _ hw249_0)).trans hw249_0)⟩ (fun hHeld => ?_); refine with_tabW nameplateref04_newer.tab6 nameplateref04_newer.bits6 (fun HT_ HW_ => ?_)
       generalize wr.drew = w10 at BK247 BK248 HB hx249_0 hHeld ⊢
       refine pP 0 12 ?_
       refine pP 3 15 ?_
       refine pP 4 16 ?_
       refine pP 5 17 ?_
       refine pT 1 13 ?_
       refine pP 2 14 ?_
       refine pT 6 18 ?_
       refine pP 7 19 ?_
       refine pP 8 20 ?_
       refine pP 9 21 ?_
       refine pL 10 none (fun K hK => ?_)
       have hs11 : w10.cell? ⟨gb248, 1, none⟩ = some (.int .u64 x249001_1) := (kC BK248.out 1).trans rfl
       have hfs11 := kF BK248.out 1
       have hns11_0 := NB247_248.out
       have hms11_0 := NB248_247.out
       refine skip_ (w1 := ?_) (by rfl) rfl ?_ ?_
       rotate_left
       ·go_simp
        rfl
       refine hK.out _ _ ?_
       clear hK K
       refine pD ?_
       try go_wp2
       go_roundg k1
       case measure => have := HK1.out; omega
       case rel => exact ⟨(wrap64 (x4_1 + 1)), (Go.bits .or .u64 (IntKind.u64.wrap (x249001_1 * 65536)) (IntKind.u64.wrap (rd l0 x4_1))), (x249002_1), tF, H', ⟨by have := HK1.out; omega⟩, ⟨tP BK247.out⟩, ⟨tP BK248.out⟩, ⟨tB HB.out⟩⟩
      ·rw [if_neg c9] at H
       exact absurd H (by simp)
     ·rw [if_neg c8] at H
      exact absurd H (by simp)
    ·rw [if_neg c7] at H
     have c7b0 : decide (x4_1 < 4) = false := decide_eq_false c7
     clear c7
     by_cases c12 : 0 ≤ x4_1
     ·rw [if_pos c12] at H
      have c12b0 : decide (0 ≤ x4_1) = true := decide_eq_true c12
      clear c12
      by_cases c13 : x4_1 < (l0.length : Int)
      ·rw [if_pos c13] at H
       have c13b0 : decide (x4_1 < (l0.length : Int)) = true := decide_eq_true c13
       clear c13
       have H' := aM H
       clear H
       try go_wp2
       replace BK247 := aM (kD BK247.out)
       replace BK248 := aM (kD BK248.out)
       replace HB := aM (bD HB.out)
       have p250 : 0 ≤ (x4_1 : Int) := of_decide_eq_true (by first | (with_reducible assumption) | assumption)
       have q250 : x4_1 < (l0.length : Int) := of_decide_eq_true (by first | (with_reducible assumption) | assumption)
       obtain ⟨ad250, e250, hx250_0⟩ := Kd.at_int HR0.out x4_1 p250 q250
       have hw250_0 := hx250_0
       cases e250
       replace hx250_0 := (HB.out.cell (World.block_lt_of_cell? w _ hx250_0)).trans hx250_0
       replace p250 := eq_true p250
       replace q250 := eq_true q250
       refine pS 11 (S := fun w' => cZ3 w' gb248 (.bool true) (.int .u64 x249001_1) (.int .u64 x249002_1) ∧ w'.cell? (ad250.add (x4_1).toNat) = some (.int .i64 (rd l0 x4_1))) (ds := [10]) ⟨kZ3 BK248.out, ((HB.out.cell (World.block_lt_of_cell? w _ hw250_0)).trans hw250_0)⟩ (fun hHeld => ?_); refine with_tabW nameplateref04_newer.tab7 nameplateref04_newer.bits7 (fun HT_ HW_ => ?_)
       generalize wr.drew = w14 at BK247 BK248 HB hx250_0 hHeld ⊢
       refine pP 0 22 ?_
       refine pP 3 25 ?_
       refine pP 4 26 ?_
       refine pP 5 27 ?_
       refine pT 1 23 ?_
       refine pP 2 24 ?_
       refine pT 6 28 ?_
       refine pP 7 29 ?_
       refine pP 8 30 ?_
       refine pP 9 31 ?_
       refine pL 10 none (fun K hK => ?_)
       have hs15 : w14.cell? ⟨gb248, 2, none⟩ = some (.int .u64 x249002_1) := (kC BK248.out 2).trans rfl
       have hfs15 := kF BK248.out 2
       have hns15_0 := NB247_248.out
       have hms15_0 := NB248_247.out
       refine skip_ (w1 := ?_) (by rfl) rfl ?_ ?_
       rotate_left
       ·go_simp
        rfl
       refine hK.out _ _ ?_
       clear hK K
       refine pD ?_
       try go_wp2
       go_roundg k1
       case measure => have := HK1.out; omega
       case rel => exact ⟨(wrap64 (x4_1 + 1)), (x249001_1), (Go.bits .or .u64 (IntKind.u64.wrap (x249002_1 * 65536)) (IntKind.u64.wrap (rd l0 x4_1))), tF, H', ⟨by have := HK1.out; omega⟩, ⟨tP BK247.out⟩, ⟨tP BK248.out⟩, ⟨tB HB.out⟩⟩
      ·rw [if_neg c13] at H
       exact absurd H (by simp)
     ·rw [if_neg c12] at H
      exact absurd H (by simp)
   ·rw [if_neg c6] at H
    have c6b0 : decide (x4_1 < 8) = false := decide_eq_false c6
    clear c6
    simp only [Option.some.injEq, Prod.mk.injEq] at H
    obtain ⟨rfl, rfl, rfl⟩ := H
    have hnb16 := NB248_247.out
    have hnc16 := NB247_248.out
    obtain ⟨hcz17_0, hcz17_1, hcz17_2, hfz17_0, hfz17_1, hfz17_2⟩ := kY3 BK248.out
    obtain ⟨hcz18_0, hcz18_1, hcz18_2, hfz18_0, hfz18_1, hfz18_2⟩ := kY3 BK247.out
    go_wp2
    refine bodyPost_ret (results_cell_row rfl _ _ gb247 24 #[.bool true, .int .u64 x249001_1, .int .u64 x249002_1] (0, 0) _ rfl (tP BK247.out) Tryz.underlying24 rfl (by kernel_rfl)) rfl ?_
    exact ⟨tE, tB HB.out⟩

end Go.Proofs.YtbalmnkbodcigaaGreatDoor.ORc
namespace Go.Proofs.YtbalmnkbodcigaaGreatDoor.ORc
open Go.RowKit Go.Proofs.YtbalmnkbodcigaaGreatDoorW.PrintWords Go.Proofs.YtbalmnkbodcigaaGreatDoorW.PrintLast Go.Proofs.YtbalmnkbodcigaaGreatDoorW.PrintMore
attribute [local go_sem] max2_int min2_int max_two min_two max_three min_three max_four min_four   -- for this text's walks alone
set_option linter.unusedVariables false
set_option linter.unusedSimpArgs false

/-! ### nameplateref04_Read: function 28 -/
mutual
def nameplateref04_Read.j0 : Nat → List Int → List Int → Bool → Option (Bool × Int × Int × Int)
 | 0, _, _, _ => none
 | k + 1, x9, x11, x67 => if x67 = true then (some (false, 0, 0, 7)) else (nameplateref04_Read.l0 k x9 x11)
def nameplateref04_Read.l0 : Nat → List Int → List Int → Option (Bool × Int × Int × Int)
 | 0, _, _ => none
 | k + 1, x9, x11 => if (wrap64 ((x9.length : Int) + (x11.length : Int))) < 8 then (if x9.length < 17592186044416 then (nameplateref04_Read.l0 k (x9 ++ [0]) x11) else (none)) else (if x9.length + x11.length < 17592186044416 then ((nameplateref04_newer.f k (x9 ++ x11)).bind fun bt279 => (some (bt279.1, bt279.2.1, bt279.2.2, 0))) else (none))
end
def nameplateref04_Read.f (k : Nat) (a0 : ByteArray) : Option (Bool × Int × Int × Int) := (nameplateref04_elder.f k a0).bind fun bt252 => (if bt252.2.2.2 = true then (some (bt252.1, bt252.2.1, bt252.2.2.1, 0)) else ((nameplateref04_twice.f k a0).bind fun t257 => (if t257 < 0 then ((nameplateref04_groups.f k a0 true).bind fun bt258 => (if bt258.2 = true then (if (bt258.1.length : Int) = 8 then ((nameplateref04_newer.f k bt258.1).bind fun bt262 => (some (bt262.1, bt262.2.1, bt262.2.2, 0))) else (some (false, 0, 0, 7))) else (some (false, 0, 0, 7)))) else (if 0 ≤ t257 then (if t257 ≤ (a0.size : Int) then ((nameplateref04_groups.f k (a0.extract 0 (t257 : Int).toNat) false).bind fun bt265 => (if 0 ≤ (wrap64 (t257 + 2)) then (if (wrap64 (t257 + 2)) ≤ (a0.size : Int) then ((nameplateref04_groups.f k (a0.extract ((wrap64 (t257 + 2)) : Int).toNat a0.size) true).bind fun bt269 => (if bt265.2 = true then (if bt269.2 = true then (nameplateref04_Read.j0 k bt265.1 bt269.1 (decide ((wrap64 ((bt265.1.length : Int) + (bt269.1.length : Int))) > 7))) else (nameplateref04_Read.j0 k bt265.1 bt269.1 true)) else (nameplateref04_Read.j0 k bt265.1 bt269.1 true))) else (none)) else (none))) else (none)) else (none)))))
theorem nameplateref04_Read.mono_l : ∀ k, (∀ y0 y1 y2, LeO (nameplateref04_Read.j0 k y0 y1 y2) (nameplateref04_Read.j0 (k + 1) y0 y1 y2)) ∧ (∀ y0 y1, LeO (nameplateref04_Read.l0 k y0 y1) (nameplateref04_Read.l0 (k + 1) y0 y1))
 | 0 => ⟨fun _ _ _ r h => by simp [nameplateref04_Read.j0] at h, fun _ _ r h => by simp [nameplateref04_Read.l0] at h⟩
 | k + 1 => by
  obtain ⟨ih0, ih1⟩ := nameplateref04_Read.mono_l k
  refine ⟨?_, ?_⟩
  ·intro y0 y1 y2
   unfold nameplateref04_Read.j0
   repeat' first | (with_reducible first | apply ih0 | apply ih1 | apply nameplateref04_elder.mono | apply nameplateref04_groups.mono | apply nameplateref04_newer.mono | apply nameplateref04_twice.mono | exact LeO.refl _ | exact LeO.none _ | refine LeO.ite ?_ ?_ | refine LeO.bind ?_ (fun _ => ?_)) | apply ih0 | apply ih1 | apply nameplateref04_elder.mono | apply nameplateref04_groups.mono | apply nameplateref04_newer.mono | apply nameplateref04_twice.mono | exact LeO.none _ | refine LeO.ite ?_ ?_ | refine LeO.bind ?_ (fun _ => ?_)
  ·intro y0 y1
   unfold nameplateref04_Read.l0
   repeat' first | (with_reducible first | apply ih0 | apply ih1 | apply nameplateref04_elder.mono | apply nameplateref04_groups.mono | apply nameplateref04_newer.mono | apply nameplateref04_twice.mono | exact LeO.refl _ | exact LeO.none _ | refine LeO.ite ?_ ?_ | refine LeO.bind ?_ (fun _ => ?_)) | apply ih0 | apply ih1 | apply nameplateref04_elder.mono | apply nameplateref04_groups.mono | apply nameplateref04_newer.mono | apply nameplateref04_twice.mono | exact LeO.none _ | refine LeO.ite ?_ ?_ | refine LeO.bind ?_ (fun _ => ?_)
theorem nameplateref04_Read.mono : ∀ a0 k, LeO (nameplateref04_Read.f k a0) (nameplateref04_Read.f (k + 1) a0) := by
 intro a0 k
 obtain ⟨ih0, ih1⟩ := nameplateref04_Read.mono_l k
 unfold nameplateref04_Read.f
 repeat' first | (with_reducible first | apply ih0 | apply ih1 | apply nameplateref04_elder.mono | apply nameplateref04_groups.mono | apply nameplateref04_newer.mono | apply nameplateref04_twice.mono | exact LeO.refl _ | exact LeO.none _ | refine LeO.ite ?_ ?_ | refine LeO.bind ?_ (fun _ => ?_)) | apply ih0 | apply ih1 | apply nameplateref04_elder.mono | apply nameplateref04_groups.mono | apply nameplateref04_newer.mono | apply nameplateref04_twice.mono | exact LeO.none _ | refine LeO.ite ?_ ?_ | refine LeO.bind ?_ (fun _ => ?_)
set_option maxHeartbeats 8000000 in
set_option maxRecDepth 100000 in
theorem nameplateref04_Read.calls (k : Nat) (a0 : ByteArray) (r1 : Bool) (r2 : Int) (r3 : Int) (r4 : Int) (w : World) (h : nameplateref04_Read.f k a0 = some (r1, r2, r3, r4)) :
  Calls Tryz.prog 28 #[.string a0] w fun e w' => e = .returned (.tuple #[.agg #[.bool r1, .int .u64 r2, .int .u64 r3], .int .i64 r4]) ∧ Below w.heap.size w w' := by
 have hu24 := Tryz.underlying24
 have HB := aM (Below.refl w.heap.size w)
 have H : ((nameplateref04_elder.f k a0).bind fun bt252 => (if bt252.2.2.2 = true then (some (bt252.1, bt252.2.1, bt252.2.2.1, 0)) else ((nameplateref04_twice.f k a0).bind fun t257 => (if t257 < 0 then ((nameplateref04_groups.f k a0 true).bind fun bt258 => (if bt258.2 = true then (if (bt258.1.length : Int) = 8 then ((nameplateref04_newer.f k bt258.1).bind fun bt262 => (some (bt262.1, bt262.2.1, bt262.2.2, 0))) else (some (false, 0, 0, 7))) else (some (false, 0, 0, 7)))) else (if 0 ≤ t257 then (if t257 ≤ (a0.size : Int) then ((nameplateref04_groups.f k (a0.extract 0 (t257 : Int).toNat) false).bind fun bt265 => (if 0 ≤ (wrap64 (t257 + 2)) then (if (wrap64 (t257 + 2)) ≤ (a0.size : Int) then ((nameplateref04_groups.f k (a0.extract ((wrap64 (t257 + 2)) : Int).toNat a0.size) true).bind fun bt269 => (if bt265.2 = true then (if bt269.2 = true then (nameplateref04_Read.j0 k bt265.1 bt269.1 (decide ((wrap64 ((bt265.1.length : Int) + (bt269.1.length : Int))) > 7))) else (nameplateref04_Read.j0 k bt265.1 bt269.1 true)) else (nameplateref04_Read.j0 k bt265.1 bt269.1 true))) else (none)) else (none))) else (none)) else (none)))))) = some (r1, r2, r3, r4) := h
 clear h
 obtain ⟨⟨t252, t253, t254, t255⟩, A2, H⟩ := oB H
 try dsimp only at H
 by_cases c3 : t255 = true
 ·subst c3
  rw [if_pos rfl] at H
  simp only [Option.some.injEq, Prod.mk.injEq] at H
  obtain ⟨rfl, rfl, rfl, rfl⟩ := H
  go_enter Tryz.func28, Tryz.ntmps28
  go_wp2_with (first | ((with_reducible refine gD 2 rfl ?_); (try (refine gate_guard (by rfl) ?_; dsimp only)); refine bX 2 #[.bool false, .int .u64 0, .int .u64 0] 24 ?_; intro gb251 hg w4 hbox hb; have BK251 := aM hbox; have GW251 := gS hg HB.out; have GE251 := GW251; replace HB := bS HB.out hb; clear hb hbox hg) | ((with_reducible refine gC 49 rfl ?_); refine gL (some 15) Tryz.func49 #[.string a0] ?_; (with_reducible refine (nameplateref04_elder.calls k a0 t252 t253 t254 true _ A2.out).mono ?_); rintro e w5 ⟨rfl, hb⟩; refine ⟨_, rfl, ?_⟩; replace BK251 := kB BK251.out hb; replace HB := bS HB.out hb; (try clear hb)) | ((with_reducible refine gD 4 rfl ?_); (try (refine gate_guard (by rfl) ?_; dsimp only)); refine bX 4 #[.bool false, .int .u64 0, .int .u64 0] 24 ?_; intro gb256 hg w6 hbox hb; have BK256 := aM hbox; have GW256 := gS hg HB.out; have GE256 := GW256; have NB251_256 := nB hg BK251.out; have NB256_251 := nS (nB hg BK251.out); replace BK251 := kB BK251.out hb; replace HB := bS HB.out hb; clear hb hbox hg; have hnb7 := NB256_251.out; have hnc7 := NB251_256.out; obtain ⟨hcz8_0, hcz8_1, hcz8_2, hfz8_0, hfz8_1, hfz8_2⟩ := kY3 BK256.out; obtain ⟨hcz9_0, hcz9_1, hcz9_2, hfz9_0, hfz9_1, hfz9_2⟩ := kY3 BK251.out))
  refine bodyPost_ret (results_ct rfl _ _ gb251 24 #[.bool t252, .int .u64 t253, .int .u64 t254] (0, 0) _ rfl (tP BK251.out) Tryz.underlying24 rfl (by kernel_rfl)) rfl ?_
  exact ⟨tE, tB HB.out⟩
 ·replace c3 := Bool.eq_false_iff.mpr c3
  subst c3
  rw [if_neg (show ¬ (false = true) by decide)] at H
  obtain ⟨t257, A10, H⟩ := oB H
  try dsimp only at H
  by_cases c11 : t257 < 0
  ·rw [if_pos c11] at H
   have c11b0 : decide (t257 < 0) = true := decide_eq_true c11
   clear c11
   obtain ⟨⟨t258, t259⟩, A12, H⟩ := oB H
   try dsimp only at H
   by_cases c13 : t259 = true
   ·subst c13
    rw [if_pos rfl] at H
    by_cases c14 : (t258.length : Int) = 8
    ·rw [if_pos c14] at H
     have c14b0 : ((t258.length : Int) == 8) = true := beq_iff_eq.mpr c14
     have c14b1 : ((t258.length : Int) != 8) = false := bne_eq_false_iff_eq.mpr c14
     clear c14
     obtain ⟨⟨t262, t263, t264⟩, A15, H⟩ := oB H
     try dsimp only at H
     simp only [Option.some.injEq, Prod.mk.injEq] at H
     obtain ⟨rfl, rfl, rfl, rfl⟩ := H
     go_enter Tryz.func28, Tryz.ntmps28
     go_wp2_with (first | ((with_reducible refine gD 2 rfl ?_); (try (refine gate_guard (by rfl) ?_; dsimp only)); refine bX 2 #[.bool false, .int .u64 0, .int .u64 0] 24 ?_; intro gb251 hg w16 hbox hb; have BK251 := aM hbox; have GW251 := gS hg HB.out; have GE251 := GW251; replace HB := bS HB.out hb; clear hb hbox hg) | ((with_reducible refine gC 49 rfl ?_); refine gL (some 15) Tryz.func49 #[.string a0] ?_; (with_reducible refine (nameplateref04_elder.calls k a0 t252 t253 t254 false _ A2.out).mono ?_); rintro e w17 ⟨rfl, hb⟩; refine ⟨_, rfl, ?_⟩; replace BK251 := kB BK251.out hb; replace HB := bS HB.out hb; (try clear hb)) | ((with_reducible refine gD 4 rfl ?_); (try (refine gate_guard (by rfl) ?_; dsimp only)); refine bX 4 #[.bool false, .int .u64 0, .int .u64 0] 24 ?_; intro gb256 hg w18 hbox hb; have BK256 := aM hbox; have GW256 := gS hg HB.out; have GE256 := GW256; have NB251_256 := nB hg BK251.out; have NB256_251 := nS (nB hg BK251.out); replace BK251 := kB BK251.out hb; replace HB := bS HB.out hb; clear hb hbox hg; have hnb19 := NB256_251.out; have hnc19 := NB251_256.out; obtain ⟨hcz20_0, hcz20_1, hcz20_2, hfz20_0, hfz20_1, hfz20_2⟩ := kY3 BK256.out) | ((with_reducible refine gC 50 rfl ?_); refine gL (some 21) Tryz.func50 #[.string a0] ?_; (with_reducible refine (nameplateref04_twice.calls k a0 t257 _ A10.out).mono ?_); rintro e w' ⟨rfl, ⟨nd, rfl⟩⟩; refine ⟨_, rfl, ?_⟩) | ((with_reducible refine gC 51 rfl ?_); refine gL (some 26) Tryz.func51 #[.string a0, .bool true] ?_; (with_reducible refine (nameplateref04_groups.calls k a0 true t258 true _ A12.out).mono ?_); rintro e w21 ⟨v260, rfl, ho0, hb⟩; refine ⟨_, rfl, ?_⟩; have HO261 := aM (Kd.R_lower ho0 (below_size (tB HB.out))); replace BK251 := kP (o := .cells #[.bool false, .int .u64 0, .int .u64 0] 24 (0, 0)) BK251.out hb; replace BK256 := kP (o := .cells #[.bool t252, .int .u64 t253, .int .u64 t254] 24 (0, 0)) BK256.out hb; replace HB := bS HB.out hb; (try clear hb); (try clear ho0); obtain ⟨Ao22, co22, eo22⟩ := Kd.R_slice HO261.out; subst eo22) | ((with_reducible refine gC 52 rfl ?_); refine gL (some 38) Tryz.func52 #[.slice Ao22 t258.length co22] ?_; (with_reducible refine (nameplateref04_newer.calls k _ _ t258 t262 t263 t264 _ ?side1 ?side2 A15.out).mono ?_); (case side1 => exact tC (Kd.R_reads' HO261.out).2.2); (case side2 => exact (Kd.R_reads' HO261.out).2.1); rintro e w23 ⟨rfl, hb⟩; refine ⟨_, rfl, ?_⟩; replace HO261 := aM (Kd.R_below (tR HO261.out) hb); replace BK251 := kB BK251.out hb; replace BK256 := kB BK256.out hb; replace HB := bS HB.out hb; (try clear hb); obtain ⟨hcz24_0, hcz24_1, hcz24_2, hfz24_0, hfz24_1, hfz24_2⟩ := kY3 BK251.out))
     refine bodyPost_ret (results_ct rfl _ _ gb251 24 #[.bool t262, .int .u64 t263, .int .u64 t264] (0, 0) _ rfl (tP BK251.out) Tryz.underlying24 rfl (by kernel_rfl)) rfl ?_
     exact ⟨tE, tB HB.out⟩
    ·rw [if_neg c14] at H
     have c14b0 : ((t258.length : Int) == 8) = false := beq_eq_false_iff_ne.mpr c14
     have c14b1 : ((t258.length : Int) != 8) = true := bne_iff_ne.mpr c14
     simp only [Option.some.injEq, Prod.mk.injEq] at H
     obtain ⟨rfl, rfl, rfl, rfl⟩ := H
     go_enter Tryz.func28, Tryz.ntmps28
     go_wp2_with (first | ((with_reducible refine gD 2 rfl ?_); (try (refine gate_guard (by rfl) ?_; dsimp only)); refine bX 2 #[.bool false, .int .u64 0, .int .u64 0] 24 ?_; intro gb251 hg w25 hbox hb; have BK251 := aM hbox; have GW251 := gS hg HB.out; have GE251 := GW251; replace HB := bS HB.out hb; clear hb hbox hg) | ((with_reducible refine gC 49 rfl ?_); refine gL (some 15) Tryz.func49 #[.string a0] ?_; (with_reducible refine (nameplateref04_elder.calls k a0 t252 t253 t254 false _ A2.out).mono ?_); rintro e w26 ⟨rfl, hb⟩; refine ⟨_, rfl, ?_⟩; replace BK251 := kB BK251.out hb; replace HB := bS HB.out hb; (try clear hb)) | ((with_reducible refine gD 4 rfl ?_); (try (refine gate_guard (by rfl) ?_; dsimp only)); refine bX 4 #[.bool false, .int .u64 0, .int .u64 0] 24 ?_; intro gb256 hg w27 hbox hb; have BK256 := aM hbox; have GW256 := gS hg HB.out; have GE256 := GW256; have NB251_256 := nB hg BK251.out; have NB256_251 := nS (nB hg BK251.out); replace BK251 := kB BK251.out hb; replace HB := bS HB.out hb; clear hb hbox hg; have hnb28 := NB256_251.out; have hnc28 := NB251_256.out; obtain ⟨hcz29_0, hcz29_1, hcz29_2, hfz29_0, hfz29_1, hfz29_2⟩ := kY3 BK256.out) | ((with_reducible refine gC 50 rfl ?_); refine gL (some 21) Tryz.func50 #[.string a0] ?_; (with_reducible refine (nameplateref04_twice.calls k a0 t257 _ A10.out).mono ?_); rintro e w' ⟨rfl, ⟨nd, rfl⟩⟩; refine ⟨_, rfl, ?_⟩) | ((with_reducible refine gC 51 rfl ?_); refine gL (some 26) Tryz.func51 #[.string a0, .bool true] ?_; (with_reducible refine (nameplateref04_groups.calls k a0 true t258 true _ A12.out).mono ?_); rintro e w30 ⟨v260, rfl, ho0, hb⟩; refine ⟨_, rfl, ?_⟩; have HO261 := aM (Kd.R_lower ho0 (below_size (tB HB.out))); replace BK251 := kP (o := .cells #[.bool false, .int .u64 0, .int .u64 0] 24 (0, 0)) BK251.out hb; replace BK256 := kP (o := .cells #[.bool t252, .int .u64 t253, .int .u64 t254] 24 (0, 0)) BK256.out hb; replace HB := bS HB.out hb; (try clear hb); (try clear ho0); obtain ⟨Ao31, co31, eo31⟩ := Kd.R_slice HO261.out; subst eo31; obtain ⟨hcz32_0, hcz32_1, hcz32_2, hfz32_0, hfz32_1, hfz32_2⟩ := kY3 BK251.out))
     refine bodyPost_ret (results_ct rfl _ _ gb251 24 #[.bool false, .int .u64 0, .int .u64 0] (0, 0) _ rfl (tP BK251.out) Tryz.underlying24 rfl (by kernel_rfl)) rfl ?_
     exact ⟨tE, tB HB.out⟩
   ·replace c13 := Bool.eq_false_iff.mpr c13
    subst c13
    rw [if_neg (show ¬ (false = true) by decide)] at H
    simp only [Option.some.injEq, Prod.mk.injEq] at H
    obtain ⟨rfl, rfl, rfl, rfl⟩ := H
    go_enter Tryz.func28, Tryz.ntmps28
    go_wp2_with (first | ((with_reducible refine gD 2 rfl ?_); (try (refine gate_guard (by rfl) ?_; dsimp only)); refine bX 2 #[.bool false, .int .u64 0, .int .u64 0] 24 ?_; intro gb251 hg w33 hbox hb; have BK251 := aM hbox; have GW251 := gS hg HB.out; have GE251 := GW251; replace HB := bS HB.out hb; clear hb hbox hg) | ((with_reducible refine gC 49 rfl ?_); refine gL (some 15) Tryz.func49 #[.string a0] ?_; (with_reducible refine (nameplateref04_elder.calls k a0 t252 t253 t254 false _ A2.out).mono ?_); rintro e w34 ⟨rfl, hb⟩; refine ⟨_, rfl, ?_⟩; replace BK251 := kB BK251.out hb; replace HB := bS HB.out hb; (try clear hb)) | ((with_reducible refine gD 4 rfl ?_); (try (refine gate_guard (by rfl) ?_; dsimp only)); refine bX 4 #[.bool false, .int .u64 0, .int .u64 0] 24 ?_; intro gb256 hg w35 hbox hb; have BK256 := aM hbox; have GW256 := gS hg HB.out; have GE256 := GW256; have NB251_256 := nB hg BK251.out; have NB256_251 := nS (nB hg BK251.out); replace BK251 := kB BK251.out hb; replace HB := bS HB.out hb; clear hb hbox hg; have hnb36 := NB256_251.out; have hnc36 := NB251_256.out; obtain ⟨hcz37_0, hcz37_1, hcz37_2, hfz37_0, hfz37_1, hfz37_2⟩ := kY3 BK256.out) | ((with_reducible refine gC 50 rfl ?_); refine gL (some 21) Tryz.func50 #[.string a0] ?_; (with_reducible refine (nameplateref04_twice.calls k a0 t257 _ A10.out).mono ?_); rintro e w' ⟨rfl, ⟨nd, rfl⟩⟩; refine ⟨_, rfl, ?_⟩) | ((with_reducible refine gC 51 rfl ?_); refine gL (some 26) Tryz.func51 #[.string a0, .bool true] ?_; (with_reducible refine (nameplateref04_groups.calls k a0 true t258 false _ A12.out).mono ?_); rintro e w38 ⟨v260, rfl, ho0, hb⟩; refine ⟨_, rfl, ?_⟩; have HO261 := aM (Kd.R_lower ho0 (below_size (tB HB.out))); replace BK251 := kP (o := .cells #[.bool false, .int .u64 0, .int .u64 0] 24 (0, 0)) BK251.out hb; replace BK256 := kP (o := .cells #[.bool t252, .int .u64 t253, .int .u64 t254] 24 (0, 0)) BK256.out hb; replace HB := bS HB.out hb; (try clear hb); (try clear ho0); obtain ⟨hcz39_0, hcz39_1, hcz39_2, hfz39_0, hfz39_1, hfz39_2⟩ := kY3 BK251.out))
    refine bodyPost_ret (results_ct rfl _ _ gb251 24 #[.bool false, .int .u64 0, .int .u64 0] (0, 0) _ rfl (tP BK251.out) Tryz.underlying24 rfl (by kernel_rfl)) rfl ?_
    exact ⟨tE, tB HB.out⟩
  ·rw [if_neg c11] at H
   have c11b0 : decide (t257 < 0) = false := decide_eq_false c11
   clear c11
   by_cases c40 : 0 ≤ t257
   ·rw [if_pos c40] at H
    have c40b0 := eq_true c40
    have c40b1 : decide (0 ≤ t257) = true := decide_eq_true c40
    clear c40
    by_cases c41 : t257 ≤ (a0.size : Int)
    ·rw [if_pos c41] at H
     have c41b0 := eq_true c41
     have c41b1 : decide (t257 ≤ (a0.size : Int)) = true := decide_eq_true c41
     clear c41
     obtain ⟨⟨t265, t266⟩, A42, H⟩ := oB H
     try dsimp only at H
     obtain ⟨ji43, hji43⟩ : ∃ j_ : Int, (wrap64 (t257 + 2)) = j_ := ⟨_, rfl⟩
     replace H : (if 0 ≤ (ji43) then (if (ji43) ≤ (a0.size : Int) then ((nameplateref04_groups.f k (a0.extract ((ji43) : Int).toNat a0.size) true).bind fun bt269 => (if t266 = true then (if bt269.2 = true then (nameplateref04_Read.j0 k t265 bt269.1 (decide ((wrap64 ((t265.length : Int) + (bt269.1.length : Int))) > 7))) else (nameplateref04_Read.j0 k t265 bt269.1 true)) else (nameplateref04_Read.j0 k t265 bt269.1 true))) else (none)) else (none)) = some (r1, r2, r3, r4) := by first | (rw [hji43] at H; exact H) | (simp only [hji43] at H ⊢; exact H)
     (try rw [hji43] at A2)
     (try rw [hji43] at A10)
     (try rw [hji43] at A42)
     have hji43w : (IntKind.i64.wrap (t257 + 2)) = ji43 := (i64_w _).trans hji43
     by_cases c44 : 0 ≤ (ji43)
     ·rw [if_pos c44] at H
      have c44b0 := eq_true c44
      have c44b1 : decide (0 ≤ (ji43)) = true := decide_eq_true c44
      clear c44
      by_cases c45 : (ji43) ≤ (a0.size : Int)
      ·rw [if_pos c45] at H
       have c45b0 := eq_true c45
       have c45b1 : decide ((ji43) ≤ (a0.size : Int)) = true := decide_eq_true c45
       clear c45
       obtain ⟨⟨t269, t270⟩, A46, H⟩ := oB H
       try dsimp only at H
       have HC47 := aM H
       clear H
       go_enter Tryz.func28, Tryz.ntmps28
       go_upto_region 12 with (first | ((with_reducible refine gD 2 rfl ?_); (try (refine gate_guard (by rfl) ?_; dsimp only)); refine bX 2 #[.bool false, .int .u64 0, .int .u64 0] 24 ?_; intro gb251 hg w48 hbox hb; have BK251 := aM hbox; have GW251 := gS hg HB.out; have GE251 := GW251; replace HB := bS HB.out hb; clear hb hbox hg) | ((with_reducible refine gC 49 rfl ?_); refine gL (some 15) Tryz.func49 #[.string a0] ?_; (with_reducible refine (nameplateref04_elder.calls k a0 t252 t253 t254 false _ A2.out).mono ?_); rintro e w49 ⟨rfl, hb⟩; refine ⟨_, rfl, ?_⟩; replace BK251 := kB BK251.out hb; replace HB := bS HB.out hb; (try clear hb)) | ((with_reducible refine gD 4 rfl ?_); (try (refine gate_guard (by rfl) ?_; dsimp only)); refine bX 4 #[.bool false, .int .u64 0, .int .u64 0] 24 ?_; intro gb256 hg w50 hbox hb; have BK256 := aM hbox; have GW256 := gS hg HB.out; have GE256 := GW256; have NB251_256 := nB hg BK251.out; have NB256_251 := nS (nB hg BK251.out); replace BK251 := kB BK251.out hb; replace HB := bS HB.out hb; clear hb hbox hg; have hnb51 := NB256_251.out; have hnc51 := NB251_256.out; obtain ⟨hcz52_0, hcz52_1, hcz52_2, hfz52_0, hfz52_1, hfz52_2⟩ := kY3 BK256.out) | ((with_reducible refine gC 50 rfl ?_); refine gL (some 21) Tryz.func50 #[.string a0] ?_; (with_reducible refine (nameplateref04_twice.calls k a0 t257 _ A10.out).mono ?_); rintro e w' ⟨rfl, ⟨nd, rfl⟩⟩; refine ⟨_, rfl, ?_⟩) | ((with_reducible refine gC 51 rfl ?_); refine gL (some 43) Tryz.func51 #[.string (a0.extract 0 (t257 : Int).toNat), .bool false] ?_; (with_reducible refine (nameplateref04_groups.calls k (a0.extract 0 (t257 : Int).toNat) false t265 t266 _ A42.out).mono ?_); rintro e w53 ⟨v267, rfl, ho0, hb⟩; refine ⟨_, rfl, ?_⟩; have HO268 := aM (Kd.R_lower ho0 (below_size (tB HB.out))); replace BK251 := kP (o := .cells #[.bool false, .int .u64 0, .int .u64 0] 24 (0, 0)) BK251.out hb; replace BK256 := kP (o := .cells #[.bool t252, .int .u64 t253, .int .u64 t254] 24 (0, 0)) BK256.out hb; replace HB := bS HB.out hb; (try clear hb); (try clear ho0)) | ((with_reducible refine gC 51 rfl ?_); refine goesL_ (some 51) rfl rfl Tryz.func51 (by kernel_rfl) rfl #[.string (a0.extract ((ji43) : Int).toNat a0.size), .bool true] rfl (by (try simp only [List.map_toArray, List.map_cons, List.map_nil]); first | done | (simp only [hji43]; rfl) | rfl | (simp only [List.length_drop, List.length_take]; rfl)) ?_; (with_reducible refine (nameplateref04_groups.calls k (a0.extract ((ji43) : Int).toNat a0.size) true t269 t270 _ A46.out).mono ?_); rintro e w54 ⟨v271, rfl, ho0, hb⟩; refine ⟨_, rfl, ?_⟩; have HO272 := aM (Kd.R_lower (Kd.R_new' ho0 (Kd.R_lt (tR HO268.out))) (below_size (tB HB.out))); replace HO268 := aM (Kd.R_elder' (tR HO268.out) (Kd.R_base ho0) hb); replace BK251 := kB BK251.out hb; replace BK256 := kB BK256.out hb; replace HB := bS HB.out hb; (try clear hb); (try clear ho0)))
       (try simp only [Act.put, List.setIfInBounds_toArray, List.set_cons_zero, List.set_cons_succ])
       go_cut [67] (fun v67 wc => ∃ (kq : Nat) (x67_46 : Bool), v67 = .bool x67_46 ∧ Aside0 (nameplateref04_Read.j0 kq t265 t269 x67_46 = some (r1, r2, r3, r4)) ∧ Aside0 (kq ≤ k) ∧ Aside0 (Kd.R (Kd.int .i64) 3 wc w.heap.size (fun k_ => some k_ ≠ (v271 : Value).ownBlock) v267 t265) ∧ Aside0 (Kd.R (Kd.int .i64) 3 wc w.heap.size (fun k_ => some k_ ≠ (v267 : Value).ownBlock) v271 t269) ∧ Aside0 (wc.heap[gb251]? = some (.cells #[.bool false, .int .u64 0, .int .u64 0] 24 (0, 0))) ∧ Aside0 (wc.heap[gb256]? = some (.cells #[.bool t252, .int .u64 t253, .int .u64 t254] 24 (0, 0))) ∧ Aside0 (Below w.heap.size w wc))
       case first =>
        have H := HC47.out
        clear HC47
        by_cases c55 : t266 = true
        ·subst c55
         rw [if_pos rfl] at H
         by_cases c56 : t270 = true
         ·subst c56
          rw [if_pos rfl] at H
          have H' := aM H
          clear H
          obtain ⟨Ao57, co57, eo57⟩ := Kd.R_slice HO268.out
          subst eo57
          obtain ⟨Ao58, co58, eo58⟩ := Kd.R_slice HO272.out
          subst eo58
          go_wp2
          go_meet
          case rel => exact ⟨_, (decide ((wrap64 ((t265.length : Int) + (t269.length : Int))) > 7)), tF, H', ⟨by first | omega | exact Nat.le_refl _⟩, ⟨tR (Kd.R_mono HO268.out (fun _ hk => hk.2))⟩, ⟨tR (Kd.R_mono HO272.out (fun _ hk => hk.2))⟩, ⟨tK BK251.out⟩, ⟨tK BK256.out⟩, ⟨tB HB.out⟩⟩
         ·replace c56 := Bool.eq_false_iff.mpr c56
          subst c56
          rw [if_neg (show ¬ (false = true) by decide)] at H
          have H' := aM H
          clear H
          go_wp2
          go_meet
          case rel => exact ⟨_, (true), tF, H', ⟨by first | omega | exact Nat.le_refl _⟩, ⟨tR (Kd.R_mono HO268.out (fun _ hk => hk.2))⟩, ⟨tR (Kd.R_mono HO272.out (fun _ hk => hk.2))⟩, ⟨tK BK251.out⟩, ⟨tK BK256.out⟩, ⟨tB HB.out⟩⟩
        ·replace c55 := Bool.eq_false_iff.mpr c55
         subst c55
         rw [if_neg (show ¬ (false = true) by decide)] at H
         have H' := aM H
         clear H
         go_wp2
         go_meet
         case rel => exact ⟨_, (true), tF, H', ⟨by first | omega | exact Nat.le_refl _⟩, ⟨tR (Kd.R_mono HO268.out (fun _ hk => hk.2))⟩, ⟨tR (Kd.R_mono HO272.out (fun _ hk => hk.2))⟩, ⟨tK BK251.out⟩, ⟨tK BK256.out⟩, ⟨tB HB.out⟩⟩
       case rest =>
        clear HC47
        try clear c1
        try clear c2
        try clear p2
        try clear c3
        try clear c4
        try clear c5
        try clear p6
        try clear c7
        try clear c11
        try clear c11b0
        try clear c13
        try clear c14
        try clear c14b0
        try clear c14b1
        try clear c19
        try clear c28
        try clear c36
        try clear c40
        try clear c40b0
        try clear c40b1
        try clear c41
        try clear c41b0
        try clear c41b1
        try clear c44
        try clear c44b0
        try clear c44b1
        try clear c45
        try clear c45b0
        try clear c45b1
        try clear c49
        try clear c50
        try clear c51
        try clear c52
        try clear c55
        try clear c56
        try clear hcz20_0 hcz20_1 hcz20_2 hcz24_0 hcz24_1 hcz24_2 hcz29_0 hcz29_1 hcz29_2 hcz32_0 hcz32_1 hcz32_2 hcz37_0 hcz37_1 hcz37_2 hcz39_0 hcz39_1 hcz39_2 hcz52_0 hcz52_1 hcz52_2 hcz8_0 hcz8_1 hcz8_2 hcz9_0 hcz9_1 hcz9_2 hfz20_0 hfz20_1 hfz20_2 hfz24_0 hfz24_1 hfz24_2 hfz29_0 hfz29_1 hfz29_2 hfz32_0 hfz32_1 hfz32_2 hfz37_0 hfz37_1 hfz37_2 hfz39_0 hfz39_1 hfz39_2 hfz52_0 hfz52_1 hfz52_2 hfz8_0 hfz8_1 hfz8_2 hfz9_0 hfz9_1 hfz9_2
        obtain ⟨kq, x67_46, rfl, HA, HJ46, HO_9, HO_11, BK251, BK256, HB⟩ := hcut
        cases kq with
        | zero => exact absurd HA.out (by simp [nameplateref04_Read.j0])
        | succ kj46 =>
         have H := HA.out
         clear HA
         simp only [nameplateref04_Read.j0] at H
         by_cases c59 : x67_46 = true
         ·subst c59
          rw [if_pos rfl] at H
          simp only [Option.some.injEq, Prod.mk.injEq] at H
          obtain ⟨rfl, rfl, rfl, rfl⟩ := H
          have hnb60 := NB251_256.out
          have hnc60 := NB256_251.out
          obtain ⟨hcz61_0, hcz61_1, hcz61_2, hfz61_0, hfz61_1, hfz61_2⟩ := kY3 BK251.out
          go_wp2
          refine bodyPost_ret (results_ct rfl _ _ gb251 24 #[.bool false, .int .u64 0, .int .u64 0] (0, 0) _ rfl (tP BK251.out) Tryz.underlying24 rfl (by kernel_rfl)) rfl ?_
          exact ⟨by first | rfl | (simp [errW_none, errW_some] <;> rfl) | (simp only [← hji43]; first | rfl | (simp [errW_none, errW_some] <;> rfl)) | (simp [*, errW_none, errW_some] <;> rfl), tB HB.out⟩
         ·replace c59 := Bool.eq_false_iff.mpr c59
          subst c59
          rw [if_neg (show ¬ (false = true) by decide)] at H
          have H' := aM H
          clear H
          go_wp2
          go_loopg [9] kj46 (fun kq v9 w' => ∃ (x9_2 : List Int), Aside0 (nameplateref04_Read.l0 kq x9_2 t269 = some (r1, r2, r3, r4)) ∧ Aside0 (kq ≤ kj46) ∧ Aside0 (Kd.R (Kd.int .i64) 3 w' w.heap.size (fun k_ => some k_ ≠ (v271 : Value).ownBlock) v9 x9_2) ∧ Aside0 (Kd.R (Kd.int .i64) 3 w' w.heap.size (fun k_ => some k_ ≠ (v9 : Value).ownBlock) v271 t269) ∧ Aside0 (w'.heap[gb251]? = some (.cells #[.bool false, .int .u64 0, .int .u64 0] 24 (0, 0))) ∧ Aside0 (w'.heap[gb256]? = some (.cells #[.bool t252, .int .u64 t253, .int .u64 t254] 24 (0, 0))) ∧ Aside0 (Below w.heap.size w w'))
          case atStart => exact ⟨(t265), H', ⟨Nat.le_refl _⟩, ⟨tR HO_9.out⟩, ⟨tR HO_11.out⟩, ⟨tK BK251.out⟩, ⟨tK BK256.out⟩, ⟨tB HB.out⟩⟩
          case round =>
           clear H'
           try clear c1
           try clear c2
           try clear p2
           try clear c3
           try clear c4
           try clear c5
           try clear c6
           try clear p6
           try clear c7
           try clear c11
           try clear c11b0
           try clear c13
           try clear c14
           try clear c14b0
           try clear c14b1
           try clear c19
           try clear c28
           try clear c36
           try clear c40
           try clear c40b0
           try clear c40b1
           try clear c41
           try clear c41b0
           try clear c41b1
           try clear c44
           try clear c44b0
           try clear c44b1
           try clear c45
           try clear c45b0
           try clear c45b1
           try clear c49
           try clear c50
           try clear c51
           try clear c52
           try clear c55
           try clear c56
           try clear c59
           try clear c60
           try clear hcz20_0 hcz20_1 hcz20_2 hcz24_0 hcz24_1 hcz24_2 hcz29_0 hcz29_1 hcz29_2 hcz32_0 hcz32_1 hcz32_2 hcz37_0 hcz37_1 hcz37_2 hcz39_0 hcz39_1 hcz39_2 hcz52_0 hcz52_1 hcz52_2 hcz61_0 hcz61_1 hcz61_2 hcz8_0 hcz8_1 hcz8_2 hcz9_0 hcz9_1 hcz9_2 hfz20_0 hfz20_1 hfz20_2 hfz24_0 hfz24_1 hfz24_2 hfz29_0 hfz29_1 hfz29_2 hfz32_0 hfz32_1 hfz32_2 hfz37_0 hfz37_1 hfz37_2 hfz39_0 hfz39_1 hfz39_2 hfz52_0 hfz52_1 hfz52_2 hfz61_0 hfz61_1 hfz61_2 hfz8_0 hfz8_1 hfz8_2 hfz9_0 hfz9_1 hfz9_2
           try clear p2
           try clear p6
           obtain ⟨x9_2, HA, HK2, HO_9, HO_11, BK251, BK256, HB⟩ := hrel
           cases gk with
           | zero => exact absurd HA.out (by simp [nameplateref04_Read.l0])
           | succ k2 =>
            have H := HA.out
            clear HA
            simp only [nameplateref04_Read.l0] at H
            by_cases c62 : (wrap64 ((x9_2.length : Int) + (t269.length : Int))) < 8
            ·rw [if_pos c62] at H
             have c62b0 : decide ((wrap64 ((x9_2.length : Int) + (t269.length : Int))) < 8) = true := decide_eq_true c62
             clear c62
             by_cases c63 : x9_2.length < 17592186044416
             ·rw [if_pos c63] at H
              have LMc63 := aM c63
              clear c63
              obtain ⟨y273, hy273⟩ : ∃ y_ : List Int, y_ = (x9_2 ++ [0]) := ⟨_, rfl⟩
              replace H : (nameplateref04_Read.l0 k2 y273 t269) = some (r1, r2, r3, r4) := by first | (rw [hy273]; with_reducible exact H) | (have H2_ := (Option.bind_some _ _).symm.trans H; rw [hy273]; with_reducible exact H2_) | (have H2_ := (Option.bind_some _ _).symm.trans H; with_reducible exact H2_) | with_reducible exact H | (rw [hy273]; exact H) | exact H
              have Ny273 := aM hy273
              clear hy273
              have H' := aM H
              clear H
              obtain ⟨Ao64, co64, eo64⟩ := Kd.R_slice HO_9.out
              subst eo64
              obtain ⟨Ao65, co65, eo65⟩ := Kd.R_slice HO_11.out
              subst eo65
              go_wp2_with (first | ((with_reducible refine gate_builtin (b := .append) (xs := #[.tmp 75, .tmp 76]) rfl ?_); (try (refine gate_guard (by rfl) ?_; dsimp only)); at_builtin; refine Kd.R_append (Kd.int .i64) (w0 := w) w.heap.size rfl (.tmp 75) (.tmp 76) 71 3 (.int .i64 0) 8 rfl Tryz.underlying71 info3 rfl (by decide) (by omega) (.slice Ao64 x9_2.length co64) x9_2 0 [.int .i64 0] (fun k_ => some k_ ≠ (.slice Ao65 t269.length co65 : Value).ownBlock) (fun _ => False) rfl rfl ?aP (fun _ hk => hk.elim) ?aF ?aO ?aB ?aS ?aL ?_; (case aP => exact rfl); (case aB => exact (tB HB.out)); (case aF => exact (fun k_ hk => Kd.fresh' (Kd.R_lt (tR HO_11.out)) k_ hk)); (case aO => exact (tR HO_9.out)); (case aS => exact (below_size (tB HB.out))); (case aL => have := LMc63.out; omega); intro v274 w66 ho hb hg hat; rw [← Ny273.out] at ho; have HO275 := aM ho; replace HO_11 := aM (Kd.R_after (ok := (fun _ => True)) (by (with_reducible repeat (first | apply Kd.R_alloc | apply Kd.R_drewN | apply Kd.R_drew)); exact Kd.R_mono HO_11.out (fun _ hk => ⟨trivial, hk⟩)) hg hat); replace BK251 := aM (blk_grown (g := gb251) (o := .cells #[.bool false, .int .u64 0, .int .u64 0] 24 (0, 0)) (tK BK251.out) hg (Kd.R_ne HO_9.out BK251.out (by decide))); replace BK256 := aM (blk_grown (g := gb256) (o := .cells #[.bool t252, .int .u64 t253, .int .u64 t254] 24 (0, 0)) (tK BK256.out) hg (Kd.R_ne HO_9.out BK256.out (by decide))); replace HB := aM hb; clear HO_9; clear ho hb hg hat))
              go_roundg k2
              case measure => have := HJ46.out; have := HK2.out; omega
              case rel => exact ⟨(y273), H', ⟨by have := HJ46.out; have := HK2.out; omega⟩, ⟨tR HO275.out⟩, ⟨tR (Kd.R_mono HO_11.out (fun _ hk => hk.2))⟩, ⟨tK BK251.out⟩, ⟨tK BK256.out⟩, ⟨tB HB.out⟩⟩
             ·rw [if_neg c63] at H
              exact absurd H (by simp)
            ·rw [if_neg c62] at H
             have c62b0 : decide ((wrap64 ((x9_2.length : Int) + (t269.length : Int))) < 8) = false := decide_eq_false c62
             clear c62
             by_cases c67 : x9_2.length + t269.length < 17592186044416
             ·rw [if_pos c67] at H
              have LMc67 := aM c67
              clear c67
              obtain ⟨y276, hy276⟩ : ∃ y_ : List Int, y_ = (x9_2 ++ t269) := ⟨_, rfl⟩
              replace H : ((nameplateref04_newer.f k2 y276).bind fun bt279 => (some (bt279.1, bt279.2.1, bt279.2.2, 0))) = some (r1, r2, r3, r4) := by first | (rw [hy276]; with_reducible exact H) | (have H2_ := (Option.bind_some _ _).symm.trans H; rw [hy276]; with_reducible exact H2_) | (have H2_ := (Option.bind_some _ _).symm.trans H; with_reducible exact H2_) | with_reducible exact H | (rw [hy276]; exact H) | exact H
              have Ny276 := aM hy276
              clear hy276
              obtain ⟨⟨t279, t280, t281⟩, A68, H⟩ := oB H
              try dsimp only at H
              simp only [Option.some.injEq, Prod.mk.injEq] at H
              obtain ⟨rfl, rfl, rfl, rfl⟩ := H
              obtain ⟨Ao69, co69, eo69⟩ := Kd.R_slice HO_9.out
              subst eo69
              obtain ⟨Ao70, co70, eo70⟩ := Kd.R_slice HO_11.out
              subst eo70
              go_wp2_with (first | ((with_reducible refine gate_builtin (b := .append) (xs := #[.tmp 78, .tmp 79]) rfl ?_); (try (refine gate_guard (by rfl) ?_; dsimp only)); at_builtin; refine Kd.R_append_rows (Kd.int .i64) (w0 := w) w.heap.size rfl (.tmp 78) (.tmp 79) 71 3 (.int .i64 0) 8 rfl Tryz.underlying71 info3 rfl (by decide) (by omega) (.slice Ao69 x9_2.length co69) x9_2 t269 _ _ _ (fun k_ => some k_ ≠ (.slice Ao70 t269.length co70 : Value).ownBlock) (fun _ => False) rfl rfl ?aO ?aR (fun _ _ h => h) (fun _ h => h.elim) ?aF ?aB ?aS ?aL ?_; (case aR => exact tC (Kd.R_reads' HO_11.out).2.2); (case aB => exact (tB HB.out)); (case aF => exact (fun k_ hk => Kd.fresh' (Kd.R_lt (tR HO_11.out)) k_ hk)); (case aO => exact (tR HO_9.out)); (case aS => exact (below_size (tB HB.out))); (case aL => have := LMc67.out; omega); intro v277 w71 ho hb hg hat; rw [← Ny276.out] at ho; have HO278 := aM ho; replace HO_11 := aM (Kd.R_after (ok := (fun _ => True)) (by (with_reducible repeat (first | apply Kd.R_alloc | apply Kd.R_drewN | apply Kd.R_drew)); exact Kd.R_mono HO_11.out (fun _ hk => ⟨trivial, hk⟩)) hg hat); replace BK251 := aM (blk_grown (g := gb251) (o := .cells #[.bool false, .int .u64 0, .int .u64 0] 24 (0, 0)) (tK BK251.out) hg (Kd.R_ne HO_9.out BK251.out (by decide))); replace BK256 := aM (blk_grown (g := gb256) (o := .cells #[.bool t252, .int .u64 t253, .int .u64 t254] 24 (0, 0)) (tK BK256.out) hg (Kd.R_ne HO_9.out BK256.out (by decide))); replace HB := aM hb; clear HO_9; clear ho hb hg hat; obtain ⟨Ao72, co72, eo72⟩ := Kd.R_slice HO278.out; subst eo72) | ((with_reducible refine gC 52 rfl ?_); refine gL (some 81) Tryz.func52 #[.slice Ao72 y276.length co72] ?_; (with_reducible refine (nameplateref04_newer.calls k2 _ _ y276 t279 t280 t281 _ ?side1 ?side2 A68.out).mono ?_); (case side1 => exact tC (Kd.R_reads' HO278.out).2.2); (case side2 => exact (Kd.R_reads' HO278.out).2.1); rintro e w73 ⟨rfl, hb⟩; refine ⟨_, rfl, ?_⟩; replace HO_11 := aM (Kd.R_below (tR HO_11.out) hb); replace HO278 := aM (Kd.R_below (tR HO278.out) hb); replace BK251 := kB BK251.out hb; replace BK256 := kB BK256.out hb; replace HB := bS HB.out hb; (try clear hb); have hnb74 := NB251_256.out; have hnc74 := NB256_251.out; obtain ⟨hcz75_0, hcz75_1, hcz75_2, hfz75_0, hfz75_1, hfz75_2⟩ := kY3 BK251.out))
              refine bodyPost_ret (results_ct rfl _ _ gb251 24 #[.bool t279, .int .u64 t280, .int .u64 t281] (0, 0) _ rfl (tP BK251.out) Tryz.underlying24 rfl (by kernel_rfl)) rfl ?_
              exact ⟨by first | rfl | (simp [errW_none, errW_some] <;> rfl) | (simp only [← hji43]; first | rfl | (simp [errW_none, errW_some] <;> rfl)) | (simp [*, errW_none, errW_some] <;> rfl), tB HB.out⟩
             ·rw [if_neg c67] at H
              exact absurd H (by simp)
      ·rw [if_neg c45] at H
       exact absurd H (by simp)
     ·rw [if_neg c44] at H
      exact absurd H (by simp)
    ·rw [if_neg c41] at H
     exact absurd H (by simp)
   ·rw [if_neg c40] at H
    exact absurd H (by simp)

end Go.Proofs.YtbalmnkbodcigaaGreatDoor.ORc
namespace Go.Proofs.YtbalmnkbodcigaaGreatDoor.ORc
open Go.RowKit Go.Proofs.YtbalmnkbodcigaaGreatDoorW.PrintWords Go.Proofs.YtbalmnkbodcigaaGreatDoorW.PrintLast Go.Proofs.YtbalmnkbodcigaaGreatDoorW.PrintMore
attribute [local go_sem] max2_int min2_int max_two min_two max_three min_three max_four min_four   -- for this text's walks alone
set_option linter.unusedVariables false
set_option linter.unusedSimpArgs false

/-! ### nameplateref05_Read: function 6 -/
mutual
def nameplateref05_Read.j1 : Nat → ByteArray → Int → Option (Bool × Int × Int × Int × Int)
 | 0, _, _ => none
 | k + 1, x0, x4 => if x4 = (x0.size : Int) then (some (false, 0, 0, 0, 7)) else (if 0 ≤ x4 then (if x4 ≤ (x0.size : Int) then ((nameplateref04_Read.f k (x0.extract 0 (x4 : Int).toNat)).bind fun bt283 => (if 0 ≤ (wrap64 (x4 + 1)) then (if (wrap64 (x4 + 1)) ≤ (x0.size : Int) then (if bt283.2.2.2 = 0 then (if ((x0.extract ((wrap64 (x4 + 1)) : Int).toNat x0.size).size : Int) < 1 then (nameplateref05_Read.j2 k (x0.extract ((wrap64 (x4 + 1)) : Int).toNat x0.size) true bt283.1 bt283.2.1 bt283.2.2.1) else (if ((x0.extract ((wrap64 (x4 + 1)) : Int).toNat x0.size).size : Int) > 3 then (nameplateref05_Read.j2 k (x0.extract ((wrap64 (x4 + 1)) : Int).toNat x0.size) true bt283.1 bt283.2.1 bt283.2.2.1) else (if ((x0.extract ((wrap64 (x4 + 1)) : Int).toNat x0.size).size : Int) > 1 then (if 0 < ((x0.extract ((wrap64 (x4 + 1)) : Int).toNat x0.size).size : Int) then (nameplateref05_Read.j2 k (x0.extract ((wrap64 (x4 + 1)) : Int).toNat x0.size) ((bt (x0.extract ((wrap64 (x4 + 1)) : Int).toNat x0.size) 0) == 48) bt283.1 bt283.2.1 bt283.2.2.1) else (none)) else (nameplateref05_Read.j2 k (x0.extract ((wrap64 (x4 + 1)) : Int).toNat x0.size) false bt283.1 bt283.2.1 bt283.2.2.1)))) else (nameplateref05_Read.j2 k (x0.extract ((wrap64 (x4 + 1)) : Int).toNat x0.size) true bt283.1 bt283.2.1 bt283.2.2.1)) else (none)) else (none))) else (none)) else (none))
def nameplateref05_Read.j2 : Nat → ByteArray → Bool → Bool → Int → Int → Option (Bool × Int × Int × Int × Int)
 | 0, _, _, _, _, _ => none
 | k + 1, x7, x60, x288000, x288001, x288002 => if x60 = true then (some (false, 0, 0, 0, 7)) else (nameplateref05_Read.l1 k x7 0 0 x288000 x288001 x288002)
def nameplateref05_Read.l1 : Nat → ByteArray → Int → Int → Bool → Int → Int → Option (Bool × Int × Int × Int × Int)
 | 0, _, _, _, _, _, _ => none
 | k + 1, x7, x8, x9, x288000, x288001, x288002 => if x9 < (x7.size : Int) then (if 0 ≤ x9 then (if (bt x7 x9) < 48 then (some (false, 0, 0, 0, 7)) else (if (bt x7 x9) > 57 then (some (false, 0, 0, 0, 7)) else (nameplateref05_Read.l1 k x7 (wrap64 ((wrap64 (10 * x8)) + (((bt x7 x9) - 48) % 256))) (wrap64 (x9 + 1)) x288000 x288001 x288002))) else (none)) else ((nameplateref05_Check.f k x288000 x288001 x288002 x8).bind fun t289 => (if t289 = 0 then (some (x288000, x288001, x288002, x8, 0)) else (some (false, 0, 0, 0, t289))))
def nameplateref05_Read.l0 : Nat → ByteArray → Int → Option (Bool × Int × Int × Int × Int)
 | 0, _, _ => none
 | k + 1, x0, x4 => if x4 < (x0.size : Int) then (if 0 ≤ x4 then (if (bt x0 x4) = 47 then (nameplateref05_Read.j1 k x0 x4) else (nameplateref05_Read.l0 k x0 (wrap64 (x4 + 1)))) else (none)) else (nameplateref05_Read.j1 k x0 x4)
end
def nameplateref05_Read.f (k : Nat) (a0 : ByteArray) : Option (Bool × Int × Int × Int × Int) := nameplateref05_Read.l0 k a0 0
theorem nameplateref05_Read.mono_l : ∀ k, (∀ y0 y1, LeO (nameplateref05_Read.j1 k y0 y1) (nameplateref05_Read.j1 (k + 1) y0 y1)) ∧ (∀ y0 y1 y2 y3 y4, LeO (nameplateref05_Read.j2 k y0 y1 y2 y3 y4) (nameplateref05_Read.j2 (k + 1) y0 y1 y2 y3 y4)) ∧ (∀ y0 y1 y2 y3 y4 y5, LeO (nameplateref05_Read.l1 k y0 y1 y2 y3 y4 y5) (nameplateref05_Read.l1 (k + 1) y0 y1 y2 y3 y4 y5)) ∧ (∀ y0 y1, LeO (nameplateref05_Read.l0 k y0 y1) (nameplateref05_Read.l0 (k + 1) y0 y1))
 | 0 => ⟨fun _ _ r h => by simp [nameplateref05_Read.j1] at h, fun _ _ _ _ _ r h => by simp [nameplateref05_Read.j2] at h, fun _ _ _ _ _ _ r h => by simp [nameplateref05_Read.l1] at h, fun _ _ r h => by simp [nameplateref05_Read.l0] at h⟩
 | k + 1 => by
  obtain ⟨ih0, ih1, ih2, ih3⟩ := nameplateref05_Read.mono_l k
  refine ⟨?_, ?_, ?_, ?_⟩
  ·intro y0 y1
   unfold nameplateref05_Read.j1
   repeat' first | (with_reducible first | apply ih0 | apply ih1 | apply ih2 | apply ih3 | apply nameplateref04_Read.mono | apply nameplateref05_Check.mono | exact LeO.refl _ | exact LeO.none _ | refine LeO.ite ?_ ?_ | refine LeO.bind ?_ (fun _ => ?_)) | apply ih0 | apply ih1 | apply ih2 | apply ih3 | apply nameplateref04_Read.mono | apply nameplateref05_Check.mono | exact LeO.none _ | refine LeO.ite ?_ ?_ | refine LeO.bind ?_ (fun _ => ?_)
  ·intro y0 y1 y2 y3 y4
   unfold nameplateref05_Read.j2
   repeat' first | (with_reducible first | apply ih0 | apply ih1 | apply ih2 | apply ih3 | apply nameplateref04_Read.mono | apply nameplateref05_Check.mono | exact LeO.refl _ | exact LeO.none _ | refine LeO.ite ?_ ?_ | refine LeO.bind ?_ (fun _ => ?_)) | apply ih0 | apply ih1 | apply ih2 | apply ih3 | apply nameplateref04_Read.mono | apply nameplateref05_Check.mono | exact LeO.none _ | refine LeO.ite ?_ ?_ | refine LeO.bind ?_ (fun _ => ?_)
  ·intro y0 y1 y2 y3 y4 y5
   unfold nameplateref05_Read.l1
   repeat' first | (with_reducible first | apply ih0 | apply ih1 | apply ih2 | apply ih3 | apply nameplateref04_Read.mono | apply nameplateref05_Check.mono | exact LeO.refl _ | exact LeO.none _ | refine LeO.ite ?_ ?_ | refine LeO.bind ?_ (fun _ => ?_)) | apply ih0 | apply ih1 | apply ih2 | apply ih3 | apply nameplateref04_Read.mono | apply nameplateref05_Check.mono | exact LeO.none _ | refine LeO.ite ?_ ?_ | refine LeO.bind ?_ (fun _ => ?_)
  ·intro y0 y1
   unfold nameplateref05_Read.l0
   repeat' first | (with_reducible first | apply ih0 | apply ih1 | apply ih2 | apply ih3 | apply nameplateref04_Read.mono | apply nameplateref05_Check.mono | exact LeO.refl _ | exact LeO.none _ | refine LeO.ite ?_ ?_ | refine LeO.bind ?_ (fun _ => ?_)) | apply ih0 | apply ih1 | apply ih2 | apply ih3 | apply nameplateref04_Read.mono | apply nameplateref05_Check.mono | exact LeO.none _ | refine LeO.ite ?_ ?_ | refine LeO.bind ?_ (fun _ => ?_)
theorem nameplateref05_Read.mono : ∀ a0 k, LeO (nameplateref05_Read.f k a0) (nameplateref05_Read.f (k + 1) a0) := by
 intro a0 k
 obtain ⟨ih0, ih1, ih2, ih3⟩ := nameplateref05_Read.mono_l k
 unfold nameplateref05_Read.f
 repeat' first | (with_reducible first | apply ih0 | apply ih1 | apply ih2 | apply ih3 | apply nameplateref04_Read.mono | apply nameplateref05_Check.mono | exact LeO.refl _ | exact LeO.none _ | refine LeO.ite ?_ ?_ | refine LeO.bind ?_ (fun _ => ?_)) | apply ih0 | apply ih1 | apply ih2 | apply ih3 | apply nameplateref04_Read.mono | apply nameplateref05_Check.mono | exact LeO.none _ | refine LeO.ite ?_ ?_ | refine LeO.bind ?_ (fun _ => ?_)
attribute [-simp] ByteArray.size_extract
set_option maxHeartbeats 8000000 in
set_option maxRecDepth 100000 in
theorem nameplateref05_Read.calls (k : Nat) (a0 : ByteArray) (r1 : Bool) (r2 : Int) (r3 : Int) (r4 : Int) (r5 : Int) (w : World) (h : nameplateref05_Read.f k a0 = some (r1, r2, r3, r4, r5)) :
  Calls Tryz.prog 6 #[.string a0] w fun e w' => e = .returned (.tuple #[.agg #[.bool r1, .int .u64 r2, .int .u64 r3, .int .i64 r4], .int .i64 r5]) ∧ Below w.heap.size w w' := by
 have hu26 := Tryz.underlying26
 have hu24 := Tryz.underlying24
 have HB := aM (Below.refl w.heap.size w)
 have H : (nameplateref05_Read.l0 k a0 0) = some (r1, r2, r3, r4, r5) := h
 clear h
 have HC2 := aM H
 clear H
 go_enter Tryz.func6, Tryz.ntmps6
 go_upto_block 0 with (first | ((with_reducible refine gate_dst (N := 2) rfl ?_); (try (refine gate_guard (by rfl) ?_; dsimp only)); refine box_event ?hg (N := 2) ?hd (cs := #[.bool false, .int .u64 0, .int .u64 0, .int .i64 0]) (t := 26) ?hr ?_; (case hd => rfl); (case hg => rfl); (case hr => first | (go_simp; done) | (go_simp; rfl)); intro gb282 hg w3 hbox hb; have n0_ := bS HB.out hb; have n1_ := aM hbox; have n2_ := gS hg HB.out; have n3_ := gS hg HB.out; clear HB; have HB := n0_; have BK282 := n1_; have GW282 := n2_; have GE282 := n3_; clear n0_ n1_ n2_ n3_; clear hb hbox hg))
 (try simp only [Act.put, List.setIfInBounds_toArray, List.set_cons_zero, List.set_cons_succ])
 go_cut [4] (fun v4 wc => ∃ (kq : Nat) (x4_1 : Int), v4 = .int .i64 x4_1 ∧ Aside0 (nameplateref05_Read.j1 kq a0 x4_1 = some (r1, r2, r3, r4, r5)) ∧ Aside0 (kq ≤ k) ∧ Aside0 (wc.heap[gb282]? = some (.cells #[.bool false, .int .u64 0, .int .u64 0, .int .i64 0] 26 (0, 0))) ∧ Aside0 (Below w.heap.size w wc))
 case first =>
  have H := HC2.out
  clear HC2
  have H' := aM H
  clear H
  go_wp2
  go_loopg [4] k (fun kq v4 w' => ∃ (x4_1 : Int), v4 = .int .i64 x4_1 ∧ Aside0 (nameplateref05_Read.l0 kq a0 x4_1 = some (r1, r2, r3, r4, r5)) ∧ Aside0 (kq ≤ k) ∧ Aside0 (w'.heap[gb282]? = some (.cells #[.bool false, .int .u64 0, .int .u64 0, .int .i64 0] 26 (0, 0))) ∧ Aside0 (Below w.heap.size w w'))
  case atStart => exact ⟨(0), tF, H', ⟨Nat.le_refl _⟩, ⟨tK BK282.out⟩, ⟨tB HB.out⟩⟩
  case round =>
   clear H'
   try clear p2
   obtain ⟨x4_1, rfl, HA, HK1, BK282, HB⟩ := hrel
   cases gk with
   | zero => exact absurd HA.out (by simp [nameplateref05_Read.l0])
   | succ k1 =>
    have H := HA.out
    clear HA
    simp only [nameplateref05_Read.l0] at H
    by_cases c4 : x4_1 < (a0.size : Int)
    ·rw [if_pos c4] at H
     have c4b0 : decide (x4_1 < (a0.size : Int)) = true := decide_eq_true c4
     clear c4
     (first | rw [c4b0] | (simp only [i64_w, i32_w]; rw [c4b0]) | skip)
     by_cases c5 : 0 ≤ x4_1
     ·rw [if_pos c5] at H
      have c5b0 : decide (0 ≤ x4_1) = true := decide_eq_true c5
      clear c5
      by_cases c7 : (bt a0 x4_1) = 47
      ·rw [if_pos c7] at H
       have c7b0 : ((bt a0 x4_1) == 47) = true := beq_iff_eq.mpr c7
       have c7b1 : ((bt a0 x4_1) != 47) = false := bne_eq_false_iff_eq.mpr c7
       clear c7
       have H' := aM H
       clear H
       have p6 : 0 ≤ (x4_1 : Int) := of_decide_eq_true (by first | (with_reducible assumption) | assumption)
       have q6 : x4_1 < (a0.size : Int) := of_decide_eq_true (by first | (with_reducible assumption) | assumption)
       have hx6 := bt_at a0 x4_1
       replace p6 := eq_true p6
       replace q6 := eq_true q6
       go_wp2
       go_meet
       case rel => exact ⟨_, (x4_1), tF, H', ⟨by have := HK1.out; first | omega | exact Nat.le_refl _⟩, ⟨tK BK282.out⟩, ⟨tB HB.out⟩⟩
      ·rw [if_neg c7] at H
       have c7b0 : ((bt a0 x4_1) == 47) = false := beq_eq_false_iff_ne.mpr c7
       have c7b1 : ((bt a0 x4_1) != 47) = true := bne_iff_ne.mpr c7
       have H' := aM H
       clear H
       have p6 : 0 ≤ (x4_1 : Int) := of_decide_eq_true (by first | (with_reducible assumption) | assumption)
       have q6 : x4_1 < (a0.size : Int) := of_decide_eq_true (by first | (with_reducible assumption) | assumption)
       have hx6 := bt_at a0 x4_1
       replace p6 := eq_true p6
       replace q6 := eq_true q6
       go_wp2
       go_roundg k1
       case measure => have := HK1.out; omega
       case rel => exact ⟨(wrap64 (x4_1 + 1)), tF, H', ⟨by have := HK1.out; omega⟩, ⟨tK BK282.out⟩, ⟨tB HB.out⟩⟩
     ·rw [if_neg c5] at H
      exact absurd H (by simp)
    ·rw [if_neg c4] at H
     have c4b0 : decide (x4_1 < (a0.size : Int)) = false := decide_eq_false c4
     clear c4
     (first | rw [c4b0] | (simp only [i64_w, i32_w]; rw [c4b0]) | skip)
     have H' := aM H
     clear H
     go_wp2
     go_meet
     case rel => exact ⟨_, (x4_1), tF, H', ⟨by have := HK1.out; first | omega | exact Nat.le_refl _⟩, ⟨tK BK282.out⟩, ⟨tB HB.out⟩⟩
 case rest =>
  clear HC2
  try clear p2
  try clear c4
  try clear c4b0
  try clear c5
  try clear c5b0
  try clear c6
  try clear p6
  try clear q6
  try clear hx6
  try clear c7
  try clear c7b0
  try clear c7b1
  try clear p2
  try clear p6
  try clear q6
  obtain ⟨kq, x4_1, rfl, HA, HJ1, BK282, HB⟩ := hcut
  cases kq with
  | zero => exact absurd HA.out (by simp [nameplateref05_Read.j1])
  | succ kj1 =>
   have H := HA.out
   clear HA
   simp only [nameplateref05_Read.j1] at H
   by_cases c8 : x4_1 = (a0.size : Int)
   ·rw [if_pos c8] at H
    have c8b0 : (x4_1 == (a0.size : Int)) = true := beq_iff_eq.mpr c8
    have c8b1 : (x4_1 != (a0.size : Int)) = false := bne_eq_false_iff_eq.mpr c8
    clear c8
    simp only [Option.some.injEq, Prod.mk.injEq] at H
    obtain ⟨rfl, rfl, rfl, rfl, rfl⟩ := H
    obtain ⟨hcz9_0, hcz9_1, hcz9_2, hcz9_3, hfz9_0, hfz9_1, hfz9_2, hfz9_3⟩ := kY4 BK282.out
    go_wp2
    refine bodyPost_ret (results_ct rfl _ _ gb282 26 #[.bool false, .int .u64 0, .int .u64 0, .int .i64 0] (0, 0) _ rfl (tP BK282.out) Tryz.underlying26 rfl (by kernel_rfl)) rfl ?_
    exact ⟨tE, tB HB.out⟩
   ·rw [if_neg c8] at H
    have c8b0 : (x4_1 == (a0.size : Int)) = false := beq_eq_false_iff_ne.mpr c8
    have c8b1 : (x4_1 != (a0.size : Int)) = true := bne_iff_ne.mpr c8
    by_cases c10 : 0 ≤ x4_1
    ·rw [if_pos c10] at H
     have c10b0 := eq_true c10
     have c10b1 : decide (0 ≤ x4_1) = true := decide_eq_true c10
     clear c10
     by_cases c11 : x4_1 ≤ (a0.size : Int)
     ·rw [if_pos c11] at H
      have c11b0 := eq_true c11
      have c11b1 : decide (x4_1 ≤ (a0.size : Int)) = true := decide_eq_true c11
      clear c11
      obtain ⟨⟨t283, t284, t285, t286⟩, A12, H⟩ := oB H
      try dsimp only at H
      obtain ⟨ji13, hji13⟩ : ∃ j_ : Int, (wrap64 (x4_1 + 1)) = j_ := ⟨_, rfl⟩
      replace H : (if 0 ≤ (ji13) then (if (ji13) ≤ (a0.size : Int) then (if t286 = 0 then (if ((a0.extract ((ji13) : Int).toNat a0.size).size : Int) < 1 then (nameplateref05_Read.j2 kj1 (a0.extract ((ji13) : Int).toNat a0.size) true t283 t284 t285) else (if ((a0.extract ((ji13) : Int).toNat a0.size).size : Int) > 3 then (nameplateref05_Read.j2 kj1 (a0.extract ((ji13) : Int).toNat a0.size) true t283 t284 t285) else (if ((a0.extract ((ji13) : Int).toNat a0.size).size : Int) > 1 then (if 0 < ((a0.extract ((ji13) : Int).toNat a0.size).size : Int) then (nameplateref05_Read.j2 kj1 (a0.extract ((ji13) : Int).toNat a0.size) ((bt (a0.extract ((ji13) : Int).toNat a0.size) 0) == 48) t283 t284 t285) else (none)) else (nameplateref05_Read.j2 kj1 (a0.extract ((ji13) : Int).toNat a0.size) false t283 t284 t285)))) else (nameplateref05_Read.j2 kj1 (a0.extract ((ji13) : Int).toNat a0.size) true t283 t284 t285)) else (none)) else (none)) = some (r1, r2, r3, r4, r5) := by first | (rw [hji13] at H; exact H) | (simp only [hji13] at H ⊢; exact H)
      (try rw [hji13] at A12)
      have hji13w : (IntKind.i64.wrap (x4_1 + 1)) = ji13 := (i64_w _).trans hji13
      by_cases c14 : 0 ≤ (ji13)
      ·rw [if_pos c14] at H
       have c14b0 := eq_true c14
       have c14b1 : decide (0 ≤ (ji13)) = true := decide_eq_true c14
       clear c14
       by_cases c15 : (ji13) ≤ (a0.size : Int)
       ·rw [if_pos c15] at H
        have c15b0 := eq_true c15
        have c15b1 : decide ((ji13) ≤ (a0.size : Int)) = true := decide_eq_true c15
        clear c15
        have HC16 := aM H
        clear H
        go_upto_region 8 with (first | ((with_reducible refine gC 28 rfl ?_); refine gL (some 32) Tryz.func28 #[.string (a0.extract 0 (x4_1 : Int).toNat)] ?_; (with_reducible refine (nameplateref04_Read.calls kj1 (a0.extract 0 (x4_1 : Int).toNat) t283 t284 t285 t286 _ A12.out).mono ?_); rintro e w17 ⟨rfl, hb⟩; refine ⟨_, rfl, ?_⟩; replace BK282 := kB BK282.out hb; replace HB := bS HB.out hb; (try clear hb)) | ((with_reducible refine gD 5 rfl ?_); (try (refine gate_guard (by rfl) ?_; dsimp only)); refine bX 5 #[.bool false, .int .u64 0, .int .u64 0] 24 ?_; intro gb287 hg w18 hbox hb; have BK287 := aM hbox; have GW287 := gS hg HB.out; have GE287 := GW287; have NB282_287 := nB hg BK282.out; have NB287_282 := nS (nB hg BK282.out); replace BK282 := kB BK282.out hb; replace HB := bS HB.out hb; clear hb hbox hg; have hnb19 := NB287_282.out; have hnc19 := NB282_287.out; obtain ⟨hcz20_0, hcz20_1, hcz20_2, hfz20_0, hfz20_1, hfz20_2⟩ := kY3 BK287.out))
        (try simp only [Act.put, List.setIfInBounds_toArray, List.set_cons_zero, List.set_cons_succ])
        go_cut [60] (fun v60 wc => ∃ (kq : Nat) (x60_15 : Bool), v60 = .bool x60_15 ∧ Aside0 (nameplateref05_Read.j2 kq (a0.extract ((ji13) : Int).toNat a0.size) x60_15 t283 t284 t285 = some (r1, r2, r3, r4, r5)) ∧ Aside0 (kq ≤ kj1) ∧ Aside0 (wc.heap[gb282]? = some (.cells #[.bool false, .int .u64 0, .int .u64 0, .int .i64 0] 26 (0, 0))) ∧ Aside0 (wc.heap[gb287]? = some (.cells #[.bool t283, .int .u64 t284, .int .u64 t285] 24 (0, 0))) ∧ Aside0 (Below w.heap.size w wc))
        case first =>
         have H := HC16.out
         clear HC16
         by_cases c21 : t286 = 0
         ·rw [if_pos c21] at H
          have c21b0 : (t286 == 0) = true := beq_iff_eq.mpr c21
          have c21b1 : (t286 != 0) = false := bne_eq_false_iff_eq.mpr c21
          clear c21
          (first | rw [c21b0] | (simp only [i64_w, i32_w]; rw [c21b0]) | skip)
          by_cases c22 : ((a0.extract ((ji13) : Int).toNat a0.size).size : Int) < 1
          ·rw [if_pos c22] at H
           have c22b0 : decide (((a0.extract ((ji13) : Int).toNat a0.size).size : Int) < 1) = true := decide_eq_true c22
           have c22b1 : decide ((a0.extract ((ji13) : Int).toNat a0.size).size < 1) = true := decide_eq_true (by omega)
           clear c22
           have H' := aM H
           clear H
           go_wp2
           go_meet
           case rel => exact ⟨_, (true), tF, H', ⟨by have := HJ1.out; first | omega | exact Nat.le_refl _⟩, ⟨tP BK282.out⟩, ⟨tP BK287.out⟩, ⟨tB HB.out⟩⟩
          ·rw [if_neg c22] at H
           have c22b0 : decide (((a0.extract ((ji13) : Int).toNat a0.size).size : Int) < 1) = false := decide_eq_false c22
           have c22b1 : decide ((a0.extract ((ji13) : Int).toNat a0.size).size < 1) = false := decide_eq_false (by omega)
           clear c22
           by_cases c23 : ((a0.extract ((ji13) : Int).toNat a0.size).size : Int) > 3
           ·rw [if_pos c23] at H
            have c23b0 : decide (3 < ((a0.extract ((ji13) : Int).toNat a0.size).size : Int)) = true := decide_eq_true c23
            have c23b1 : decide (3 < (a0.extract ((ji13) : Int).toNat a0.size).size) = true := decide_eq_true (by omega)
            clear c23
            have H' := aM H
            clear H
            go_wp2
            go_meet
            case rel => exact ⟨_, (true), tF, H', ⟨by have := HJ1.out; first | omega | exact Nat.le_refl _⟩, ⟨tP BK282.out⟩, ⟨tP BK287.out⟩, ⟨tB HB.out⟩⟩
           ·rw [if_neg c23] at H
            have c23b0 : decide (3 < ((a0.extract ((ji13) : Int).toNat a0.size).size : Int)) = false := decide_eq_false c23
            have c23b1 : decide (3 < (a0.extract ((ji13) : Int).toNat a0.size).size) = false := decide_eq_false (by omega)
            clear c23
            by_cases c24 : ((a0.extract ((ji13) : Int).toNat a0.size).size : Int) > 1
            ·rw [if_pos c24] at H
             have c24b0 : decide (1 < ((a0.extract ((ji13) : Int).toNat a0.size).size : Int)) = true := decide_eq_true c24
             have c24b1 : decide (1 < (a0.extract ((ji13) : Int).toNat a0.size).size) = true := decide_eq_true (by omega)
             clear c24
             by_cases c25 : 0 < ((a0.extract ((ji13) : Int).toNat a0.size).size : Int)
             ·rw [if_pos c25] at H
              have c25b0 : decide (0 < ((a0.extract ((ji13) : Int).toNat a0.size).size : Int)) = true := decide_eq_true c25
              have c25b1 : decide (0 < (a0.extract ((ji13) : Int).toNat a0.size).size) = true := decide_eq_true (by omega)
              clear c25
              have H' := aM H
              clear H
              have p26 : 0 ≤ (0 : Int) := (by omega)
              have q26 : 0 < (a0.extract ((ji13) : Int).toNat a0.size).size := (by have : (0 : Int) < ((a0.extract ((ji13) : Int).toNat a0.size).size : Int) := of_decide_eq_true (by first | (with_reducible assumption) | assumption); omega)
              have hx26 : ∀ h : 0 < (a0.extract ((ji13) : Int).toNat a0.size).size, (((a0.extract ((ji13) : Int).toNat a0.size)[0]'h).toNat : Int) = bt (a0.extract ((ji13) : Int).toNat a0.size) 0 := bt_at (a0.extract ((ji13) : Int).toNat a0.size) 0
              clear p26
              have qi26 : (0 < ((a0.extract ((ji13) : Int).toNat a0.size).size : Int)) = True := eq_true (of_decide_eq_true (by first | (with_reducible assumption) | assumption))
              replace q26 := eq_true q26
              go_wp2
              go_meet
              case rel => exact ⟨_, (((bt (a0.extract ((ji13) : Int).toNat a0.size) 0) == 48)), (by first | rfl | (simp; done) | (simp only [← hji13] <;> (first | rfl | simp)) | (simp [*]; done)), H', ⟨by have := HJ1.out; first | omega | exact Nat.le_refl _⟩, ⟨tP BK282.out⟩, ⟨tP BK287.out⟩, ⟨tB HB.out⟩⟩
             ·rw [if_neg c25] at H
              exact absurd H (by simp)
            ·rw [if_neg c24] at H
             have c24b0 : decide (1 < ((a0.extract ((ji13) : Int).toNat a0.size).size : Int)) = false := decide_eq_false c24
             have c24b1 : decide (1 < (a0.extract ((ji13) : Int).toNat a0.size).size) = false := decide_eq_false (by omega)
             clear c24
             have H' := aM H
             clear H
             go_wp2
             go_meet
             case rel => exact ⟨_, (false), tF, H', ⟨by have := HJ1.out; first | omega | exact Nat.le_refl _⟩, ⟨tP BK282.out⟩, ⟨tP BK287.out⟩, ⟨tB HB.out⟩⟩
         ·rw [if_neg c21] at H
          have c21b0 : (t286 == 0) = false := beq_eq_false_iff_ne.mpr c21
          have c21b1 : (t286 != 0) = true := bne_iff_ne.mpr c21
          (first | rw [c21b0] | (simp only [i64_w, i32_w]; rw [c21b0]) | skip)
          have H' := aM H
          clear H
          go_wp2
          go_meet
          case rel => exact ⟨_, (true), tF, H', ⟨by have := HJ1.out; first | omega | exact Nat.le_refl _⟩, ⟨tP BK282.out⟩, ⟨tP BK287.out⟩, ⟨tB HB.out⟩⟩
        case rest =>
         clear HC16
         try clear c1
         try clear c2
         try clear p2
         try clear q2
         try clear hx2
         try clear qi2
         try clear c4
         try clear c4b0
         try clear c5
         try clear c5b0
         try clear c6
         try clear p6
         try clear q6
         try clear hx6
         try clear c7
         try clear c7b0
         try clear c7b1
         try clear c8
         try clear c8b0
         try clear c8b1
         try clear c10
         try clear c10b0
         try clear c10b1
         try clear c11
         try clear c11b0
         try clear c11b1
         try clear c14
         try clear c14b0
         try clear c14b1
         try clear c15
         try clear c15b0
         try clear c15b1
         try clear c19
         try clear c21
         try clear c21b0
         try clear c21b1
         try clear c22
         try clear c22b0
         try clear c22b1
         try clear c23
         try clear c23b0
         try clear c23b1
         try clear c24
         try clear c24b0
         try clear c24b1
         try clear c25
         try clear c25b0
         try clear c25b1
         try clear p26
         try clear q26
         try clear hx26
         try clear qi26
         try clear hcz20_0 hcz20_1 hcz20_2 hcz9_0 hcz9_1 hcz9_2 hcz9_3 hfz20_0 hfz20_1 hfz20_2 hfz9_0 hfz9_1 hfz9_2 hfz9_3
         try clear p2
         try clear p26
         try clear p6
         try clear q26
         try clear q6
         obtain ⟨kq, x60_15, rfl, HA, HJ15, BK282, BK287, HB⟩ := hcut
         cases kq with
         | zero => exact absurd HA.out (by simp [nameplateref05_Read.j2])
         | succ kj15 =>
          have H := HA.out
          clear HA
          simp only [nameplateref05_Read.j2] at H
          by_cases c27 : x60_15 = true
          ·subst c27
           rw [if_pos rfl] at H
           simp only [Option.some.injEq, Prod.mk.injEq] at H
           obtain ⟨rfl, rfl, rfl, rfl, rfl⟩ := H
           have hnb28 := NB282_287.out
           have hnc28 := NB287_282.out
           obtain ⟨hcz29_0, hcz29_1, hcz29_2, hcz29_3, hfz29_0, hfz29_1, hfz29_2, hfz29_3⟩ := kY4 BK282.out
           go_wp2
           refine bodyPost_ret (results_ct rfl _ _ gb282 26 #[.bool false, .int .u64 0, .int .u64 0, .int .i64 0] (0, 0) _ rfl (tP BK282.out) Tryz.underlying26 rfl (by kernel_rfl)) rfl ?_
           exact ⟨by first | rfl | (simp [errW_none, errW_some] <;> rfl) | (simp only [← hji13]; first | rfl | (simp [errW_none, errW_some] <;> rfl)) | (simp [*, errW_none, errW_some] <;> rfl), tB HB.out⟩
          ·replace c27 := Bool.eq_false_iff.mpr c27
           subst c27
           rw [if_neg (show ¬ (false = true) by decide)] at H
           have H' := aM H
           clear H
           go_wp2
           go_loopg [8, 9] kj15 (fun kq v8 v9 w' => ∃ (x8_3 : Int) (x9_3 : Int) (x283000_3 : Bool) (x283001_3 : Int) (x283002_3 : Int) (x283003_3 : Int), v8 = .int .i64 x8_3 ∧ v9 = .int .i64 x9_3 ∧ Aside0 (nameplateref05_Read.l1 kq (a0.extract ((ji13) : Int).toNat a0.size) x8_3 x9_3 t283 t284 t285 = some (r1, r2, r3, r4, r5)) ∧ Aside0 (kq ≤ kj15) ∧ Aside0 (w'.heap[gb282]? = some (.cells #[.bool x283000_3, .int .u64 x283001_3, .int .u64 x283002_3, .int .i64 x283003_3] 26 (0, 0))) ∧ Aside0 (w'.heap[gb287]? = some (.cells #[.bool t283, .int .u64 t284, .int .u64 t285] 24 (0, 0))) ∧ Aside0 (Below w.heap.size w w'))
           case atStart => exact ⟨(0), (0), (false), (0), (0), (0), tF, tF, H', ⟨Nat.le_refl _⟩, ⟨tK BK282.out⟩, ⟨tK BK287.out⟩, ⟨tB HB.out⟩⟩
           case round =>
            clear H'
            try clear c1
            try clear c2
            try clear p2
            try clear q2
            try clear hx2
            try clear qi2
            try clear c4
            try clear c4b0
            try clear c5
            try clear c5b0
            try clear c6
            try clear p6
            try clear q6
            try clear hx6
            try clear c7
            try clear c7b0
            try clear c7b1
            try clear c8
            try clear c8b0
            try clear c8b1
            try clear c10
            try clear c10b0
            try clear c10b1
            try clear c11
            try clear c11b0
            try clear c11b1
            try clear c14
            try clear c14b0
            try clear c14b1
            try clear c15
            try clear c15b0
            try clear c15b1
            try clear c19
            try clear c21
            try clear c21b0
            try clear c21b1
            try clear c22
            try clear c22b0
            try clear c22b1
            try clear c23
            try clear c23b0
            try clear c23b1
            try clear c24
            try clear c24b0
            try clear c24b1
            try clear c25
            try clear c25b0
            try clear c25b1
            try clear p26
            try clear q26
            try clear hx26
            try clear qi26
            try clear c27
            try clear c28
            try clear hcz20_0 hcz20_1 hcz20_2 hcz29_0 hcz29_1 hcz29_2 hcz29_3 hcz9_0 hcz9_1 hcz9_2 hcz9_3 hfz20_0 hfz20_1 hfz20_2 hfz29_0 hfz29_1 hfz29_2 hfz29_3 hfz9_0 hfz9_1 hfz9_2 hfz9_3
            try clear p2
            try clear p26
            try clear p6
            try clear q2
            try clear q26
            try clear q6
            obtain ⟨x8_3, x9_3, x283000_3, x283001_3, x283002_3, x283003_3, rfl, rfl, HA, HK3, BK282, BK287, HB⟩ := hrel
            cases gk with
            | zero => exact absurd HA.out (by simp [nameplateref05_Read.l1])
            | succ k3 =>
             have H := HA.out
             clear HA
             simp only [nameplateref05_Read.l1] at H
             by_cases c30 : x9_3 < ((a0.extract ((ji13) : Int).toNat a0.size).size : Int)
             ·rw [if_pos c30] at H
              have c30b0 : decide (x9_3 < ((a0.extract ((ji13) : Int).toNat a0.size).size : Int)) = true := decide_eq_true c30
              clear c30
              by_cases c31 : 0 ≤ x9_3
              ·rw [if_pos c31] at H
               have c31b0 : decide (0 ≤ x9_3) = true := decide_eq_true c31
               clear c31
               by_cases c33 : (bt (a0.extract ((ji13) : Int).toNat a0.size) x9_3) < 48
               ·rw [if_pos c33] at H
                have c33b0 : decide ((bt (a0.extract ((ji13) : Int).toNat a0.size) x9_3) < 48) = true := decide_eq_true c33
                clear c33
                simp only [Option.some.injEq, Prod.mk.injEq] at H
                obtain ⟨rfl, rfl, rfl, rfl, rfl⟩ := H
                have p32 : 0 ≤ (x9_3 : Int) := of_decide_eq_true (by first | (with_reducible assumption) | assumption)
                have q32 : x9_3 < ((a0.extract ((ji13) : Int).toNat a0.size).size : Int) := of_decide_eq_true (by first | (with_reducible assumption) | assumption)
                have hx32 := bt_at (a0.extract ((ji13) : Int).toNat a0.size) x9_3
                replace p32 := eq_true p32
                replace q32 := eq_true q32
                have hnb34 := NB282_287.out
                have hnc34 := NB287_282.out
                obtain ⟨hcz35_0, hcz35_1, hcz35_2, hcz35_3, hfz35_0, hfz35_1, hfz35_2, hfz35_3⟩ := kY4 BK282.out
                go_wp2
                refine bodyPost_ret (results_ct rfl _ _ gb282 26 #[.bool false, .int .u64 0, .int .u64 0, .int .i64 0] (0, 0) _ rfl (tP BK282.out) Tryz.underlying26 rfl (by kernel_rfl)) rfl ?_
                exact ⟨by first | rfl | (simp [errW_none, errW_some] <;> rfl) | (simp only [← hji13]; first | rfl | (simp [errW_none, errW_some] <;> rfl)) | (simp [*, errW_none, errW_some] <;> rfl), tB HB.out⟩
               ·rw [if_neg c33] at H
                have c33b0 : decide ((bt (a0.extract ((ji13) : Int).toNat a0.size) x9_3) < 48) = false := decide_eq_false c33
                clear c33
                by_cases c37 : (bt (a0.extract ((ji13) : Int).toNat a0.size) x9_3) > 57
                ·rw [if_pos c37] at H
                 have c37b0 : decide (57 < (bt (a0.extract ((ji13) : Int).toNat a0.size) x9_3)) = true := decide_eq_true c37
                 clear c37
                 simp only [Option.some.injEq, Prod.mk.injEq] at H
                 obtain ⟨rfl, rfl, rfl, rfl, rfl⟩ := H
                 have p32 : 0 ≤ (x9_3 : Int) := of_decide_eq_true (by first | (with_reducible assumption) | assumption)
                 have q32 : x9_3 < ((a0.extract ((ji13) : Int).toNat a0.size).size : Int) := of_decide_eq_true (by first | (with_reducible assumption) | assumption)
                 have hx32 := bt_at (a0.extract ((ji13) : Int).toNat a0.size) x9_3
                 replace p32 := eq_true p32
                 replace q32 := eq_true q32
                 have p36 : 0 ≤ (x9_3 : Int) := of_decide_eq_true (by first | (with_reducible assumption) | assumption)
                 have q36 : x9_3 < ((a0.extract ((ji13) : Int).toNat a0.size).size : Int) := of_decide_eq_true (by first | (with_reducible assumption) | assumption)
                 have hx36 := bt_at (a0.extract ((ji13) : Int).toNat a0.size) x9_3
                 replace p36 := eq_true p36
                 replace q36 := eq_true q36
                 have hnb38 := NB282_287.out
                 have hnc38 := NB287_282.out
                 obtain ⟨hcz39_0, hcz39_1, hcz39_2, hcz39_3, hfz39_0, hfz39_1, hfz39_2, hfz39_3⟩ := kY4 BK282.out
                 go_wp2
                 refine bodyPost_ret (results_ct rfl _ _ gb282 26 #[.bool false, .int .u64 0, .int .u64 0, .int .i64 0] (0, 0) _ rfl (tP BK282.out) Tryz.underlying26 rfl (by kernel_rfl)) rfl ?_
                 exact ⟨by first | rfl | (simp [errW_none, errW_some] <;> rfl) | (simp only [← hji13]; first | rfl | (simp [errW_none, errW_some] <;> rfl)) | (simp [*, errW_none, errW_some] <;> rfl), tB HB.out⟩
                ·rw [if_neg c37] at H
                 have c37b0 : decide (57 < (bt (a0.extract ((ji13) : Int).toNat a0.size) x9_3)) = false := decide_eq_false c37
                 clear c37
                 have H' := aM H
                 clear H
                 have p32 : 0 ≤ (x9_3 : Int) := of_decide_eq_true (by first | (with_reducible assumption) | assumption)
                 have q32 : x9_3 < ((a0.extract ((ji13) : Int).toNat a0.size).size : Int) := of_decide_eq_true (by first | (with_reducible assumption) | assumption)
                 have hx32 := bt_at (a0.extract ((ji13) : Int).toNat a0.size) x9_3
                 replace p32 := eq_true p32
                 replace q32 := eq_true q32
                 have p36 : 0 ≤ (x9_3 : Int) := of_decide_eq_true (by first | (with_reducible assumption) | assumption)
                 have q36 : x9_3 < ((a0.extract ((ji13) : Int).toNat a0.size).size : Int) := of_decide_eq_true (by first | (with_reducible assumption) | assumption)
                 have hx36 := bt_at (a0.extract ((ji13) : Int).toNat a0.size) x9_3
                 replace p36 := eq_true p36
                 replace q36 := eq_true q36
                 have p40 : 0 ≤ (x9_3 : Int) := of_decide_eq_true (by first | (with_reducible assumption) | assumption)
                 have q40 : x9_3 < ((a0.extract ((ji13) : Int).toNat a0.size).size : Int) := of_decide_eq_true (by first | (with_reducible assumption) | assumption)
                 have hx40 := bt_at (a0.extract ((ji13) : Int).toNat a0.size) x9_3
                 replace p40 := eq_true p40
                 replace q40 := eq_true q40
                 go_wp2
                 go_roundg k3
                 case measure => have := HJ1.out; have := HJ15.out; have := HK3.out; omega
                 case rel => exact ⟨(wrap64 ((wrap64 (10 * x8_3)) + (((bt (a0.extract ((ji13) : Int).toNat a0.size) x9_3) - 48) % 256))), (wrap64 (x9_3 + 1)), (x283000_3), (x283001_3), (x283002_3), (x283003_3), (by first | rfl | (simp; done) | (simp only [← hji13] <;> (first | rfl | simp)) | (simp [*]; done)), tF, H', ⟨by have := HJ1.out; have := HJ15.out; have := HK3.out; omega⟩, ⟨tK BK282.out⟩, ⟨tK BK287.out⟩, ⟨tB HB.out⟩⟩
              ·rw [if_neg c31] at H
               exact absurd H (by simp)
             ·rw [if_neg c30] at H
              have c30b0 : decide (x9_3 < ((a0.extract ((ji13) : Int).toNat a0.size).size : Int)) = false := decide_eq_false c30
              clear c30
              obtain ⟨t289, A41, H⟩ := oB H
              try dsimp only at H
              by_cases c42 : t289 = 0
              ·rw [if_pos c42] at H
               have c42b0 : (t289 == 0) = true := beq_iff_eq.mpr c42
               have c42b1 : (t289 != 0) = false := bne_eq_false_iff_eq.mpr c42
               clear c42
               simp only [Option.some.injEq, Prod.mk.injEq] at H
               obtain ⟨rfl, rfl, rfl, rfl, rfl⟩ := H
               have hnb43 := NB287_282.out
               have hnc43 := NB282_287.out
               obtain ⟨hcz44_0, hcz44_1, hcz44_2, hfz44_0, hfz44_1, hfz44_2⟩ := kY3 BK287.out
               go_wp2_with (first | ((with_reducible refine gD 10 rfl ?_); (try (refine gate_guard (by rfl) ?_; dsimp only)); refine bX 10 #[.bool false, .int .u64 0, .int .u64 0, .int .i64 0] 26 ?_; intro gb288 hg w45 hbox hb; have BK288 := aM hbox; have GW288 := gS hg HB.out; have GE288 := GW288; have NB282_288 := nB hg BK282.out; have NB288_282 := nS (nB hg BK282.out); have NB287_288 := nB hg BK287.out; have NB288_287 := nS (nB hg BK287.out); replace BK282 := kB BK282.out hb; replace BK287 := kB BK287.out hb; replace HB := bS HB.out hb; clear hb hbox hg; have hnb46 := NB288_282.out; have hnc46 := NB282_288.out; have hnb47 := NB288_287.out; have hnc47 := NB287_288.out; obtain ⟨hcz48_0, hcz48_1, hcz48_2, hcz48_3, hfz48_0, hfz48_1, hfz48_2, hfz48_3⟩ := kY4 BK288.out) | ((with_reducible refine gC 16 rfl ?_); refine gL (some 91) Tryz.func16 #[.agg #[.bool t283, .int .u64 t284, .int .u64 t285, .int .i64 x8_3]] ?_; (with_reducible refine (nameplateref05_Check.calls k3 t283 t284 t285 x8_3 t289 _ A41.out).mono ?_); rintro e w49 ⟨rfl, hb⟩; refine ⟨_, rfl, ?_⟩; replace BK282 := kP (o := .cells #[.bool x283000_3, .int .u64 x283001_3, .int .u64 x283002_3, .int .i64 x283003_3] 26 (0, 0)) BK282.out hb; replace BK287 := kP (o := .cells #[.bool t283, .int .u64 t284, .int .u64 t285] 24 (0, 0)) BK287.out hb; replace BK288 := kP (o := .cells #[.bool t283, .int .u64 t284, .int .u64 t285, .int .i64 x8_3] 26 (0, 0)) BK288.out hb; replace HB := bS HB.out hb; (try clear hb); obtain ⟨hcz50_0, hcz50_1, hcz50_2, hcz50_3, hfz50_0, hfz50_1, hfz50_2, hfz50_3⟩ := kY4 BK288.out; obtain ⟨hcz51_0, hcz51_1, hcz51_2, hcz51_3, hfz51_0, hfz51_1, hfz51_2, hfz51_3⟩ := kY4 BK282.out))
               refine bodyPost_ret (results_ct rfl _ _ gb282 26 #[.bool t283, .int .u64 t284, .int .u64 t285, .int .i64 x8_3] (0, 0) _ rfl (tP BK282.out) Tryz.underlying26 rfl (by kernel_rfl)) rfl ?_
               exact ⟨by first | rfl | (simp [errW_none, errW_some] <;> rfl) | (simp only [← hji13]; first | rfl | (simp [errW_none, errW_some] <;> rfl)) | (simp [*, errW_none, errW_some] <;> rfl), tB HB.out⟩
              ·rw [if_neg c42] at H
               have c42b0 : (t289 == 0) = false := beq_eq_false_iff_ne.mpr c42
               have c42b1 : (t289 != 0) = true := bne_iff_ne.mpr c42
               simp only [Option.some.injEq, Prod.mk.injEq] at H
               obtain ⟨rfl, rfl, rfl, rfl, rfl⟩ := H
               have hnb52 := NB287_282.out
               have hnc52 := NB282_287.out
               obtain ⟨hcz53_0, hcz53_1, hcz53_2, hfz53_0, hfz53_1, hfz53_2⟩ := kY3 BK287.out
               go_wp2_with (first | ((with_reducible refine gD 10 rfl ?_); (try (refine gate_guard (by rfl) ?_; dsimp only)); refine bX 10 #[.bool false, .int .u64 0, .int .u64 0, .int .i64 0] 26 ?_; intro gb288 hg w54 hbox hb; have BK288 := aM hbox; have GW288 := gS hg HB.out; have GE288 := GW288; have NB282_288 := nB hg BK282.out; have NB288_282 := nS (nB hg BK282.out); have NB287_288 := nB hg BK287.out; have NB288_287 := nS (nB hg BK287.out); replace BK282 := kB BK282.out hb; replace BK287 := kB BK287.out hb; replace HB := bS HB.out hb; clear hb hbox hg; have hnb55 := NB288_282.out; have hnc55 := NB282_288.out; have hnb56 := NB288_287.out; have hnc56 := NB287_288.out; obtain ⟨hcz57_0, hcz57_1, hcz57_2, hcz57_3, hfz57_0, hfz57_1, hfz57_2, hfz57_3⟩ := kY4 BK288.out) | ((with_reducible refine gC 16 rfl ?_); refine gL (some 91) Tryz.func16 #[.agg #[.bool t283, .int .u64 t284, .int .u64 t285, .int .i64 x8_3]] ?_; (with_reducible refine (nameplateref05_Check.calls k3 t283 t284 t285 x8_3 t289 _ A41.out).mono ?_); rintro e w58 ⟨rfl, hb⟩; refine ⟨_, rfl, ?_⟩; replace BK282 := kP (o := .cells #[.bool x283000_3, .int .u64 x283001_3, .int .u64 x283002_3, .int .i64 x283003_3] 26 (0, 0)) BK282.out hb; replace BK287 := kP (o := .cells #[.bool t283, .int .u64 t284, .int .u64 t285] 24 (0, 0)) BK287.out hb; replace BK288 := kP (o := .cells #[.bool t283, .int .u64 t284, .int .u64 t285, .int .i64 x8_3] 26 (0, 0)) BK288.out hb; replace HB := bS HB.out hb; (try clear hb); obtain ⟨hcz59_0, hcz59_1, hcz59_2, hcz59_3, hfz59_0, hfz59_1, hfz59_2, hfz59_3⟩ := kY4 BK282.out))
               refine bodyPost_ret (results_ct rfl _ _ gb282 26 #[.bool false, .int .u64 0, .int .u64 0, .int .i64 0] (0, 0) _ rfl (tP BK282.out) Tryz.underlying26 rfl (by kernel_rfl)) rfl ?_
               exact ⟨by first | rfl | (simp [errW_none, errW_some] <;> rfl) | (simp only [← hji13]; first | rfl | (simp [errW_none, errW_some] <;> rfl)) | (simp [*, errW_none, errW_some] <;> rfl), tB HB.out⟩
       ·rw [if_neg c15] at H
        exact absurd H (by simp)
      ·rw [if_neg c14] at H
       exact absurd H (by simp)
     ·rw [if_neg c11] at H
      exact absurd H (by simp)
    ·rw [if_neg c10] at H
     exact absurd H (by simp)

def strings_Join.f (a0 : List ByteArray) (a1 : ByteArray) : Option ByteArray := if a0.length ≤ 100000 ∧ (Lib.join (a0.map (·.data.toList)) a1.data.toList).length ≤ 100000 then some (AddrLib.mkB (Lib.join (a0.map (·.data.toList)) a1.data.toList)) else none
theorem strings_Join.calls (A0 : Option Addr) (c0 : Nat) (l0 : List ByteArray) (a1 r : ByteArray) (w : World) (hr0 : Kd.C Kd.string w A0 l0.length l0) (hc0 : l0.length ≤ c0) (h : strings_Join.f l0 a1 = some r) :
  Calls Tryz.prog 53 #[.slice A0 l0.length c0, .string a1] w fun e w' => e = .returned (.string r) ∧ Below w.heap.size w w' := by
 unfold strings_Join.f at h
 by_cases c : l0.length ≤ 100000 ∧ (Lib.join (l0.map (·.data.toList)) a1.data.toList).length ≤ 100000
 ·rw [if_pos c] at h
  obtain rfl := Option.some.inj h
  exact AddrLib.join_row A0 c0 l0 a1 w hr0 hc0 c.1 c.2
 ·rw [if_neg c] at h; cases h




def strconv_FormatUint_78.f (a0 a1 : Int) : Option ByteArray := if a1 = 16 ∧ 0 ≤ a0 ∧ a0 ≤ 65535 then some (AddrLib.mkB (AddrLib.hexL a0.toNat)) else none
theorem strconv_FormatUint_78.calls (a0 a1 : Int) (r : ByteArray) (w : World) (hG_ : Aside0 (AddrLib.G w)) (h : strconv_FormatUint_78.f a0 a1 = some r) :
  Calls Tryz.prog 78 #[.int .u64 a0, .int .i64 a1] w fun e w' => e = .returned (.string r) ∧ Below w.heap.size w w' := by
 unfold strconv_FormatUint_78.f at h
 by_cases c : a1 = 16 ∧ 0 ≤ a0 ∧ a0 ≤ 65535
 ·rw [if_pos c] at h
  obtain rfl := Option.some.inj h
  obtain ⟨rfl, h0, h1⟩ := c
  have := AddrLib.fmt16 a0.toNat (by omega) w hG_.out
  rw [Int.toNat_of_nonneg h0] at this
  exact this
 ·rw [if_neg c] at h; cases h

/-! ### addr_join: function 56 -/
def addr_join.l0 : Nat → List ByteArray → List Int → Int → Int → Option (ByteArray)
 | 0, _, _, _, _ => none
 | k + 1, x3, x6, x7, x8 => if x8 < x7 then (if 0 ≤ x8 then (if x8 < (x6.length : Int) then ((strconv_FormatUint_78.f (IntKind.u64.wrap (rd x6 x8)) 16).bind fun t291 => (if x3.length < 8796093022208 then (addr_join.l0 k (x3 ++ [t291]) x6 x7 (wrap64 (x8 + 1))) else (none))) else (none)) else (none)) else ((strings_Join.f x3 (⟨#[58]⟩ : ByteArray)).bind fun t295 => (some t295))
def addr_join.f (k : Nat) (l0 : List Int) : Option (ByteArray) := addr_join.l0 k ([] : List ByteArray) l0 (l0.length : Int) 0
theorem addr_join.mono_l : ∀ k, (∀ y0 y1 y2 y3, LeO (addr_join.l0 k y0 y1 y2 y3) (addr_join.l0 (k + 1) y0 y1 y2 y3))
 | 0 => fun _ _ _ _ r h => by simp [addr_join.l0] at h
 | k + 1 => by
  have ih0 := addr_join.mono_l k
  ·intro y0 y1 y2 y3
   unfold addr_join.l0
   repeat' first | (with_reducible first | apply ih0 | exact LeO.refl _ | exact LeO.none _ | refine LeO.ite ?_ ?_ | refine LeO.bind ?_ (fun _ => ?_)) | apply ih0 | exact LeO.none _ | refine LeO.ite ?_ ?_ | refine LeO.bind ?_ (fun _ => ?_)
theorem addr_join.mono : ∀ a0 k, LeO (addr_join.f k a0) (addr_join.f (k + 1) a0) := by
 intro a0 k
 have ih0 := addr_join.mono_l k
 unfold addr_join.f
 repeat' first | (with_reducible first | apply ih0 | exact LeO.refl _ | exact LeO.none _ | refine LeO.ite ?_ ?_ | refine LeO.bind ?_ (fun _ => ?_)) | apply ih0 | exact LeO.none _ | refine LeO.ite ?_ ?_ | refine LeO.bind ?_ (fun _ => ?_)
set_option maxHeartbeats 8000000 in
set_option maxRecDepth 100000 in
theorem addr_join.calls (k : Nat) (A0 : Option Addr) (c0 : Nat) (l0 : List Int) (r : ByteArray) (w : World) (hG_ : Aside0 (AddrLib.G w)) (hr0 : Kd.C (Kd.int .u16) w A0 l0.length l0) (hc0 : l0.length ≤ c0) (h : addr_join.f k l0 = some r) :
  Calls Tryz.prog 56 #[.slice A0 l0.length c0] w fun e w' => e = .returned (.string r) ∧ Below w.heap.size w w' := by
 have HR0 := aM hr0
 have HC0 := aM hc0
 clear hr0 hc0
 have HB := aM (Below.refl w.heap.size w)
 have H : (addr_join.l0 k ([] : List ByteArray) l0 (l0.length : Int) 0) = some r := h
 clear h
 have H' := aM H
 clear H
 go_enter Tryz.func56, Tryz.ntmps56
 go_wp2
 go_loopg [3, 8] k (fun kq v3 v8 w' => ∃ (x3_1 : List ByteArray) (x8_1 : Int), v8 = .int .i64 x8_1 ∧ Aside0 (addr_join.l0 kq x3_1 l0 (l0.length : Int) x8_1 = some r) ∧ Aside0 (kq ≤ k) ∧ Aside0 (Kd.R Kd.string 9 w' w.heap.size (fun _ => True) v3 x3_1) ∧ Aside0 (Below w.heap.size w w'))
 case atStart => exact ⟨(([] : List ByteArray)), (0), tF, H', ⟨Nat.le_refl _⟩, ⟨by first | exact Kd.R_nil _ _ _ _ _ | exact Kd.N_nil _ _ _ _ _ | exact Kd.V_nil _ _ _ _ _ | exact Kd.Q_nil _ _ _ _ _ | exact Kd.S_nil _ _ _ _ _⟩, ⟨tB HB.out⟩⟩
 case round =>
  clear H'
  obtain ⟨x3_1, x8_1, rfl, HA, HK1, HO_3, HB⟩ := hrel
  cases gk with
  | zero => exact absurd HA.out (by simp [addr_join.l0])
  | succ k1 =>
   have H := HA.out
   clear HA
   simp only [addr_join.l0] at H
   by_cases c2 : x8_1 < (l0.length : Int)
   ·rw [if_pos c2] at H
    have c2b0 : decide (x8_1 < (l0.length : Int)) = true := decide_eq_true c2
    clear c2
    by_cases c3 : 0 ≤ x8_1
    ·rw [if_pos c3] at H
     have c3b0 : decide (0 ≤ x8_1) = true := decide_eq_true c3
     clear c3
     by_cases c4 : x8_1 < (l0.length : Int)
     ·rw [if_pos c4] at H
      have c4b0 : decide (x8_1 < (l0.length : Int)) = true := decide_eq_true c4
      clear c4
      obtain ⟨t291, A5, H⟩ := oB H
      try dsimp only at H
      by_cases c6 : x3_1.length < 8796093022208
      ·rw [if_pos c6] at H
       have LMc6 := aM c6
       clear c6
       obtain ⟨y292, hy292⟩ : ∃ y_ : List ByteArray, y_ = (x3_1 ++ [t291]) := ⟨_, rfl⟩
       replace H : (addr_join.l0 k1 y292 l0 (l0.length : Int) (wrap64 (x8_1 + 1))) = some r := by first | (rw [hy292]; with_reducible exact H) | (have H2_ := (Option.bind_some _ _).symm.trans H; rw [hy292]; with_reducible exact H2_) | (have H2_ := (Option.bind_some _ _).symm.trans H; with_reducible exact H2_) | with_reducible exact H | (rw [hy292]; exact H) | exact H
       have Ny292 := aM hy292
       clear hy292
       have H' := aM H
       clear H
       have p290 : 0 ≤ (x8_1 : Int) := of_decide_eq_true (by first | (with_reducible assumption) | assumption)
       have q290 : x8_1 < (l0.length : Int) := of_decide_eq_true (by first | (with_reducible assumption) | assumption)
       obtain ⟨ad290, e290, hx290_0⟩ := Kd.at_int HR0.out x8_1 p290 q290
       cases e290
       replace hx290_0 := (HB.out.cell (World.block_lt_of_cell? w _ hx290_0)).trans hx290_0
       replace p290 := eq_true p290
       replace q290 := eq_true q290
       go_wp2_with (first | ((with_reducible refine gC 78 rfl ?_); refine gL (some 15) Tryz.func78 #[.int .u64 (IntKind.u64.wrap (rd l0 x8_1)), .int .i64 16] ?_; (with_reducible refine (strconv_FormatUint_78.calls (IntKind.u64.wrap (rd l0 x8_1)) 16 t291 _ ⟨hG_.out.below (tG HB.out)⟩ A5.out).mono ?_); rintro e w7 ⟨rfl, hb⟩; refine ⟨_, rfl, ?_⟩; replace HO_3 := aM (Kd.R_below (tR HO_3.out) hb); replace HB := bS HB.out hb; (try clear hb)) | ((with_reducible refine gate_builtin (b := .append) (xs := #[.tmp 12, .tmp 16]) rfl ?_); at_builtin; refine Kd.R_append Kd.string (w0 := w) w.heap.size rfl (.tmp 12) (.tmp 16) 75 9 (.string ⟨#[]⟩) 16 rfl Tryz.underlying75 info9 rfl (by decide) (by omega) u3 x3_1 t291 [.string t291] (fun _ => True) (fun _ => False) rfl rfl ?aP (fun _ hk => hk.elim) ?aF ?aO ?aB ?aS ?aL ?_; (case aP => exact rfl); (case aB => exact (tB HB.out)); (case aF => exact (fun _ _ => trivial)); (case aO => exact (tR HO_3.out)); (case aS => exact (below_size (tB HB.out))); (case aL => have := LMc6.out; omega); intro v293 w8 ho hb hg hat; rw [← Ny292.out] at ho; have HO294 := aM ho; replace HB := aM hb; clear HO_3; clear ho hb hg hat))
       go_roundg k1
       case measure => have := HK1.out; omega
       case rel => exact ⟨(y292), (wrap64 (x8_1 + 1)), tF, H', ⟨by have := HK1.out; omega⟩, ⟨tR HO294.out⟩, ⟨tB HB.out⟩⟩
      ·rw [if_neg c6] at H
       exact absurd H (by simp)
     ·rw [if_neg c4] at H
      exact absurd H (by simp)
    ·rw [if_neg c3] at H
     exact absurd H (by simp)
   ·rw [if_neg c2] at H
    have c2b0 : decide (x8_1 < (l0.length : Int)) = false := decide_eq_false c2
    clear c2
    obtain ⟨t295, A9, H⟩ := oB H
    try dsimp only at H
    obtain rfl := Option.some.inj H
    obtain ⟨Ao10, co10, eo10⟩ := Kd.R_slice HO_3.out
    subst eo10
    go_wp2_with (first | ((with_reducible refine gC 53 rfl ?_); refine gL (some 20) Tryz.func53 #[.slice Ao10 x3_1.length co10, .string (⟨#[58]⟩ : ByteArray)] ?_; (with_reducible refine (strings_Join.calls _ _ x3_1 (⟨#[58]⟩ : ByteArray) t295 _ ?side1 ?side2 A9.out).mono ?_); (case side1 => exact tC (Kd.R_reads' HO_3.out).2.2); (case side2 => exact (Kd.R_reads' HO_3.out).2.1); rintro e w11 ⟨rfl, hb⟩; refine ⟨_, rfl, ?_⟩; replace HO_3 := aM (Kd.R_below (tR HO_3.out) hb); replace HB := bS HB.out hb; (try clear hb)))
    go_ret
    exact ⟨tE, tB HB.out⟩

def addr_Text.f (k : Nat) (a0_0 : Bool) (a0_1 a0_2 : Int) : Option (ByteArray × Int) := AddrLib.textF addr_Check.f (addr_join.f k) a0_0 a0_1 a0_2
theorem addr_Text.calls (k : Nat) (a0_0 : Bool) (a0_1 a0_2 : Int) (r1 : ByteArray) (r2 : Int) (w : World) (hG_ : Aside0 (AddrLib.G w)) (h : addr_Text.f k a0_0 a0_1 a0_2 = some (r1, r2)) :
  Calls Tryz.prog 29 #[.agg #[.bool a0_0, .int .u64 a0_1, .int .u64 a0_2]] w fun e w' => e = .returned (.tuple #[.string r1, .int .i64 r2]) ∧ Below w.heap.size w w' :=
 AddrLib.text_calls addr_Check.f (addr_join.f k) (fun b x y e w h => addr_Check.calls b x y e w h) (fun A c l r w hr hc hg h => addr_join.calls k A c l r w ⟨hg⟩ hr hc h) a0_0 a0_1 a0_2 (r1, r2) h w hG_.out
theorem addr_Text.mono : ∀ a0_0 a0_1 a0_2 k, LeO (addr_Text.f k a0_0 a0_1 a0_2) (addr_Text.f (k + 1) a0_0 a0_1 a0_2) := fun a b c k => AddrLib.textF_mono (fun l => addr_join.mono l k) a b c

end Go.Proofs.YtbalmnkbodcigaaGreatDoor.ORc
namespace Go.Proofs.YtbalmnkbodcigaaGreatDoor.ORc
open Go.RowKit Go.Proofs.YtbalmnkbodcigaaGreatDoorW.PrintWords Go.Proofs.YtbalmnkbodcigaaGreatDoorW.PrintLast Go.Proofs.YtbalmnkbodcigaaGreatDoorW.PrintMore
attribute [local go_sem] max2_int min2_int max_two min_two max_three min_three max_four min_four   -- for this text's walks alone
set_option linter.unusedVariables false
set_option linter.unusedSimpArgs false

/-! ### ranges_Text: function 7 -/
def ranges_Text.f (k : Nat) (a0_0 : Bool) (a0_1 : Int) (a0_2 : Int) (a0_3 : Int) : Option (ByteArray × Int) := (ranges_Check.f a0_0 a0_1 a0_2 a0_3).bind fun t297 => (if t297 = 0 then ((addr_Text.f k a0_0 a0_1 a0_2).bind fun bt298 => (if bt298.1.size + 1 ≤ 9223372036854775807 then ((strconv_Itoa_30.f a0_3).bind fun t300 => (if (bt298.1 ++ (⟨#[47]⟩ : ByteArray)).size + t300.size ≤ 9223372036854775807 then (some ((bt298.1 ++ (⟨#[47]⟩ : ByteArray)) ++ t300, 0)) else (none))) else (none))) else (some ((⟨#[]⟩ : ByteArray), t297)))
theorem ranges_Text.mono : ∀ a0 a1 a2 a3 k, LeO (ranges_Text.f k a0 a1 a2 a3) (ranges_Text.f (k + 1) a0 a1 a2 a3) := by
 intro a0 a1 a2 a3 k
 unfold ranges_Text.f
 repeat' first | (with_reducible first | apply addr_Text.mono | exact LeO.refl _ | exact LeO.none _ | refine LeO.ite ?_ ?_ | refine LeO.bind ?_ (fun _ => ?_)) | apply addr_Text.mono | exact LeO.none _ | refine LeO.ite ?_ ?_ | refine LeO.bind ?_ (fun _ => ?_)
set_option maxHeartbeats 8000000 in
set_option maxRecDepth 100000 in
theorem ranges_Text.calls (k : Nat) (a0_0 : Bool) (a0_1 : Int) (a0_2 : Int) (a0_3 : Int) (r1 : ByteArray) (r2 : Int) (w : World) (hG_ : Aside0 (AddrLib.G w)) (h : ranges_Text.f k a0_0 a0_1 a0_2 a0_3 = some (r1, r2)) :
  Calls Tryz.prog 7 #[.agg #[.bool a0_0, .int .u64 a0_1, .int .u64 a0_2, .int .i64 a0_3]] w fun e w' => e = .returned (.tuple #[.string r1, .int .i64 r2]) ∧ Below w.heap.size w w' := by
 have hu26 := Tryz.underlying26
 have hu24 := Tryz.underlying24
 have HB := aM (Below.refl w.heap.size w)
 have H : ((ranges_Check.f a0_0 a0_1 a0_2 a0_3).bind fun t297 => (if t297 = 0 then ((addr_Text.f k a0_0 a0_1 a0_2).bind fun bt298 => (if bt298.1.size + 1 ≤ 9223372036854775807 then ((strconv_Itoa_30.f a0_3).bind fun t300 => (if (bt298.1 ++ (⟨#[47]⟩ : ByteArray)).size + t300.size ≤ 9223372036854775807 then (some ((bt298.1 ++ (⟨#[47]⟩ : ByteArray)) ++ t300, 0)) else (none))) else (none))) else (some ((⟨#[]⟩ : ByteArray), t297)))) = some (r1, r2) := h
 clear h
 obtain ⟨t297, A2, H⟩ := oB H
 try dsimp only at H
 by_cases c3 : t297 = 0
 ·rw [if_pos c3] at H
  have c3b0 : (t297 == 0) = true := beq_iff_eq.mpr c3
  have c3b1 : (t297 != 0) = false := bne_eq_false_iff_eq.mpr c3
  clear c3
  obtain ⟨⟨t298, t299⟩, A4, H⟩ := oB H
  try dsimp only at H
  by_cases c5 : t298.size + 1 ≤ 9223372036854775807
  ·rw [if_pos c5] at H
   have c5b0 := eq_true c5
   have c5b1 : decide (t298.size + 1 ≤ 9223372036854775807) = true := decide_eq_true c5
   try have c5b2 : (9223372036854775807 < t298.size + 1) = False := eq_false (Nat.not_lt.2 c5)
   obtain ⟨t300, A6, H⟩ := oB H
   try dsimp only at H
   by_cases c7 : (t298 ++ (⟨#[47]⟩ : ByteArray)).size + t300.size ≤ 9223372036854775807
   ·rw [if_pos c7] at H
    have c7b0 := eq_true c7
    try have c7b6 : (9223372036854775807 < t298.size + 1 + t300.size) = False := eq_false (by have hh_ := c7; have hz_ : (t298.size + (⟨#[47]⟩ : ByteArray).size + t300.size : Nat) = t298.size + 1 + t300.size := (by rfl); simp only [ByteArray.size_append] at hh_; omega)
    try have c7b5 : decide (t298.size + 1 + t300.size ≤ 9223372036854775807) = true := decide_eq_true (by have hh_ := c7; have hz_ : (t298.size + (⟨#[47]⟩ : ByteArray).size + t300.size : Nat) = t298.size + 1 + t300.size := (by rfl); simp only [ByteArray.size_append] at hh_; omega)
    try have c7b7 : (9223372036854775807 < t298.size + (⟨#[47]⟩ : ByteArray).size + t300.size) = False := eq_false (by have hh_ := c7; simp only [ByteArray.size_append] at hh_; omega)
    try have c7b8 : decide (t298.size + (⟨#[47]⟩ : ByteArray).size + t300.size ≤ 9223372036854775807) = true := decide_eq_true (by have hh_ := c7; simp only [ByteArray.size_append] at hh_; omega)
    have c7b1 : decide ((t298 ++ (⟨#[47]⟩ : ByteArray)).size + t300.size ≤ 9223372036854775807) = true := decide_eq_true c7
    try have c7b2 : (9223372036854775807 < (t298 ++ (⟨#[47]⟩ : ByteArray)).size + t300.size) = False := eq_false (Nat.not_lt.2 c7)
    simp only [Option.some.injEq, Prod.mk.injEq] at H
    obtain ⟨rfl, rfl⟩ := H
    go_enter Tryz.func7, Tryz.ntmps7
    go_wp2_with (first | ((with_reducible refine gD 1 rfl ?_); refine bX 1 #[.bool a0_0, .int .u64 a0_1, .int .u64 a0_2, .int .i64 a0_3] 26 ?_; intro gb296 hg w8 hbox hb; have BK296 := aM hbox; have GW296 := gS hg HB.out; have GE296 := GW296; replace HB := bS HB.out hb; clear hb hbox hg; obtain ⟨hcz9_0, hcz9_1, hcz9_2, hcz9_3, hfz9_0, hfz9_1, hfz9_2, hfz9_3⟩ := kY4 BK296.out) | ((with_reducible refine gC 15 rfl ?_); refine gL (some 8) Tryz.func15 #[.agg #[.bool a0_0, .int .u64 a0_1, .int .u64 a0_2, .int .i64 a0_3]] ?_; (with_reducible refine (ranges_Check.calls a0_0 a0_1 a0_2 a0_3 t297 _ A2.out).mono ?_); rintro e w10 ⟨rfl, hb⟩; refine ⟨_, rfl, ?_⟩; replace BK296 := kB BK296.out hb; replace HB := bS HB.out hb; (try clear hb); obtain ⟨hcz11_0, hcz11_1, hcz11_2, hcz11_3, hfz11_0, hfz11_1, hfz11_2, hfz11_3⟩ := kY4 BK296.out) | ((with_reducible refine gC 29 rfl ?_); refine gL (some 15) Tryz.func29 #[.agg #[.bool a0_0, .int .u64 a0_1, .int .u64 a0_2]] ?_; (with_reducible refine (addr_Text.calls k a0_0 a0_1 a0_2 t298 t299 _ ⟨hG_.out.below (tG HB.out)⟩ A4.out).mono ?_); rintro e w12 ⟨rfl, hb⟩; refine ⟨_, rfl, ?_⟩; replace BK296 := kB BK296.out hb; replace HB := bS HB.out hb; (try clear hb); obtain ⟨hcz13_0, hcz13_1, hcz13_2, hcz13_3, hfz13_0, hfz13_1, hfz13_2, hfz13_3⟩ := kY4 BK296.out) | ((with_reducible refine gC 30 rfl ?_); refine gL (some 22) Tryz.func30 #[.int .i64 a0_3] ?_; (with_reducible refine (strconv_Itoa_30.calls a0_3 t300 _ ⟨hG_.out.below (tG HB.out)⟩ A6.out).mono ?_); rintro e w14 ⟨rfl, hb⟩; refine ⟨_, rfl, ?_⟩; replace BK296 := kB BK296.out hb; replace HB := bS HB.out hb; (try clear hb)))
    go_ret2
    exact ⟨tE, tB HB.out⟩
   ·rw [if_neg c7] at H
    exact absurd H (by simp)
  ·rw [if_neg c5] at H
   exact absurd H (by simp)
 ·rw [if_neg c3] at H
  have c3b0 : (t297 == 0) = false := beq_eq_false_iff_ne.mpr c3
  have c3b1 : (t297 != 0) = true := bne_iff_ne.mpr c3
  simp only [Option.some.injEq, Prod.mk.injEq] at H
  obtain ⟨rfl, rfl⟩ := H
  go_enter Tryz.func7, Tryz.ntmps7
  go_wp2_with (first | ((with_reducible refine gD 1 rfl ?_); refine bX 1 #[.bool a0_0, .int .u64 a0_1, .int .u64 a0_2, .int .i64 a0_3] 26 ?_; intro gb296 hg w15 hbox hb; have BK296 := aM hbox; have GW296 := gS hg HB.out; have GE296 := GW296; replace HB := bS HB.out hb; clear hb hbox hg; obtain ⟨hcz16_0, hcz16_1, hcz16_2, hcz16_3, hfz16_0, hfz16_1, hfz16_2, hfz16_3⟩ := kY4 BK296.out) | ((with_reducible refine gC 15 rfl ?_); refine gL (some 8) Tryz.func15 #[.agg #[.bool a0_0, .int .u64 a0_1, .int .u64 a0_2, .int .i64 a0_3]] ?_; (with_reducible refine (ranges_Check.calls a0_0 a0_1 a0_2 a0_3 t297 _ A2.out).mono ?_); rintro e w17 ⟨rfl, hb⟩; refine ⟨_, rfl, ?_⟩; replace BK296 := kB BK296.out hb; replace HB := bS HB.out hb; (try clear hb)))
  go_ret2
  exact ⟨tE, tB HB.out⟩

/-! ### nameplateref04_digits: function 58 -/
def nameplateref04_digits.f : Nat → Int → Int → Option (ByteArray)
 | 0, _, _ => none
 | k + 1, a0, a1 => if a1 = 0 then (none) else (if 0 ≤ (Int.tmod a0 a1) then (if (Int.tmod a0 a1) ≤ (IntKind.u64.wrap ((Int.tmod a0 a1) + 1)) then (if (IntKind.u64.wrap ((Int.tmod a0 a1) + 1)) ≤ 16 then (if a0 < a1 then (some ((⟨#[48, 49, 50, 51, 52, 53, 54, 55, 56, 57, 97, 98, 99, 100, 101, 102]⟩ : ByteArray).extract ((Int.tmod a0 a1) : Int).toNat ((IntKind.u64.wrap ((Int.tmod a0 a1) + 1)) : Int).toNat)) else ((nameplateref04_digits.f k (IntKind.u64.wrap (Int.tdiv a0 a1)) a1).bind fun t301 => (if t301.size + ((⟨#[48, 49, 50, 51, 52, 53, 54, 55, 56, 57, 97, 98, 99, 100, 101, 102]⟩ : ByteArray).extract ((Int.tmod a0 a1) : Int).toNat ((IntKind.u64.wrap ((Int.tmod a0 a1) + 1)) : Int).toNat).size ≤ 9223372036854775807 then (some (t301 ++ ((⟨#[48, 49, 50, 51, 52, 53, 54, 55, 56, 57, 97, 98, 99, 100, 101, 102]⟩ : ByteArray).extract ((Int.tmod a0 a1) : Int).toNat ((IntKind.u64.wrap ((Int.tmod a0 a1) + 1)) : Int).toNat))) else (none)))) else (none)) else (none)) else (none))
theorem nameplateref04_digits.mono_l : ∀ k, (∀ y0 y1, LeO (nameplateref04_digits.f k y0 y1) (nameplateref04_digits.f (k + 1) y0 y1))
 | 0 => fun _ _ r h => by simp [nameplateref04_digits.f] at h
 | k + 1 => by
  have ih0 := nameplateref04_digits.mono_l k
  ·intro y0 y1
   unfold nameplateref04_digits.f
   repeat' first | (with_reducible first | apply ih0 | exact LeO.refl _ | exact LeO.none _ | refine LeO.ite ?_ ?_ | refine LeO.bind ?_ (fun _ => ?_)) | apply ih0 | exact LeO.none _ | refine LeO.ite ?_ ?_ | refine LeO.bind ?_ (fun _ => ?_)
theorem nameplateref04_digits.mono : ∀ a0 a1 k, LeO (nameplateref04_digits.f k a0 a1) (nameplateref04_digits.f (k + 1) a0 a1) := by
 intro a0 a1 k
 have ih0 := nameplateref04_digits.mono_l k
 exact ih0 a0 a1
set_option maxHeartbeats 8000000 in
set_option maxRecDepth 100000 in
theorem nameplateref04_digits.calls (k : Nat) : ∀ (a0 : Int) (a1 : Int) (r : ByteArray) (w : World) (h : nameplateref04_digits.f k a0 a1 = some r),
  Calls Tryz.prog 58 #[.int .u64 a0, .int .u64 a1] w fun e w' => e = .returned (.string r) ∧ Drawn0 w w' := by
 induction k using Nat.strongRecOn with
 | _ k ih =>
 intro a0 a1 r w h
 cases k with
 | zero => exact absurd h (by simp [nameplateref04_digits.f])
 | succ k =>
 simp only [nameplateref04_digits.f] at h
 have H : (if a1 = 0 then (none) else (if 0 ≤ (Int.tmod a0 a1) then (if (Int.tmod a0 a1) ≤ (IntKind.u64.wrap ((Int.tmod a0 a1) + 1)) then (if (IntKind.u64.wrap ((Int.tmod a0 a1) + 1)) ≤ 16 then (if a0 < a1 then (some ((⟨#[48, 49, 50, 51, 52, 53, 54, 55, 56, 57, 97, 98, 99, 100, 101, 102]⟩ : ByteArray).extract ((Int.tmod a0 a1) : Int).toNat ((IntKind.u64.wrap ((Int.tmod a0 a1) + 1)) : Int).toNat)) else ((nameplateref04_digits.f k (IntKind.u64.wrap (Int.tdiv a0 a1)) a1).bind fun t301 => (if t301.size + ((⟨#[48, 49, 50, 51, 52, 53, 54, 55, 56, 57, 97, 98, 99, 100, 101, 102]⟩ : ByteArray).extract ((Int.tmod a0 a1) : Int).toNat ((IntKind.u64.wrap ((Int.tmod a0 a1) + 1)) : Int).toNat).size ≤ 9223372036854775807 then (some (t301 ++ ((⟨#[48, 49, 50, 51, 52, 53, 54, 55, 56, 57, 97, 98, 99, 100, 101, 102]⟩ : ByteArray).extract ((Int.tmod a0 a1) : Int).toNat ((IntKind.u64.wrap ((Int.tmod a0 a1) + 1)) : Int).toNat))) else (none)))) else (none)) else (none)) else (none))) = some r := h
 clear h
 by_cases c3 : a1 = 0
 ·rw [if_pos c3] at H
  exact absurd H (by simp)
 ·rw [if_neg c3] at H
  have c3b0 : (a1 == 0) = false := beq_eq_false_iff_ne.mpr c3
  have c3b1 : (a1 != 0) = true := bne_iff_ne.mpr c3
  obtain ⟨ji4, hji4⟩ : ∃ j_ : Int, (Int.tmod a0 a1) = j_ := ⟨_, rfl⟩
  replace H : (if 0 ≤ (ji4) then (if (ji4) ≤ (IntKind.u64.wrap ((ji4) + 1)) then (if (IntKind.u64.wrap ((ji4) + 1)) ≤ 16 then (if a0 < a1 then (some ((⟨#[48, 49, 50, 51, 52, 53, 54, 55, 56, 57, 97, 98, 99, 100, 101, 102]⟩ : ByteArray).extract ((ji4) : Int).toNat ((IntKind.u64.wrap ((ji4) + 1)) : Int).toNat)) else ((nameplateref04_digits.f k (IntKind.u64.wrap (Int.tdiv a0 a1)) a1).bind fun t301 => (if t301.size + ((⟨#[48, 49, 50, 51, 52, 53, 54, 55, 56, 57, 97, 98, 99, 100, 101, 102]⟩ : ByteArray).extract ((ji4) : Int).toNat ((IntKind.u64.wrap ((ji4) + 1)) : Int).toNat).size ≤ 9223372036854775807 then (some (t301 ++ ((⟨#[48, 49, 50, 51, 52, 53, 54, 55, 56, 57, 97, 98, 99, 100, 101, 102]⟩ : ByteArray).extract ((ji4) : Int).toNat ((IntKind.u64.wrap ((ji4) + 1)) : Int).toNat))) else (none)))) else (none)) else (none)) else (none)) = some r := by first | (rw [hji4] at H; exact H) | (simp only [hji4] at H ⊢; exact H)
  by_cases c5 : 0 ≤ (ji4)
  ·rw [if_pos c5] at H
   have c5b0 := eq_true c5
   have c5b1 : decide (0 ≤ (ji4)) = true := decide_eq_true c5
   clear c5
   by_cases c6 : (ji4) ≤ (IntKind.u64.wrap ((ji4) + 1))
   ·rw [if_pos c6] at H
    have c6b0 := eq_true c6
    have c6b1 : decide ((ji4) ≤ (IntKind.u64.wrap ((ji4) + 1))) = true := decide_eq_true c6
    by_cases c7 : (IntKind.u64.wrap ((ji4) + 1)) ≤ 16
    ·rw [if_pos c7] at H
     have c7b0 := eq_true c7
     have c7b1 : decide ((IntKind.u64.wrap ((ji4) + 1)) ≤ 16) = true := decide_eq_true c7
     by_cases c8 : a0 < a1
     ·rw [if_pos c8] at H
      have c8b0 : decide (a0 < a1) = true := decide_eq_true c8
      clear c8
      obtain rfl := Option.some.inj H
      go_enter Tryz.func58, Tryz.ntmps58
      go_wp2
      repeat (go_quiet (fail); try go_wp2)
      go_ret
      exact ⟨by first | rfl | (simp; done) | (simp only [← hji4] <;> (first | rfl | simp)) | (simp [*]; done), by repeat (first | exact Drawn0.refl _ | apply Drawn0.step)⟩
     ·rw [if_neg c8] at H
      have c8b0 : decide (a0 < a1) = false := decide_eq_false c8
      clear c8
      obtain ⟨t301, A9, H⟩ := oB H
      try dsimp only at H
      by_cases c10 : t301.size + ((⟨#[48, 49, 50, 51, 52, 53, 54, 55, 56, 57, 97, 98, 99, 100, 101, 102]⟩ : ByteArray).extract ((ji4) : Int).toNat ((IntKind.u64.wrap ((ji4) + 1)) : Int).toNat).size ≤ 9223372036854775807
      ·rw [if_pos c10] at H
       have c10b0 := eq_true c10
       have c10b1 : decide (t301.size + ((⟨#[48, 49, 50, 51, 52, 53, 54, 55, 56, 57, 97, 98, 99, 100, 101, 102]⟩ : ByteArray).extract ((ji4) : Int).toNat ((IntKind.u64.wrap ((ji4) + 1)) : Int).toNat).size ≤ 9223372036854775807) = true := decide_eq_true c10
       try have c10b2 : (9223372036854775807 < t301.size + ((⟨#[48, 49, 50, 51, 52, 53, 54, 55, 56, 57, 97, 98, 99, 100, 101, 102]⟩ : ByteArray).extract ((ji4) : Int).toNat ((IntKind.u64.wrap ((ji4) + 1)) : Int).toNat).size) = False := eq_false (Nat.not_lt.2 c10)
       obtain rfl := Option.some.inj H
       go_enter Tryz.func58, Tryz.ntmps58
       go_wp2_with (first | (go_at_call 58; (with_reducible refine (ih k (by omega) (IntKind.u64.wrap (Int.tdiv a0 a1)) a1 t301 _ A9.out).mono ?_); rintro e w' ⟨rfl, ⟨nd, rfl⟩⟩; (try first | exact ⟨rfl, _, World.drewN_drewN _ _ _⟩ | exact ⟨rfl, _, Eq.trans (World.drewN_drewN _ _ _) (congrArg (World.drewN _) (Nat.add_assoc _ _ _))⟩)))
       repeat (go_quiet (first | (go_at_call 58; (with_reducible refine (ih k (by omega) (IntKind.u64.wrap (Int.tdiv a0 a1)) a1 t301 _ A9.out).mono ?_); rintro e w' ⟨rfl, ⟨nd, rfl⟩⟩; (try first | exact ⟨rfl, _, World.drewN_drewN _ _ _⟩ | exact ⟨rfl, _, Eq.trans (World.drewN_drewN _ _ _) (congrArg (World.drewN _) (Nat.add_assoc _ _ _))⟩))); try go_wp2_with (first | (go_at_call 58; (with_reducible refine (ih k (by omega) (IntKind.u64.wrap (Int.tdiv a0 a1)) a1 t301 _ A9.out).mono ?_); rintro e w' ⟨rfl, ⟨nd, rfl⟩⟩; (try first | exact ⟨rfl, _, World.drewN_drewN _ _ _⟩ | exact ⟨rfl, _, Eq.trans (World.drewN_drewN _ _ _) (congrArg (World.drewN _) (Nat.add_assoc _ _ _))⟩))))
       go_ret
       exact ⟨by first | rfl | (simp; done) | (simp only [← hji4] <;> (first | rfl | simp)) | (simp [*]; done), by repeat (first | exact Drawn0.refl _ | apply Drawn0.step)⟩
      ·rw [if_neg c10] at H
       exact absurd H (by simp)
    ·rw [if_neg c7] at H
     exact absurd H (by simp)
   ·rw [if_neg c6] at H
    exact absurd H (by simp)
  ·rw [if_neg c5] at H
   exact absurd H (by simp)

/-! ### nameplateref04_zeros: function 59 -/
mutual
def nameplateref04_zeros.l0 : Nat → List Int → Int → Int → Int → Option (Int × Int)
 | 0, _, _, _, _ => none
 | k + 1, x0, x4, x5, x6 => if x6 < 8 then (nameplateref04_zeros.l1 k x0 x4 x5 x6 0) else (some (x4, x5))
def nameplateref04_zeros.l1 : Nat → List Int → Int → Int → Int → Int → Option (Int × Int)
 | 0, _, _, _, _, _ => none
 | k + 1, x0, x4, x5, x6, x7 => if (wrap64 (x6 + x7)) < 8 then (if 0 ≤ (wrap64 (x6 + x7)) then (if (wrap64 (x6 + x7)) < (x0.length : Int) then (if (rd x0 (wrap64 (x6 + x7))) = 0 then (nameplateref04_zeros.l1 k x0 x4 x5 x6 (wrap64 (x7 + 1))) else (if x7 > x5 then (nameplateref04_zeros.l0 k x0 x6 x7 (wrap64 (x6 + 1))) else (nameplateref04_zeros.l0 k x0 x4 x5 (wrap64 (x6 + 1))))) else (none)) else (none)) else (if x7 > x5 then (nameplateref04_zeros.l0 k x0 x6 x7 (wrap64 (x6 + 1))) else (nameplateref04_zeros.l0 k x0 x4 x5 (wrap64 (x6 + 1))))
end
def nameplateref04_zeros.f (k : Nat) (l0 : List Int) : Option (Int × Int) := nameplateref04_zeros.l0 k l0 0 0 0
theorem nameplateref04_zeros.mono_l : ∀ k, (∀ y0 y1 y2 y3, LeO (nameplateref04_zeros.l0 k y0 y1 y2 y3) (nameplateref04_zeros.l0 (k + 1) y0 y1 y2 y3)) ∧ (∀ y0 y1 y2 y3 y4, LeO (nameplateref04_zeros.l1 k y0 y1 y2 y3 y4) (nameplateref04_zeros.l1 (k + 1) y0 y1 y2 y3 y4))
 | 0 => ⟨fun _ _ _ _ r h => by simp [nameplateref04_zeros.l0] at h, fun _ _ _ _ _ r h => by simp [nameplateref04_zeros.l1] at h⟩
 | k + 1 => by
  obtain ⟨ih0, ih1⟩ := nameplateref04_zeros.mono_l k
  refine ⟨?_, ?_⟩
  ·intro y0 y1 y2 y3
   unfold nameplateref04_zeros.l0
   repeat' first | (with_reducible first | apply ih0 | apply ih1 | exact LeO.refl _ | exact LeO.none _ | refine LeO.ite ?_ ?_ | refine LeO.bind ?_ (fun _ => ?_)) | apply ih0 | apply ih1 | exact LeO.none _ | refine LeO.ite ?_ ?_ | refine LeO.bind ?_ (fun _ => ?_)
  ·intro y0 y1 y2 y3 y4
   unfold nameplateref04_zeros.l1
   repeat' first | (with_reducible first | apply ih0 | apply ih1 | exact LeO.refl _ | exact LeO.none _ | refine LeO.ite ?_ ?_ | refine LeO.bind ?_ (fun _ => ?_)) | apply ih0 | apply ih1 | exact LeO.none _ | refine LeO.ite ?_ ?_ | refine LeO.bind ?_ (fun _ => ?_)
theorem nameplateref04_zeros.mono : ∀ a0 k, LeO (nameplateref04_zeros.f k a0) (nameplateref04_zeros.f (k + 1) a0) := by
 intro a0 k
 obtain ⟨ih0, ih1⟩ := nameplateref04_zeros.mono_l k
 unfold nameplateref04_zeros.f
 repeat' first | (with_reducible first | apply ih0 | apply ih1 | exact LeO.refl _ | exact LeO.none _ | refine LeO.ite ?_ ?_ | refine LeO.bind ?_ (fun _ => ?_)) | apply ih0 | apply ih1 | exact LeO.none _ | refine LeO.ite ?_ ?_ | refine LeO.bind ?_ (fun _ => ?_)
set_option maxHeartbeats 8000000 in
set_option maxRecDepth 100000 in
theorem nameplateref04_zeros.calls (k : Nat) (A0 : Option Addr) (c0 : Nat) (l0 : List Int) (r1 : Int) (r2 : Int) (w : World) (hr0 : Kd.C (Kd.int .u64) w A0 l0.length l0) (hc0 : l0.length ≤ c0) (h : nameplateref04_zeros.f k l0 = some (r1, r2)) :
  Calls Tryz.prog 59 #[.slice A0 l0.length c0] w fun e w' => e = .returned (.tuple #[.int .i64 r1, .int .i64 r2]) ∧ Drawn0 w w' := by
 have HR0 := aM hr0
 have HC0 := aM hc0
 clear hr0 hc0
 have H : (nameplateref04_zeros.l0 k l0 0 0 0) = some (r1, r2) := h
 clear h
 have H' := aM H
 clear H
 go_enter Tryz.func59, Tryz.ntmps59
 go_wp2
 go_loopg [4, 5, 6] k (fun kq v4 v5 v6 w' => ∃ (x4_1 : Int) (x5_1 : Int) (x6_1 : Int), v4 = .int .i64 x4_1 ∧ v5 = .int .i64 x5_1 ∧ v6 = .int .i64 x6_1 ∧ Aside0 (nameplateref04_zeros.l0 kq l0 x4_1 x5_1 x6_1 = some (r1, r2)) ∧ Aside0 (kq ≤ k) ∧ Drawn0 w w')
 case atStart => exact ⟨(0), (0), (0), tF, tF, tF, H', ⟨Nat.le_refl _⟩, by repeat (first | exact Drawn0.refl _ | apply Drawn0.step)⟩
 case round =>
  clear H'
  obtain ⟨x4_1, x5_1, x6_1, rfl, rfl, rfl, HA, HK1, ⟨m1, rfl⟩⟩ := hrel
  cases gk with
  | zero => exact absurd HA.out (by simp [nameplateref04_zeros.l0])
  | succ k1 =>
   have H := HA.out
   clear HA
   simp only [nameplateref04_zeros.l0] at H
   by_cases c2 : x6_1 < 8
   ·rw [if_pos c2] at H
    have c2b0 : decide (x6_1 < 8) = true := decide_eq_true c2
    clear c2
    have H' := aM H
    clear H
    go_wp2
    go_loopg [7] k1 (fun kq v7 w' => ∃ (x7_2 : Int), v7 = .int .i64 x7_2 ∧ Aside0 (nameplateref04_zeros.l1 kq l0 x4_1 x5_1 x6_1 x7_2 = some (r1, r2)) ∧ Aside0 (kq ≤ k1) ∧ Drawn0 w w')
    case atStart => exact ⟨(0), tF, H', ⟨Nat.le_refl _⟩, by repeat (first | exact Drawn0.refl _ | apply Drawn0.step)⟩
    case round =>
     clear H'
     try clear c2
     try clear c2b0
     try clear p2
     obtain ⟨x7_2, rfl, HA, HK2, ⟨m2, rfl⟩⟩ := hrel
     cases gk with
     | zero => exact absurd HA.out (by simp [nameplateref04_zeros.l1])
     | succ k2 =>
      have H := HA.out
      clear HA
      simp only [nameplateref04_zeros.l1] at H
      by_cases c3 : (wrap64 (x6_1 + x7_2)) < 8
      ·rw [if_pos c3] at H
       have c3b0 : decide ((wrap64 (x6_1 + x7_2)) < 8) = true := decide_eq_true c3
       clear c3
       obtain ⟨ji4, hji4⟩ : ∃ j_ : Int, (wrap64 (x6_1 + x7_2)) = j_ := ⟨_, rfl⟩
       replace H : (if 0 ≤ (ji4) then (if (ji4) < (l0.length : Int) then (if (rd l0 (ji4)) = 0 then (nameplateref04_zeros.l1 k2 l0 x4_1 x5_1 x6_1 (wrap64 (x7_2 + 1))) else (if x7_2 > x5_1 then (nameplateref04_zeros.l0 k2 l0 x6_1 x7_2 (wrap64 (x6_1 + 1))) else (nameplateref04_zeros.l0 k2 l0 x4_1 x5_1 (wrap64 (x6_1 + 1))))) else (none)) else (none)) = some (r1, r2) := by first | (rw [hji4] at H; exact H) | (simp only [hji4] at H ⊢; exact H)
       (try rw [hji4] at c3b0)
       have hji4w : (IntKind.i64.wrap (x6_1 + x7_2)) = ji4 := (i64_w _).trans hji4
       by_cases c5 : 0 ≤ (ji4)
       ·rw [if_pos c5] at H
        have c5b0 : decide (0 ≤ (ji4)) = true := decide_eq_true c5
        clear c5
        by_cases c6 : (ji4) < (l0.length : Int)
        ·rw [if_pos c6] at H
         have c6b0 : decide ((ji4) < (l0.length : Int)) = true := decide_eq_true c6
         clear c6
         by_cases c7 : (rd l0 (ji4)) = 0
         ·rw [if_pos c7] at H
          have c7b0 : ((rd l0 (ji4)) == 0) = true := beq_iff_eq.mpr c7
          have c7b1 : ((rd l0 (ji4)) != 0) = false := bne_eq_false_iff_eq.mpr c7
          clear c7
          have H' := aM H
          clear H
          have p302 : 0 ≤ ((ji4) : Int) := of_decide_eq_true (by first | (with_reducible assumption) | assumption)
          have q302 : (ji4) < (l0.length : Int) := of_decide_eq_true (by first | (with_reducible assumption) | assumption)
          obtain ⟨ad302, e302, hx302_0⟩ := Kd.at_int HR0.out (ji4) p302 q302
          cases e302
          replace p302 := eq_true p302
          replace q302 := eq_true q302
          go_wp2
          go_roundg k2
          case measure => have := HK1.out; have := HK2.out; omega
          case rel => exact ⟨(wrap64 (x7_2 + 1)), tF, H', ⟨by have := HK1.out; have := HK2.out; omega⟩, by repeat (first | exact Drawn0.refl _ | apply Drawn0.step)⟩
         ·rw [if_neg c7] at H
          have c7b0 : ((rd l0 (ji4)) == 0) = false := beq_eq_false_iff_ne.mpr c7
          have c7b1 : ((rd l0 (ji4)) != 0) = true := bne_iff_ne.mpr c7
          by_cases c8 : x7_2 > x5_1
          ·rw [if_pos c8] at H
           have c8b0 : decide (x5_1 < x7_2) = true := decide_eq_true c8
           clear c8
           have H' := aM H
           clear H
           have p302 : 0 ≤ ((ji4) : Int) := of_decide_eq_true (by first | (with_reducible assumption) | assumption)
           have q302 : (ji4) < (l0.length : Int) := of_decide_eq_true (by first | (with_reducible assumption) | assumption)
           obtain ⟨ad302, e302, hx302_0⟩ := Kd.at_int HR0.out (ji4) p302 q302
           cases e302
           replace p302 := eq_true p302
           replace q302 := eq_true q302
           go_wp2
           go_roundg k2
           case measure => have := HK1.out; have := HK2.out; omega
           case rel => exact ⟨(x6_1), (x7_2), (wrap64 (x6_1 + 1)), tF, tF, tF, H', ⟨by have := HK1.out; have := HK2.out; omega⟩, by repeat (first | exact Drawn0.refl _ | apply Drawn0.step)⟩
          ·rw [if_neg c8] at H
           have c8b0 : decide (x5_1 < x7_2) = false := decide_eq_false c8
           clear c8
           have H' := aM H
           clear H
           have p302 : 0 ≤ ((ji4) : Int) := of_decide_eq_true (by first | (with_reducible assumption) | assumption)
           have q302 : (ji4) < (l0.length : Int) := of_decide_eq_true (by first | (with_reducible assumption) | assumption)
           obtain ⟨ad302, e302, hx302_0⟩ := Kd.at_int HR0.out (ji4) p302 q302
           cases e302
           replace p302 := eq_true p302
           replace q302 := eq_true q302
           go_wp2
           go_roundg k2
           case measure => have := HK1.out; have := HK2.out; omega
           case rel => exact ⟨(x4_1), (x5_1), (wrap64 (x6_1 + 1)), tF, tF, tF, H', ⟨by have := HK1.out; have := HK2.out; omega⟩, by repeat (first | exact Drawn0.refl _ | apply Drawn0.step)⟩
        ·rw [if_neg c6] at H
         exact absurd H (by simp)
       ·rw [if_neg c5] at H
        exact absurd H (by simp)
      ·rw [if_neg c3] at H
       have c3b0 : decide ((wrap64 (x6_1 + x7_2)) < 8) = false := decide_eq_false c3
       clear c3
       by_cases c9 : x7_2 > x5_1
       ·rw [if_pos c9] at H
        have c9b0 : decide (x5_1 < x7_2) = true := decide_eq_true c9
        clear c9
        have H' := aM H
        clear H
        go_wp2
        go_roundg k2
        case measure => have := HK1.out; have := HK2.out; omega
        case rel => exact ⟨(x6_1), (x7_2), (wrap64 (x6_1 + 1)), tF, tF, tF, H', ⟨by have := HK1.out; have := HK2.out; omega⟩, by repeat (first | exact Drawn0.refl _ | apply Drawn0.step)⟩
       ·rw [if_neg c9] at H
        have c9b0 : decide (x5_1 < x7_2) = false := decide_eq_false c9
        clear c9
        have H' := aM H
        clear H
        go_wp2
        go_roundg k2
        case measure => have := HK1.out; have := HK2.out; omega
        case rel => exact ⟨(x4_1), (x5_1), (wrap64 (x6_1 + 1)), tF, tF, tF, H', ⟨by have := HK1.out; have := HK2.out; omega⟩, by repeat (first | exact Drawn0.refl _ | apply Drawn0.step)⟩
   ·rw [if_neg c2] at H
    have c2b0 : decide (x6_1 < 8) = false := decide_eq_false c2
    clear c2
    simp only [Option.some.injEq, Prod.mk.injEq] at H
    obtain ⟨rfl, rfl⟩ := H
    go_wp2
    go_ret2
    exact ⟨by first | rfl | (simp; done) | (simp [*]; done), by repeat (first | exact Drawn0.refl _ | apply Drawn0.step)⟩

/-! ### nameplateref04_joined: function 60 -/
def nameplateref04_joined.l0 : Nat → List Int → ByteArray → Int → Option (ByteArray)
 | 0, _, _, _ => none
 | k + 1, x0, x3, x4 => if x4 < (x0.length : Int) then (if x4 > 0 then (if x3.size + 1 ≤ 9223372036854775807 then (if 0 ≤ x4 then ((nameplateref04_digits.f k (rd x0 x4) 16).bind fun t304 => (if (x3 ++ (⟨#[58]⟩ : ByteArray)).size + t304.size ≤ 9223372036854775807 then (nameplateref04_joined.l0 k x0 ((x3 ++ (⟨#[58]⟩ : ByteArray)) ++ t304) (wrap64 (x4 + 1))) else (none))) else (none)) else (none)) else (if 0 ≤ x4 then ((nameplateref04_digits.f k (rd x0 x4) 16).bind fun t306 => (if x3.size + t306.size ≤ 9223372036854775807 then (nameplateref04_joined.l0 k x0 (x3 ++ t306) (wrap64 (x4 + 1))) else (none))) else (none))) else (some x3)
def nameplateref04_joined.f (k : Nat) (l0 : List Int) : Option (ByteArray) := nameplateref04_joined.l0 k l0 (⟨#[]⟩ : ByteArray) 0
theorem nameplateref04_joined.mono_l : ∀ k, (∀ y0 y1 y2, LeO (nameplateref04_joined.l0 k y0 y1 y2) (nameplateref04_joined.l0 (k + 1) y0 y1 y2))
 | 0 => fun _ _ _ r h => by simp [nameplateref04_joined.l0] at h
 | k + 1 => by
  have ih0 := nameplateref04_joined.mono_l k
  ·intro y0 y1 y2
   unfold nameplateref04_joined.l0
   repeat' first | (with_reducible first | apply ih0 | apply nameplateref04_digits.mono | exact LeO.refl _ | exact LeO.none _ | refine LeO.ite ?_ ?_ | refine LeO.bind ?_ (fun _ => ?_)) | apply ih0 | apply nameplateref04_digits.mono | exact LeO.none _ | refine LeO.ite ?_ ?_ | refine LeO.bind ?_ (fun _ => ?_)
theorem nameplateref04_joined.mono : ∀ a0 k, LeO (nameplateref04_joined.f k a0) (nameplateref04_joined.f (k + 1) a0) := by
 intro a0 k
 have ih0 := nameplateref04_joined.mono_l k
 unfold nameplateref04_joined.f
 repeat' first | (with_reducible first | apply ih0 | apply nameplateref04_digits.mono | exact LeO.refl _ | exact LeO.none _ | refine LeO.ite ?_ ?_ | refine LeO.bind ?_ (fun _ => ?_)) | apply ih0 | apply nameplateref04_digits.mono | exact LeO.none _ | refine LeO.ite ?_ ?_ | refine LeO.bind ?_ (fun _ => ?_)
set_option maxHeartbeats 8000000 in
set_option maxRecDepth 100000 in
theorem nameplateref04_joined.calls (k : Nat) (A0 : Option Addr) (c0 : Nat) (l0 : List Int) (r : ByteArray) (w : World) (hr0 : Kd.C (Kd.int .u64) w A0 l0.length l0) (hc0 : l0.length ≤ c0) (h : nameplateref04_joined.f k l0 = some r) :
  Calls Tryz.prog 60 #[.slice A0 l0.length c0] w fun e w' => e = .returned (.string r) ∧ Drawn0 w w' := by
 have HR0 := aM hr0
 have HC0 := aM hc0
 clear hr0 hc0
 have H : (nameplateref04_joined.l0 k l0 (⟨#[]⟩ : ByteArray) 0) = some r := h
 clear h
 have H' := aM H
 clear H
 go_enter Tryz.func60, Tryz.ntmps60
 go_wp2
 go_loopg [3, 4] k (fun kq v3 v4 w' => ∃ (x3_1 : ByteArray) (x4_1 : Int), v3 = .string x3_1 ∧ v4 = .int .i64 x4_1 ∧ Aside0 (nameplateref04_joined.l0 kq l0 x3_1 x4_1 = some r) ∧ Aside0 (kq ≤ k) ∧ Drawn0 w w')
 case atStart => exact ⟨((⟨#[]⟩ : ByteArray)), (0), tF, tF, H', ⟨Nat.le_refl _⟩, by repeat (first | exact Drawn0.refl _ | apply Drawn0.step)⟩
 case round =>
  clear H'
  obtain ⟨x3_1, x4_1, rfl, rfl, HA, HK1, ⟨m1, rfl⟩⟩ := hrel
  cases gk with
  | zero => exact absurd HA.out (by simp [nameplateref04_joined.l0])
  | succ k1 =>
   have H := HA.out
   clear HA
   simp only [nameplateref04_joined.l0] at H
   by_cases c2 : x4_1 < (l0.length : Int)
   ·rw [if_pos c2] at H
    have c2b0 : decide (x4_1 < (l0.length : Int)) = true := decide_eq_true c2
    clear c2
    by_cases c3 : x4_1 > 0
    ·rw [if_pos c3] at H
     have c3b0 : decide (0 < x4_1) = true := decide_eq_true c3
     clear c3
     by_cases c4 : x3_1.size + 1 ≤ 9223372036854775807
     ·rw [if_pos c4] at H
      have c4b0 := eq_true c4
      have c4b1 : decide (x3_1.size + 1 ≤ 9223372036854775807) = true := decide_eq_true c4
      try have c4b2 : (9223372036854775807 < x3_1.size + 1) = False := eq_false (Nat.not_lt.2 c4)
      by_cases c5 : 0 ≤ x4_1
      ·rw [if_pos c5] at H
       have c5b0 : decide (0 ≤ x4_1) = true := decide_eq_true c5
       clear c5
       obtain ⟨t304, A6, H⟩ := oB H
       try dsimp only at H
       by_cases c7 : (x3_1 ++ (⟨#[58]⟩ : ByteArray)).size + t304.size ≤ 9223372036854775807
       ·rw [if_pos c7] at H
        have c7b0 := eq_true c7
        try have c7b6 : (9223372036854775807 < x3_1.size + 1 + t304.size) = False := eq_false (by have hh_ := c7; have hz_ : (x3_1.size + (⟨#[58]⟩ : ByteArray).size + t304.size : Nat) = x3_1.size + 1 + t304.size := (by rfl); simp only [ByteArray.size_append] at hh_; omega)
        try have c7b5 : decide (x3_1.size + 1 + t304.size ≤ 9223372036854775807) = true := decide_eq_true (by have hh_ := c7; have hz_ : (x3_1.size + (⟨#[58]⟩ : ByteArray).size + t304.size : Nat) = x3_1.size + 1 + t304.size := (by rfl); simp only [ByteArray.size_append] at hh_; omega)
        try have c7b7 : (9223372036854775807 < x3_1.size + (⟨#[58]⟩ : ByteArray).size + t304.size) = False := eq_false (by have hh_ := c7; simp only [ByteArray.size_append] at hh_; omega)
        try have c7b8 : decide (x3_1.size + (⟨#[58]⟩ : ByteArray).size + t304.size ≤ 9223372036854775807) = true := decide_eq_true (by have hh_ := c7; simp only [ByteArray.size_append] at hh_; omega)
        have c7b1 : decide ((x3_1 ++ (⟨#[58]⟩ : ByteArray)).size + t304.size ≤ 9223372036854775807) = true := decide_eq_true c7
        try have c7b2 : (9223372036854775807 < (x3_1 ++ (⟨#[58]⟩ : ByteArray)).size + t304.size) = False := eq_false (Nat.not_lt.2 c7)
        have H' := aM H
        clear H
        have p303 : 0 ≤ (x4_1 : Int) := of_decide_eq_true (by first | (with_reducible assumption) | assumption)
        have q303 : x4_1 < (l0.length : Int) := of_decide_eq_true (by first | (with_reducible assumption) | assumption)
        obtain ⟨ad303, e303, hx303_0⟩ := Kd.at_int HR0.out x4_1 p303 q303
        cases e303
        replace p303 := eq_true p303
        replace q303 := eq_true q303
        go_wp2_with (first | ((with_reducible refine gC 58 rfl ?_); refine gL (some 20) Tryz.func58 #[.int .u64 (rd l0 x4_1), .int .u64 16] ?_; (with_reducible refine (nameplateref04_digits.calls k1 (rd l0 x4_1) 16 t304 _ A6.out).mono ?_); rintro e w' ⟨rfl, ⟨nd, rfl⟩⟩; refine ⟨_, rfl, ?_⟩))
        go_roundg k1
        case measure => have := HK1.out; omega
        case rel => exact ⟨((x3_1 ++ (⟨#[58]⟩ : ByteArray)) ++ t304), (wrap64 (x4_1 + 1)), tF, tF, H', ⟨by have := HK1.out; omega⟩, by repeat (first | exact Drawn0.refl _ | apply Drawn0.step)⟩
       ·rw [if_neg c7] at H
        exact absurd H (by simp)
      ·rw [if_neg c5] at H
       exact absurd H (by simp)
     ·rw [if_neg c4] at H
      exact absurd H (by simp)
    ·rw [if_neg c3] at H
     have c3b0 : decide (0 < x4_1) = false := decide_eq_false c3
     clear c3
     by_cases c8 : 0 ≤ x4_1
     ·rw [if_pos c8] at H
      have c8b0 : decide (0 ≤ x4_1) = true := decide_eq_true c8
      clear c8
      obtain ⟨t306, A9, H⟩ := oB H
      try dsimp only at H
      by_cases c10 : x3_1.size + t306.size ≤ 9223372036854775807
      ·rw [if_pos c10] at H
       have c10b0 := eq_true c10
       have c10b1 : decide (x3_1.size + t306.size ≤ 9223372036854775807) = true := decide_eq_true c10
       try have c10b2 : (9223372036854775807 < x3_1.size + t306.size) = False := eq_false (Nat.not_lt.2 c10)
       have H' := aM H
       clear H
       have p305 : 0 ≤ (x4_1 : Int) := of_decide_eq_true (by first | (with_reducible assumption) | assumption)
       have q305 : x4_1 < (l0.length : Int) := of_decide_eq_true (by first | (with_reducible assumption) | assumption)
       obtain ⟨ad305, e305, hx305_0⟩ := Kd.at_int HR0.out x4_1 p305 q305
       cases e305
       replace p305 := eq_true p305
       replace q305 := eq_true q305
       go_wp2_with (first | ((with_reducible refine gC 58 rfl ?_); refine gL (some 20) Tryz.func58 #[.int .u64 (rd l0 x4_1), .int .u64 16] ?_; (with_reducible refine (nameplateref04_digits.calls k1 (rd l0 x4_1) 16 t306 _ A9.out).mono ?_); rintro e w' ⟨rfl, ⟨nd, rfl⟩⟩; refine ⟨_, rfl, ?_⟩))
       go_roundg k1
       case measure => have := HK1.out; omega
       case rel => exact ⟨(x3_1 ++ t306), (wrap64 (x4_1 + 1)), tF, tF, H', ⟨by have := HK1.out; omega⟩, by repeat (first | exact Drawn0.refl _ | apply Drawn0.step)⟩
      ·rw [if_neg c10] at H
       exact absurd H (by simp)
     ·rw [if_neg c8] at H
      exact absurd H (by simp)
   ·rw [if_neg c2] at H
    have c2b0 : decide (x4_1 < (l0.length : Int)) = false := decide_eq_false c2
    clear c2
    obtain rfl := Option.some.inj H
    go_wp2
    go_ret
    exact ⟨by first | rfl | (simp; done) | (simp [*]; done), by repeat (first | exact Drawn0.refl _ | apply Drawn0.step)⟩

end Go.Proofs.YtbalmnkbodcigaaGreatDoor.ORc
