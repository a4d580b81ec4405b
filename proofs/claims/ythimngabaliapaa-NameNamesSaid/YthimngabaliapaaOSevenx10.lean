/- This text proves, for each Go function named below, which plain Lean function its call computes, in whatever memory; a program of this session has written it. -/
import Derived.Test.YthimngabaliapaaOSevenx0
import Derived.Test.YthimngabaliapaaOSevenx1
import Derived.Test.YthimngabaliapaaOSevenx2
import Derived.Test.YthimngabaliapaaOSevenx3
import Derived.Test.YthimngabaliapaaOSevenx4
import Derived.Test.YthimngabaliapaaOSevenx6
import Derived.Test.YthimngabaliapaaOSevenx9
namespace Go.Proofs.Ythimngabaliapaa.OSeven
open Go.RowKit Go.Proofs.YthimngabaliapaaW.PrintWords Go.Proofs.YthimngabaliapaaW.PrintLast Go.Proofs.YthimngabaliapaaW.PrintMore
attribute [local go_sem] max2_int min2_int max_two min_two max_three min_three max_four min_four   -- for this text's walks alone
set_option linter.unusedVariables false
set_option linter.unusedSimpArgs false

section
open Go.Shelf
attribute [local go_sem] Oper.semAt_some
def cmpN : List ByteArray → List ByteArray → Option Int
  | [], [] => some 0
  | [], _ :: _ => some (-1)
  | _ :: _, [] => some 1
  | x :: xs, y :: ys => (label_Compare.f x y).bind fun c => if c = 0 then cmpN xs ys else some c
def name_Compare.f (k : Nat) (a0 a1 : ByteArray) : Option Int := (name_Labels.f k a0).bind fun x => (name_Labels.f k a1).bind fun y => (slices_Reverse_string_string.f k x).bind fun x2 => (slices_Reverse_string_string.f k y).bind fun y2 => cmpN x2 y2
theorem name_Compare.mono : ∀ a0 a1 k, LeO (name_Compare.f k a0 a1) (name_Compare.f (k + 1) a0 a1) := by
  intro a0 a1 k
  unfold name_Compare.f
  exact LeO.bind (name_Labels.mono a0 k) (fun _ => LeO.bind (name_Labels.mono a1 k) (fun _ => LeO.bind (slices_Reverse_string_string.mono _ k) (fun _ => LeO.bind (slices_Reverse_string_string.mono _ k) (fun _ => LeO.refl _))))
theorem cmp_int (a b : Int) : cmp_Compare_int.f a b = some (if a < b then -1 else if a > b then 1 else 0) := by
  unfold cmp_Compare_int.f cmp_isNaN_int.f
  rw [Option.bind_some, Option.bind_some]
  have h : ∀ x : Int, (x != x) = false := fun x => bne_self_eq_false x
  rw [h, h, if_neg (by decide), if_neg (by decide)]
  by_cases c : a < b
  · rw [if_pos c, if_pos c]
  · rw [if_neg c, if_neg c]
    by_cases d : a > b
    · rw [if_pos d, if_pos d]
    · rw [if_neg d, if_neg d]
theorem cmpN_len {x y : List ByteArray} {n : Nat} {r : Int} (h : cmpN (x.drop n) (y.drop n) = some r) (hn : n ≤ x.length) (hm : n ≤ y.length) (he : n = x.length ∨ n = y.length) : cmp_Compare_int.f x.length y.length = some r := by
  rw [cmp_int]
  rcases he with rfl | rfl
  · rw [List.drop_length] at h
    cases hy : y.drop x.length with
    | nil =>
      rw [hy] at h
      have : y.length ≤ x.length := List.drop_eq_nil_iff.1 hy
      rw [if_neg (by omega), if_neg (by omega)]
      exact h
    | cons b t =>
      rw [hy] at h
      have : x.length < y.length := by
        have := congrArg List.length hy
        simp at this
        omega
      rw [if_pos (by omega)]
      exact h
  · rw [List.drop_length] at h
    cases hx : x.drop y.length with
    | nil =>
      rw [hx] at h
      have : x.length ≤ y.length := List.drop_eq_nil_iff.1 hx
      rw [if_neg (by omega), if_neg (by omega)]
      exact h
    | cons b t =>
      rw [hx] at h
      have : y.length < x.length := by
        have := congrArg List.length hx
        simp at this
        omega
      rw [if_neg (by omega), if_pos (by omega)]
      exact h
theorem cmpN_step {x y : List ByteArray} {n : Nat} {r : Int} (h : cmpN (x.drop n) (y.drop n) = some r) (hn : n < x.length) (hm : n < y.length) : ∃ c, label_Compare.f (rdOf ByteArray.empty x (n : Int)) (rdOf ByteArray.empty y (n : Int)) = some c ∧ (if c = 0 then cmpN (x.drop (n + 1)) (y.drop (n + 1)) else some c) = some r := by
  rw [List.drop_eq_getElem_cons hn, List.drop_eq_getElem_cons hm] at h
  rw [rdOf_at hn, rdOf_at hm]
  have h' : ((label_Compare.f x[n] y[n]).bind fun c => if c = 0 then cmpN (x.drop (n + 1)) (y.drop (n + 1)) else some c) = some r := h
  cases hc : label_Compare.f x[n] y[n] with
  | none => rw [hc] at h'; cases h'
  | some c =>
    rw [hc, Option.bind_some] at h'
    exact ⟨c, rfl, h'⟩
theorem cp_rev1 (k : Nat) (x y x2 : List ByteArray) (A3 A4 : Option Addr) (c3 c4 : Nat) (w w3 w4 : World) (hr3 : Kd.R Kd.string 9 w3 w.heap.size (fun _ => True) (.slice A3 x.length c3) x) (hb3 : Below w.heap.size w w3) (hb4 : Below w3.heap.size w3 w4) (hr4 : Kd.R Kd.string 9 w4 w3.heap.size (fun _ => True) (.slice A4 y.length c4) y) (hx2 : slices_Reverse_string_string.f k x = some x2) :
    Calls Try.prog 56 #[.slice A3 x.length c3] w4 fun e w5 => e = .returned (.tuple #[]) ∧ (Kd.R Kd.string 9 w5 w.heap.size (fun j => j < w3.heap.size ∨ w4.heap.size ≤ j) (.slice A3 x.length c3) x2 ∧ Kd.R Kd.string 9 w5 w.heap.size (fun j => w3.heap.size ≤ j ∧ j < w4.heap.size) (.slice A4 y.length c4) y ∧ Below w.heap.size w w5 ∧ w4.heap.size ≤ w5.heap.size) := by
  have h1 : Kd.R Kd.string 9 w4 w.heap.size (fun j => j < w3.heap.size) (.slice A3 x.length c3) x := Kd.R_below (Kd.R_mono (Kd.R_bound hr3) (fun j hj => hj.2.2.1)) hb4
  have hB4 : Below w.heap.size w w4 := hb3.trans (hb4.mono hb3.size)
  refine (slices_Reverse_string_string.calls k (fun j => j < w3.heap.size) _ x x2 w w4 hB4 h1 hx2).mono ?_
  rintro e w5 ⟨rfl, hr, hb, hk⟩
  refine ⟨rfl, hr, ?_, hb, hk.1⟩
  have h2 : Kd.R Kd.string 9 w4 w3.heap.size (fun j => w3.heap.size ≤ j ∧ j < w4.heap.size) (.slice A4 y.length c4) y := Kd.R_mono (Kd.R_bound hr4) (fun j hj => ⟨hj.2.1, hj.2.2.1⟩)
  exact Kd.R_lower (Kd.R_step h2 (fun j hj hl => hk.2 j hl (Nat.not_lt.2 hj.1))) hb3.size
theorem cp_rev2 (k : Nat) (x2 y y2 : List ByteArray) (A3 A4 : Option Addr) (n3 c3 c4 a b : Nat) (w w5 : World) (hr3 : Kd.R Kd.string 9 w5 w.heap.size (fun j => j < a ∨ b ≤ j) (.slice A3 n3 c3) x2) (hr4 : Kd.R Kd.string 9 w5 w.heap.size (fun j => a ≤ j ∧ j < b) (.slice A4 y.length c4) y) (hb : Below w.heap.size w w5) (hy2 : slices_Reverse_string_string.f k y = some y2) :
    Calls Try.prog 56 #[.slice A4 y.length c4] w5 fun e w6 => e = .returned (.tuple #[]) ∧ (Kd.C Kd.string w6 A3 x2.length x2 ∧ n3 = x2.length ∧ Kd.C Kd.string w6 A4 y2.length y2 ∧ y.length = y2.length ∧ Below w.heap.size w w6) := by
  refine (slices_Reverse_string_string.calls k (fun j => a ≤ j ∧ j < b) _ y y2 w w5 hb hr4 hy2).mono ?_
  rintro e w6 ⟨rfl, hr, hb6, hk⟩
  have h3 : Kd.R Kd.string 9 w6 w.heap.size (fun j => j < a ∨ b ≤ j) (.slice A3 n3 c3) x2 := Kd.R_step hr3 (fun j hj hl => hk.2 j hl (by omega))
  exact ⟨rfl, (Kd.R_reads' h3).2.2, (Kd.R_reads' h3).1, (Kd.R_reads' hr).2.2, (Kd.R_reads' hr).1, hb6⟩
set_option maxRecDepth 100000 in
set_option maxHeartbeats 4000000 in
theorem name_Compare.calls (k : Nat) (a0 : ByteArray) (a1 : ByteArray) (r : Int) (w : World) (h : name_Compare.f k a0 a1 = some r) :
    Calls Try.prog 23 #[.string a0, .string a1] w fun e w' => e = .returned (.int .i64 r) ∧ Below w.heap.size w w' := by
  unfold name_Compare.f at h
  obtain ⟨x, hx, h⟩ := Option.bind_eq_some_iff.mp h
  obtain ⟨y, hy, h⟩ := Option.bind_eq_some_iff.mp h
  obtain ⟨x2, hx2, h⟩ := Option.bind_eq_some_iff.mp h
  obtain ⟨y2, hy2, h⟩ := Option.bind_eq_some_iff.mp h
  have hxl := name_Labels_le hx
  have hyl := name_Labels_le hy
  have HX := Aside0.mk hx
  have HY := Aside0.mk hy
  have HX2 := Aside0.mk hx2
  have HY2 := Aside0.mk hy2
  have HR := Aside0.mk h
  clear hx hy hx2 hy2 h
  go_enter Try.func23, Try.ntmps23
  go_wp2_with (first
    | (go_at_call 14; (with_reducible refine (name_Labels.calls k a0 x _ HX.out).mono ?_); rintro e w3 ⟨v3, rfl, hr3, hb3⟩; have HR3 := Aside0.mk hr3; have HB3 := Aside0.mk hb3; clear hr3 hb3; obtain ⟨A3, c3, e3⟩ := Kd.R_slice HR3.out; subst e3)
    | (go_at_call 14; (with_reducible refine (name_Labels.calls k a1 y _ HY.out).mono ?_); rintro e w4 ⟨v4, rfl, hr4, hb4⟩; have HR4 := Aside0.mk hr4; have HB4 := Aside0.mk hb4; clear hr4 hb4; obtain ⟨A4, c4, e4⟩ := Kd.R_slice HR4.out; subst e4)
    | (go_at_call 56; (with_reducible refine (cp_rev1 k x y x2 A3 A4 c3 c4 w w3 w4 HR3.out HB3.out HB4.out HR4.out HX2.out).mono ?_); rintro e w5 ⟨rfl, h5⟩; have H5 := Aside0.mk h5; clear h5)
    | (go_at_call 56; (with_reducible refine (cp_rev2 k x2 y y2 A3 A4 _ c3 c4 w3.heap.size w4.heap.size w w5 H5.out.1 H5.out.2.1 H5.out.2.2.1 HY2.out).mono ?_); rintro e w6 ⟨rfl, h6⟩; have H6 := Aside0.mk h6; clear h6))
  go_loopg [20] x.length (fun kq v20 w' => ∃ n : Nat, v20 = .int .i64 (n : Int) ∧ Aside0 (n + kq = x.length) ∧ Aside0 (n ≤ y.length) ∧ Aside0 (cmpN (x2.drop n) (y2.drop n) = some r) ∧ Aside0 (Below w6.heap.size w6 w'))
  case atStart => exact ⟨0, rfl, ⟨by omega⟩, ⟨Nat.zero_le _⟩, ⟨HR.out⟩, ⟨by first | exact Below.refl _ _ | exact pw_below_drewN (Below.refl _ _) _⟩⟩
  case round =>
    obtain ⟨n, rfl, HN, HNY, HCM, HB⟩ := hrel
    have hN := HN.out
    have hNY := HNY.out
    have e1 := H6.out.2.1
    have e2 := H6.out.2.2.2.1
    have hC1 := Kd.C_below H6.out.1 HB.out
    have hC2 := Kd.C_below H6.out.2.2.1 HB.out
    have hbW : Below w.heap.size w wr := H6.out.2.2.2.2.trans (HB.out.mono H6.out.2.2.2.2.size)
    have hbs : wr.heap.size ≤ wr.heap.size := Nat.le_refl _
    by_cases hn : n < x.length
    · obtain ⟨ad, ea, hx⟩ := Kd.at_string hC1 (n : Int) (by omega) (by omega)
      subst ea
      rw [Int.toNat_natCast] at hx
      have b1 : decide ((n : Int) < (x.length : Int)) = true := decide_eq_true (by omega)
      have p1 : (0 ≤ (n : Int)) = True := eq_true (by omega)
      have q1 : ((n : Int) < (x.length : Int)) = True := eq_true (by omega)
      by_cases hm : n < y.length
      · obtain ⟨ad2, eb, hy⟩ := Kd.at_string hC2 (n : Int) (by omega) (by omega)
        subst eb
        rw [Int.toNat_natCast] at hy
        obtain ⟨c, hc, hrest⟩ := cmpN_step HCM.out (by omega) (by omega)
        obtain ⟨p, hp⟩ : ∃ p, rdOf ByteArray.empty x2 (n : Int) = p := ⟨_, rfl⟩
        obtain ⟨q, hq⟩ : ∃ q, rdOf ByteArray.empty y2 (n : Int) = q := ⟨_, rfl⟩
        rw [hp, hq] at hc
        rw [hp] at hx
        rw [hq] at hy
        have HT := Aside0.mk (fun (W : World) => label_Compare.calls p q c W hc)
        have HBW := Aside0.mk hbW
        have b2 : ((n : Int) == (y.length : Int)) = false := beq_eq_false_iff_ne.2 (by omega)
        have q2 : ((n : Int) < (y.length : Int)) = True := eq_true (by omega)
        have hw : wrap64 ((n : Int) + 1) = ((n + 1 : Nat) : Int) := by
          rw [wrap_id (by omega) (by omega)]
          rfl
        clear e1 e2 hC1 hC2 hbW hc hp hq
        by_cases c0 : c = 0
        · subst c0
          rw [if_pos rfl] at hrest
          have HRE := Aside0.mk hrest
          clear hrest
          go_wp2_with (go_at_call 57; (with_reducible refine (HT.out _).mono ?_); rintro e w7 ⟨rfl, hb7⟩; have HB7 := Aside0.mk hb7; clear hb7)
          go_roundg (gk - 1)
          case measure => omega
          case rel => exact ⟨n + 1, rfl, ⟨by omega⟩, ⟨by omega⟩, HRE, ⟨HB.out.trans (HB7.out.mono HB.out.size)⟩⟩
        · rw [if_neg c0] at hrest
          obtain rfl := Option.some.inj hrest
          have c1 : (c == 0) = false := beq_eq_false_iff_ne.2 c0
          have c2 : (c != 0) = true := bne_iff_ne.2 c0
          clear hrest
          go_wp2_with (go_at_call 57; (with_reducible refine (HT.out _).mono ?_); rintro e w7 ⟨rfl, hb7⟩; have HB7 := Aside0.mk hb7; clear hb7)
          go_ret
          exact ⟨rfl, HBW.out.trans (HB7.out.mono HBW.out.size)⟩
      · have en : n = y.length := by omega
        have hcm := cmpN_len HCM.out (by omega) (by omega) (Or.inr (by omega))
        rw [← e1, ← e2] at hcm
        have HT := Aside0.mk (fun (W : World) => cmp_Compare_int.calls _ _ _ W hcm)
        have HBW := Aside0.mk hbW
        clear e1 e2 hC1 hC2 hbW hcm
        subst en
        have b2 : ((y.length : Int) == (y.length : Int)) = true := beq_iff_eq.2 rfl
        go_wp2_with (go_at_call 58; (with_reducible refine (HT.out _).mono ?_); rintro e w7 ⟨rfl, ⟨nd, rfl⟩⟩)
        go_ret
        exact ⟨rfl, pw_below_drewN HBW.out _⟩
    · have en : n = x.length := by omega
      have hcm := cmpN_len HCM.out (by omega) (by omega) (Or.inl (by omega))
      rw [← e1, ← e2] at hcm
      have HT := Aside0.mk (fun (W : World) => cmp_Compare_int.calls _ _ _ W hcm)
      have HBW := Aside0.mk hbW
      clear e1 e2 hC1 hC2 hbW hcm
      subst en
      have b1 : decide ((x.length : Int) < (x.length : Int)) = false := decide_eq_false (by omega)
      go_wp2_with (go_at_call 58; (with_reducible refine (HT.out _).mono ?_); rintro e w7 ⟨rfl, ⟨nd, rfl⟩⟩)
      go_ret
      exact ⟨rfl, pw_below_drewN HBW.out _⟩
end

/-! ### nameplatelaw02_NameUnder: function 7 -/
mutual
def nameplatelaw02_NameUnder.j0 : Nat → ByteArray → Bool → Option (Bool)
  | 0, _, _ => none
  | k + 1, x0, x23 => if x23 = true then (some true) else ((name_Labels.f k x0).bind fun t284 => (nameplatelaw02_NameUnder.l0 k x0 t284 (⟨#[]⟩ : ByteArray) (wrap64 ((t284.length : Int) - 1))))
def nameplatelaw02_NameUnder.l0 : Nat → ByteArray → List ByteArray → ByteArray → Int → Option (Bool)
  | 0, _, _, _, _ => none
  | k + 1, x0, x3, x4, x5 => if x5 ≥ 0 then (if 0 ≤ x5 then (if x5 ≤ (wrap64 (x5 + 1)) then (if (wrap64 (x5 + 1)) ≤ (x3.length : Int) then ((name_Make.f ((x3.take ((wrap64 (x5 + 1)) : Int).toNat).drop (x5 : Int).toNat)).bind fun bt294 => ((name_Join.f k bt294.1 x4).bind fun bt296 => (if bt294.2 = 0 then (if bt296.2 = 0 then ((name_Under.f k bt296.1 x4).bind fun t298 => (if t298 = true then ((name_Compare.f k x4 bt296.1).bind fun t299 => (if t299 = (-1) then ((name_Under.f k x4 bt296.1).bind fun t300 => (if t300 = true then (nameplatelaw02_NameUnder.j2 k x0 x3 x4 x5 bt296.1 true) else ((name_Under.f k x0 bt296.1).bind fun t301 => (nameplatelaw02_NameUnder.j2 k x0 x3 x4 x5 bt296.1 (!t301))))) else (nameplatelaw02_NameUnder.j2 k x0 x3 x4 x5 bt296.1 true))) else (nameplatelaw02_NameUnder.j2 k x0 x3 x4 x5 bt296.1 true))) else (nameplatelaw02_NameUnder.j2 k x0 x3 x4 x5 bt296.1 true)) else (nameplatelaw02_NameUnder.j2 k x0 x3 x4 x5 bt296.1 true)))) else (none)) else (none)) else (none)) else ((name_Parent.f k (⟨#[]⟩ : ByteArray)).bind fun bt287 => (if x4.toList = x0.toList then ((name_Under.f k x0 x0).bind fun t289 => (if t289 = true then (if bt287.2 = true then (some false) else (some (decide ((x3.length : Int) ≤ 127)))) else (some false))) else (some false)))
def nameplatelaw02_NameUnder.j2 : Nat → ByteArray → List ByteArray → ByteArray → Int → ByteArray → Bool → Option (Bool)
  | 0, _, _, _, _, _, _ => none
  | k + 1, x0, x3, x4, x5, x8, x76 => if x76 = true then (some false) else ((name_Parent.f k x8).bind fun bt302 => (if bt302.2 = true then (if bt302.1.toList = x4.toList then (nameplatelaw02_NameUnder.l0 k x0 x3 x8 (wrap64 (x5 - 1))) else (some false)) else (some false)))
end
def nameplatelaw02_NameUnder.f (k : Nat) (a0 : ByteArray) : Option (Bool) := (nameplatelaw02_lives.f k).bind fun t282 => (if t282 = true then (if (a0.size : Int) > 400 then (nameplatelaw02_NameUnder.j0 k a0 true) else ((name_Check.f k a0).bind fun t283 => (nameplatelaw02_NameUnder.j0 k a0 (t283 != 0)))) else (some false))
theorem nameplatelaw02_NameUnder.mono_l : ∀ k, (∀ y0 y1, LeO (nameplatelaw02_NameUnder.j0 k y0 y1) (nameplatelaw02_NameUnder.j0 (k + 1) y0 y1)) ∧ (∀ y0 y1 y2 y3, LeO (nameplatelaw02_NameUnder.l0 k y0 y1 y2 y3) (nameplatelaw02_NameUnder.l0 (k + 1) y0 y1 y2 y3)) ∧ (∀ y0 y1 y2 y3 y4 y5, LeO (nameplatelaw02_NameUnder.j2 k y0 y1 y2 y3 y4 y5) (nameplatelaw02_NameUnder.j2 (k + 1) y0 y1 y2 y3 y4 y5))
  | 0 => ⟨fun _ _ r h => by simp [nameplatelaw02_NameUnder.j0] at h, fun _ _ _ _ r h => by simp [nameplatelaw02_NameUnder.l0] at h, fun _ _ _ _ _ _ r h => by simp [nameplatelaw02_NameUnder.j2] at h⟩
  | k + 1 => by
    obtain ⟨ih0, ih1, ih2⟩ := nameplatelaw02_NameUnder.mono_l k
    refine ⟨?_, ?_, ?_⟩
    · intro y0 y1
      unfold nameplatelaw02_NameUnder.j0
      repeat' first
      | (with_reducible exact ih0 _ _)
      | (with_reducible exact ih1 _ _ _ _)
      | (with_reducible exact ih2 _ _ _ _ _ _)
      | (with_reducible exact name_Check.mono _ _)
      | (with_reducible exact name_Compare.mono _ _ _)
      | (with_reducible exact name_Join.mono _ _ _)
      | (with_reducible exact name_Labels.mono _ _)
      | (with_reducible exact name_Parent.mono _ _)
      | (with_reducible exact name_Under.mono _ _ _)
      | (with_reducible exact nameplatelaw02_lives.mono _)
      | (with_reducible exact LeO.refl _)
      | (with_reducible exact LeO.none _)
      | (with_reducible refine LeO.ite ?_ ?_)
      | (with_reducible refine LeO.bind ?_ (fun _ => ?_))
      | exact ih0 _ _
      | exact ih1 _ _ _ _
      | exact ih2 _ _ _ _ _ _
      | exact name_Check.mono _ _
      | exact name_Compare.mono _ _ _
      | exact name_Join.mono _ _ _
      | exact name_Labels.mono _ _
      | exact name_Parent.mono _ _
      | exact name_Under.mono _ _ _
      | exact nameplatelaw02_lives.mono _
      | exact LeO.none _
      | refine LeO.ite ?_ ?_
      | refine LeO.bind ?_ (fun _ => ?_)
    · intro y0 y1 y2 y3
      unfold nameplatelaw02_NameUnder.l0
      repeat' first
      | (with_reducible exact ih0 _ _)
      | (with_reducible exact ih1 _ _ _ _)
      | (with_reducible exact ih2 _ _ _ _ _ _)
      | (with_reducible exact name_Check.mono _ _)
      | (with_reducible exact name_Compare.mono _ _ _)
      | (with_reducible exact name_Join.mono _ _ _)
      | (with_reducible exact name_Labels.mono _ _)
      | (with_reducible exact name_Parent.mono _ _)
      | (with_reducible exact name_Under.mono _ _ _)
      | (with_reducible exact nameplatelaw02_lives.mono _)
      | (with_reducible exact LeO.refl _)
      | (with_reducible exact LeO.none _)
      | (with_reducible refine LeO.ite ?_ ?_)
      | (with_reducible refine LeO.bind ?_ (fun _ => ?_))
      | exact ih0 _ _
      | exact ih1 _ _ _ _
      | exact ih2 _ _ _ _ _ _
      | exact name_Check.mono _ _
      | exact name_Compare.mono _ _ _
      | exact name_Join.mono _ _ _
      | exact name_Labels.mono _ _
      | exact name_Parent.mono _ _
      | exact name_Under.mono _ _ _
      | exact nameplatelaw02_lives.mono _
      | exact LeO.none _
      | refine LeO.ite ?_ ?_
      | refine LeO.bind ?_ (fun _ => ?_)
    · intro y0 y1 y2 y3 y4 y5
      unfold nameplatelaw02_NameUnder.j2
      repeat' first
      | (with_reducible exact ih0 _ _)
      | (with_reducible exact ih1 _ _ _ _)
      | (with_reducible exact ih2 _ _ _ _ _ _)
      | (with_reducible exact name_Check.mono _ _)
      | (with_reducible exact name_Compare.mono _ _ _)
      | (with_reducible exact name_Join.mono _ _ _)
      | (with_reducible exact name_Labels.mono _ _)
      | (with_reducible exact name_Parent.mono _ _)
      | (with_reducible exact name_Under.mono _ _ _)
      | (with_reducible exact nameplatelaw02_lives.mono _)
      | (with_reducible exact LeO.refl _)
      | (with_reducible exact LeO.none _)
      | (with_reducible refine LeO.ite ?_ ?_)
      | (with_reducible refine LeO.bind ?_ (fun _ => ?_))
      | exact ih0 _ _
      | exact ih1 _ _ _ _
      | exact ih2 _ _ _ _ _ _
      | exact name_Check.mono _ _
      | exact name_Compare.mono _ _ _
      | exact name_Join.mono _ _ _
      | exact name_Labels.mono _ _
      | exact name_Parent.mono _ _
      | exact name_Under.mono _ _ _
      | exact nameplatelaw02_lives.mono _
      | exact LeO.none _
      | refine LeO.ite ?_ ?_
      | refine LeO.bind ?_ (fun _ => ?_)
theorem nameplatelaw02_NameUnder.mono : ∀ a0 k, LeO (nameplatelaw02_NameUnder.f k a0) (nameplatelaw02_NameUnder.f (k + 1) a0) := by
  intro a0 k
  obtain ⟨ih0, ih1, ih2⟩ := nameplatelaw02_NameUnder.mono_l k
  unfold nameplatelaw02_NameUnder.f
  repeat' first
      | (with_reducible exact ih0 _ _)
      | (with_reducible exact ih1 _ _ _ _)
      | (with_reducible exact ih2 _ _ _ _ _ _)
      | (with_reducible exact name_Check.mono _ _)
      | (with_reducible exact name_Compare.mono _ _ _)
      | (with_reducible exact name_Join.mono _ _ _)
      | (with_reducible exact name_Labels.mono _ _)
      | (with_reducible exact name_Parent.mono _ _)
      | (with_reducible exact name_Under.mono _ _ _)
      | (with_reducible exact nameplatelaw02_lives.mono _)
      | (with_reducible exact LeO.refl _)
      | (with_reducible exact LeO.none _)
      | (with_reducible refine LeO.ite ?_ ?_)
      | (with_reducible refine LeO.bind ?_ (fun _ => ?_))
      | exact ih0 _ _
      | exact ih1 _ _ _ _
      | exact ih2 _ _ _ _ _ _
      | exact name_Check.mono _ _
      | exact name_Compare.mono _ _ _
      | exact name_Join.mono _ _ _
      | exact name_Labels.mono _ _
      | exact name_Parent.mono _ _
      | exact name_Under.mono _ _ _
      | exact nameplatelaw02_lives.mono _
      | exact LeO.none _
      | refine LeO.ite ?_ ?_
      | refine LeO.bind ?_ (fun _ => ?_)
set_option maxHeartbeats 8000000 in
set_option maxRecDepth 100000 in
theorem nameplatelaw02_NameUnder.calls (k : Nat) (a0 : ByteArray) (r : Bool) (w : World) (hr_ : Aside0 (r = true)) (h : nameplatelaw02_NameUnder.f k a0 = some r) :
    Calls Try.prog 7 #[.string a0] w fun e w' => e = .returned (.bool r) ∧ Below w.heap.size w w' := by
  have HB := Aside0.mk (Below.refl w.heap.size w)
  have H : ((nameplatelaw02_lives.f k).bind fun t282 => (if t282 = true then (if (a0.size : Int) > 400 then (nameplatelaw02_NameUnder.j0 k a0 true) else ((name_Check.f k a0).bind fun t283 => (nameplatelaw02_NameUnder.j0 k a0 (t283 != 0)))) else (some false))) = some r := h
  clear h
  replace H := Option.bind_eq_some_iff.mp H
  obtain ⟨t282, A20, H⟩ := H
  replace H : (if t282 = true then (if (a0.size : Int) > 400 then (nameplatelaw02_NameUnder.j0 k a0 true) else ((name_Check.f k a0).bind fun t283 => (nameplatelaw02_NameUnder.j0 k a0 (t283 != 0)))) else (some false)) = some r := H
  have A2 := Aside0.mk A20
  clear A20
  by_cases c3 : t282 = true
  · subst c3
    have H1 : (if (a0.size : Int) > 400 then (nameplatelaw02_NameUnder.j0 k a0 true) else ((name_Check.f k a0).bind fun t283 => (nameplatelaw02_NameUnder.j0 k a0 (t283 != 0)))) = some r := by rw [if_pos rfl] at H; exact H
    clear H
    have H := H1
    clear H1
    have HC4 := Aside0.mk H
    clear H
    go_enter Try.func7, Try.ntmps7
    go_upto_region 3 with (first | ((with_reducible refine gate_callee (f := 11) rfl ?_); refine goesL_ (some 14) rfl rfl Try.func11 (by kernel_rfl) rfl #[] rfl (by (try simp only [List.map_toArray, List.map_cons, List.map_nil]); first | done | rfl | (simp only [List.length_drop, List.length_take]; rfl)) ?_; (with_reducible refine (nameplatelaw02_lives.calls k  true _ A2.out).mono ?_); rintro e w5 ⟨rfl, hb⟩; refine ⟨_, rfl, ?_⟩; have n0_ := Aside0.mk (below_step (by repeat (first | (with_reducible first | exact HB.out | apply below_alloc | apply pw_below_drewN | apply below_drew1) | exact HB.out)) hb); clear HB; have HB := n0_; clear n0_; (try clear hb); (try clear hb2); (try clear hk); (try clear hi)))
    (try simp only [Act.put, List.setIfInBounds_toArray, List.set_cons_zero, List.set_cons_succ])
    go_cut [23] (fun v23 wc => ∃ (kq : Nat) (x23_3 : Bool), v23 = .bool x23_3 ∧ Aside0 (nameplatelaw02_NameUnder.j0 kq a0 x23_3 = some r) ∧ Aside0 (kq ≤ k) ∧ Aside0 (Below w.heap.size w wc))
    case first =>
      have H := HC4.out
      clear HC4
      by_cases c6 : (a0.size : Int) > 400
      · rw [if_pos c6] at H
        have c6b0 : decide (400 < (a0.size : Int)) = true := decide_eq_true c6
        have c6b1 : decide (400 < a0.size) = true := decide_eq_true (by omega)
        clear c6
        (first | rw [c6b0] | (simp only [i64_w, i32_w]; rw [c6b0]) | skip)
        have H' := Aside0.mk H
        clear H
        go_wp2
        go_meet
        case rel => exact ⟨_, (true), (by first | rfl | (simp; done) | (simp [*]; done)), H', ⟨by first | omega | exact Nat.le_refl _⟩, ⟨by repeat (first | (with_reducible first | exact HB.out | apply below_alloc | apply pw_below_drewN | apply below_drew1) | exact HB.out)⟩⟩
      · rw [if_neg c6] at H
        have c6b0 : decide (400 < (a0.size : Int)) = false := decide_eq_false c6
        have c6b1 : decide (400 < a0.size) = false := decide_eq_false (by omega)
        clear c6
        (first | rw [c6b0] | (simp only [i64_w, i32_w]; rw [c6b0]) | skip)
        replace H := Option.bind_eq_some_iff.mp H
        obtain ⟨t283, A70, H⟩ := H
        replace H : (nameplatelaw02_NameUnder.j0 k a0 (t283 != 0)) = some r := H
        have A7 := Aside0.mk A70
        clear A70
        have H' := Aside0.mk H
        clear H
        go_wp2_with (first | (go_at_call 12; (with_reducible refine (name_Check.calls k a0 t283 _ A7.out).mono ?_); rintro e w' ⟨rfl, ⟨nd, rfl⟩⟩))
        go_meet
        case rel => exact ⟨_, ((t283 != 0)), (by first | rfl | (simp; done) | (simp [*]; done)), H', ⟨by first | omega | exact Nat.le_refl _⟩, ⟨by repeat (first | (with_reducible first | exact HB.out | apply below_alloc | apply pw_below_drewN | apply below_drew1) | exact HB.out)⟩⟩
    case rest =>
      clear HC4
      try clear c1
      try clear p2
      try clear c3
      try clear c6
      try clear c6b0
      try clear c6b1
      try clear c7
      obtain ⟨kq, x23_3, rfl, HA, HJ3, HB⟩ := hcut
      cases kq with
      | zero => exact absurd HA.out (by simp [nameplatelaw02_NameUnder.j0])
      | succ kj3 =>
        have H := HA.out
        clear HA
        simp only [nameplatelaw02_NameUnder.j0] at H
        by_cases c8 : x23_3 = true
        · subst c8
          have H1 : (some true) = some r := by rw [if_pos rfl] at H; exact H
          clear H
          have H := H1
          clear H1
          obtain rfl := Option.some.inj H
          go_wp2
          go_ret
          exact ⟨by first | rfl | (simp [errW_none, errW_some] <;> rfl) | (simp [*, errW_none, errW_some] <;> rfl), by repeat (first | (with_reducible first | exact HB.out | apply below_alloc | apply pw_below_drewN | apply below_drew1) | exact HB.out)⟩
        · replace c8 := Bool.eq_false_iff.mpr c8
          subst c8
          have H1 : ((name_Labels.f kj3 a0).bind fun t284 => (nameplatelaw02_NameUnder.l0 kj3 a0 t284 (⟨#[]⟩ : ByteArray) (wrap64 ((t284.length : Int) - 1)))) = some r := by rw [if_neg (show ¬ (false = true) by decide)] at H; exact H
          clear H
          have H := H1
          clear H1
          replace H := Option.bind_eq_some_iff.mp H
          obtain ⟨t284, A90, H⟩ := H
          replace H : (nameplatelaw02_NameUnder.l0 kj3 a0 t284 (⟨#[]⟩ : ByteArray) (wrap64 ((t284.length : Int) - 1))) = some r := H
          have A9 := Aside0.mk A90
          clear A90
          have H' := Aside0.mk H
          clear H
          go_wp2_with (first | ((with_reducible refine gate_callee (f := 14) rfl ?_); refine goesL_ (some 25) rfl rfl Try.func14 (by kernel_rfl) rfl #[.string a0] rfl (by (try simp only [List.map_toArray, List.map_cons, List.map_nil]); first | done | rfl | (simp only [List.length_drop, List.length_take]; rfl)) ?_; (with_reducible refine (name_Labels.calls kj3 a0 t284 _ A9.out).mono ?_); rintro e w10 ⟨v285, rfl, ho0, hb⟩; refine ⟨_, rfl, ?_⟩; have n0_ := Aside0.mk (Kd.R_lower ho0 (below_size (by repeat (first | (with_reducible first | exact HB.out | apply below_alloc | apply pw_below_drewN | apply below_drew1) | exact HB.out)))); have n1_ := Aside0.mk (below_step (by repeat (first | (with_reducible first | exact HB.out | apply below_alloc | apply pw_below_drewN | apply below_drew1) | exact HB.out)) hb); clear HB; have HO286 := n0_; have HB := n1_; clear n0_ n1_; (try clear hb); (try clear hb2); (try clear hk); (try clear hi); (try clear ho0); obtain ⟨Ao11, co11, eo11⟩ := Kd.R_slice HO286.out; subst eo11))
          go_loopg [4, 5] kj3 (fun kq v4 v5 w' => ∃ (x4_2 : ByteArray) (x5_2 : Int), v4 = .string x4_2 ∧ v5 = .int .i64 x5_2 ∧ Aside0 (nameplatelaw02_NameUnder.l0 kq a0 t284 x4_2 x5_2 = some r) ∧ Aside0 (kq ≤ kj3) ∧ Aside0 (Kd.R Kd.string 9 w' w.heap.size (fun _ => True) (.slice Ao11 t284.length co11) t284) ∧ Aside0 (Below w.heap.size w w'))
          case atStart => exact ⟨((⟨#[]⟩ : ByteArray)), (wrap64 ((t284.length : Int) - 1)), (by first | rfl | (simp; done) | (simp [*]; done)), (by first | rfl | (simp; done) | (simp [*]; done)), H', ⟨Nat.le_refl _⟩, ⟨by (with_reducible repeat (first | apply Kd.R_alloc | apply Kd.R_drewN | apply Kd.R_drew)); exact HO286.out⟩, ⟨by repeat (first | (with_reducible first | exact HB.out | apply below_alloc | apply pw_below_drewN | apply below_drew1) | exact HB.out)⟩⟩
          case round =>
            clear H'
            try clear c1
            try clear p2
            try clear c3
            try clear c6
            try clear c6b0
            try clear c6b1
            try clear p6
            try clear c7
            try clear c8
            try clear c11
            try clear p2
            obtain ⟨x4_2, x5_2, rfl, rfl, HA, HK2, HO_3, HB⟩ := hrel
            cases gk with
            | zero => exact absurd HA.out (by simp [nameplatelaw02_NameUnder.l0])
            | succ k2 =>
              have H := HA.out
              clear HA
              simp only [nameplatelaw02_NameUnder.l0] at H
              by_cases c12 : x5_2 ≥ 0
              · rw [if_pos c12] at H
                have c12b0 : decide (0 ≤ x5_2) = true := decide_eq_true c12
                clear c12
                by_cases c13 : 0 ≤ x5_2
                · rw [if_pos c13] at H
                  have c13b0 := eq_true c13
                  have c13b1 : decide (0 ≤ x5_2) = true := decide_eq_true c13
                  clear c13
                  by_cases c14 : x5_2 ≤ (wrap64 (x5_2 + 1))
                  · rw [if_pos c14] at H
                    have c14b0 := eq_true c14
                    have c14b1 : decide (x5_2 ≤ (wrap64 (x5_2 + 1))) = true := decide_eq_true c14
                    by_cases c15 : (wrap64 (x5_2 + 1)) ≤ (t284.length : Int)
                    · rw [if_pos c15] at H
                      have c15b0 := eq_true c15
                      have c15b1 : decide ((wrap64 (x5_2 + 1)) ≤ (t284.length : Int)) = true := decide_eq_true c15
                      obtain ⟨y290, hy290⟩ : ∃ y_ : List ByteArray, y_ = ((t284.take ((wrap64 (x5_2 + 1)) : Int).toNat).drop (x5_2 : Int).toNat) := ⟨_, rfl⟩
                      replace H : ((name_Make.f y290).bind fun bt294 => ((name_Join.f k2 bt294.1 x4_2).bind fun bt296 => (if bt294.2 = 0 then (if bt296.2 = 0 then ((name_Under.f k2 bt296.1 x4_2).bind fun t298 => (if t298 = true then ((name_Compare.f k2 x4_2 bt296.1).bind fun t299 => (if t299 = (-1) then ((name_Under.f k2 x4_2 bt296.1).bind fun t300 => (if t300 = true then (nameplatelaw02_NameUnder.j2 k2 a0 t284 x4_2 x5_2 bt296.1 true) else ((name_Under.f k2 a0 bt296.1).bind fun t301 => (nameplatelaw02_NameUnder.j2 k2 a0 t284 x4_2 x5_2 bt296.1 (!t301))))) else (nameplatelaw02_NameUnder.j2 k2 a0 t284 x4_2 x5_2 bt296.1 true))) else (nameplatelaw02_NameUnder.j2 k2 a0 t284 x4_2 x5_2 bt296.1 true))) else (nameplatelaw02_NameUnder.j2 k2 a0 t284 x4_2 x5_2 bt296.1 true)) else (nameplatelaw02_NameUnder.j2 k2 a0 t284 x4_2 x5_2 bt296.1 true)))) = some r := by first | (rw [hy290]; with_reducible exact H) | (have H2_ := (Option.bind_some _ _).symm.trans H; rw [hy290]; with_reducible exact H2_) | (have H2_ := (Option.bind_some _ _).symm.trans H; with_reducible exact H2_) | with_reducible exact H | (rw [hy290]; exact H) | exact H
                      have Ny290 := Aside0.mk hy290
                      clear hy290
                      replace H := Option.bind_eq_some_iff.mp H
                      obtain ⟨⟨t294, t295⟩, A160, H⟩ := H
                      replace H : ((name_Join.f k2 t294 x4_2).bind fun bt296 => (if t295 = 0 then (if bt296.2 = 0 then ((name_Under.f k2 bt296.1 x4_2).bind fun t298 => (if t298 = true then ((name_Compare.f k2 x4_2 bt296.1).bind fun t299 => (if t299 = (-1) then ((name_Under.f k2 x4_2 bt296.1).bind fun t300 => (if t300 = true then (nameplatelaw02_NameUnder.j2 k2 a0 t284 x4_2 x5_2 bt296.1 true) else ((name_Under.f k2 a0 bt296.1).bind fun t301 => (nameplatelaw02_NameUnder.j2 k2 a0 t284 x4_2 x5_2 bt296.1 (!t301))))) else (nameplatelaw02_NameUnder.j2 k2 a0 t284 x4_2 x5_2 bt296.1 true))) else (nameplatelaw02_NameUnder.j2 k2 a0 t284 x4_2 x5_2 bt296.1 true))) else (nameplatelaw02_NameUnder.j2 k2 a0 t284 x4_2 x5_2 bt296.1 true)) else (nameplatelaw02_NameUnder.j2 k2 a0 t284 x4_2 x5_2 bt296.1 true))) = some r := H
                      have A16 := Aside0.mk A160
                      clear A160
                      replace H := Option.bind_eq_some_iff.mp H
                      obtain ⟨⟨t296, t297⟩, A170, H⟩ := H
                      replace H : (if t295 = 0 then (if t297 = 0 then ((name_Under.f k2 t296 x4_2).bind fun t298 => (if t298 = true then ((name_Compare.f k2 x4_2 t296).bind fun t299 => (if t299 = (-1) then ((name_Under.f k2 x4_2 t296).bind fun t300 => (if t300 = true then (nameplatelaw02_NameUnder.j2 k2 a0 t284 x4_2 x5_2 t296 true) else ((name_Under.f k2 a0 t296).bind fun t301 => (nameplatelaw02_NameUnder.j2 k2 a0 t284 x4_2 x5_2 t296 (!t301))))) else (nameplatelaw02_NameUnder.j2 k2 a0 t284 x4_2 x5_2 t296 true))) else (nameplatelaw02_NameUnder.j2 k2 a0 t284 x4_2 x5_2 t296 true))) else (nameplatelaw02_NameUnder.j2 k2 a0 t284 x4_2 x5_2 t296 true)) else (nameplatelaw02_NameUnder.j2 k2 a0 t284 x4_2 x5_2 t296 true)) = some r := H
                      have A17 := Aside0.mk A170
                      clear A170
                      have HC18 := Aside0.mk H
                      clear H
                      have q19 : ((wrap64 (x5_2 + 1)) : Int) ≤ ((t284.length : Int) : Int) := of_decide_eq_true (by first | (with_reducible assumption) | assumption)
                      obtain ⟨i019, hi019, _, hsz19, _⟩ := info_parts info9
                      have hroom19 : t284.length ≤ co11 := (Kd.R_reads' HO_3.out).2.1
                      have hC19 : Kd.C Kd.string _ Ao11 t284.length t284 := (Kd.R_reads' HO_3.out).2.2
                      have ql19 : (x5_2 : Int) ≤ ((wrap64 (x5_2 + 1)) : Int) := of_decide_eq_true (by first | (with_reducible assumption) | assumption)
                      have q019 : (0 : Int) ≤ (x5_2 : Int) := of_decide_eq_true (by first | (with_reducible assumption) | assumption)
                      have hcut19 := cut_mid (P := Try.prog) 27 9 .i64 .i64 Try.underlying27 hi019 1 hsz19 Ao11 t284.length co11 x5_2 (wrap64 (x5_2 + 1)) q019 ql19 q19 hroom19
                      have hr19 := Kd.C_mid (lo := (x5_2 : Int).toNat) (hi := ((wrap64 (x5_2 + 1)) : Int).toNat) (c := co11) hC19 (by omega) (by omega) hroom19
                      obtain ⟨A19, hA19⟩ : ∃ A1, A1 = (if co11 = (x5_2 : Int).toNat then Ao11 else (Ao11 : Option Addr).map (·.add ((x5_2 : Int).toNat * 1))) := ⟨_, rfl⟩
                      obtain ⟨c19, hc19⟩ : ∃ c1, c1 = co11 - (x5_2 : Int).toNat := ⟨_, rfl⟩
                      have hy19 : y290.length = ((wrap64 (x5_2 + 1)) : Int).toNat - (x5_2 : Int).toNat := (by rw [Ny290.out, List.length_drop, List.length_take] <;> omega)
                      rw [show ((t284).take ((wrap64 (x5_2 + 1)) : Int).toNat).drop (x5_2 : Int).toNat = y290 from Ny290.out.symm] at hr19
                      replace hr19 : Kd.C Kd.string _ A19 y290.length y290 := (by rw [hA19]; exact hr19)
                      rw [← hy19, ← hA19, ← hc19] at hcut19
                      have HR293 := Aside0.mk hr19
                      have HC293 := Aside0.mk (show y290.length ≤ c19 from by rw [hy19, hc19]; exact Nat.sub_le_sub_right (Nat.le_trans (by omega) hroom19) _)
                      clear hr19 hC19 hroom19 hi019 hsz19 hc19
                      have KY19 := Aside0.mk hy19
                      have KA19 := Aside0.mk hA19
                      clear hy19 hA19
                      have KL19 := Aside0.mk (show ((wrap64 (x5_2 + 1)) : Int).toNat ≤ t284.length from by omega)
                      have KM19 := Aside0.mk (show (x5_2 : Int).toNat ≤ ((wrap64 (x5_2 + 1)) : Int).toNat from by omega)
                      replace q19 := eq_true q19
                      go_upto_region 12 with (first | ((with_reducible refine gate_callee (f := 20) rfl ?_); refine goesL_ (some 39) rfl rfl Try.func20 (by kernel_rfl) rfl #[.slice A19 y290.length c19] rfl (by (try simp only [List.map_toArray, List.map_cons, List.map_nil]); first | done | rfl | (simp only [List.length_drop, List.length_take]; rfl)) ?_; (with_reducible refine (name_Make.calls _ _ y290 t294 t295 _ ?side1 ?side2 A16.out).mono ?_); (case side1 => repeat (first | exact (by repeat (first | (with_reducible exact HR293.out) | (with_reducible refine Kd.C_alloc ?_ _) | (with_reducible refine Kd.C_drewN ?_ _) | (with_reducible refine Kd.C_drew ?_) | exact HR293.out)) | (with_reducible refine Kd.C_alloc ?_ _) | (with_reducible refine Kd.C_drewN ?_ _) | (with_reducible refine Kd.C_drew ?_))); (case side2 => exact HC293.out); rintro e w20 ⟨rfl, hb⟩; refine ⟨_, rfl, ?_⟩; have n0_ := Aside0.mk (Kd.R_below (by (with_reducible repeat (first | apply Kd.R_alloc | apply Kd.R_drewN | apply Kd.R_drew)); exact HO_3.out) hb); have n1_ := Aside0.mk (Kd.C_below (by repeat (first | (with_reducible exact HR293.out) | (with_reducible refine Kd.C_alloc ?_ _) | (with_reducible refine Kd.C_drewN ?_ _) | (with_reducible refine Kd.C_drew ?_) | exact HR293.out)) hb); have n2_ := Aside0.mk (below_step (by repeat (first | (with_reducible first | exact HB.out | apply below_alloc | apply pw_below_drewN | apply below_drew1) | exact HB.out)) hb); clear HO_3; clear HR293; clear HB; have HO_3 := n0_; have HR293 := n1_; have HB := n2_; clear n0_ n1_ n2_; (try clear hb); (try clear hb2); (try clear hk); (try clear hi)) | ((with_reducible refine gate_callee (f := 15) rfl ?_); refine goesL_ (some 45) rfl rfl Try.func15 (by kernel_rfl) rfl #[.string t294, .string x4_2] rfl (by (try simp only [List.map_toArray, List.map_cons, List.map_nil]); first | done | rfl | (simp only [List.length_drop, List.length_take]; rfl)) ?_; (with_reducible refine (name_Join.calls k2 t294 x4_2 t296 t297 _ A17.out).mono ?_); rintro e w21 ⟨rfl, hb⟩; refine ⟨_, rfl, ?_⟩; have n0_ := Aside0.mk (Kd.R_below (by (with_reducible repeat (first | apply Kd.R_alloc | apply Kd.R_drewN | apply Kd.R_drew)); exact HO_3.out) hb); have n1_ := Aside0.mk (Kd.C_below (by repeat (first | (with_reducible exact HR293.out) | (with_reducible refine Kd.C_alloc ?_ _) | (with_reducible refine Kd.C_drewN ?_ _) | (with_reducible refine Kd.C_drew ?_) | exact HR293.out)) hb); have n2_ := Aside0.mk (below_step (by repeat (first | (with_reducible first | exact HB.out | apply below_alloc | apply pw_below_drewN | apply below_drew1) | exact HB.out)) hb); clear HO_3; clear HR293; clear HB; have HO_3 := n0_; have HR293 := n1_; have HB := n2_; clear n0_ n1_ n2_; (try clear hb); (try clear hb2); (try clear hk); (try clear hi)))
                      (try simp only [Act.put, List.setIfInBounds_toArray, List.set_cons_zero, List.set_cons_succ])
                      go_cut [76] (fun v76 wc => ∃ (kq : Nat) (x76_17 : Bool), v76 = .bool x76_17 ∧ Aside0 (nameplatelaw02_NameUnder.j2 kq a0 t284 x4_2 x5_2 t296 x76_17 = some r) ∧ Aside0 (kq ≤ k2) ∧ Aside0 (Kd.R Kd.string 9 wc w.heap.size (fun _ => True) (.slice Ao11 t284.length co11) t284) ∧ Aside0 (Kd.C Kd.string wc A19 y290.length y290) ∧ Aside0 (Below w.heap.size w wc))
                      case first =>
                        have H := HC18.out
                        clear HC18
                        by_cases c22 : t295 = 0
                        · rw [if_pos c22] at H
                          have c22b0 : (t295 == 0) = true := beq_iff_eq.mpr c22
                          have c22b1 : (t295 != 0) = false := bne_eq_false_iff_eq.mpr c22
                          clear c22
                          (first | rw [c22b0] | (simp only [i64_w, i32_w]; rw [c22b0]) | skip)
                          by_cases c23 : t297 = 0
                          · rw [if_pos c23] at H
                            have c23b0 : (t297 == 0) = true := beq_iff_eq.mpr c23
                            have c23b1 : (t297 != 0) = false := bne_eq_false_iff_eq.mpr c23
                            clear c23
                            replace H := Option.bind_eq_some_iff.mp H
                            obtain ⟨t298, A240, H⟩ := H
                            replace H : (if t298 = true then ((name_Compare.f k2 x4_2 t296).bind fun t299 => (if t299 = (-1) then ((name_Under.f k2 x4_2 t296).bind fun t300 => (if t300 = true then (nameplatelaw02_NameUnder.j2 k2 a0 t284 x4_2 x5_2 t296 true) else ((name_Under.f k2 a0 t296).bind fun t301 => (nameplatelaw02_NameUnder.j2 k2 a0 t284 x4_2 x5_2 t296 (!t301))))) else (nameplatelaw02_NameUnder.j2 k2 a0 t284 x4_2 x5_2 t296 true))) else (nameplatelaw02_NameUnder.j2 k2 a0 t284 x4_2 x5_2 t296 true)) = some r := H
                            have A24 := Aside0.mk A240
                            clear A240
                            by_cases c25 : t298 = true
                            · subst c25
                              have H1 : ((name_Compare.f k2 x4_2 t296).bind fun t299 => (if t299 = (-1) then ((name_Under.f k2 x4_2 t296).bind fun t300 => (if t300 = true then (nameplatelaw02_NameUnder.j2 k2 a0 t284 x4_2 x5_2 t296 true) else ((name_Under.f k2 a0 t296).bind fun t301 => (nameplatelaw02_NameUnder.j2 k2 a0 t284 x4_2 x5_2 t296 (!t301))))) else (nameplatelaw02_NameUnder.j2 k2 a0 t284 x4_2 x5_2 t296 true))) = some r := by rw [if_pos rfl] at H; exact H
                              clear H
                              have H := H1
                              clear H1
                              replace H := Option.bind_eq_some_iff.mp H
                              obtain ⟨t299, A260, H⟩ := H
                              replace H : (if t299 = (-1) then ((name_Under.f k2 x4_2 t296).bind fun t300 => (if t300 = true then (nameplatelaw02_NameUnder.j2 k2 a0 t284 x4_2 x5_2 t296 true) else ((name_Under.f k2 a0 t296).bind fun t301 => (nameplatelaw02_NameUnder.j2 k2 a0 t284 x4_2 x5_2 t296 (!t301))))) else (nameplatelaw02_NameUnder.j2 k2 a0 t284 x4_2 x5_2 t296 true)) = some r := H
                              have A26 := Aside0.mk A260
                              clear A260
                              by_cases c27 : t299 = (-1)
                              · rw [if_pos c27] at H
                                have c27b0 : (t299 == (-1)) = true := beq_iff_eq.mpr c27
                                have c27b1 : (t299 != (-1)) = false := bne_eq_false_iff_eq.mpr c27
                                clear c27
                                replace H := Option.bind_eq_some_iff.mp H
                                obtain ⟨t300, A280, H⟩ := H
                                replace H : (if t300 = true then (nameplatelaw02_NameUnder.j2 k2 a0 t284 x4_2 x5_2 t296 true) else ((name_Under.f k2 a0 t296).bind fun t301 => (nameplatelaw02_NameUnder.j2 k2 a0 t284 x4_2 x5_2 t296 (!t301)))) = some r := H
                                have A28 := Aside0.mk A280
                                clear A280
                                by_cases c29 : t300 = true
                                · subst c29
                                  have H1 : (nameplatelaw02_NameUnder.j2 k2 a0 t284 x4_2 x5_2 t296 true) = some r := by rw [if_pos rfl] at H; exact H
                                  clear H
                                  have H := H1
                                  clear H1
                                  have H' := Aside0.mk H
                                  clear H
                                  go_wp2_with (first | (go_at_call 16; (with_reducible refine (name_Under.calls k2 t296 x4_2 true _ A24.out).mono ?_); rintro e w30 ⟨rfl, hb⟩; have n0_ := Aside0.mk (Kd.R_below (by (with_reducible repeat (first | apply Kd.R_alloc | apply Kd.R_drewN | apply Kd.R_drew)); exact HO_3.out) hb); have n1_ := Aside0.mk (Kd.C_below (by repeat (first | (with_reducible exact HR293.out) | (with_reducible refine Kd.C_alloc ?_ _) | (with_reducible refine Kd.C_drewN ?_ _) | (with_reducible refine Kd.C_drew ?_) | exact HR293.out)) hb); have n2_ := Aside0.mk (below_step (by repeat (first | (with_reducible first | exact HB.out | apply below_alloc | apply pw_below_drewN | apply below_drew1) | exact HB.out)) hb); clear HO_3; clear HR293; clear HB; have HO_3 := n0_; have HR293 := n1_; have HB := n2_; clear n0_ n1_ n2_; (try clear hb); (try clear hb2); (try clear hk); (try clear hi)) | (go_at_call 23; (with_reducible refine (name_Compare.calls k2 x4_2 t296 t299 _ A26.out).mono ?_); rintro e w31 ⟨rfl, hb⟩; have n0_ := Aside0.mk (Kd.R_below (by (with_reducible repeat (first | apply Kd.R_alloc | apply Kd.R_drewN | apply Kd.R_drew)); exact HO_3.out) hb); have n1_ := Aside0.mk (Kd.C_below (by repeat (first | (with_reducible exact HR293.out) | (with_reducible refine Kd.C_alloc ?_ _) | (with_reducible refine Kd.C_drewN ?_ _) | (with_reducible refine Kd.C_drew ?_) | exact HR293.out)) hb); have n2_ := Aside0.mk (below_step (by repeat (first | (with_reducible first | exact HB.out | apply below_alloc | apply pw_below_drewN | apply below_drew1) | exact HB.out)) hb); clear HO_3; clear HR293; clear HB; have HO_3 := n0_; have HR293 := n1_; have HB := n2_; clear n0_ n1_ n2_; (try clear hb); (try clear hb2); (try clear hk); (try clear hi)) | (go_at_call 16; (with_reducible refine (name_Under.calls k2 x4_2 t296 true _ A28.out).mono ?_); rintro e w32 ⟨rfl, hb⟩; have n0_ := Aside0.mk (Kd.R_below (by (with_reducible repeat (first | apply Kd.R_alloc | apply Kd.R_drewN | apply Kd.R_drew)); exact HO_3.out) hb); have n1_ := Aside0.mk (Kd.C_below (by repeat (first | (with_reducible exact HR293.out) | (with_reducible refine Kd.C_alloc ?_ _) | (with_reducible refine Kd.C_drewN ?_ _) | (with_reducible refine Kd.C_drew ?_) | exact HR293.out)) hb); have n2_ := Aside0.mk (below_step (by repeat (first | (with_reducible first | exact HB.out | apply below_alloc | apply pw_below_drewN | apply below_drew1) | exact HB.out)) hb); clear HO_3; clear HR293; clear HB; have HO_3 := n0_; have HR293 := n1_; have HB := n2_; clear n0_ n1_ n2_; (try clear hb); (try clear hb2); (try clear hk); (try clear hi)))
                                  go_meet
                                  case rel => exact ⟨_, (true), (by first | rfl | (simp; done) | (simp [*]; done)), H', ⟨by have := HJ3.out; have := HK2.out; first | omega | exact Nat.le_refl _⟩, ⟨by (with_reducible repeat (first | apply Kd.R_alloc | apply Kd.R_drewN | apply Kd.R_drew)); exact HO_3.out⟩, ⟨by repeat (first | (with_reducible exact HR293.out) | (with_reducible refine Kd.C_alloc ?_ _) | (with_reducible refine Kd.C_drewN ?_ _) | (with_reducible refine Kd.C_drew ?_) | exact HR293.out)⟩, ⟨by repeat (first | (with_reducible first | exact HB.out | apply below_alloc | apply pw_below_drewN | apply below_drew1) | exact HB.out)⟩⟩
                                · replace c29 := Bool.eq_false_iff.mpr c29
                                  subst c29
                                  have H1 : ((name_Under.f k2 a0 t296).bind fun t301 => (nameplatelaw02_NameUnder.j2 k2 a0 t284 x4_2 x5_2 t296 (!t301))) = some r := by rw [if_neg (show ¬ (false = true) by decide)] at H; exact H
                                  clear H
                                  have H := H1
                                  clear H1
                                  replace H := Option.bind_eq_some_iff.mp H
                                  obtain ⟨t301, A330, H⟩ := H
                                  replace H : (nameplatelaw02_NameUnder.j2 k2 a0 t284 x4_2 x5_2 t296 (!t301)) = some r := H
                                  have A33 := Aside0.mk A330
                                  clear A330
                                  have H' := Aside0.mk H
                                  clear H
                                  go_wp2_with (first | (go_at_call 16; (with_reducible refine (name_Under.calls k2 t296 x4_2 true _ A24.out).mono ?_); rintro e w34 ⟨rfl, hb⟩; have n0_ := Aside0.mk (Kd.R_below (by (with_reducible repeat (first | apply Kd.R_alloc | apply Kd.R_drewN | apply Kd.R_drew)); exact HO_3.out) hb); have n1_ := Aside0.mk (Kd.C_below (by repeat (first | (with_reducible exact HR293.out) | (with_reducible refine Kd.C_alloc ?_ _) | (with_reducible refine Kd.C_drewN ?_ _) | (with_reducible refine Kd.C_drew ?_) | exact HR293.out)) hb); have n2_ := Aside0.mk (below_step (by repeat (first | (with_reducible first | exact HB.out | apply below_alloc | apply pw_below_drewN | apply below_drew1) | exact HB.out)) hb); clear HO_3; clear HR293; clear HB; have HO_3 := n0_; have HR293 := n1_; have HB := n2_; clear n0_ n1_ n2_; (try clear hb); (try clear hb2); (try clear hk); (try clear hi)) | (go_at_call 23; (with_reducible refine (name_Compare.calls k2 x4_2 t296 t299 _ A26.out).mono ?_); rintro e w35 ⟨rfl, hb⟩; have n0_ := Aside0.mk (Kd.R_below (by (with_reducible repeat (first | apply Kd.R_alloc | apply Kd.R_drewN | apply Kd.R_drew)); exact HO_3.out) hb); have n1_ := Aside0.mk (Kd.C_below (by repeat (first | (with_reducible exact HR293.out) | (with_reducible refine Kd.C_alloc ?_ _) | (with_reducible refine Kd.C_drewN ?_ _) | (with_reducible refine Kd.C_drew ?_) | exact HR293.out)) hb); have n2_ := Aside0.mk (below_step (by repeat (first | (with_reducible first | exact HB.out | apply below_alloc | apply pw_below_drewN | apply below_drew1) | exact HB.out)) hb); clear HO_3; clear HR293; clear HB; have HO_3 := n0_; have HR293 := n1_; have HB := n2_; clear n0_ n1_ n2_; (try clear hb); (try clear hb2); (try clear hk); (try clear hi)) | (go_at_call 16; (with_reducible refine (name_Under.calls k2 x4_2 t296 false _ A28.out).mono ?_); rintro e w36 ⟨rfl, hb⟩; have n0_ := Aside0.mk (Kd.R_below (by (with_reducible repeat (first | apply Kd.R_alloc | apply Kd.R_drewN | apply Kd.R_drew)); exact HO_3.out) hb); have n1_ := Aside0.mk (Kd.C_below (by repeat (first | (with_reducible exact HR293.out) | (with_reducible refine Kd.C_alloc ?_ _) | (with_reducible refine Kd.C_drewN ?_ _) | (with_reducible refine Kd.C_drew ?_) | exact HR293.out)) hb); have n2_ := Aside0.mk (below_step (by repeat (first | (with_reducible first | exact HB.out | apply below_alloc | apply pw_below_drewN | apply below_drew1) | exact HB.out)) hb); clear HO_3; clear HR293; clear HB; have HO_3 := n0_; have HR293 := n1_; have HB := n2_; clear n0_ n1_ n2_; (try clear hb); (try clear hb2); (try clear hk); (try clear hi)) | (go_at_call 16; (with_reducible refine (name_Under.calls k2 a0 t296 t301 _ A33.out).mono ?_); rintro e w37 ⟨rfl, hb⟩; have n0_ := Aside0.mk (Kd.R_below (by (with_reducible repeat (first | apply Kd.R_alloc | apply Kd.R_drewN | apply Kd.R_drew)); exact HO_3.out) hb); have n1_ := Aside0.mk (Kd.C_below (by repeat (first | (with_reducible exact HR293.out) | (with_reducible refine Kd.C_alloc ?_ _) | (with_reducible refine Kd.C_drewN ?_ _) | (with_reducible refine Kd.C_drew ?_) | exact HR293.out)) hb); have n2_ := Aside0.mk (below_step (by repeat (first | (with_reducible first | exact HB.out | apply below_alloc | apply pw_below_drewN | apply below_drew1) | exact HB.out)) hb); clear HO_3; clear HR293; clear HB; have HO_3 := n0_; have HR293 := n1_; have HB := n2_; clear n0_ n1_ n2_; (try clear hb); (try clear hb2); (try clear hk); (try clear hi)))
                                  go_meet
                                  case rel => exact ⟨_, (!t301), (by first | rfl | (simp; done) | (simp [*]; done)), H', ⟨by have := HJ3.out; have := HK2.out; first | omega | exact Nat.le_refl _⟩, ⟨by (with_reducible repeat (first | apply Kd.R_alloc | apply Kd.R_drewN | apply Kd.R_drew)); exact HO_3.out⟩, ⟨by repeat (first | (with_reducible exact HR293.out) | (with_reducible refine Kd.C_alloc ?_ _) | (with_reducible refine Kd.C_drewN ?_ _) | (with_reducible refine Kd.C_drew ?_) | exact HR293.out)⟩, ⟨by repeat (first | (with_reducible first | exact HB.out | apply below_alloc | apply pw_below_drewN | apply below_drew1) | exact HB.out)⟩⟩
                              · rw [if_neg c27] at H
                                have c27b0 : (t299 == (-1)) = false := beq_eq_false_iff_ne.mpr c27
                                have c27b1 : (t299 != (-1)) = true := bne_iff_ne.mpr c27
                                have H' := Aside0.mk H
                                clear H
                                go_wp2_with (first | (go_at_call 16; (with_reducible refine (name_Under.calls k2 t296 x4_2 true _ A24.out).mono ?_); rintro e w38 ⟨rfl, hb⟩; have n0_ := Aside0.mk (Kd.R_below (by (with_reducible repeat (first | apply Kd.R_alloc | apply Kd.R_drewN | apply Kd.R_drew)); exact HO_3.out) hb); have n1_ := Aside0.mk (Kd.C_below (by repeat (first | (with_reducible exact HR293.out) | (with_reducible refine Kd.C_alloc ?_ _) | (with_reducible refine Kd.C_drewN ?_ _) | (with_reducible refine Kd.C_drew ?_) | exact HR293.out)) hb); have n2_ := Aside0.mk (below_step (by repeat (first | (with_reducible first | exact HB.out | apply below_alloc | apply pw_below_drewN | apply below_drew1) | exact HB.out)) hb); clear HO_3; clear HR293; clear HB; have HO_3 := n0_; have HR293 := n1_; have HB := n2_; clear n0_ n1_ n2_; (try clear hb); (try clear hb2); (try clear hk); (try clear hi)) | (go_at_call 23; (with_reducible refine (name_Compare.calls k2 x4_2 t296 t299 _ A26.out).mono ?_); rintro e w39 ⟨rfl, hb⟩; have n0_ := Aside0.mk (Kd.R_below (by (with_reducible repeat (first | apply Kd.R_alloc | apply Kd.R_drewN | apply Kd.R_drew)); exact HO_3.out) hb); have n1_ := Aside0.mk (Kd.C_below (by repeat (first | (with_reducible exact HR293.out) | (with_reducible refine Kd.C_alloc ?_ _) | (with_reducible refine Kd.C_drewN ?_ _) | (with_reducible refine Kd.C_drew ?_) | exact HR293.out)) hb); have n2_ := Aside0.mk (below_step (by repeat (first | (with_reducible first | exact HB.out | apply below_alloc | apply pw_below_drewN | apply below_drew1) | exact HB.out)) hb); clear HO_3; clear HR293; clear HB; have HO_3 := n0_; have HR293 := n1_; have HB := n2_; clear n0_ n1_ n2_; (try clear hb); (try clear hb2); (try clear hk); (try clear hi)))
                                go_meet
                                case rel => exact ⟨_, (true), (by first | rfl | (simp; done) | (simp [*]; done)), H', ⟨by have := HJ3.out; have := HK2.out; first | omega | exact Nat.le_refl _⟩, ⟨by (with_reducible repeat (first | apply Kd.R_alloc | apply Kd.R_drewN | apply Kd.R_drew)); exact HO_3.out⟩, ⟨by repeat (first | (with_reducible exact HR293.out) | (with_reducible refine Kd.C_alloc ?_ _) | (with_reducible refine Kd.C_drewN ?_ _) | (with_reducible refine Kd.C_drew ?_) | exact HR293.out)⟩, ⟨by repeat (first | (with_reducible first | exact HB.out | apply below_alloc | apply pw_below_drewN | apply below_drew1) | exact HB.out)⟩⟩
                            · replace c25 := Bool.eq_false_iff.mpr c25
                              subst c25
                              have H1 : (nameplatelaw02_NameUnder.j2 k2 a0 t284 x4_2 x5_2 t296 true) = some r := by rw [if_neg (show ¬ (false = true) by decide)] at H; exact H
                              clear H
                              have H := H1
                              clear H1
                              have H' := Aside0.mk H
                              clear H
                              go_wp2_with (first | (go_at_call 16; (with_reducible refine (name_Under.calls k2 t296 x4_2 false _ A24.out).mono ?_); rintro e w40 ⟨rfl, hb⟩; have n0_ := Aside0.mk (Kd.R_below (by (with_reducible repeat (first | apply Kd.R_alloc | apply Kd.R_drewN | apply Kd.R_drew)); exact HO_3.out) hb); have n1_ := Aside0.mk (Kd.C_below (by repeat (first | (with_reducible exact HR293.out) | (with_reducible refine Kd.C_alloc ?_ _) | (with_reducible refine Kd.C_drewN ?_ _) | (with_reducible refine Kd.C_drew ?_) | exact HR293.out)) hb); have n2_ := Aside0.mk (below_step (by repeat (first | (with_reducible first | exact HB.out | apply below_alloc | apply pw_below_drewN | apply below_drew1) | exact HB.out)) hb); clear HO_3; clear HR293; clear HB; have HO_3 := n0_; have HR293 := n1_; have HB := n2_; clear n0_ n1_ n2_; (try clear hb); (try clear hb2); (try clear hk); (try clear hi)))
                              go_meet
                              case rel => exact ⟨_, (true), (by first | rfl | (simp; done) | (simp [*]; done)), H', ⟨by have := HJ3.out; have := HK2.out; first | omega | exact Nat.le_refl _⟩, ⟨by (with_reducible repeat (first | apply Kd.R_alloc | apply Kd.R_drewN | apply Kd.R_drew)); exact HO_3.out⟩, ⟨by repeat (first | (with_reducible exact HR293.out) | (with_reducible refine Kd.C_alloc ?_ _) | (with_reducible refine Kd.C_drewN ?_ _) | (with_reducible refine Kd.C_drew ?_) | exact HR293.out)⟩, ⟨by repeat (first | (with_reducible first | exact HB.out | apply below_alloc | apply pw_below_drewN | apply below_drew1) | exact HB.out)⟩⟩
                          · rw [if_neg c23] at H
                            have c23b0 : (t297 == 0) = false := beq_eq_false_iff_ne.mpr c23
                            have c23b1 : (t297 != 0) = true := bne_iff_ne.mpr c23
                            have H' := Aside0.mk H
                            clear H
                            go_wp2
                            go_meet
                            case rel => exact ⟨_, (true), (by first | rfl | (simp; done) | (simp [*]; done)), H', ⟨by have := HJ3.out; have := HK2.out; first | omega | exact Nat.le_refl _⟩, ⟨by (with_reducible repeat (first | apply Kd.R_alloc | apply Kd.R_drewN | apply Kd.R_drew)); exact HO_3.out⟩, ⟨by repeat (first | (with_reducible exact HR293.out) | (with_reducible refine Kd.C_alloc ?_ _) | (with_reducible refine Kd.C_drewN ?_ _) | (with_reducible refine Kd.C_drew ?_) | exact HR293.out)⟩, ⟨by repeat (first | (with_reducible first | exact HB.out | apply below_alloc | apply pw_below_drewN | apply below_drew1) | exact HB.out)⟩⟩
                        · rw [if_neg c22] at H
                          have c22b0 : (t295 == 0) = false := beq_eq_false_iff_ne.mpr c22
                          have c22b1 : (t295 != 0) = true := bne_iff_ne.mpr c22
                          (first | rw [c22b0] | (simp only [i64_w, i32_w]; rw [c22b0]) | skip)
                          have H' := Aside0.mk H
                          clear H
                          go_wp2
                          go_meet
                          case rel => exact ⟨_, (true), (by first | rfl | (simp; done) | (simp [*]; done)), H', ⟨by have := HJ3.out; have := HK2.out; first | omega | exact Nat.le_refl _⟩, ⟨by (with_reducible repeat (first | apply Kd.R_alloc | apply Kd.R_drewN | apply Kd.R_drew)); exact HO_3.out⟩, ⟨by repeat (first | (with_reducible exact HR293.out) | (with_reducible refine Kd.C_alloc ?_ _) | (with_reducible refine Kd.C_drewN ?_ _) | (with_reducible refine Kd.C_drew ?_) | exact HR293.out)⟩, ⟨by repeat (first | (with_reducible first | exact HB.out | apply below_alloc | apply pw_below_drewN | apply below_drew1) | exact HB.out)⟩⟩
                      case rest =>
                        clear HC18
                        try clear c1
                        try clear q1
                        try clear c2
                        try clear p2
                        try clear c3
                        try clear c6
                        try clear c6b0
                        try clear c6b1
                        try clear p6
                        try clear c7
                        try clear c8
                        try clear c11
                        try clear c12
                        try clear c12b0
                        try clear c13
                        try clear c13b0
                        try clear c13b1
                        try clear c14
                        try clear c14b0
                        try clear c14b1
                        try clear c15
                        try clear c15b0
                        try clear c15b1
                        try clear c19
                        try clear q19
                        try clear c20
                        try clear c22
                        try clear c22b0
                        try clear c22b1
                        try clear c23
                        try clear c23b0
                        try clear c23b1
                        try clear c25
                        try clear c27
                        try clear c27b0
                        try clear c27b1
                        try clear c29
                        try clear p2
                        try clear p6
                        try clear q019
                        try clear q19
                        obtain ⟨kq, x76_17, rfl, HA, HJ17, HO_3, HR293, HB⟩ := hcut
                        cases kq with
                        | zero => exact absurd HA.out (by simp [nameplatelaw02_NameUnder.j2])
                        | succ kj17 =>
                          have H := HA.out
                          clear HA
                          simp only [nameplatelaw02_NameUnder.j2] at H
                          by_cases c41 : x76_17 = true
                          · subst c41
                            have H1 : (some false) = some r := by rw [if_pos rfl] at H; exact H
                            clear H
                            have H := H1
                            clear H1
                            exact absurd ((Option.some.inj H).trans hr_.out) (by decide)
                          · replace c41 := Bool.eq_false_iff.mpr c41
                            subst c41
                            have H1 : ((name_Parent.f kj17 t296).bind fun bt302 => (if bt302.2 = true then (if bt302.1.toList = x4_2.toList then (nameplatelaw02_NameUnder.l0 kj17 a0 t284 t296 (wrap64 (x5_2 - 1))) else (some false)) else (some false))) = some r := by rw [if_neg (show ¬ (false = true) by decide)] at H; exact H
                            clear H
                            have H := H1
                            clear H1
                            replace H := Option.bind_eq_some_iff.mp H
                            obtain ⟨⟨t302, t303⟩, A420, H⟩ := H
                            replace H : (if t303 = true then (if t302.toList = x4_2.toList then (nameplatelaw02_NameUnder.l0 kj17 a0 t284 t296 (wrap64 (x5_2 - 1))) else (some false)) else (some false)) = some r := H
                            have A42 := Aside0.mk A420
                            clear A420
                            by_cases c43 : t303 = true
                            · subst c43
                              have H1 : (if t302.toList = x4_2.toList then (nameplatelaw02_NameUnder.l0 kj17 a0 t284 t296 (wrap64 (x5_2 - 1))) else (some false)) = some r := by rw [if_pos rfl] at H; exact H
                              clear H
                              have H := H1
                              clear H1
                              by_cases c44 : t302.toList = x4_2.toList
                              · rw [if_pos c44] at H
                                have c44b0 : (t302.toList == x4_2.toList) = true := beq_iff_eq.mpr c44
                                have c44b1 : (t302.toList != x4_2.toList) = false := bne_eq_false_iff_eq.mpr c44
                                clear c44
                                have H' := Aside0.mk H
                                clear H
                                go_wp2_with (first | ((with_reducible refine gate_callee (f := 24) rfl ?_); refine goesL_ (some 79) rfl rfl Try.func24 (by kernel_rfl) rfl #[.string t296] rfl (by (try simp only [List.map_toArray, List.map_cons, List.map_nil]); first | done | rfl | (simp only [List.length_drop, List.length_take]; rfl)) ?_; (with_reducible refine (name_Parent.calls kj17 t296 t302 true _ A42.out).mono ?_); rintro e w' ⟨rfl, ⟨nd, rfl⟩⟩; refine ⟨_, rfl, ?_⟩))
                                go_roundg kj17
                                case measure => have := HJ3.out; have := HK2.out; have := HJ17.out; omega
                                case rel => exact ⟨(t296), (wrap64 (x5_2 - 1)), (by first | rfl | (simp; done) | (simp [*]; done)), (by first | rfl | (simp; done) | (simp [*]; done)), H', ⟨by have := HJ3.out; have := HK2.out; have := HJ17.out; omega⟩, ⟨by (with_reducible repeat (first | apply Kd.R_alloc | apply Kd.R_drewN | apply Kd.R_drew)); exact HO_3.out⟩, ⟨by repeat (first | (with_reducible first | exact HB.out | apply below_alloc | apply pw_below_drewN | apply below_drew1) | exact HB.out)⟩⟩
                              · rw [if_neg c44] at H
                                have c44b0 : (t302.toList == x4_2.toList) = false := beq_eq_false_iff_ne.mpr c44
                                have c44b1 : (t302.toList != x4_2.toList) = true := bne_iff_ne.mpr c44
                                exact absurd ((Option.some.inj H).trans hr_.out) (by decide)
                            · replace c43 := Bool.eq_false_iff.mpr c43
                              subst c43
                              have H1 : (some false) = some r := by rw [if_neg (show ¬ (false = true) by decide)] at H; exact H
                              clear H
                              have H := H1
                              clear H1
                              exact absurd ((Option.some.inj H).trans hr_.out) (by decide)
                    · rw [if_neg c15] at H
                      exact absurd H (by simp)
                  · rw [if_neg c14] at H
                    exact absurd H (by simp)
                · rw [if_neg c13] at H
                  exact absurd H (by simp)
              · rw [if_neg c12] at H
                have c12b0 : decide (0 ≤ x5_2) = false := decide_eq_false c12
                clear c12
                replace H := Option.bind_eq_some_iff.mp H
                obtain ⟨⟨t287, t288⟩, A450, H⟩ := H
                replace H : (if x4_2.toList = a0.toList then ((name_Under.f k2 a0 a0).bind fun t289 => (if t289 = true then (if t288 = true then (some false) else (some (decide ((t284.length : Int) ≤ 127)))) else (some false))) else (some false)) = some r := H
                have A45 := Aside0.mk A450
                clear A450
                by_cases c46 : x4_2.toList = a0.toList
                · rw [if_pos c46] at H
                  have c46b0 : (x4_2.toList == a0.toList) = true := beq_iff_eq.mpr c46
                  have c46b1 : (x4_2.toList != a0.toList) = false := bne_eq_false_iff_eq.mpr c46
                  clear c46
                  replace H := Option.bind_eq_some_iff.mp H
                  obtain ⟨t289, A470, H⟩ := H
                  replace H : (if t289 = true then (if t288 = true then (some false) else (some (decide ((t284.length : Int) ≤ 127)))) else (some false)) = some r := H
                  have A47 := Aside0.mk A470
                  clear A470
                  by_cases c48 : t289 = true
                  · subst c48
                    have H1 : (if t288 = true then (some false) else (some (decide ((t284.length : Int) ≤ 127)))) = some r := by rw [if_pos rfl] at H; exact H
                    clear H
                    have H := H1
                    clear H1
                    by_cases c49 : t288 = true
                    · subst c49
                      have H1 : (some false) = some r := by rw [if_pos rfl] at H; exact H
                      clear H
                      have H := H1
                      clear H1
                      exact absurd ((Option.some.inj H).trans hr_.out) (by decide)
                    · replace c49 := Bool.eq_false_iff.mpr c49
                      subst c49
                      have H1 : (some (decide ((t284.length : Int) ≤ 127))) = some r := by rw [if_neg (show ¬ (false = true) by decide)] at H; exact H
                      clear H
                      have H := H1
                      clear H1
                      obtain rfl := Option.some.inj H
                      go_wp2_with (first | ((with_reducible refine gate_callee (f := 24) rfl ?_); refine goesL_ (some 91) rfl rfl Try.func24 (by kernel_rfl) rfl #[.string (⟨#[]⟩ : ByteArray)] rfl (by (try simp only [List.map_toArray, List.map_cons, List.map_nil]); first | done | rfl | (simp only [List.length_drop, List.length_take]; rfl)) ?_; (with_reducible refine (name_Parent.calls k2 (⟨#[]⟩ : ByteArray) t287 false _ A45.out).mono ?_); rintro e w' ⟨rfl, ⟨nd, rfl⟩⟩; refine ⟨_, rfl, ?_⟩) | (go_at_call 16; (with_reducible refine (name_Under.calls k2 a0 a0 true _ A47.out).mono ?_); rintro e w50 ⟨rfl, hb⟩; have n0_ := Aside0.mk (Kd.R_below (by (with_reducible repeat (first | apply Kd.R_alloc | apply Kd.R_drewN | apply Kd.R_drew)); exact HO_3.out) hb); have n1_ := Aside0.mk (below_step (by repeat (first | (with_reducible first | exact HB.out | apply below_alloc | apply pw_below_drewN | apply below_drew1) | exact HB.out)) hb); clear HO_3; clear HB; have HO_3 := n0_; have HB := n1_; clear n0_ n1_; (try clear hb); (try clear hb2); (try clear hk); (try clear hi)))
                      go_ret
                      exact ⟨by first | rfl | (simp [errW_none, errW_some] <;> rfl) | (simp [*, errW_none, errW_some] <;> rfl), by repeat (first | (with_reducible first | exact HB.out | apply below_alloc | apply pw_below_drewN | apply below_drew1) | exact HB.out)⟩
                  · replace c48 := Bool.eq_false_iff.mpr c48
                    subst c48
                    have H1 : (some false) = some r := by rw [if_neg (show ¬ (false = true) by decide)] at H; exact H
                    clear H
                    have H := H1
                    clear H1
                    exact absurd ((Option.some.inj H).trans hr_.out) (by decide)
                · rw [if_neg c46] at H
                  have c46b0 : (x4_2.toList == a0.toList) = false := beq_eq_false_iff_ne.mpr c46
                  have c46b1 : (x4_2.toList != a0.toList) = true := bne_iff_ne.mpr c46
                  exact absurd ((Option.some.inj H).trans hr_.out) (by decide)
  · replace c3 := Bool.eq_false_iff.mpr c3
    subst c3
    have H1 : (some false) = some r := by rw [if_neg (show ¬ (false = true) by decide)] at H; exact H
    clear H
    have H := H1
    clear H1
    exact absurd ((Option.some.inj H).trans hr_.out) (by decide)

/-- THE ONE PURE STATEMENT of nameplatelaw02_NameUnder: yours. -/
def nameplatelaw02_NameUnder.Pure : Prop := ∀ (a0 : ByteArray), a0.size ≤ 140737488351232 → ∃ k, nameplatelaw02_NameUnder.f k a0 = some true
theorem nameplatelaw02_NameUnder.walk (P : nameplatelaw02_NameUnder.Pure) (a0 : ByteArray) (w : World) (w0 : a0.size ≤ 140737488351232) :
    Calls Try.prog 7 #[.string a0] w fun e w' => e = .returned (.bool true) ∧ Below w.heap.size w w' := by
  obtain ⟨k, h⟩ := P a0 w0
  refine (nameplatelaw02_NameUnder.calls k a0 true w ⟨rfl⟩ h).mono ?_
  rintro e w' ⟨rfl, hd⟩
  exact ⟨rfl, hd⟩

end Go.Proofs.Ythimngabaliapaa.OSeven
