/- This text proves, for each Go function named below, which plain Lean function its call computes, in whatever memory; a program of this session has written it. -/
import Derived.Test.YtfpdmmpjoejmiaaOCallsx0
import Derived.Test.YtfpdmmpjoejmiaaOCallsx1
import Derived.Test.YtfpdmmpjoejmiaaOCallsx2
import Derived.Test.YtfpdmmpjoejmiaaOCallsx3
import Derived.Test.YtfpdmmpjoejmiaaOCallsx4
import Derived.Test.YtfpdmmpjoejmiaaOCallsx5
import Derived.Test.YtfpdmmpjoejmiaaOCallsx6
namespace Go.Proofs.Ytfpdmmpjoejmiaa.OCalls
open Go.RowKit Go.Proofs.YtfpdmmpjoejmiaaW.PrintWords Go.Proofs.YtfpdmmpjoejmiaaW.PrintLast Go.Proofs.YtfpdmmpjoejmiaaW.PrintMore
attribute [local go_sem] max2_int min2_int max_two min_two max_three min_three max_four min_four   -- for this text's walks alone
set_option linter.unusedVariables false
set_option linter.unusedSimpArgs false

section
open Go.Shelf
attribute [local go_sem] Oper.semAt_some
def midF (L : List ByteArray) (n : Nat) : List ByteArray := (L.take n).map foldS ++ L.drop n
theorem midF_length (L : List ByteArray) (n : Nat) : (midF L n).length = L.length := by
  unfold midF
  rw [List.length_append, List.length_map, List.length_take, List.length_drop]
  omega
theorem midF_at {L : List ByteArray} {n : Nat} (h : n < L.length) : rdOf ByteArray.empty (midF L n) (n : Int) = L[n] := by
  rw [rdOf_at (by rw [midF_length]; exact h)]
  unfold midF
  rw [List.getElem_append_right (by simp; omega)]
  simp only [List.length_map, List.length_take, Nat.min_eq_left (Nat.le_of_lt h), Nat.sub_self, List.getElem_drop, Nat.add_zero]
theorem midF_set {L : List ByteArray} {n : Nat} (h : n < L.length) : (midF L n).set n (foldS L[n]) = midF L (n + 1) := by
  unfold midF
  rw [List.set_append_right _ _ (by simp; omega)]
  simp only [List.length_map, List.length_take, Nat.min_eq_left (Nat.le_of_lt h), Nat.sub_self]
  rw [List.drop_eq_getElem_cons h, List.set_cons_zero, List.take_succ_eq_append_getElem h, List.map_append, List.append_assoc]
  rfl
theorem midF_all (L : List ByteArray) : midF L L.length = L.map foldS := by
  unfold midF
  rw [List.take_length, List.drop_length, List.append_nil]
def name_Fold.f (k : Nat) (a0 : ByteArray) : Option ByteArray :=
  (name_Labels.f k a0).bind fun l => if l.all (fun x => decide (x.size ≤ 1000)) then (name_Make.f (l.map foldS)).bind fun p => some p.1 else none
theorem name_Fold.mono : ∀ a0 k, LeO (name_Fold.f k a0) (name_Fold.f (k + 1) a0) := by
  intro a0 k
  unfold name_Fold.f
  exact LeO.bind (name_Labels.mono a0 k) (fun _ => LeO.refl _)
set_option maxRecDepth 100000 in
set_option maxHeartbeats 4000000 in
theorem name_Fold.calls (k : Nat) (a0 r : ByteArray) (w : World) (h : name_Fold.f k a0 = some r) :
    Calls Try.prog 20 #[.string a0] w fun e w' => e = .returned (.string r) ∧ Below w.heap.size w w' := by
  unfold name_Fold.f at h
  cases hl : name_Labels.f k a0 with
  | none => rw [hl] at h; cases h
  | some L =>
    rw [hl, Option.bind_some] at h
    by_cases hs : L.all (fun x => decide (x.size ≤ 1000)) = true
    rotate_left
    · rw [if_neg hs] at h; cases h
    rw [if_pos hs] at h
    cases hm : name_Make.f (L.map foldS) with
    | none => rw [hm] at h; cases h
    | some p =>
      obtain ⟨p1, p2⟩ := p
      rw [hm, Option.bind_some] at h
      obtain rfl := Option.some.inj h
      have hle := name_Labels_le hl
      have hall : ∀ x ∈ L, x.size ≤ 1000 := fun x hx => by simpa using List.all_eq_true.1 hs x hx
      have HL := Aside0.mk hl
      have HM := Aside0.mk hm
      have HA := Aside0.mk hall
      clear h hl hm hs hall
      go_enter Try.func20, Try.ntmps20
      go_wp2_with (go_at_call 18; (with_reducible refine (name_Labels.calls k a0 L _ HL.out).mono ?_); rintro e w3 ⟨v3, rfl, hr3, hb3⟩; have HR3 := Aside0.mk hr3; have HB3 := Aside0.mk hb3; clear hr3 hb3; obtain ⟨A3, c3, e3⟩ := Kd.R_slice HR3.out; subst e3)
      go_loopg [12] L.length (fun kq v12 w' => ∃ n : Nat, v12 = .int .i64 (n : Int) ∧ Aside0 (n + kq = L.length) ∧ Aside0 (Kd.R Kd.string 9 w' w.heap.size (fun _ => True) (.slice A3 L.length c3) (midF L n)) ∧ Aside0 (Below w.heap.size w w'))
      case atStart => exact ⟨0, rfl, ⟨by omega⟩, ⟨HR3.out⟩, HB3⟩
      case round =>
        clear HR3 HB3
        obtain ⟨n, rfl, HN, HR, HB⟩ := hrel
        have hN := HN.out
        by_cases hn : n < L.length
        · have hR := HR.out
          rw [← midF_length L n] at hR
          have ho := Kd.own_of_R (enc := Value.string) (h1 := fun _ => rfl) hR
          obtain ⟨g, hA, hg⟩ : ∃ g, A3 = some ⟨g, 0, none⟩ ∧ w.heap.size ≤ g := by
            rcases ho.2 with ⟨he, h0⟩ | ⟨g, cap, cur, he, hbg, _⟩
            · rw [midF_length] at h0; omega
            · injection he with h1 h2 h3
              exact ⟨g, h1, hbg⟩
          subst hA
          obtain ⟨hx, hf⟩ := Kd.R_cell (enc := Value.string) (h1 := fun _ => rfl) ByteArray.empty hR (n : Int) (by omega) (by rw [midF_length]; omega)
          rw [Int.toNat_natCast, midF_at hn] at hx
          rw [Int.toNat_natCast] at hf
          have hsz := HA.out L[n] (List.getElem_mem hn)
          obtain ⟨x, hxe⟩ : ∃ x, L[n] = x := ⟨_, rfl⟩
          have hset := midF_set hn
          rw [hxe] at hx hsz hset
          have HS := Aside0.mk hset
          clear hset hR ho hxe
          have b1 : decide ((n : Int) < (L.length : Int)) = true := decide_eq_true (by omega)
          have p1 : (0 ≤ (n : Int)) = True := eq_true (by omega)
          have q1 : ((n : Int) < (L.length : Int)) = True := eq_true (by omega)
          have hw : wrap64 ((n : Int) + 1) = ((n + 1 : Nat) : Int) := by
            rw [wrap_id (by omega) (by omega)]
            rfl
          have HF := Aside0.mk (fun (W : World) => label_Fold.calls x (foldS x) W (by unfold label_Fold.f; rw [if_pos (by omega)]))
          have hlt : g < wr.heap.size := by
            rcases Nat.lt_or_ge g wr.heap.size with h' | h'
            · exact h'
            · simp [World.cell?, Array.getElem?_eq_none h'] at hx
          have HX7 := Aside0.mk (fun (W : World) (hb : Below wr.heap.size wr W) => (⟨(hb.cell (p := ⟨g, n, none⟩) hlt).trans hx, (hb.frozen (p := ⟨g, n, none⟩) hlt).trans hf, Kd.R_below HR.out hb⟩ : W.cell? ⟨g, n, none⟩ = some (.string x) ∧ W.frozen? ⟨g, n, none⟩ = false ∧ Kd.R Kd.string 9 W w.heap.size (fun _ => True) (.slice (some ⟨g, 0, none⟩) L.length c3) (midF L n)))
          go_wp2_with (go_at_call 46; (with_reducible refine (HF.out _).mono ?_); rintro e w7 ⟨rfl, hb7⟩; obtain ⟨hx7, hf7, hR7⟩ := HX7.out _ hb7; have HR7 := Aside0.mk hR7; have HB7 := Aside0.mk hb7; clear hR7 hb7)
          go_roundg (gk - 1)
          case measure => omega
          case rel =>
            refine ⟨n + 1, rfl, ⟨by omega⟩, ⟨?_⟩, ⟨(HB.out.trans (HB7.out.mono HB.out.size)).setCell (p := ⟨g, n, none⟩) hg _⟩⟩
            have := Kd.R_putn (enc := Value.string) (h1 := fun _ => rfl) HR7.out (n : Int) (foldS x)
            rw [Int.toNat_natCast, HS.out] at this
            exact this
        · have en : n = L.length := by omega
          subst en
          have b1 : decide ((L.length : Int) < (L.length : Int)) = false := decide_eq_false (by omega)
          have hR := HR.out
          rw [midF_all] at hR
          have hlen : L.length = (L.map foldS).length := (List.length_map _).symm
          have hC := (Kd.R_reads' hR).2.2
          have hcc := (Kd.R_reads' hR).2.1
          rw [hlen] at hcc
          have HC := Aside0.mk hC
          have HCC := Aside0.mk hcc
          have HLN := Aside0.mk hlen
          have HT := Aside0.mk (show Calls Try.prog 5 #[.slice A3 L.length c3] wr fun e w' => e = .returned (.tuple #[.string p1, .int .i64 p2]) ∧ Below wr.heap.size wr w' by rw [HLN.out]; exact name_Make.calls A3 c3 _ p1 p2 wr HC.out HCC.out HM.out)
          clear hC hcc hR hlen
          go_wp2_with (go_at_call 5; (with_reducible refine HT.out.mono ?_); rintro e w7 ⟨rfl, hb7⟩)
          go_ret
          exact ⟨rfl, HB.out.trans (hb7.mono HB.out.size)⟩
end

/-! ### nameplateref01_Fold: function 47; by hand -/
set_option maxHeartbeats 1000000 in
set_option maxRecDepth 100000 in
theorem nameplateref01_Fold.walk_ (s : ByteArray) (w : World) (hs : s.size ≤ 9223372036854775807) : Calls Try.prog 47 #[.string s] w fun e w' => e = .returned (.string (strOfNums ((bytesOf s).map foldI))) ∧ Below w.heap.size w w' := by
  have HB := Aside0.mk (Below.refl w.heap.size w)
  go_enter Try.func47, Try.ntmps47
  go_wp2_with (first | ((with_reducible refine gate_dst (N := 6) rfl ?_); refine conv_row_event (src := 9) (dst := 44) (e := 5) (s := s) (w := w) rfl (N := 6) rfl Try.underlying9 Try.underlying44 Try.underlying5 ?cvr hs HB.out ?_; (case cvr => intro kb_; first | (go_simp; done) | (go_simp; rfl)); intro g c w1 hrow hc hg hb; have HROW := Aside0.mk hrow; have HB2 := Aside0.mk hb; have HC := Aside0.mk hc; clear hrow hb hc))
  obtain ⟨xs, hxs⟩ : ∃ xs, xs = bytesOf s := ⟨_, rfl⟩
  rw [← hxs] at HROW HC ⊢
  have HXS := Aside0.mk hxs
  have HL := Aside0.mk (show xs.length ≤ 9223372036854775807 by rw [hxs, bytesOf_length]; exact hs)
  clear hxs
  go_loopw [4] (fun i wr => ∃ k : Nat, k ≤ xs.length ∧ i = .int .i64 k ∧ Aside0 (ConvRow wr 5 g xs.length (foldTo xs k)) ∧ Aside0 (Below w.heap.size w wr)) (fun i _ => xs.length - (intOf i).toNat)
  case atStart => exact ⟨0, Nat.zero_le _, rfl, ⟨by rw [foldTo_zero]; exact HROW.out⟩, HB2⟩
  case round =>
    clear HROW HB2 HB
    obtain ⟨k, hk, rfl, HR, HB⟩ := hrel
    have hL := HL.out
    by_cases hlt : k < xs.length
    · have hx := HR.out.cell k hlt
      have hf := HR.out.free k hlt
      rw [foldTo_at xs k hlt] at hx
      have hb01 : 0 ≤ xs.getD k 0 ∧ xs.getD k 0 ≤ 255 := by rw [HXS.out]; exact byte_range_ s k
      obtain ⟨hb0, hb1⟩ := hb01
      have HS := Aside0.mk (show ConvRow (wr.setCell ⟨g, k, none⟩ (.int .u8 (foldI (xs.getD k 0)))) 5 g xs.length (foldTo xs (k + 1)) by rw [← foldTo_set xs k hlt]; exact HR.out.set k (foldI (xs.getD k 0)))
      have HN := Aside0.mk (fun e => foldTo_same xs k hlt e)
      generalize xs.getD k 0 = x at hx hb0 hb1 HS HN
      by_cases hA : 65 ≤ x
      · by_cases hZ : x ≤ 90
        · have HF := Aside0.mk (foldI_yes hA hZ)
          rw [HF.out] at HS
          go_wp2
          go_roundw
          case rel => exact ⟨k + 1, by omega, by go_num, HS, ⟨below_set HB.out hg⟩⟩
          case measure => simp [intOf]; omega
        · have HF := Aside0.mk (HN.out (foldI_big hZ))
          have hZ' : decide (x ≤ 90) = false := by simpa using hZ
          go_wp2
          go_roundw
          case rel => exact ⟨k + 1, by omega, by go_num, ⟨by rw [HF.out]; exact HR.out⟩, HB⟩
          case measure => simp [intOf]; omega
      · have HF := Aside0.mk (HN.out (foldI_small hA))
        have hA' : decide (65 ≤ x) = false := by simpa using hA
        go_wp2
        go_roundw
        case rel => exact ⟨k + 1, by omega, by go_num, ⟨by rw [HF.out]; exact HR.out⟩, HB⟩
        case measure => simp [intOf]; omega
    · have hk' : k = xs.length := by omega
      subst hk'
      have hcv := Kd.C_string (P := Try.prog) (A := some ⟨g, 0, none⟩) (c := c) Try.underlying44 Try.underlying5 Try.underlying9 HR.out.reads
      go_wp2
      go_ret
      exact ⟨by rw [← HXS.out, ← foldTo_all xs]; rfl, HB.out⟩
def nameplateref01_Fold.f (a0 : ByteArray) : Option (ByteArray) := if a0.size ≤ 9223372036854775807 then (some (foldS a0)) else (none)
theorem nameplateref01_Fold.calls (a0 : ByteArray) (r : ByteArray) (w : World) (h : nameplateref01_Fold.f a0 = some r) :
    Calls Try.prog 47 #[.string a0] w fun e w' => e = .returned (.string r) ∧ Below w.heap.size w w' := by
  unfold nameplateref01_Fold.f at h
  by_cases hs : a0.size ≤ 9223372036854775807
  · rw [if_pos hs] at h
    obtain rfl := Option.some.inj h
    exact nameplateref01_Fold.walk_ a0 w hs
  · rw [if_neg hs] at h
    cases h

/-! ### nameplateref02_Fold: function 21 -/
def nameplateref02_Fold.l0 : Nat → List ByteArray → Int → Option (ByteArray)
  | 0, _, _ => none
  | k + 1, x3, x4 => if x4 < (x3.length : Int) then (if 0 ≤ x4 then ((nameplateref01_Fold.f (rdOf ByteArray.empty x3 x4)).bind fun t249 => (nameplateref02_Fold.l0 k (x3.set (x4 : Int).toNat t249) (wrap64 (x4 + 1)))) else (none)) else ((nameplateref02_Make.f k x3).bind fun bt251 => (some bt251.1))
def nameplateref02_Fold.f (k : Nat) (a0 : ByteArray) : Option (ByteArray) := (nameplateref02_Labels.f k a0).bind fun t245 => (nameplateref02_Fold.l0 k t245 0)
theorem nameplateref02_Fold.mono_l : ∀ k, (∀ y0 y1, LeO (nameplateref02_Fold.l0 k y0 y1) (nameplateref02_Fold.l0 (k + 1) y0 y1))
  | 0 => fun _ _ r h => by simp [nameplateref02_Fold.l0] at h
  | k + 1 => by
    have ih0 := nameplateref02_Fold.mono_l k
    · intro y0 y1
      unfold nameplateref02_Fold.l0
      repeat' first
      | (with_reducible exact ih0 _ _)
      | (with_reducible exact nameplateref02_Labels.mono _ _)
      | (with_reducible exact nameplateref02_Make.mono _ _)
      | (with_reducible exact LeO.refl _)
      | (with_reducible exact LeO.none _)
      | (with_reducible refine LeO.ite ?_ ?_)
      | (with_reducible refine LeO.bind ?_ (fun _ => ?_))
      | exact ih0 _ _
      | exact nameplateref02_Labels.mono _ _
      | exact nameplateref02_Make.mono _ _
      | exact LeO.none _
      | refine LeO.ite ?_ ?_
      | refine LeO.bind ?_ (fun _ => ?_)
theorem nameplateref02_Fold.mono : ∀ a0 k, LeO (nameplateref02_Fold.f k a0) (nameplateref02_Fold.f (k + 1) a0) := by
  intro a0 k
  have ih0 := nameplateref02_Fold.mono_l k
  unfold nameplateref02_Fold.f
  repeat' first
      | (with_reducible exact ih0 _ _)
      | (with_reducible exact nameplateref02_Labels.mono _ _)
      | (with_reducible exact nameplateref02_Make.mono _ _)
      | (with_reducible exact LeO.refl _)
      | (with_reducible exact LeO.none _)
      | (with_reducible refine LeO.ite ?_ ?_)
      | (with_reducible refine LeO.bind ?_ (fun _ => ?_))
      | exact ih0 _ _
      | exact nameplateref02_Labels.mono _ _
      | exact nameplateref02_Make.mono _ _
      | exact LeO.none _
      | refine LeO.ite ?_ ?_
      | refine LeO.bind ?_ (fun _ => ?_)
set_option maxHeartbeats 8000000 in
set_option maxRecDepth 100000 in
theorem nameplateref02_Fold.calls (k : Nat) (a0 : ByteArray) (r : ByteArray) (w : World) (h : nameplateref02_Fold.f k a0 = some r) :
    Calls Try.prog 21 #[.string a0] w fun e w' => e = .returned (.string r) ∧ Below w.heap.size w w' := by
  have HB := Aside0.mk (Below.refl w.heap.size w)
  have H : ((nameplateref02_Labels.f k a0).bind fun t245 => (nameplateref02_Fold.l0 k t245 0)) = some r := h
  clear h
  replace H := Option.bind_eq_some_iff.mp H
  obtain ⟨t245, A20, H⟩ := H
  replace H : (nameplateref02_Fold.l0 k t245 0) = some r := H
  have A2 := Aside0.mk A20
  clear A20
  have H' := Aside0.mk H
  clear H
  go_enter Try.func21, Try.ntmps21
  go_wp2_with (first | ((with_reducible refine gate_callee (f := 19) rfl ?_); refine goesL_ (some 8) rfl rfl Try.func19 (by kernel_rfl) rfl #[.string a0] rfl (by (try simp only [List.map_toArray, List.map_cons, List.map_nil]); first | done | rfl | (simp only [List.length_drop, List.length_take]; rfl)) ?_; (with_reducible refine (nameplateref02_Labels.calls k a0 t245 _ A2.out).mono ?_); rintro e w3 ⟨v246, rfl, ho0, hb⟩; refine ⟨_, rfl, ?_⟩; have n0_ := Aside0.mk (Kd.R_lower ho0 (below_size (by repeat (first | (with_reducible first | exact HB.out | apply below_alloc | apply pw_below_drewN | apply below_drew1) | exact HB.out)))); have n1_ := Aside0.mk (below_step (by repeat (first | (with_reducible first | exact HB.out | apply below_alloc | apply pw_below_drewN | apply below_drew1) | exact HB.out)) hb); clear HB; have HO247 := n0_; have HB := n1_; clear n0_ n1_; (try clear hb); (try clear hb2); (try clear hk); (try clear hi); (try clear ho0)))
  go_loopg [4] k (fun kq v4 w' => ∃ (x3_1 : List ByteArray) (x4_1 : Int), v4 = .int .i64 x4_1 ∧ Aside0 (nameplateref02_Fold.l0 kq x3_1 x4_1 = some r) ∧ Aside0 (kq ≤ k) ∧ Aside0 (Kd.R Kd.string 9 w' w.heap.size (fun _ => True) v246 x3_1) ∧ Aside0 (Below w.heap.size w w'))
  case atStart => exact ⟨(t245), (0), (by first | rfl | (simp; done) | (simp [*]; done)), H', ⟨Nat.le_refl _⟩, ⟨by (with_reducible repeat (first | apply Kd.R_alloc | apply Kd.R_drewN | apply Kd.R_drew)); exact HO247.out⟩, ⟨by repeat (first | (with_reducible first | exact HB.out | apply below_alloc | apply pw_below_drewN | apply below_drew1) | exact HB.out)⟩⟩
  case round =>
    clear H'
    try clear c1
    try clear c2
    try clear p2
    obtain ⟨x3_1, x4_1, rfl, HA, HK1, HO_3, HB⟩ := hrel
    cases gk with
    | zero => exact absurd HA.out (by simp [nameplateref02_Fold.l0])
    | succ k1 =>
      have H := HA.out
      clear HA
      simp only [nameplateref02_Fold.l0] at H
      by_cases c4 : x4_1 < (x3_1.length : Int)
      · rw [if_pos c4] at H
        have c4b0 : decide (x4_1 < (x3_1.length : Int)) = true := decide_eq_true c4
        clear c4
        by_cases c5 : 0 ≤ x4_1
        · rw [if_pos c5] at H
          have c5b0 : decide (0 ≤ x4_1) = true := decide_eq_true c5
          clear c5
          replace H := Option.bind_eq_some_iff.mp H
          obtain ⟨t249, A60, H⟩ := H
          replace H : (nameplateref02_Fold.l0 k1 (x3_1.set (x4_1 : Int).toNat t249) (wrap64 (x4_1 + 1))) = some r := H
          have A6 := Aside0.mk A60
          clear A60
          obtain ⟨y250, hy250⟩ : ∃ y_ : List ByteArray, y_ = (x3_1.set (x4_1 : Int).toNat t249) := ⟨_, rfl⟩
          replace H : (nameplateref02_Fold.l0 k1 y250 (wrap64 (x4_1 + 1))) = some r := by first | (rw [hy250]; with_reducible exact H) | (have H2_ := (Option.bind_some _ _).symm.trans H; rw [hy250]; with_reducible exact H2_) | (have H2_ := (Option.bind_some _ _).symm.trans H; with_reducible exact H2_) | with_reducible exact H | (rw [hy250]; exact H) | exact H
          have Ny250 := Aside0.mk hy250
          clear hy250
          have H' := Aside0.mk H
          clear H
          obtain ⟨Ao8, co8, eo8⟩ := Kd.R_slice HO_3.out
          subst eo8
          have p248 : 0 ≤ (x4_1 : Int) := of_decide_eq_true (by first | (with_reducible assumption) | assumption)
          have q248 : x4_1 < (x3_1.length : Int) := of_decide_eq_true (by first | (with_reducible assumption) | assumption)
          obtain ⟨ad248, e248, hx248_0⟩ := Kd.at_string (Kd.R_reads' HO_3.out).2.2 x4_1 p248 q248
          cases e248
          replace p248 := eq_true p248
          replace q248 := eq_true q248
          go_wp2_with (first | ((with_reducible refine gate_callee (f := 47) rfl ?_); refine goesL_ (some 21) rfl rfl Try.func47 (by kernel_rfl) rfl #[.string (rdOf ByteArray.empty x3_1 x4_1)] rfl (by (try simp only [List.map_toArray, List.map_cons, List.map_nil]); first | done | rfl | (simp only [List.length_drop, List.length_take]; rfl)) ?_; (with_reducible refine (nameplateref01_Fold.calls (rdOf ByteArray.empty x3_1 x4_1) t249 _ A6.out).mono ?_); rintro e w9 ⟨rfl, hb⟩; refine ⟨_, rfl, ?_⟩; have n0_ := Aside0.mk (Kd.R_below (by (with_reducible repeat (first | apply Kd.R_alloc | apply Kd.R_drewN | apply Kd.R_drew)); exact HO_3.out) hb); have n1_ := Aside0.mk (below_step (by repeat (first | (with_reducible first | exact HB.out | apply below_alloc | apply pw_below_drewN | apply below_drew1) | exact HB.out)) hb); clear HO_3; clear HB; have HO_3 := n0_; have HB := n1_; clear n0_ n1_; (try clear hb); (try clear hb2); (try clear hk); (try clear hi); have p7 : 0 ≤ (x4_1 : Int) := of_decide_eq_true (by first | (with_reducible assumption) | assumption); have q7 : (x4_1 : Int) < ((x3_1.length : Int) : Int) := of_decide_eq_true (by first | (with_reducible assumption) | assumption); obtain ⟨go7, co7, eo7, gb7, gl7, cl7, HG7⟩ := Kd.R_form HO_3.out (by omega); (first | cases eo7 | (injection eo7 with ea_ en_ ec_; (first | subst ea_ | (injection ea_ with ea_; subst ea_)); subst ec_; clear en_)); have GB7 := Aside0.mk gb7; have GG7 := Aside0.mk HG7; clear gb7 gl7 HG7; (first | simp only [add_plain] at hx248_0 | skip); obtain ⟨hx7_0, hf7_0⟩ := Kd.R_celln (⟨#[]⟩ : ByteArray) HO_3.out (x4_1 : Int) p7 q7; replace p7 := eq_true p7; replace q7 := eq_true q7; obtain ⟨hy10_, hz10_⟩ := Kd.R_celln (⟨#[]⟩ : ByteArray) HO_3.out (x4_1 : Int) (of_decide_eq_true (by first | (with_reducible assumption) | assumption)) (of_decide_eq_true (by first | (with_reducible assumption) | assumption)); have HP10 := Kd.R_putg HO_3.out (x4_1 : Int) t249) | ((with_reducible refine gate_store (t := 9) (p := 22) rfl ?_); refine store_event (t := 9) (p := 22) (v := ?vo_w11) (w1 := (w9.setCell ⟨go7, (x4_1 : Int).toNat, none⟩ (.string t249))) ?hg ?ho ?hn ?hr ?_; (case ho => rfl); (case hg => rfl); (case hn => rfl); (case hr => first | (go_simp; done) | (go_simp; rfl)); intro w11 hw; have hg : w9.grownBy w11 (some go7) := (by rw [hw]; exact HP10.2); have hp_ : Kd.R Kd.string 9 w11 w.heap.size (fun _ => True) (.slice (some ⟨go7, 0, none⟩) x3_1.length co8) y250 := (by rw [hw, Ny250.out]; exact HP10.1); clear HP10; have n0_ := Aside0.mk (hp_); have n1_ := Aside0.mk ((by rw [hw]; exact below_set (HB.out) GB7.out : Below w.heap.size w w11)); clear HO_3; clear HB; have HO_3 := n0_; have HB := n1_; clear n0_ n1_; clear hg hw hp_))
          go_roundg k1
          case measure => have := HK1.out; omega
          case rel => exact ⟨(y250), (wrap64 (x4_1 + 1)), (by first | rfl | (simp; done) | (simp [*]; done)), H', ⟨by have := HK1.out; omega⟩, ⟨by (with_reducible repeat (first | apply Kd.R_alloc | apply Kd.R_drewN | apply Kd.R_drew)); exact HO_3.out⟩, ⟨by repeat (first | (with_reducible first | exact HB.out | apply below_alloc | apply pw_below_drewN | apply below_drew1) | exact HB.out)⟩⟩
        · rw [if_neg c5] at H
          exact absurd H (by simp)
      · rw [if_neg c4] at H
        have c4b0 : decide (x4_1 < (x3_1.length : Int)) = false := decide_eq_false c4
        clear c4
        replace H := Option.bind_eq_some_iff.mp H
        obtain ⟨⟨t251, t252⟩, A120, H⟩ := H
        replace H : (some t251) = some r := H
        have A12 := Aside0.mk A120
        clear A120
        obtain rfl := Option.some.inj H
        obtain ⟨Ao13, co13, eo13⟩ := Kd.R_slice HO_3.out
        subst eo13
        go_wp2_with (first | ((with_reducible refine gate_callee (f := 6) rfl ?_); refine goesL_ (some 25) rfl rfl Try.func6 (by kernel_rfl) rfl #[.slice Ao13 x3_1.length co13] rfl (by (try simp only [List.map_toArray, List.map_cons, List.map_nil]); first | done | rfl | (simp only [List.length_drop, List.length_take]; rfl)) ?_; (with_reducible refine (nameplateref02_Make.calls k1 _ _ x3_1 t251 t252 _ ?side1 ?side2 A12.out).mono ?_); (case side1 => repeat (first | exact (Kd.R_reads' HO_3.out).2.2 | (with_reducible refine Kd.C_alloc ?_ _) | (with_reducible refine Kd.C_drewN ?_ _) | (with_reducible refine Kd.C_drew ?_))); (case side2 => exact (Kd.R_reads' HO_3.out).2.1); rintro e w14 ⟨rfl, hb⟩; refine ⟨_, rfl, ?_⟩; have n0_ := Aside0.mk (Kd.R_below (by (with_reducible repeat (first | apply Kd.R_alloc | apply Kd.R_drewN | apply Kd.R_drew)); exact HO_3.out) hb); have n1_ := Aside0.mk (below_step (by repeat (first | (with_reducible first | exact HB.out | apply below_alloc | apply pw_below_drewN | apply below_drew1) | exact HB.out)) hb); clear HO_3; clear HB; have HO_3 := n0_; have HB := n1_; clear n0_ n1_; (try clear hb); (try clear hb2); (try clear hk); (try clear hi)))
        go_ret
        exact ⟨by first | rfl | (simp [errW_none, errW_some] <;> rfl) | (simp [*, errW_none, errW_some] <;> rfl), by repeat (first | (with_reducible first | exact HB.out | apply below_alloc | apply pw_below_drewN | apply below_drew1) | exact HB.out)⟩

-- NOT PRINTED: function 48 (slices_EqualFunc_string_string_string_string)

section
open Go.Shelf
attribute [local go_sem] Oper.semAt_some
set_option maxRecDepth 100000 in
set_option maxHeartbeats 2000000 in
theorem eqf_len (A0 A1 : Option Addr) (c0 c1 : Nat) (x y : List ByteArray) (hne : x.length ≠ y.length) (w : World) :
    Calls Try.prog 48 #[.slice A0 x.length c0, .slice A1 y.length c1, .func (.func 49) #[] #[]] w fun e w' => e = .returned (.bool false) ∧ Below w.heap.size w w' := by
  have h1 : ((x.length : Int) == (y.length : Int)) = false := beq_eq_false_iff_ne.2 (by omega)
  have h2 : ((x.length : Int) != (y.length : Int)) = true := bne_iff_ne.2 (by omega)
  go_enter Try.func48, Try.ntmps48
  go_wp2
  go_ret
  exact ⟨rfl, Below.refl _ _⟩
set_option maxRecDepth 100000 in
set_option maxHeartbeats 2000000 in
theorem eqf_same (A0 A1 : Option Addr) (c0 c1 : Nat) (x y : List ByteArray) (r : Bool) (hx254 : x.length ≤ 254) (hl : x.length = y.length) (hr : allSame (x.zip y) = some r) (w : World) (hC0 : Kd.C Kd.string w A0 x.length x) (hC1 : Kd.C Kd.string w A1 y.length y) :
    Calls Try.prog 48 #[.slice A0 x.length c0, .slice A1 y.length c1, .func (.func 49) #[] #[]] w fun e w' => e = .returned (.bool r) ∧ Below w.heap.size w w' := by
  have HR := Aside0.mk hr
  clear hr
  have h1 : ((x.length : Int) == (y.length : Int)) = true := beq_iff_eq.2 (by omega)
  have h2 : ((x.length : Int) != (y.length : Int)) = false := bne_eq_false_iff_eq.2 (by omega)
  have HL := Aside0.mk hl
  clear hl
  go_enter Try.func48, Try.ntmps48
  go_wp2
  go_loopg [17] x.length (fun kq v17 w' => ∃ n : Nat, v17 = .int .i64 (n : Int) ∧ Aside0 (n + kq = x.length) ∧ Aside0 (∀ m : Nat, m < n → label_Same.f (rdOf ByteArray.empty x (m : Int)) (rdOf ByteArray.empty y (m : Int)) = some true) ∧ Aside0 (Below w.heap.size w w'))
  case atStart => exact ⟨0, rfl, ⟨by omega⟩, ⟨fun m hm => absurd hm (Nat.not_lt_zero _)⟩, ⟨by first | exact Below.refl _ _ | exact pw_below_drewN (Below.refl _ _) _⟩⟩
  case round =>
    obtain ⟨n, rfl, HA, HC, HB⟩ := hrel
    have hA := HA.out
    have hB := HB.out
    by_cases hn : n < x.length
    · obtain ⟨b, hb, hbr⟩ := allSame_at HL.out.symm HR.out hn
      obtain ⟨ad, e1, hx⟩ := Kd.at_string (Kd.C_below hC0 hB) (n : Int) (by omega) (by omega)
      subst e1
      obtain ⟨ad1, e1, hy⟩ := Kd.at_string (Kd.C_below hC1 hB) (n : Int) (by omega) (by have := HL.out; omega)
      subst e1
      rw [Int.toNat_natCast] at hx hy
      obtain ⟨p, hp⟩ : ∃ p, rdOf ByteArray.empty x (n : Int) = p := ⟨_, rfl⟩
      obtain ⟨q, hq⟩ : ∃ q, rdOf ByteArray.empty y (n : Int) = q := ⟨_, rfl⟩
      rw [hp, hq] at hb
      rw [hp] at hx
      rw [hq] at hy
      have HX := Aside0.mk hb
      have HP := Aside0.mk hp
      have HQ := Aside0.mk hq
      clear hb hp hq
      have b1 : decide ((n : Int) < (x.length : Int)) = true := decide_eq_true (by omega)
      have p1 : (0 ≤ (n : Int)) = True := eq_true (by omega)
      have q1 : ((n : Int) < (x.length : Int)) = True := eq_true (by omega)
      have q2 : ((n : Int) < (y.length : Int)) = True := eq_true (by have := HL.out; omega)
      have hw : wrap64 ((n : Int) + 1) = ((n + 1 : Nat) : Int) := by
        rw [wrap_id (by omega) (by omega)]
        rfl
      have HT := Aside0.mk (fun (W : World) => label_Same.calls p q b W HX.out)
      cases b with
      | true =>
        clear hbr
        go_wp2_with (go_at_call 49; (with_reducible refine (HT.out _).mono ?_); rintro e w7 ⟨rfl, hb7⟩)
        go_roundg (gk - 1)
        case measure => omega
        case rel =>
          refine ⟨n + 1, rfl, ⟨by omega⟩, ⟨fun m hm => ?_⟩, ⟨hB.trans (hb7.mono hB.size)⟩⟩
          by_cases hmn : m < n
          · exact HC.out m hmn
          · obtain rfl : m = n := by omega
            rw [HP.out, HQ.out]
            exact HX.out
      | false =>
        have hbr' := hbr rfl
        subst hbr'
        clear hbr
        go_wp2_with (go_at_call 49; (with_reducible refine (HT.out _).mono ?_); rintro e w7 ⟨rfl, hb7⟩)
        go_ret
        exact ⟨rfl, hB.trans (hb7.mono hB.size)⟩
    · have en : n = x.length := by omega
      subst en
      have hrt : r = true := allSame_true HL.out.symm HR.out HC.out
      subst hrt
      have b1 : decide ((x.length : Int) < (x.length : Int)) = false := decide_eq_false (by omega)
      go_wp2
      go_ret
      exact ⟨rfl, hB⟩

def name_Same.f (k : Nat) (a0 a1 : ByteArray) : Option Bool :=
  (name_Check.f k a0).bind fun t => if t = 0 then ((name_Check.f k a1).bind fun u => if u = 0 then ((name_Labels.f k a0).bind fun x => (name_Labels.f k a1).bind fun y => if x.length = y.length then allSame (x.zip y) else some false) else some false) else some false
set_option maxRecDepth 100000 in
set_option maxHeartbeats 2000000 in
theorem nsame_bad1 (k : Nat) (a0 a1 : ByteArray) (c : Int) (hc : c ≠ 0) (hk : name_Check.f k a0 = some c) (w : World) :
    Calls Try.prog 22 #[.string a0, .string a1] w fun e W' => e = .returned (.bool false) ∧ Below w.heap.size w W' := by
  have HC := Aside0.mk hk
  have hc1 : (c == 0) = false := beq_eq_false_iff_ne.2 hc
  have hc2 : (c != 0) = true := bne_iff_ne.2 hc
  clear hk hc
  go_enter Try.func22, Try.ntmps22
  go_wp2_with (go_at_call 15; (with_reducible refine (name_Check.calls k a0 c _ HC.out).mono ?_); rintro e w' ⟨rfl, ⟨nd, rfl⟩⟩)
  go_ret
  exact ⟨rfl, pw_below_drewN (Below.refl _ _) _⟩
set_option maxRecDepth 100000 in
set_option maxHeartbeats 2000000 in
theorem nsame_bad2 (k : Nat) (a0 a1 : ByteArray) (c : Int) (hc : c ≠ 0) (hk0 : name_Check.f k a0 = some 0) (hk : name_Check.f k a1 = some c) (w : World) :
    Calls Try.prog 22 #[.string a0, .string a1] w fun e W' => e = .returned (.bool false) ∧ Below w.heap.size w W' := by
  have HC0 := Aside0.mk hk0
  have HC := Aside0.mk hk
  have hc1 : (c == 0) = false := beq_eq_false_iff_ne.2 hc
  have hc2 : (c != 0) = true := bne_iff_ne.2 hc
  clear hk hc hk0
  go_enter Try.func22, Try.ntmps22
  go_wp2_with (first
    | (go_at_call 15; (with_reducible refine (name_Check.calls k a0 0 _ HC0.out).mono ?_); rintro e w' ⟨rfl, ⟨nd, rfl⟩⟩)
    | (go_at_call 15; (with_reducible refine (name_Check.calls k a1 c _ HC.out).mono ?_); rintro e w' ⟨rfl, ⟨nd2, rfl⟩⟩))
  go_ret
  exact ⟨rfl, pw_below_drewN (Below.refl _ _) _⟩
set_option maxRecDepth 100000 in
set_option maxHeartbeats 2000000 in
theorem nsame_good (k : Nat) (a0 a1 : ByteArray) (x y : List ByteArray) (r : Bool) (hk0 : name_Check.f k a0 = some 0) (hk1 : name_Check.f k a1 = some 0) (hx : name_Labels.f k a0 = some x) (hy : name_Labels.f k a1 = some y)
    (hE : ∀ (A0 A1 : Option Addr) (c0 c1 : Nat) (w : World), Kd.C Kd.string w A0 x.length x → Kd.C Kd.string w A1 y.length y → Calls Try.prog 48 #[.slice A0 x.length c0, .slice A1 y.length c1, .func (.func 49) #[] #[]] w fun e w' => e = .returned (.bool r) ∧ Below w.heap.size w w') (w : World) :
    Calls Try.prog 22 #[.string a0, .string a1] w fun e W' => e = .returned (.bool r) ∧ Below w.heap.size w W' := by
  have HC0 := Aside0.mk hk0
  have HC1 := Aside0.mk hk1
  have HX := Aside0.mk hx
  have HY := Aside0.mk hy
  have HE := Aside0.mk hE
  clear hk1 hk0 hx hy hE
  go_enter Try.func22, Try.ntmps22
  go_wp2_with (first
    | (go_at_call 15; (with_reducible refine (name_Check.calls k a0 0 _ HC0.out).mono ?_); rintro e w' ⟨rfl, ⟨nd, rfl⟩⟩)
    | (go_at_call 15; (with_reducible refine (name_Check.calls k a1 0 _ HC1.out).mono ?_); rintro e w' ⟨rfl, ⟨nd2, rfl⟩⟩)
    | (go_at_call 18; (with_reducible refine (name_Labels.calls k a0 x _ HX.out).mono ?_); rintro e w3 ⟨v3, rfl, hr3, hb3⟩; have HR3 := Aside0.mk hr3; have HB3 := Aside0.mk hb3; clear hr3 hb3; obtain ⟨A3, c3, e3⟩ := Kd.R_slice HR3.out; subst e3)
    | (go_at_call 18; (with_reducible refine (name_Labels.calls k a1 y _ HY.out).mono ?_); rintro e w4 ⟨v4, rfl, hr4, hb4⟩; have HR4 := Aside0.mk hr4; have HB4 := Aside0.mk hb4; clear hr4 hb4; obtain ⟨A4, c4, e4⟩ := Kd.R_slice HR4.out; subst e4)
    | (go_at_call 48; (with_reducible refine (HE.out _ _ _ _ _ (Kd.C_below (Kd.R_reads' HR3.out).2.2 HB4.out) (Kd.R_reads' HR4.out).2.2).mono ?_); rintro e w5 ⟨rfl, hb5⟩; have HB5 := Aside0.mk hb5; clear hb5))
  go_ret
  refine ⟨rfl, ?_⟩
  have h3 := HB3.out.size
  have h4 := HB4.out.size
  exact ((pw_below_drewN (Below.refl _ _) _).trans (HB3.out.mono (by simp))).trans ((HB4.out.mono (by simpa using h3)).trans (HB5.out.mono (by simp at h3; omega)))
theorem name_Same.calls (k : Nat) (a0 a1 : ByteArray) (r : Bool) (w : World) (h : name_Same.f k a0 a1 = some r) :
    Calls Try.prog 22 #[.string a0, .string a1] w fun e w' => e = .returned (.bool r) ∧ Below w.heap.size w w' := by
  unfold name_Same.f at h
  cases hk : name_Check.f k a0 with
  | none => rw [hk] at h; cases h
  | some t =>
    rw [hk, Option.bind_some] at h
    by_cases ht : t = 0
    · subst ht
      rw [if_pos rfl] at h
      cases hk1 : name_Check.f k a1 with
      | none => rw [hk1] at h; cases h
      | some u =>
        rw [hk1, Option.bind_some] at h
        by_cases hu : u = 0
        · subst hu
          rw [if_pos rfl] at h
          cases hx : name_Labels.f k a0 with
          | none => rw [hx] at h; cases h
          | some x =>
            rw [hx, Option.bind_some] at h
            cases hy : name_Labels.f k a1 with
            | none => rw [hy] at h; cases h
            | some y =>
              rw [hy, Option.bind_some] at h
              by_cases hl : x.length = y.length
              · rw [if_pos hl] at h
                exact nsame_good k a0 a1 x y r hk hk1 hx hy (fun A0 A1 c0 c1 W h0 h1 => eqf_same A0 A1 c0 c1 x y r (name_Labels_le hx) hl h W h0 h1) w
              · rw [if_neg hl] at h
                obtain rfl := Option.some.inj h
                exact nsame_good k a0 a1 x y false hk hk1 hx hy (fun A0 A1 c0 c1 W _ _ => eqf_len A0 A1 c0 c1 x y hl W) w
        · rw [if_neg hu] at h
          obtain rfl := Option.some.inj h
          exact nsame_bad2 k a0 a1 u hu hk hk1 w
    · rw [if_neg ht] at h
      obtain rfl := Option.some.inj h
      exact nsame_bad1 k a0 a1 t ht hk w
theorem name_Same.mono : ∀ a0 a1 k, LeO (name_Same.f k a0 a1) (name_Same.f (k + 1) a0 a1) := by
  intro a0 a1 k
  unfold name_Same.f
  exact LeO.bind (name_Check.mono a0 k) (fun _ => LeO.ite (LeO.bind (name_Check.mono a1 k) (fun _ => LeO.ite (LeO.bind (name_Labels.mono a0 k) (fun _ => LeO.bind (name_Labels.mono a1 k) (fun _ => LeO.refl _))) (LeO.refl _))) (LeO.refl _))
end

/-! ### nameplateref02_Same: function 23 -/
def nameplateref02_Same.f (k : Nat) (a0 : ByteArray) (a1 : ByteArray) : Option (Bool) := (nameplateref02_Check.f k a0).bind fun t253 => (if t253 = 0 then ((nameplateref02_Check.f k a1).bind fun t254 => (if t254 = 0 then ((nameplateref02_Fold.f k a0).bind fun t255 => ((nameplateref02_Fold.f k a1).bind fun t256 => (some (t255.toList == t256.toList)))) else (some false))) else (some false))
theorem nameplateref02_Same.mono : ∀ a0 a1 k, LeO (nameplateref02_Same.f k a0 a1) (nameplateref02_Same.f (k + 1) a0 a1) := by
  intro a0 a1 k
  unfold nameplateref02_Same.f
  repeat' first
      | (with_reducible exact nameplateref02_Check.mono _ _)
      | (with_reducible exact nameplateref02_Fold.mono _ _)
      | (with_reducible exact LeO.refl _)
      | (with_reducible exact LeO.none _)
      | (with_reducible refine LeO.ite ?_ ?_)
      | (with_reducible refine LeO.bind ?_ (fun _ => ?_))
      | exact nameplateref02_Check.mono _ _
      | exact nameplateref02_Fold.mono _ _
      | exact LeO.none _
      | refine LeO.ite ?_ ?_
      | refine LeO.bind ?_ (fun _ => ?_)
set_option maxHeartbeats 8000000 in
set_option maxRecDepth 100000 in
theorem nameplateref02_Same.calls (k : Nat) (a0 : ByteArray) (a1 : ByteArray) (r : Bool) (w : World) (h : nameplateref02_Same.f k a0 a1 = some r) :
    Calls Try.prog 23 #[.string a0, .string a1] w fun e w' => e = .returned (.bool r) ∧ Below w.heap.size w w' := by
  have HB := Aside0.mk (Below.refl w.heap.size w)
  have H : ((nameplateref02_Check.f k a0).bind fun t253 => (if t253 = 0 then ((nameplateref02_Check.f k a1).bind fun t254 => (if t254 = 0 then ((nameplateref02_Fold.f k a0).bind fun t255 => ((nameplateref02_Fold.f k a1).bind fun t256 => (some (t255.toList == t256.toList)))) else (some false))) else (some false))) = some r := h
  clear h
  replace H := Option.bind_eq_some_iff.mp H
  obtain ⟨t253, A30, H⟩ := H
  replace H : (if t253 = 0 then ((nameplateref02_Check.f k a1).bind fun t254 => (if t254 = 0 then ((nameplateref02_Fold.f k a0).bind fun t255 => ((nameplateref02_Fold.f k a1).bind fun t256 => (some (t255.toList == t256.toList)))) else (some false))) else (some false)) = some r := H
  have A3 := Aside0.mk A30
  clear A30
  by_cases c4 : t253 = 0
  · rw [if_pos c4] at H
    have c4b0 : (t253 == 0) = true := beq_iff_eq.mpr c4
    have c4b1 : (t253 != 0) = false := bne_eq_false_iff_eq.mpr c4
    clear c4
    replace H := Option.bind_eq_some_iff.mp H
    obtain ⟨t254, A50, H⟩ := H
    replace H : (if t254 = 0 then ((nameplateref02_Fold.f k a0).bind fun t255 => ((nameplateref02_Fold.f k a1).bind fun t256 => (some (t255.toList == t256.toList)))) else (some false)) = some r := H
    have A5 := Aside0.mk A50
    clear A50
    by_cases c6 : t254 = 0
    · rw [if_pos c6] at H
      have c6b0 : (t254 == 0) = true := beq_iff_eq.mpr c6
      have c6b1 : (t254 != 0) = false := bne_eq_false_iff_eq.mpr c6
      clear c6
      replace H := Option.bind_eq_some_iff.mp H
      obtain ⟨t255, A70, H⟩ := H
      replace H : ((nameplateref02_Fold.f k a1).bind fun t256 => (some (t255.toList == t256.toList))) = some r := H
      have A7 := Aside0.mk A70
      clear A70
      replace H := Option.bind_eq_some_iff.mp H
      obtain ⟨t256, A80, H⟩ := H
      replace H : (some (t255.toList == t256.toList)) = some r := H
      have A8 := Aside0.mk A80
      clear A80
      obtain rfl := Option.some.inj H
      go_enter Try.func23, Try.ntmps23
      go_wp2_with (first | ((with_reducible refine gate_callee (f := 16) rfl ?_); refine goesL_ (some 6) rfl rfl Try.func16 (by kernel_rfl) rfl #[.string a0] rfl (by (try simp only [List.map_toArray, List.map_cons, List.map_nil]); first | done | rfl | (simp only [List.length_drop, List.length_take]; rfl)) ?_; (with_reducible refine (nameplateref02_Check.calls k a0 t253 _ A3.out).mono ?_); rintro e w' ⟨rfl, ⟨nd, rfl⟩⟩; refine ⟨_, rfl, ?_⟩) | (go_at_call 16; (with_reducible refine (nameplateref02_Check.calls k a1 t254 _ A5.out).mono ?_); rintro e w' ⟨rfl, ⟨nd, rfl⟩⟩) | (go_at_call 21; (with_reducible refine (nameplateref02_Fold.calls k a0 t255 _ A7.out).mono ?_); rintro e w9 ⟨rfl, hb⟩; have n0_ := Aside0.mk (below_step (by repeat (first | (with_reducible first | exact HB.out | apply below_alloc | apply pw_below_drewN | apply below_drew1) | exact HB.out)) hb); clear HB; have HB := n0_; clear n0_; (try clear hb); (try clear hb2); (try clear hk); (try clear hi)) | (go_at_call 21; (with_reducible refine (nameplateref02_Fold.calls k a1 t256 _ A8.out).mono ?_); rintro e w10 ⟨rfl, hb⟩; have n0_ := Aside0.mk (below_step (by repeat (first | (with_reducible first | exact HB.out | apply below_alloc | apply pw_below_drewN | apply below_drew1) | exact HB.out)) hb); clear HB; have HB := n0_; clear n0_; (try clear hb); (try clear hb2); (try clear hk); (try clear hi)))
      go_ret
      exact ⟨by first | rfl | (simp [errW_none, errW_some] <;> rfl) | (simp [*, errW_none, errW_some] <;> rfl), by repeat (first | (with_reducible first | exact HB.out | apply below_alloc | apply pw_below_drewN | apply below_drew1) | exact HB.out)⟩
    · rw [if_neg c6] at H
      have c6b0 : (t254 == 0) = false := beq_eq_false_iff_ne.mpr c6
      have c6b1 : (t254 != 0) = true := bne_iff_ne.mpr c6
      obtain rfl := Option.some.inj H
      go_enter Try.func23, Try.ntmps23
      go_wp2_with (first | ((with_reducible refine gate_callee (f := 16) rfl ?_); refine goesL_ (some 6) rfl rfl Try.func16 (by kernel_rfl) rfl #[.string a0] rfl (by (try simp only [List.map_toArray, List.map_cons, List.map_nil]); first | done | rfl | (simp only [List.length_drop, List.length_take]; rfl)) ?_; (with_reducible refine (nameplateref02_Check.calls k a0 t253 _ A3.out).mono ?_); rintro e w' ⟨rfl, ⟨nd, rfl⟩⟩; refine ⟨_, rfl, ?_⟩) | (go_at_call 16; (with_reducible refine (nameplateref02_Check.calls k a1 t254 _ A5.out).mono ?_); rintro e w' ⟨rfl, ⟨nd, rfl⟩⟩))
      go_ret
      exact ⟨by first | rfl | (simp [errW_none, errW_some] <;> rfl) | (simp [*, errW_none, errW_some] <;> rfl), by repeat (first | (with_reducible first | exact HB.out | apply below_alloc | apply pw_below_drewN | apply below_drew1) | exact HB.out)⟩
  · rw [if_neg c4] at H
    have c4b0 : (t253 == 0) = false := beq_eq_false_iff_ne.mpr c4
    have c4b1 : (t253 != 0) = true := bne_iff_ne.mpr c4
    obtain rfl := Option.some.inj H
    go_enter Try.func23, Try.ntmps23
    go_wp2_with (first | ((with_reducible refine gate_callee (f := 16) rfl ?_); refine goesL_ (some 6) rfl rfl Try.func16 (by kernel_rfl) rfl #[.string a0] rfl (by (try simp only [List.map_toArray, List.map_cons, List.map_nil]); first | done | rfl | (simp only [List.length_drop, List.length_take]; rfl)) ?_; (with_reducible refine (nameplateref02_Check.calls k a0 t253 _ A3.out).mono ?_); rintro e w' ⟨rfl, ⟨nd, rfl⟩⟩; refine ⟨_, rfl, ?_⟩))
    go_ret
    exact ⟨by first | rfl | (simp [errW_none, errW_some] <;> rfl) | (simp [*, errW_none, errW_some] <;> rfl), by repeat (first | (with_reducible first | exact HB.out | apply below_alloc | apply pw_below_drewN | apply below_drew1) | exact HB.out)⟩

/-! ### slices_Reverse_string_string: function 50 -/
def slices_Reverse_string_string.l0 : Nat → List ByteArray → Int → Int → Option (List ByteArray)
  | 0, _, _, _ => none
  | k + 1, x0, x2, x3 => if x2 < x3 then (if 0 ≤ x3 then (if x3 < (x0.length : Int) then (if 0 ≤ x2 then (if x2 < (x0.length : Int) then (slices_Reverse_string_string.l0 k ((x0.set (x2 : Int).toNat (rdOf ByteArray.empty x0 x3)).set (x3 : Int).toNat (rdOf ByteArray.empty x0 x2)) (wrap64 (x2 + 1)) (wrap64 (x3 - 1))) else (none)) else (none)) else (none)) else (none)) else (some x0)
def slices_Reverse_string_string.f (k : Nat) (l0 : List ByteArray) : Option (List ByteArray) := slices_Reverse_string_string.l0 k l0 0 (wrap64 ((l0.length : Int) - 1))
theorem slices_Reverse_string_string.mono_l : ∀ k, (∀ y0 y1 y2, LeO (slices_Reverse_string_string.l0 k y0 y1 y2) (slices_Reverse_string_string.l0 (k + 1) y0 y1 y2))
  | 0 => fun _ _ _ r h => by simp [slices_Reverse_string_string.l0] at h
  | k + 1 => by
    have ih0 := slices_Reverse_string_string.mono_l k
    · intro y0 y1 y2
      unfold slices_Reverse_string_string.l0
      repeat' first
      | (with_reducible exact ih0 _ _ _)
      | (with_reducible exact LeO.refl _)
      | (with_reducible exact LeO.none _)
      | (with_reducible refine LeO.ite ?_ ?_)
      | (with_reducible refine LeO.bind ?_ (fun _ => ?_))
      | exact ih0 _ _ _
      | exact LeO.none _
      | refine LeO.ite ?_ ?_
      | refine LeO.bind ?_ (fun _ => ?_)
theorem slices_Reverse_string_string.mono : ∀ a0 k, LeO (slices_Reverse_string_string.f k a0) (slices_Reverse_string_string.f (k + 1) a0) := by
  intro a0 k
  have ih0 := slices_Reverse_string_string.mono_l k
  unfold slices_Reverse_string_string.f
  repeat' first
      | (with_reducible exact ih0 _ _ _)
      | (with_reducible exact LeO.refl _)
      | (with_reducible exact LeO.none _)
      | (with_reducible refine LeO.ite ?_ ?_)
      | (with_reducible refine LeO.bind ?_ (fun _ => ?_))
      | exact ih0 _ _ _
      | exact LeO.none _
      | refine LeO.ite ?_ ?_
      | refine LeO.bind ?_ (fun _ => ?_)
def slices_Reverse_string_string.T3 : Bool × List (List Nat × List Nat) := (true, [([], []), ([], []), ([], []), ([], []), ([], []), ([], []), ([4, 5], [4, 5]), ([6], [6]), ([], []), ([], []), ([8, 9], [8, 9]), ([10], [10]), ([0, 1, 0, 1, 4, 5, 6, 7, 11], [0, 1]), ([12, 7, 0, 1, 4, 5, 6, 7, 11], [7, 12]), ([2, 3, 0, 1, 2, 3, 4, 5, 6, 7, 8, 9, 10, 11, 12, 13], [2, 3]), ([14, 11, 13, 0, 1, 2, 3, 4, 5, 6, 7, 8, 9, 10, 11, 12, 13], [11, 14])])
def slices_Reverse_string_string.B3 : List Nat := [0, 0, 0, 0, 0, 0, 48, 112, 0, 0, 768, 1792, 4083, 8179, 16383, 32767]
theorem slices_Reverse_string_string.tab3 : rtab .any (opsOf Try.f50 3) = slices_Reverse_string_string.T3 := by kernel_rfl
theorem slices_Reverse_string_string.bits3 : waitsOk slices_Reverse_string_string.T3.2 slices_Reverse_string_string.B3 = true := by kernel_rfl
set_option maxHeartbeats 8000000 in
set_option maxRecDepth 100000 in
theorem slices_Reverse_string_string.calls (k : Nat) (P0_ : Nat → Prop) (u9000_ : Value) (l0 : List ByteArray) (r : List ByteArray) (w0 w : World) (hB : Below w0.heap.size w0 w) (ho0 : Kd.R Kd.string 9 w w0.heap.size P0_ u9000_ l0) (h : slices_Reverse_string_string.f k l0 = some r) :
    Calls Try.prog 50 #[u9000_] w fun e w' => e = .returned (.tuple #[]) ∧ Kd.R Kd.string 9 w' w0.heap.size (fun k_ => (P0_ k_ ∨ w.heap.size ≤ k_)) u9000_ r ∧ Below w0.heap.size w0 w' ∧ Kept w w' (fun k_ => P0_ k_) := by
  have HO0 := Aside0.mk (show Kd.R Kd.string 9 w w0.heap.size (fun k_ => (P0_ k_ ∨ w.heap.size ≤ k_)) u9000_ l0 from Kd.R_mono ho0 (fun k_ hk => (.inl hk)))
  have HK := Aside0.mk (Kept.refl w (fun k_ => P0_ k_))
  have HW0 := Aside0.mk hB.size
  have HB := Aside0.mk hB
  clear hB
  have H : (slices_Reverse_string_string.l0 k l0 0 (wrap64 ((l0.length : Int) - 1))) = some r := h
  clear h
  have H' := Aside0.mk H
  clear H
  obtain ⟨Ao2, co2, eo2⟩ := Kd.R_slice HO0.out
  subst eo2
  go_enter Try.func50, Try.ntmps50
  go_wp2
  go_loopg [2, 3] k (fun kq v2 v3 w' => ∃ (x0_1 : List ByteArray) (x2_1 : Int) (x3_1 : Int), v2 = .int .i64 x2_1 ∧ v3 = .int .i64 x3_1 ∧ Aside0 (slices_Reverse_string_string.l0 kq x0_1 x2_1 x3_1 = some r) ∧ Aside0 (kq ≤ k) ∧ Aside0 (Kd.R Kd.string 9 w' w0.heap.size (fun k_ => (P0_ k_ ∨ w.heap.size ≤ k_)) (.slice Ao2 l0.length co2) x0_1) ∧ Aside0 (Kept w w' (fun k_ => P0_ k_)) ∧ Aside0 (Below w0.heap.size w0 w'))
  case atStart => exact ⟨(l0), (0), (wrap64 ((l0.length : Int) - 1)), (by first | rfl | (simp; done) | (simp [*]; done)), (by first | rfl | (simp; done) | (simp [*]; done)), H', ⟨Nat.le_refl _⟩, ⟨by (with_reducible repeat (first | apply Kd.R_alloc | apply Kd.R_drewN | apply Kd.R_drew)); exact HO0.out⟩, ⟨by repeat (first | (with_reducible first | exact HK.out | apply Kept.alloc | apply Kept.drewN | apply Kept.drew) | exact HK.out)⟩, ⟨by repeat (first | (with_reducible first | exact HB.out | apply below_alloc | apply pw_below_drewN | apply below_drew1) | exact HB.out)⟩⟩
  case round =>
    clear H'
    try clear p2
    obtain ⟨x0_1, x2_1, x3_1, rfl, rfl, HA, HK1, HO_0, HK, HB⟩ := hrel
    have hl0_1 := (Kd.R_reads' HO_0.out).1
    rw [hl0_1] at HO_0
    (try simp only [hl0_1])
    cases gk with
    | zero => exact absurd HA.out (by simp [slices_Reverse_string_string.l0])
    | succ k1 =>
      have H := HA.out
      clear HA
      simp only [slices_Reverse_string_string.l0] at H
      by_cases c3 : x2_1 < x3_1
      · rw [if_pos c3] at H
        have c3b0 : decide (x2_1 < x3_1) = true := decide_eq_true c3
        clear c3
        by_cases c4 : 0 ≤ x3_1
        · rw [if_pos c4] at H
          have c4b0 : decide (0 ≤ x3_1) = true := decide_eq_true c4
          clear c4
          by_cases c5 : x3_1 < (x0_1.length : Int)
          · rw [if_pos c5] at H
            have c5b0 : decide (x3_1 < (x0_1.length : Int)) = true := decide_eq_true c5
            clear c5
            by_cases c6 : 0 ≤ x2_1
            · rw [if_pos c6] at H
              have c6b0 : decide (0 ≤ x2_1) = true := decide_eq_true c6
              clear c6
              by_cases c7 : x2_1 < (x0_1.length : Int)
              · rw [if_pos c7] at H
                have c7b0 : decide (x2_1 < (x0_1.length : Int)) = true := decide_eq_true c7
                clear c7
                obtain ⟨y259, hy259⟩ : ∃ y_ : List ByteArray, y_ = (x0_1.set (x2_1 : Int).toNat (rdOf ByteArray.empty x0_1 x3_1)) := ⟨_, rfl⟩
                replace H : (slices_Reverse_string_string.l0 k1 (y259.set (x3_1 : Int).toNat (rdOf ByteArray.empty x0_1 x2_1)) (wrap64 (x2_1 + 1)) (wrap64 (x3_1 - 1))) = some r := by first | (rw [hy259]; with_reducible exact H) | (have H2_ := (Option.bind_some _ _).symm.trans H; rw [hy259]; with_reducible exact H2_) | (have H2_ := (Option.bind_some _ _).symm.trans H; with_reducible exact H2_) | with_reducible exact H | (rw [hy259]; exact H) | exact H
                have Ny259 := Aside0.mk hy259
                clear hy259
                obtain ⟨y260, hy260⟩ : ∃ y_ : List ByteArray, y_ = (y259.set (x3_1 : Int).toNat (rdOf ByteArray.empty x0_1 x2_1)) := ⟨_, rfl⟩
                replace H : (slices_Reverse_string_string.l0 k1 y260 (wrap64 (x2_1 + 1)) (wrap64 (x3_1 - 1))) = some r := by first | (rw [hy260]; with_reducible exact H) | (have H2_ := (Option.bind_some _ _).symm.trans H; rw [hy260]; with_reducible exact H2_) | (have H2_ := (Option.bind_some _ _).symm.trans H; with_reducible exact H2_) | with_reducible exact H | (rw [hy260]; exact H) | exact H
                have Ny260 := Aside0.mk hy260
                clear hy260
                have H' := Aside0.mk H
                clear H
                try go_wp2
                have n0_ := Aside0.mk (Kd.R_drew HO_0.out)
                have n1_ := Aside0.mk (Kept.drew HK.out)
                have n2_ := Aside0.mk (below_drew1 HB.out)
                clear HO_0
                clear HK
                clear HB
                have HO_0 := n0_
                have HK := n1_
                have HB := n2_
                clear n0_ n1_ n2_
                have p257 : 0 ≤ (x3_1 : Int) := of_decide_eq_true (by first | (with_reducible assumption) | assumption)
                have q257 : x3_1 < (x0_1.length : Int) := of_decide_eq_true (by first | (with_reducible assumption) | assumption)
                obtain ⟨ad257, e257, hx257_0⟩ := Kd.at_string (Kd.R_reads' HO_0.out).2.2 x3_1 p257 q257
                cases e257
                replace p257 := eq_true p257
                replace q257 := eq_true q257
                have p258 : 0 ≤ (x2_1 : Int) := of_decide_eq_true (by first | (with_reducible assumption) | assumption)
                have q258 : x2_1 < (x0_1.length : Int) := of_decide_eq_true (by first | (with_reducible assumption) | assumption)
                obtain ⟨ad258, e258, hx258_0⟩ := Kd.at_string (Kd.R_reads' HO_0.out).2.2 x2_1 p258 q258
                obtain rfl : ad257 = ad258 := (by injection e258)
                replace p258 := eq_true p258
                replace q258 := eq_true q258
                have p8 : 0 ≤ (x2_1 : Int) := of_decide_eq_true (by first | (with_reducible assumption) | assumption)
                have q8 : (x2_1 : Int) < ((x0_1.length : Int) : Int) := of_decide_eq_true (by first | (with_reducible assumption) | assumption)
                obtain ⟨go8, co8, eo8, gb8, gl8, cl8, HG8⟩ := Kd.R_form HO_0.out (by omega)
                (first | cases eo8 | (injection eo8 with ea_ en_ ec_; (first | subst ea_ | (injection ea_ with ea_; subst ea_)); subst ec_; clear en_))
                have GB8 := Aside0.mk gb8
                have GG8 := Aside0.mk HG8
                clear gb8 gl8 HG8
                have HMgo8 := Aside0.mk (show (P0_ go8 ∨ w.heap.size ≤ go8) from (HO_0.out.1 _ rfl))
                (first | simp only [add_plain] at hx257_0 | skip)
                (first | simp only [add_plain] at hx258_0 | skip)
                obtain ⟨hx8_0, hf8_0⟩ := Kd.R_celln (⟨#[]⟩ : ByteArray) HO_0.out (x2_1 : Int) p8 q8
                replace p8 := eq_true p8
                replace q8 := eq_true q8
                have HP11 := Kd.R_putn HO_0.out (x2_1 : Int) (rdOf ByteArray.empty x0_1 x3_1)
                rw [← Ny259.out] at HP11
                have HQ11 := Aside0.mk HP11
                clear HP11
                have p9 : 0 ≤ (x3_1 : Int) := of_decide_eq_true (by first | (with_reducible assumption) | assumption)
                have q9 : (x3_1 : Int) < ((x0_1.length : Int) : Int) := of_decide_eq_true (by first | (with_reducible assumption) | assumption)
                obtain ⟨hx9_0, hf9_0⟩ := Kd.R_celln (⟨#[]⟩ : ByteArray) HQ11.out (x3_1 : Int) p9 q9
                replace p9 := eq_true p9
                replace q9 := eq_true q9
                have HP12 := Kd.R_putn HQ11.out (x3_1 : Int) (rdOf ByteArray.empty x0_1 x2_1)
                rw [← Ny260.out] at HP12
                have HQ12 := Aside0.mk HP12
                clear HP12
                refine start_ (n := 16) (S := fun w' => w'.cell? ⟨go8, (x3_1).toNat, none⟩ = some (.string (rdOf ByteArray.empty x0_1 x3_1)) ∧ w'.cell? ⟨go8, (x2_1).toNat, none⟩ = some (.string (rdOf ByteArray.empty x0_1 x2_1))) (ds := [13, 15]) #[false, false, false, false, false, false, false, false, false, false, false, false, false, false, false, false] (by kernel_rfl) rfl rfl ⟨hx257_0, hx258_0⟩ (fun hHeld => ?_); refine with_tabW slices_Reverse_string_string.tab3 slices_Reverse_string_string.bits3 (fun HT_ HW_ => ?_)
                generalize wr.drew = w10 at HO_0 HK HB GG8 HQ11 HQ12 hf8_0 hf9_0 hx257_0 hx258_0 hx8_0 hx9_0 hHeld ⊢
                refine pure_ (i := 0) (N := some 14) (v := ?_) (a' := ?_) #[true, false, false, false, false, false, false, false, false, false, false, false, false, false, false, false] rfl rfl (any_of HT_.out (by kernel_rfl)) (fun _ _ _ h => h) (Or.inl ⟨by rfl, ?_⟩) ?_ ?_
                rotate_left
                · intro w'
                  go_simp
                  with_reducible rfl
                rotate_left
                · simp only [Act.put, List.setIfInBounds_toArray, List.set_cons_zero, List.set_cons_succ, i64_w, i32_w]
                  rfl
                refine pure_ (i := 1) (N := some 15) (v := ?_) (a' := ?_) #[true, true, false, false, false, false, false, false, false, false, false, false, false, false, false, false] rfl rfl (any_of HT_.out (by kernel_rfl)) (fun _ _ _ h => h) (Or.inl ⟨by rfl, ?_⟩) ?_ ?_
                rotate_left
                · intro w'
                  go_simp
                  with_reducible rfl
                rotate_left
                · simp only [Act.put, List.setIfInBounds_toArray, List.set_cons_zero, List.set_cons_succ, i64_w, i32_w]
                  rfl
                refine pure_ (i := 2) (N := some 16) (v := ?_) (a' := ?_) #[true, true, true, false, false, false, false, false, false, false, false, false, false, false, false, false] rfl rfl (any_of HT_.out (by kernel_rfl)) (fun _ _ _ h => h) (Or.inl ⟨by rfl, ?_⟩) ?_ ?_
                rotate_left
                · intro w'
                  go_simp
                  with_reducible rfl
                rotate_left
                · simp only [Act.put, List.setIfInBounds_toArray, List.set_cons_zero, List.set_cons_succ, i64_w, i32_w]
                  rfl
                refine pure_ (i := 3) (N := some 17) (v := ?_) (a' := ?_) #[true, true, true, true, false, false, false, false, false, false, false, false, false, false, false, false] rfl rfl (any_of HT_.out (by kernel_rfl)) (fun _ _ _ h => h) (Or.inl ⟨by rfl, ?_⟩) ?_ ?_
                rotate_left
                · intro w'
                  go_simp
                  with_reducible rfl
                rotate_left
                · simp only [Act.put, List.setIfInBounds_toArray, List.set_cons_zero, List.set_cons_succ, i64_w, i32_w]
                  rfl
                refine pure_ (i := 4) (N := some 18) (v := ?_) (a' := ?_) #[true, true, true, true, true, false, false, false, false, false, false, false, false, false, false, false] rfl rfl (any_of HT_.out (by kernel_rfl)) (fun _ _ _ h => h) (Or.inl ⟨by rfl, ?_⟩) ?_ ?_
                rotate_left
                · intro w'
                  go_simp
                  with_reducible rfl
                rotate_left
                · simp only [Act.put, List.setIfInBounds_toArray, List.set_cons_zero, List.set_cons_succ, i64_w, i32_w]
                  rfl
                refine pure_ (i := 5) (N := some 19) (v := ?_) (a' := ?_) #[true, true, true, true, true, true, false, false, false, false, false, false, false, false, false, false] rfl rfl (any_of HT_.out (by kernel_rfl)) (fun _ _ _ h => h) (Or.inl ⟨by rfl, ?_⟩) ?_ ?_
                rotate_left
                · intro w'
                  go_simp
                  with_reducible rfl
                rotate_left
                · simp only [Act.put, List.setIfInBounds_toArray, List.set_cons_zero, List.set_cons_succ, i64_w, i32_w]
                  rfl
                refine pure_ (i := 6) (N := some 20) (v := ?_) (a' := ?_) #[true, true, true, true, true, true, true, false, false, false, false, false, false, false, false, false] rfl rfl (any_of HT_.out (by kernel_rfl)) (fun _ _ _ h => h) (Or.inl ⟨by rfl, ?_⟩) ?_ ?_
                rotate_left
                · intro w'
                  go_simp
                  with_reducible rfl
                rotate_left
                · simp only [Act.put, List.setIfInBounds_toArray, List.set_cons_zero, List.set_cons_succ, i64_w, i32_w]
                  rfl
                refine pure_ (i := 8) (N := some 22) (v := ?_) (a' := ?_) #[true, true, true, true, true, true, true, false, true, false, false, false, false, false, false, false] rfl rfl (any_of HT_.out (by kernel_rfl)) (fun _ _ _ h => h) (Or.inl ⟨by rfl, ?_⟩) ?_ ?_
                rotate_left
                · intro w'
                  go_simp
                  with_reducible rfl
                rotate_left
                · simp only [Act.put, List.setIfInBounds_toArray, List.set_cons_zero, List.set_cons_succ, i64_w, i32_w]
                  rfl
                refine pure_ (i := 9) (N := some 23) (v := ?_) (a' := ?_) #[true, true, true, true, true, true, true, false, true, true, false, false, false, false, false, false] rfl rfl (any_of HT_.out (by kernel_rfl)) (fun _ _ _ h => h) (Or.inl ⟨by rfl, ?_⟩) ?_ ?_
                rotate_left
                · intro w'
                  go_simp
                  with_reducible rfl
                rotate_left
                · simp only [Act.put, List.setIfInBounds_toArray, List.set_cons_zero, List.set_cons_succ, i64_w, i32_w]
                  rfl
                refine pure_ (i := 10) (N := some 24) (v := ?_) (a' := ?_) #[true, true, true, true, true, true, true, false, true, true, true, false, false, false, false, false] rfl rfl (any_of HT_.out (by kernel_rfl)) (fun _ _ _ h => h) (Or.inl ⟨by rfl, ?_⟩) ?_ ?_
                rotate_left
                · intro w'
                  go_simp
                  with_reducible rfl
                rotate_left
                · simp only [Act.put, List.setIfInBounds_toArray, List.set_cons_zero, List.set_cons_succ, i64_w, i32_w]
                  rfl
                refine take_ (i := 7) (N := some 21) (v := ?_) (a' := ?_) #[true, true, true, true, true, true, true, true, true, true, true, false, false, false, false, false] rfl rfl (take_ofW HT_.out HW_.out (by kernel_rfl)) (fun _ _ _ h => h) (Or.inl ⟨by rfl, ?_⟩) hHeld ?_ ?_
                rotate_left
                · rintro w' ⟨s0, s1⟩
                  go_simp
                  with_reducible rfl
                rotate_left
                · simp only [Act.put, List.setIfInBounds_toArray, List.set_cons_zero, List.set_cons_succ, i64_w, i32_w]
                  rfl
                refine take_ (i := 11) (N := some 25) (v := ?_) (a' := ?_) #[true, true, true, true, true, true, true, true, true, true, true, true, false, false, false, false] rfl rfl (take_ofW HT_.out HW_.out (by kernel_rfl)) (fun _ _ _ h => h) (Or.inl ⟨by rfl, ?_⟩) hHeld ?_ ?_
                rotate_left
                · rintro w' ⟨s0, s1⟩
                  go_simp
                  with_reducible rfl
                rotate_left
                · simp only [Act.put, List.setIfInBounds_toArray, List.set_cons_zero, List.set_cons_succ, i64_w, i32_w]
                  rfl
                refine pure_ (i := 12) (N := some 26) (v := ?_) (a' := ?_) #[true, true, true, true, true, true, true, true, true, true, true, true, true, false, false, false] rfl rfl (any_of HT_.out (by kernel_rfl)) (fun _ _ _ h => h) (Or.inl ⟨by rfl, ?_⟩) ?_ ?_
                rotate_left
                · intro w'
                  go_simp
                  with_reducible rfl
                rotate_left
                · simp only [Act.put, List.setIfInBounds_toArray, List.set_cons_zero, List.set_cons_succ, i64_w, i32_w]
                  rfl
                refine last_ (i := 13) (N := none) #[true, true, true, true, true, true, true, true, true, true, true, true, true, true, false, false] rfl rfl (one_of HT_.out (by kernel_rfl)) (by decide) (fun K hK => ?_)
                refine skip_ (w1 := ?_) (by rfl) rfl ?_ ?_
                rotate_left
                · go_simp
                  rfl
                refine hK.out _ _ ?_
                clear hK K
                refine pure_ (i := 14) (N := some 27) (v := ?_) (a' := ?_) #[true, true, true, true, true, true, true, true, true, true, true, true, true, true, true, false] rfl rfl (any_of HT_.out (by kernel_rfl)) (fun _ _ _ h => h) (Or.inl ⟨by rfl, ?_⟩) ?_ ?_
                rotate_left
                · intro w'
                  go_simp
                  with_reducible rfl
                rotate_left
                · simp only [Act.put, List.setIfInBounds_toArray, List.set_cons_zero, List.set_cons_succ, i64_w, i32_w]
                  rfl
                refine last_ (i := 15) (N := none) #[true, true, true, true, true, true, true, true, true, true, true, true, true, true, true, true] rfl rfl (one_of HT_.out (by kernel_rfl)) (by decide) (fun K hK => ?_)
                refine skip_ (w1 := ?_) (by rfl) rfl ?_ ?_
                rotate_left
                · go_simp
                  rfl
                refine hK.out _ _ ?_
                clear hK K
                refine done_ (done_of HT_.out (by kernel_rfl)) ?_
                try go_wp2
                (try simp only [← hl0_1])
                go_roundg k1
                case measure => have := HK1.out; omega
                case rel => exact ⟨(y260), (wrap64 (x2_1 + 1)), (wrap64 (x3_1 - 1)), (by first | rfl | (simp; done) | (simp [*]; done)), (by first | rfl | (simp; done) | (simp [*]; done)), H', ⟨by have := HK1.out; omega⟩, ⟨by (try simp only [hl0_1]); (with_reducible repeat (first | apply Kd.R_alloc | apply Kd.R_drewN | apply Kd.R_drew)); exact HQ12.out⟩, ⟨by repeat (first | (with_reducible first | exact HK.out | apply Kept.alloc | apply Kept.drewN | apply Kept.drew | refine Kept.setCell ?_ HMgo8.out _ | refine Kept.setCell ?_ HMgo8.out _) | exact HK.out)⟩, ⟨by repeat (first | (with_reducible first | exact HB.out | apply below_alloc | apply pw_below_drewN | apply below_drew1 | refine below_set ?_ GB8.out | refine below_set ?_ GB8.out) | exact HB.out)⟩⟩
              · rw [if_neg c7] at H
                exact absurd H (by simp)
            · rw [if_neg c6] at H
              exact absurd H (by simp)
          · rw [if_neg c5] at H
            exact absurd H (by simp)
        · rw [if_neg c4] at H
          exact absurd H (by simp)
      · rw [if_neg c3] at H
        have c3b0 : decide (x2_1 < x3_1) = false := decide_eq_false c3
        clear c3
        obtain rfl := Option.some.inj H
        go_wp2
        first | go_end0 | ((try simp only [Exit.inBlock, Exit.then]); refine bodyPost_ret (results_none rfl _ _ _) rfl ?_)
        exact ⟨by first | rfl | (simp [errW_none, errW_some] <;> rfl) | (simp [*, errW_none, errW_some] <;> rfl), (by first | exact (by (with_reducible repeat (first | apply Kd.R_alloc | apply Kd.R_drewN | apply Kd.R_drew)); exact HO_0.out) | (simp only [hl0_1]; exact (by (with_reducible repeat (first | apply Kd.R_alloc | apply Kd.R_drewN | apply Kd.R_drew)); exact HO_0.out))), by repeat (first | (with_reducible first | exact HB.out | apply below_alloc | apply pw_below_drewN | apply below_drew1) | exact HB.out), by repeat (first | (with_reducible first | exact HK.out | apply Kept.alloc | apply Kept.drewN | apply Kept.drew) | exact HK.out)⟩

/-! ### cmp_isNaN_int: function 68 -/
def cmp_isNaN_int.f (a0 : Int) : Option (Bool) := some (a0 != a0)
set_option maxHeartbeats 8000000 in
set_option maxRecDepth 100000 in
theorem cmp_isNaN_int.calls (a0 : Int) (r : Bool) (w : World) (h : cmp_isNaN_int.f a0 = some r) :
    Calls Try.prog 68 #[.int .i64 a0] w fun e w' => e = .returned (.bool r) ∧ Drawn0 w w' := by
  have H : (some (a0 != a0)) = some r := h
  clear h
  obtain rfl := Option.some.inj H
  go_enter Try.func68, Try.ntmps68
  go_wp2
  go_ret
  exact ⟨by first | rfl | (simp; done) | (simp [*]; done), by repeat (first | exact Drawn0.refl _ | apply Drawn0.step)⟩

end Go.Proofs.Ytfpdmmpjoejmiaa.OCalls
