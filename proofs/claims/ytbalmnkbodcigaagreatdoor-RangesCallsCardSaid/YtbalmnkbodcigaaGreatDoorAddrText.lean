/- What addr.Text comes to: four numbers with points between; or groups with colons between, the longest run of noughts left out. addr.join's rows are read as it reads them. And strings.Join of any row. -/
import Derived.Test.YtbalmnkbodcigaaGreatDoorAddrCut
set_option linter.unusedSimpArgs false
set_option linter.unusedVariables false
namespace Go.Proofs.YtbalmnkbodcigaaGreatDoor.AddrLib
open Go.Shelf Go.RowKit Go.Lib Go.Proofs.YtbalmnkbodcigaaGreatDoorW.PrintWords Go.Proofs.YtbalmnkbodcigaaGreatDoorW.PrintLast Go.Proofs.YtbalmnkbodcigaaGreatDoorW.PrintMore

theorem join_row (A : Option Addr) (c : Nat) (l : List ByteArray) (sep : ByteArray) (w : World) (hr : Kd.C Kd.string w A l.length l) (hc : l.length ≤ c) (hn : l.length ≤ 100000) (hb : (Lib.join (l.map (·.data.toList)) sep.data.toList).length ≤ 100000) :
    Calls Tryz.prog 53 #[.slice A l.length c, .string sep] w fun e w' => e = .returned (.string (mkB (Lib.join (l.map (·.data.toList)) sep.data.toList))) ∧ Below w.heap.size w w' := by
  cases l with
  | nil =>
    refine (Tryz.strings_Join_none A c sep w).mono ?_
    rintro e w' ⟨rfl, rfl⟩
    exact ⟨rfl, Below.refl _ _⟩
  | cons x t =>
    obtain ⟨ad, had, hcell⟩ := Kd.at_string hr 0 (Int.le_refl _) (by simp)
    obtain ⟨bk, o, sp⟩ := ad
    have hsp : sp = none := by
      cases sp with
      | none => rfl
      | some q =>
        have h0 : (Addr.add ⟨bk, o, some q⟩ (0 : Int).toNat : Addr) = ⟨bk, o, some q⟩ := by simp [Addr.add]
        rw [h0] at hcell
        unfold World.cell? at hcell
        split at hcell
        · simp at hcell
        · cases hcell
    subst hsp
    subst had
    have hcs : ∀ (j : Nat) (y : ByteArray), (x :: t)[j]? = some y → w.cell? ⟨bk, o + j, none⟩ = some (.string y) := fun j y hy => by
      have hj := (List.getElem?_eq_some_iff.1 hy).1
      obtain ⟨ad2, h2, hc2⟩ := Kd.at_string hr (j : Int) (by omega) (by exact_mod_cast hj)
      cases h2
      rw [Int.toNat_natCast, Lib.add_plain] at hc2
      rw [hc2]
      unfold rdOf
      rw [Int.toNat_natCast, List.getD_eq_getElem?_getD, hy]
      rfl
    exact Tryz.strings_Join bk o c (x :: t) sep w hcs (World.block_lt_of_cell? _ _ (hcs 0 x rfl)) (by omega) hc (by omega)
def quad (lo : Int) : List ByteArray := [mkB (Lib.itoa (lo / 16777216 % 256)), mkB (Lib.itoa (lo / 65536 % 256)), mkB (Lib.itoa (lo / 256 % 256)), mkB (Lib.itoa (lo % 256))]
theorem info_str9 : (Tryz.prog.info? 9).map (fun i => (i.zero, i.size, i.bytes)) = some (some (.string ⟨#[]⟩), 1, 16) := by kernel_rfl
theorem itoa_byte (x : Int) (w : World) (hg : G w) : Calls Tryz.prog 30 #[.int .i64 (x % 256)] w fun e w' => e = .returned (.string (mkB (Lib.itoa (x % 256)))) ∧ Below w.heap.size w w' :=
  itoa_any _ (by omega) (by omega) w hg
theorem arr8 : Tryz.prog.arrayLen 78 = 8 := by kernel_rfl
theorem slice8_h (g n : Nat) (hn : n ≤ 8) (W : World) : (Instr.sliceAt 78 (.pointer (some ⟨g, 0, none⟩)) none (some (.int .i64 (n : Int))) none).run Tryz.prog W = .ok (.slice (some ⟨g, 0, none⟩) n 8) W := by
  rw [run_sliceAt_array_h W 78 ⟨g, 0, none⟩ (by kernel_rfl) .i64 (n : Int) (by omega) (by rw [arr8]; omega), arr8, show Tryz.prog.elem 78 = 77 from by kernel_rfl, Tryz.sizeOf77]
  unfold slicedAt
  simp only [Result.andThen_ok, Int.toNat_natCast]
  simp [Addr.add]
theorem wrap_sum (n1 n2 : Nat) (h : n1 + n2 ≤ 8) : ((n1 + n2 : Nat) : Int) = IntKind.i64.wrap ((n1 : Int) + (n2 : Int)) := by
  simp only [IntKind.wrap, IntKind.bits, IntKind.signed]
  simp
  omega
def at8 (g n : Nat) : Addr := if n = 8 then ⟨g, 0, none⟩ else ⟨g, n, none⟩
theorem slice8_l (g n : Nat) (hn : n ≤ 8) (W : World) : (Instr.sliceAt 78 (.pointer (some ⟨g, 0, none⟩)) (some (.int .i64 (n : Int))) none none).run Tryz.prog W = .ok (.slice (some (at8 g n)) (8 - n) (8 - n)) W := by
  rw [run_sliceAt_array_l W 78 ⟨g, 0, none⟩ (by kernel_rfl) .i64 (n : Int) (by omega) (by rw [arr8]; omega), arr8, show Tryz.prog.elem 78 = 77 from by kernel_rfl, Tryz.sizeOf77]
  unfold slicedAt at8
  simp only [Result.andThen_ok, Int.toNat_natCast, Nat.mul_one]
  by_cases e : n = 8
  · rw [if_pos e, if_pos e.symm]
  · rw [if_neg e, if_neg (fun h => e h.symm)]
    by_cases e0 : n = 0
    · subst e0; simp [Addr.add]
    · simp [Addr.add, e0]
theorem slice8_all (g : Nat) (W : World) : (Instr.sliceAt 78 (.pointer (some ⟨g, 0, none⟩)) none none none).run Tryz.prog W = .ok (.slice (some ⟨g, 0, none⟩) 8 8) W := by
  rw [run_sliceAt_array_all W 78 ⟨g, 0, none⟩ (by kernel_rfl), arr8, show Tryz.prog.elem 78 = 77 from by kernel_rfl, Tryz.sizeOf77]
  unfold slicedAt
  simp only [Result.andThen_ok]
  simp [Addr.add]
theorem reads_at8 {W : World} {g : Nat} {xs : List Int} (h : ArrU W g xs) (n : Nat) (hl : xs.length = 8) : Kd.C (Kd.int .u16) W (some (at8 g n)) (xs.drop n).length (xs.drop n) := by
  unfold at8
  by_cases e : n = 8
  · rw [if_pos e, e, List.drop_eq_nil_of_le (by omega)]
    exact ⟨rfl, by decide, fun h => absurd h (by decide)⟩
  · rw [if_neg e]
    exact h.reads n (by omega)
def textF (chk : Bool → Int → Int → Option Int) (join : List Int → Option ByteArray) (six : Bool) (hi lo : Int) : Option (ByteArray × Int) :=
  (chk six hi lo).bind fun e => if e = 0 then
    (if six = true then
      (if 1 < (zL (cutL hi lo) 0 0 0 0).2 then
        (if 0 ≤ (zL (cutL hi lo) 0 0 0 0).1 ∧ (zL (cutL hi lo) 0 0 0 0).1 + (zL (cutL hi lo) 0 0 0 0).2 ≤ 8 then
          (join ((cutL hi lo).take (zL (cutL hi lo) 0 0 0 0).1.toNat)).bind fun a => (join ((cutL hi lo).drop ((zL (cutL hi lo) 0 0 0 0).1 + (zL (cutL hi lo) 0 0 0 0).2).toNat)).bind fun b =>
            if a.size ≤ 1000 ∧ b.size ≤ 1000 then some ((a ++ (⟨#[58, 58]⟩ : ByteArray)) ++ b, 0) else none
        else none)
      else (join (cutL hi lo)).bind fun a => some (a, 0))
    else if (Lib.join ((quad lo).map (·.data.toList)) [46]).length ≤ 1000 then some (mkB (Lib.join ((quad lo).map (·.data.toList)) [46]), 0) else none)
  else some (⟨#[]⟩, e)
theorem textF_mono {chk : Bool → Int → Int → Option Int} {f g : List Int → Option ByteArray} (h : ∀ l, LeO (f l) (g l)) (six : Bool) (hi lo : Int) : LeO (textF chk f six hi lo) (textF chk g six hi lo) := by
  unfold textF
  refine LeO.bind (LeO.refl _) fun e => LeO.ite (LeO.ite (LeO.ite (LeO.ite (LeO.bind (h _) fun a => LeO.bind (h _) fun b => LeO.refl _) (LeO.refl _)) (LeO.bind (h _) fun a => LeO.refl _)) (LeO.refl _)) (LeO.refl _)
set_option maxHeartbeats 4000000 in
set_option maxRecDepth 100000 in
theorem text_calls (chk : Bool → Int → Int → Option Int) (join : List Int → Option ByteArray)
    (hchk : ∀ b x y e w, chk b x y = some e → Calls Tryz.prog 36 #[.agg #[.bool b, .int .u64 x, .int .u64 y]] w fun e' w' => e' = .returned (.int .i64 e) ∧ Below w.heap.size w w')
    (hjoin : ∀ A c l r w, Kd.C (Kd.int .u16) w A l.length l → l.length ≤ c → G w → join l = some r → Calls Tryz.prog 56 #[.slice A l.length c] w fun e w' => e = .returned (.string r) ∧ Below w.heap.size w w')
    (six : Bool) (hi lo : Int) (r : ByteArray × Int) (h : textF chk join six hi lo = some r) (w : World) (hg : G w) :
    Calls Tryz.prog 29 #[.agg #[.bool six, .int .u64 hi, .int .u64 lo]] w fun e w' => e = .returned (.tuple #[.string r.1, .int .i64 r.2]) ∧ Below w.heap.size w w' := by
  unfold textF at h
  obtain ⟨e, he, h2⟩ := Option.bind_eq_some_iff.mp h
  clear h
  have h := h2
  clear h2
  have HG := Aside0.mk hg
  have HC := Aside0.mk (fun W => hchk six hi lo e W he)
  clear hg hchk
  have HE := Aside0.mk he
  clear he
  by_cases c0 : e = 0
  · rw [if_pos c0] at h
    subst c0
    by_cases c1 : six = true
    · subst c1
      rw [if_pos rfl] at h
      have HCUT := Aside0.mk (fun W => cut_ true hi lo W)
      have HZE := Aside0.mk (fun W => zeros_ (cutL hi lo) rfl W)
      generalize zL (cutL hi lo) 0 0 0 0 = z at h HZE
      simp only [cutL, List.map_cons, List.map_nil] at h HZE HCUT
      generalize g16 hi 3 = a0 at h HZE HCUT
      generalize g16 hi 2 = a1 at h HZE HCUT
      generalize g16 hi 1 = a2 at h HZE HCUT
      generalize g16 hi 0 = a3 at h HZE HCUT
      generalize g16 lo 3 = a4 at h HZE HCUT
      generalize g16 lo 2 = a5 at h HZE HCUT
      generalize g16 lo 1 = a6 at h HZE HCUT
      generalize g16 lo 0 = a7 at h HZE HCUT
      obtain ⟨l, hl⟩ : ∃ l, l = [a0, a1, a2, a3, a4, a5, a6, a7] := ⟨_, rfl⟩
      rw [← hl] at h
      have HL := Aside0.mk hl
      have HL8 : Aside0 (l.length = 8) := ⟨by rw [hl]; rfl⟩
      clear hl
      obtain ⟨z1, z2⟩ := z
      simp only at h HZE
      by_cases c1 : 1 < z2
      · rw [if_pos c1] at h
        have d1 : decide (1 < z2) = true := decide_eq_true c1
        by_cases c2 : 0 ≤ z1 ∧ z1 + z2 ≤ 8
        · rw [if_pos c2] at h
          obtain ⟨b1, b2⟩ := c2
          obtain ⟨n1, rfl⟩ := Int.eq_ofNat_of_zero_le b1
          obtain ⟨n2, rfl⟩ := Int.eq_ofNat_of_zero_le (show 0 ≤ z2 by omega)
          rw [show ((n1 : Int) + (n2 : Int)).toNat = n1 + n2 by omega, Int.toNat_natCast] at h
          obtain ⟨a, ha, h⟩ := Option.bind_eq_some_iff.mp h
          obtain ⟨b, hb', h⟩ := Option.bind_eq_some_iff.mp h
          by_cases c3 : a.size ≤ 1000 ∧ b.size ≤ 1000
          · rw [if_pos c3] at h
            obtain rfl := Option.some.inj h
            obtain ⟨s1, s2⟩ := c3
            have HJ1 := Aside0.mk (fun (W : World) (g : Nat) (hA : ArrU W g l) (hG : G W) => hjoin (some ⟨g, 0, none⟩) 8 (l.take n1) a W (hA.head n1 (by rw [HL8.out]; omega) (by rw [HL8.out]; decide)) (by rw [List.length_take, HL8.out]; omega) hG ha)
            rw [show (l.take n1).length = n1 by rw [List.length_take, HL8.out]; omega] at HJ1
            have HJ2 := Aside0.mk (fun (W : World) (g : Nat) (hA : ArrU W g l) (hG : G W) => hjoin (some (at8 g (n1 + n2))) (8 - (n1 + n2)) (l.drop (n1 + n2)) b W (reads_at8 hA (n1 + n2) HL8.out) (by rw [List.length_drop, HL8.out]; omega) hG hb')
            rw [show (l.drop (n1 + n2)).length = 8 - (n1 + n2) by rw [List.length_drop, HL8.out]] at HJ2
            have hsl1 := fun g W => slice8_h g n1 (by omega) W
            have hsl2 := fun g W => slice8_l g (n1 + n2) (by omega) W
            rw [wrap_sum n1 n2 (by omega)] at hsl2
            generalize hN : 8 - (n1 + n2) = n3 at hsl2 HJ2
            clear hN ha hb' h hjoin
            go_enter Tryz.func29, Tryz.ntmps29
            go_wp2_with (first
              | (go_at_call 36; (with_reducible refine (HC.out _).mono ?_); rintro e w1 ⟨rfl, hb⟩; have HX := Aside0.mk (Bx.below (heap_alloc_new w _) hb); have HB := Aside0.mk (below_step (below_alloc (Below.refl w.heap.size w) _) hb); obtain ⟨x0, x1, x2⟩ := HX.out.cells; clear hb)
              | (go_at_call 54; (with_reducible refine (HCUT.out _).mono ?_); rintro e w2 ⟨rfl, hb⟩; have HB2 := Aside0.mk (below_step HB.out hb); clear hb)
              | (go_at_call 55; (with_reducible refine (HZE.out _).mono ?_); rintro e w3 ⟨rfl, hb⟩; have HA3 : Aside0 (ArrU w3 w2.heap.size l) := ⟨ArrU.below (by rw [HL.out]; exact heap_alloc_new w2 _) hb⟩; have HB3 := Aside0.mk (below_step (below_alloc HB2.out _) hb); clear hb x0 x1 x2 HX))
            have HG3 := Aside0.mk (HG.out.below HB3.out)
            generalize w2.heap.size = g at HA3 ⊢
            have hs1 := hsl1 g
            have hs2 := hsl2 g
            clear hsl1 hsl2 HB2
            have HA3 : Aside0 (ArrU w3.drew g l) := ⟨HA3.out⟩
            have HG3 : Aside0 (G w3.drew) := ⟨HG3.out.below (below_drew1 (Below.refl _ _))⟩
            have HB3 : Aside0 (Below w.heap.size w w3.drew) := ⟨below_drew1 HB3.out⟩
            go_region_with (go_at_call 56; first
              | ((with_reducible refine (HJ1.out _ g (by first | exact HA6.out | exact HA3.out) (by first | exact HG6.out | exact HG3.out)).mono ?_); rintro e w5 ⟨rfl, hb⟩; have HA5 := Aside0.mk (ArrU.below (by first | exact HA6.out | exact HA3.out) hb); have HG5 := Aside0.mk (G.below (by first | exact HG6.out | exact HG3.out) hb); have HB5 := Aside0.mk (below_step (by first | exact HB6.out | exact HB3.out) hb); clear hb)
              | ((with_reducible refine (HJ2.out _ g (by first | exact HA5.out | exact HA3.out) (by first | exact HG5.out | exact HG3.out)).mono ?_); rintro e w6 ⟨rfl, hb⟩; have HA6 := Aside0.mk (ArrU.below (by first | exact HA5.out | exact HA3.out) hb); have HG6 := Aside0.mk (G.below (by first | exact HG5.out | exact HG3.out) hb); have HB6 := Aside0.mk (below_step (by first | exact HB5.out | exact HB3.out) hb); clear hb))
            all_goals (try go_wp2)
            all_goals go_ret2
            all_goals exact ⟨rfl, by first | exact HB6.out | exact HB5.out⟩
          · rw [if_neg c3] at h; cases h
        · rw [if_neg c2] at h; cases h
      · rw [if_neg c1] at h
        have d1 : decide (1 < z2) = false := decide_eq_false c1
        obtain ⟨a, ha, h⟩ := Option.bind_eq_some_iff.mp h
        obtain rfl := Option.some.inj h
        have HJ1 := Aside0.mk (fun (W : World) (g : Nat) (hA : ArrU W g l) (hG : G W) => hjoin (some ⟨g, 0, none⟩) 8 l a W (by have h_ := hA.reads 0 (by rw [HL8.out]; decide); rw [List.drop_zero] at h_; exact h_) (by rw [HL8.out]; decide) hG ha)
        rw [HL8.out] at HJ1
        have hsl1 := fun g W => slice8_all g W
        clear ha h hjoin c1
        go_enter Tryz.func29, Tryz.ntmps29
        go_wp2_with (first
          | (go_at_call 36; (with_reducible refine (HC.out _).mono ?_); rintro e w1 ⟨rfl, hb⟩; have HX := Aside0.mk (Bx.below (heap_alloc_new w _) hb); have HB := Aside0.mk (below_step (below_alloc (Below.refl w.heap.size w) _) hb); obtain ⟨x0, x1, x2⟩ := HX.out.cells; clear hb)
          | (go_at_call 54; (with_reducible refine (HCUT.out _).mono ?_); rintro e w2 ⟨rfl, hb⟩; have HB2 := Aside0.mk (below_step HB.out hb); clear hb)
          | (go_at_call 55; (with_reducible refine (HZE.out _).mono ?_); rintro e w3 ⟨rfl, hb⟩; have HA3 : Aside0 (ArrU w3 w2.heap.size l) := ⟨ArrU.below (by rw [HL.out]; exact heap_alloc_new w2 _) hb⟩; have HB3 := Aside0.mk (below_step (below_alloc HB2.out _) hb); have HG3 := Aside0.mk (HG.out.below HB3.out); clear hb x0 x1 x2 HX)
          | (go_at_call 56; (with_reducible refine (HJ1.out _ w2.heap.size (by exact HA3.out) (by exact HG3.out)).mono ?_); rintro e w5 ⟨rfl, hb⟩; have HB5 := Aside0.mk (below_step HB3.out hb); clear hb))
        go_ret2
        exact ⟨rfl, HB5.out⟩
    · obtain rfl := Bool.eq_false_iff.mpr c1
      rw [if_neg c1] at h
      by_cases c2 : (Lib.join ((quad lo).map (·.data.toList)) [46]).length ≤ 1000
      · rw [if_pos c2] at h
        obtain rfl := Option.some.inj h
        clear h c1
        have HJ2 := Aside0.mk c2
        obtain ⟨Q, hQ⟩ : ∃ Q, Q = quad lo := ⟨_, rfl⟩
        have HQL : Aside0 (Q.length = 4) := ⟨by rw [hQ]; rfl⟩
        have hQ2 := hQ
        rw [← hQ] at HJ2 ⊢
        unfold quad at hQ2
        have HQ := Aside0.mk hQ2
        clear hQ hQ2 c2
        go_enter Tryz.func29, Tryz.ntmps29
        go_wp2_with (first
          | (go_at_call 36; (with_reducible refine (HC.out _).mono ?_); rintro e w1 ⟨rfl, hb⟩; have HX := Aside0.mk (Bx.below (heap_alloc_new w _) hb); have HB := Aside0.mk (below_step (below_alloc (Below.refl w.heap.size w) _) hb); obtain ⟨x0, x1, x2⟩ := HX.out.cells; clear hb))
        clear x0 x1 x2
        obtain ⟨R, hR⟩ : ∃ R, R = w.heap.size := ⟨_, rfl⟩
        rw [← hR] at HX ⊢
        clear hR
        have HJ3 := Aside0.mk (fun (A : Option Addr) (c : Nat) (W : World) (hr : Kd.C Kd.string W A Q.length Q) (hc : Q.length ≤ c) => join_row A c Q ⟨#[46]⟩ W hr hc (by rw [HQL.out]; decide) (by have := HJ2.out; show (Lib.join (Q.map (·.data.toList)) [46]).length ≤ 100000; omega))
        have HG1 := Aside0.mk (HG.out.below HB.out)
        go_loopw [5, 6] (fun v by_ wr => Aside0 (Below w1.heap.size w1 wr) ∧ ((by_ = .int .i64 24 ∧ Aside0 (Kd.R Kd.string 9 wr w1.heap.size (fun _ => True) v (Q.take 0))) ∨ (by_ = .int .i64 16 ∧ Aside0 (Kd.R Kd.string 9 wr w1.heap.size (fun _ => True) v (Q.take 1))) ∨ (by_ = .int .i64 8 ∧ Aside0 (Kd.R Kd.string 9 wr w1.heap.size (fun _ => True) v (Q.take 2))) ∨ (by_ = .int .i64 0 ∧ Aside0 (Kd.R Kd.string 9 wr w1.heap.size (fun _ => True) v (Q.take 3))) ∨ (by_ = .int .i64 (-8) ∧ Aside0 (Kd.R Kd.string 9 wr w1.heap.size (fun _ => True) v Q)))) (fun _ b _ => (RowKit.intOf b + 8).toNat)
        case atStart => exact ⟨⟨Below.refl _ _⟩, .inl ⟨rfl, ⟨Kd.R_nil _ _ _ _ _⟩⟩⟩
        case round =>
          obtain ⟨HBr, hc⟩ := hrel
          obtain ⟨x0, x1, x2⟩ := (HX.out.below HBr.out).cells
          rcases hc with ⟨rfl, HR⟩ | ⟨rfl, HR⟩ | ⟨rfl, HR⟩ | ⟨rfl, HR⟩ | ⟨rfl, HR⟩
          · have HI := Aside0.mk (fun W hg => itoa_byte (lo / 16777216) W hg)
            generalize mkB (Lib.itoa (lo / 16777216 % 256)) = s0 at HI HQ
            go_wp2_with (first
              | (go_at_call 30; (with_reducible refine (HI.out _ (HG1.out.below HBr.out)).mono ?_); rintro e w4 ⟨rfl, hb⟩; have HR4 := Aside0.mk (Kd.R_below HR.out hb); have HB4 := Aside0.mk (below_step HBr.out hb); clear hb)
              | (at_builtin; change wpList _ _ _ _ _ (w4.alloc (.cells #[.string s0] 9)); refine Kd.R_append Kd.string (w0 := w1) w1.heap.size rfl (.tmp 22) (.tmp 30) 75 9 (.string ⟨#[]⟩) 16 rfl Tryz.underlying75 info_str9 rfl (by decide) (by omega) u5 (Q.take 0) s0 [.string s0] (fun _ => True) (fun _ => False) rfl rfl ?aP (fun _ hk => hk.elim) ?aF ?aO ?aB ?aS ?aL ?_; (case aP => exact rfl); (case aB => exact HB4.out); (case aF => exact (fun _ _ => trivial)); (case aO => exact HR4.out); (case aS => exact HB4.out.size); (case aL => have := HQL.out; have := List.length_take_le 0 Q; omega); intro v8 w8 ho hb hg hat; have HR8 := Aside0.mk ho; have HB8 := Aside0.mk hb; clear ho hb hg hat))
            go_roundw
            case rel => exact ⟨HB8, .inr (.inl ⟨by first | rfl | go_num, ⟨by have h_ := HR8.out; rw [HQ.out] at h_ ⊢; exact h_⟩⟩)⟩
            case measure => simp [RowKit.intOf]
          · have HI := Aside0.mk (fun W hg => itoa_byte (lo / 65536) W hg)
            generalize mkB (Lib.itoa (lo / 65536 % 256)) = s1 at HI HQ
            go_wp2_with (first
              | (go_at_call 30; (with_reducible refine (HI.out _ (HG1.out.below HBr.out)).mono ?_); rintro e w4 ⟨rfl, hb⟩; have HR4 := Aside0.mk (Kd.R_below HR.out hb); have HB4 := Aside0.mk (below_step HBr.out hb); clear hb)
              | (at_builtin; change wpList _ _ _ _ _ (w4.alloc (.cells #[.string s1] 9)); refine Kd.R_append Kd.string (w0 := w1) w1.heap.size rfl (.tmp 22) (.tmp 30) 75 9 (.string ⟨#[]⟩) 16 rfl Tryz.underlying75 info_str9 rfl (by decide) (by omega) u5 (Q.take 1) s1 [.string s1] (fun _ => True) (fun _ => False) rfl rfl ?aP (fun _ hk => hk.elim) ?aF ?aO ?aB ?aS ?aL ?_; (case aP => exact rfl); (case aB => exact HB4.out); (case aF => exact (fun _ _ => trivial)); (case aO => exact HR4.out); (case aS => exact HB4.out.size); (case aL => have := HQL.out; have := List.length_take_le 1 Q; omega); intro v8 w8 ho hb hg hat; have HR8 := Aside0.mk ho; have HB8 := Aside0.mk hb; clear ho hb hg hat))
            go_roundw
            case rel => exact ⟨HB8, .inr (.inr (.inl ⟨by first | rfl | go_num, ⟨by have h_ := HR8.out; rw [HQ.out] at h_ ⊢; exact h_⟩⟩))⟩
            case measure => simp [RowKit.intOf]
          · have HI := Aside0.mk (fun W hg => itoa_byte (lo / 256) W hg)
            generalize mkB (Lib.itoa (lo / 256 % 256)) = s2 at HI HQ
            go_wp2_with (first
              | (go_at_call 30; (with_reducible refine (HI.out _ (HG1.out.below HBr.out)).mono ?_); rintro e w4 ⟨rfl, hb⟩; have HR4 := Aside0.mk (Kd.R_below HR.out hb); have HB4 := Aside0.mk (below_step HBr.out hb); clear hb)
              | (at_builtin; change wpList _ _ _ _ _ (w4.alloc (.cells #[.string s2] 9)); refine Kd.R_append Kd.string (w0 := w1) w1.heap.size rfl (.tmp 22) (.tmp 30) 75 9 (.string ⟨#[]⟩) 16 rfl Tryz.underlying75 info_str9 rfl (by decide) (by omega) u5 (Q.take 2) s2 [.string s2] (fun _ => True) (fun _ => False) rfl rfl ?aP (fun _ hk => hk.elim) ?aF ?aO ?aB ?aS ?aL ?_; (case aP => exact rfl); (case aB => exact HB4.out); (case aF => exact (fun _ _ => trivial)); (case aO => exact HR4.out); (case aS => exact HB4.out.size); (case aL => have := HQL.out; have := List.length_take_le 2 Q; omega); intro v8 w8 ho hb hg hat; have HR8 := Aside0.mk ho; have HB8 := Aside0.mk hb; clear ho hb hg hat))
            go_roundw
            case rel => exact ⟨HB8, .inr (.inr (.inr (.inl ⟨by first | rfl | go_num, ⟨by have h_ := HR8.out; rw [HQ.out] at h_ ⊢; exact h_⟩⟩)))⟩
            case measure => simp [RowKit.intOf]
          · have HI := Aside0.mk (fun W hg => itoa_byte lo W hg)
            generalize mkB (Lib.itoa (lo % 256)) = s3 at HI HQ
            go_wp2_with (first
              | (go_at_call 30; (with_reducible refine (HI.out _ (HG1.out.below HBr.out)).mono ?_); rintro e w4 ⟨rfl, hb⟩; have HR4 := Aside0.mk (Kd.R_below HR.out hb); have HB4 := Aside0.mk (below_step HBr.out hb); clear hb)
              | (at_builtin; change wpList _ _ _ _ _ (w4.alloc (.cells #[.string s3] 9)); refine Kd.R_append Kd.string (w0 := w1) w1.heap.size rfl (.tmp 22) (.tmp 30) 75 9 (.string ⟨#[]⟩) 16 rfl Tryz.underlying75 info_str9 rfl (by decide) (by omega) u5 (Q.take 3) s3 [.string s3] (fun _ => True) (fun _ => False) rfl rfl ?aP (fun _ hk => hk.elim) ?aF ?aO ?aB ?aS ?aL ?_; (case aP => exact rfl); (case aB => exact HB4.out); (case aF => exact (fun _ _ => trivial)); (case aO => exact HR4.out); (case aS => exact HB4.out.size); (case aL => have := HQL.out; have := List.length_take_le 3 Q; omega); intro v8 w8 ho hb hg hat; have HR8 := Aside0.mk ho; have HB8 := Aside0.mk hb; clear ho hb hg hat))
            go_roundw
            case rel => exact ⟨HB8, .inr (.inr (.inr (.inr (⟨by first | rfl | go_num, ⟨by have h_ := HR8.out; rw [HQ.out] at h_ ⊢; exact h_⟩⟩))))⟩
            case measure => simp [RowKit.intOf]
          · obtain ⟨A, c, hv⟩ := Kd.R_slice HR.out
            subst hv
            go_wp2_with (go_at_call 53; (with_reducible refine (HJ3.out _ _ _ (Kd.R_reads' HR.out).2.2 (Kd.R_reads' HR.out).2.1).mono ?_); rintro e w9 ⟨rfl, hb⟩; have HB9 := Aside0.mk (below_step HB.out (below_step HBr.out hb)); clear hb)
            go_ret2
            exact ⟨rfl, HB9.out⟩
      · rw [if_neg c2] at h; cases h
  · rw [if_neg c0] at h
    obtain rfl := Option.some.inj h
    have d0 : (e != 0) = true := bne_iff_ne.2 c0
    clear h c0
    go_enter Tryz.func29, Tryz.ntmps29
    go_wp2_with (first
      | (go_at_call 36; (with_reducible refine (HC.out _).mono ?_); rintro e w1 ⟨rfl, hb⟩; have HB := Aside0.mk hb; clear hb))
    go_ret2
    exact ⟨rfl, below_step (below_alloc (Below.refl _ _) _) HB.out⟩
end Go.Proofs.YtbalmnkbodcigaaGreatDoor.AddrLib
