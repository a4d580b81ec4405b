/- What ranges.Read comes to: an address, a stroke, one to three digits; the range, if it may be. -/
import Derived.Test.YtbalmnkbodcigaaGreatDoorAddrRead
set_option linter.unusedSimpArgs false
set_option linter.unusedVariables false
namespace Go.Proofs.YtbalmnkbodcigaaGreatDoor.AddrLib
open Go.Shelf Go.RowKit Go.Lib Go.Proofs.YtbalmnkbodcigaaGreatDoorW.PrintWords Go.Proofs.YtbalmnkbodcigaaGreatDoorW.PrintLast Go.Proofs.YtbalmnkbodcigaaGreatDoorW.PrintMore

/-- A block that holds a range. -/
def Range4 (W : World) (g : Nat) (b : Bool) (x y n : Int) : Prop := W.heap[g]? = some (.cells #[.bool b, .int .u64 x, .int .u64 y, .int .i64 n] 26 (0, 0))
theorem Range4.cells {W : World} {g : Nat} {b : Bool} {x y n : Int} (h : Range4 W g b x y n) : (W.cell? ⟨g, 0, none⟩ = some (.bool b) ∧ W.cell? ⟨g, 1, none⟩ = some (.int .u64 x) ∧ W.cell? ⟨g, 2, none⟩ = some (.int .u64 y) ∧ W.cell? ⟨g, 3, none⟩ = some (.int .i64 n)) ∧ W.frozen? ⟨g, 0, none⟩ = false ∧ W.frozen? ⟨g, 1, none⟩ = false ∧ W.frozen? ⟨g, 2, none⟩ = false ∧ W.frozen? ⟨g, 3, none⟩ = false := by
  unfold Range4 at h
  refine ⟨⟨?_, ?_, ?_, ?_⟩, ?_, ?_, ?_, ?_⟩ <;> simp [World.cell?, World.frozen?, h]
theorem Range4.below {W W' : World} {g : Nat} {b : Bool} {x y n : Int} (h : Range4 W g b x y n) (hb : Below W.heap.size W W') : Range4 W' g b x y n := (hb.block g (blk_lt h)).trans h
theorem Range4.new (W : World) (b : Bool) (x y n : Int) : Range4 (W.alloc (.cells #[.bool b, .int .u64 x, .int .u64 y, .int .i64 n] 26)) W.heap.size b x y n := heap_alloc_new W _
def cutA (s : ByteArray) : ByteArray := ⟨(Lib.cut s.data.toList [47]).1.toArray⟩
def cutB (s : ByteArray) : ByteArray := ⟨(Lib.cut s.data.toList [47]).2.1.toArray⟩
def cutC (s : ByteArray) : Bool := (Lib.cut s.data.toList [47]).2.2
def badH (ok : Bool) (e : Int) (n : ByteArray) : Bool := !ok || decide (e ≠ 0) || decide (n.size < 1) || decide (n.size > 3) || (decide (n.size > 1) && decide (bt n 0 = 48))
def rrF (rd : ByteArray → Option (Bool × Int × Int × Int)) (chk : Bool → Int → Int → Int → Option Int) (s : ByteArray) : Option (Bool × Int × Int × Int × Int) :=
  if s.size ≤ 100000 then (rd (cutA s)).bind fun t => if badH (cutC s) t.2.2.2 (cutB s) = true then some (false, 0, 0, 0, 7)
    else if (∀ x ∈ bytesOf (cutB s), digI x < 10) then (chk t.1 t.2.1 t.2.2.1 (valI 10 (bytesOf (cutB s)))).bind fun e => if e = 0 then some (t.1, t.2.1, t.2.2.1, valI 10 (bytesOf (cutB s)), 0) else some (false, 0, 0, 0, e)
    else some (false, 0, 0, 0, 7)
  else none
theorem rd_at_ (xs : List Int) (k : Nat) : rd xs (k : Int) = xs.getD k 0 := by unfold rd; rw [Int.toNat_natCast]
theorem dig_byte {x : Int} (h : digI x < 10) : 48 ≤ x ∧ x ≤ 57 := by
  have := digI_cases h (by omega)
  omega
theorem dig_no {x : Int} (h : ¬ digI x < 10) : x < 48 ∨ 57 < x := by
  by_cases c : 48 ≤ x ∧ x ≤ 57
  · exfalso; apply h; unfold digI; rw [if_pos c]; omega
  · omega
theorem start4 {w w4 : World} {nd : Nat} (hb : Below ((w.alloc (.cells #[.bool false, .int .u64 0, .int .u64 0, .int .i64 0] 26)).drewN nd).heap.size ((w.alloc (.cells #[.bool false, .int .u64 0, .int .u64 0, .int .i64 0] 26)).drewN nd) w4) :
    Below w.heap.size w w4 ∧ Range4 w4 w.heap.size false 0 0 0 ∧ w.heap.size < w4.heap.size := by
  have h1 : Below w.heap.size w ((w.alloc (.cells #[.bool false, .int .u64 0, .int .u64 0, .int .i64 0] 26)).drewN nd) := pw_below_drewN (below_alloc (Below.refl _ _) _) nd
  have h2 := (Range4.new w false 0 0 0).below (pw_below_drewN (Below.refl _ _) nd)
  exact ⟨below_step h1 hb, h2.below hb, by have := hb.size; simp at this; omega⟩
set_option maxHeartbeats 4000000 in
set_option maxRecDepth 100000 in
theorem rr_calls (rd : ByteArray → Option (Bool × Int × Int × Int)) (chk : Bool → Int → Int → Int → Option Int) (w : World)
    (hrd : ∀ s t W, Below w.heap.size w W → rd s = some t → Calls Tryz.prog 27 #[.string s] W fun e w' => e = .returned (.tuple #[.agg #[.bool t.1, .int .u64 t.2.1, .int .u64 t.2.2.1], .int .i64 t.2.2.2]) ∧ Below W.heap.size W w')
    (hchk : ∀ b x y n e w, chk b x y n = some e → Calls Tryz.prog 15 #[.agg #[.bool b, .int .u64 x, .int .u64 y, .int .i64 n]] w fun e' w' => e' = .returned (.int .i64 e) ∧ Below w.heap.size w w')
    (s : ByteArray) (r : Bool × Int × Int × Int × Int) (h : rrF rd chk s = some r) :
    Calls Tryz.prog 5 #[.string s] w fun e w' => e = .returned (.tuple #[.agg #[.bool r.1, .int .u64 r.2.1, .int .u64 r.2.2.1, .int .i64 r.2.2.2.1], .int .i64 r.2.2.2.2]) ∧ Below w.heap.size w w' := by
  unfold rrF at h
  by_cases c0 : s.size ≤ 100000
  · rw [if_pos c0, Option.bind_eq_some_iff] at h
    obtain ⟨⟨t1, t2, t3, t4⟩, ht, h⟩ := h
    have HCUT := Aside0.mk (show ∀ W, Calls Tryz.prog 26 #[.string s, .string ⟨#[47]⟩] W fun e w' => e = .returned (.tuple #[.string (cutA s), .string (cutB s), .bool (cutC s)]) ∧ Drawn0 W w' from fun W => cut_one s 47 W (by omega))
    generalize cutA s = sa at HCUT ht
    generalize cutC s = ok at HCUT h
    generalize cutB s = sn at HCUT h
    have HRD := Aside0.mk (fun W hb => hrd sa (t1, t2, t3, t4) W hb ht)
    clear ht c0
    by_cases cb : badH ok t4 sn = true
    · rw [if_pos cb] at h
      have HRR := Aside0.mk (Option.some.inj h)
      clear h
      unfold badH at cb
      by_cases hok : ok = true
      · subst hok
        by_cases h4 : t4 = 0
        · subst h4
          by_cases hn1 : sn.size < 1
          · have d1 : decide ((sn.size : Int) < 1) = true := decide_eq_true (by omega)
            clear cb
            go_enter Tryz.func5, Tryz.ntmps5
            go_wp2_with (first | (go_at_call 26; (with_reducible refine (HCUT.out _).mono ?_); rintro e w' ⟨rfl, ⟨nd, rfl⟩⟩) | (go_at_call 27; (with_reducible refine (HRD.out _ (pw_below_drewN (below_alloc (Below.refl _ _) _) nd)).mono ?_); rintro e w4 ⟨rfl, hb4⟩; obtain ⟨hbb, hr4, hsz⟩ := start4 hb4; have HBB := Aside0.mk hbb; have HR4 := Aside0.mk hr4; obtain ⟨⟨z0, z1, z2, z3⟩, f0, f1, f2, f3⟩ := hr4.cells; clear hb4 hbb hr4))
            exact bodyPost_ret (v := .tuple #[.agg #[.bool false, .int .u64 0, .int .u64 0, .int .i64 0], .int .i64 7]) (by simp [results, Tryz.results5, go_sem, z0, z1, z2, z3, f0, f1, f2, f3, hsz]) rfl ⟨by rw [← HRR.out], below_alloc ((((HBB.out.setCell (by simp) _).setCell (by simp) _).setCell (by simp) _).setCell (by simp) _) _⟩
          · have d1 : decide ((sn.size : Int) < 1) = false := decide_eq_false (by omega)
            by_cases hn3 : 3 < sn.size
            · have d2 : decide (3 < (sn.size : Int)) = true := decide_eq_true (by omega)
              clear cb
              go_enter Tryz.func5, Tryz.ntmps5
              go_wp2_with (first | (go_at_call 26; (with_reducible refine (HCUT.out _).mono ?_); rintro e w' ⟨rfl, ⟨nd, rfl⟩⟩) | (go_at_call 27; (with_reducible refine (HRD.out _ (pw_below_drewN (below_alloc (Below.refl _ _) _) nd)).mono ?_); rintro e w4 ⟨rfl, hb4⟩; obtain ⟨hbb, hr4, hsz⟩ := start4 hb4; have HBB := Aside0.mk hbb; have HR4 := Aside0.mk hr4; obtain ⟨⟨z0, z1, z2, z3⟩, f0, f1, f2, f3⟩ := hr4.cells; clear hb4 hbb hr4))
              exact bodyPost_ret (v := .tuple #[.agg #[.bool false, .int .u64 0, .int .u64 0, .int .i64 0], .int .i64 7]) (by simp [results, Tryz.results5, go_sem, z0, z1, z2, z3, f0, f1, f2, f3, hsz]) rfl ⟨by rw [← HRR.out], below_alloc ((((HBB.out.setCell (by simp) _).setCell (by simp) _).setCell (by simp) _).setCell (by simp) _) _⟩
            · have d2 : decide (3 < (sn.size : Int)) = false := decide_eq_false (by omega)
              have hz : 1 < sn.size ∧ bt sn 0 = 48 := by
                simp only [Bool.or_eq_true, Bool.and_eq_true, decide_eq_true_eq, Bool.not_eq_true'] at cb
                rcases cb with (((cb | cb) | cb) | cb) | cb
                · cases cb
                · exact absurd rfl cb
                · omega
                · omega
                · exact cb
              have d3 : decide (1 < (sn.size : Int)) = true := decide_eq_true (by omega)
              have d6 : 0 < sn.size := by omega
              have HX0 := Aside0.mk (show ((sn[0]'d6).toNat : Int) = bt sn 0 from bt_at sn 0 d6)
              have d5 : (((sn[0]'d6).toNat : Int) == 48) = true := by rw [HX0.out]; exact beq_iff_eq.2 hz.2
              clear cb hz
              go_enter Tryz.func5, Tryz.ntmps5
              go_wp2_with (first | (go_at_call 26; (with_reducible refine (HCUT.out _).mono ?_); rintro e w' ⟨rfl, ⟨nd, rfl⟩⟩) | (go_at_call 27; (with_reducible refine (HRD.out _ (pw_below_drewN (below_alloc (Below.refl _ _) _) nd)).mono ?_); rintro e w4 ⟨rfl, hb4⟩; obtain ⟨hbb, hr4, hsz⟩ := start4 hb4; have HBB := Aside0.mk hbb; have HR4 := Aside0.mk hr4; obtain ⟨⟨z0, z1, z2, z3⟩, f0, f1, f2, f3⟩ := hr4.cells; clear hb4 hbb hr4))
              exact bodyPost_ret (v := .tuple #[.agg #[.bool false, .int .u64 0, .int .u64 0, .int .i64 0], .int .i64 7]) (by simp [results, Tryz.results5, go_sem, z0, z1, z2, z3, f0, f1, f2, f3, hsz]) rfl ⟨by rw [← HRR.out], below_alloc ((((HBB.out.setCell (by simp) _).setCell (by simp) _).setCell (by simp) _).setCell (by simp) _) _⟩
        · have d4 : (t4 != 0) = true := bne_iff_ne.2 h4
          clear cb h4
          go_enter Tryz.func5, Tryz.ntmps5
          go_wp2_with (first | (go_at_call 26; (with_reducible refine (HCUT.out _).mono ?_); rintro e w' ⟨rfl, ⟨nd, rfl⟩⟩) | (go_at_call 27; (with_reducible refine (HRD.out _ (pw_below_drewN (below_alloc (Below.refl _ _) _) nd)).mono ?_); rintro e w4 ⟨rfl, hb4⟩; obtain ⟨hbb, hr4, hsz⟩ := start4 hb4; have HBB := Aside0.mk hbb; have HR4 := Aside0.mk hr4; obtain ⟨⟨z0, z1, z2, z3⟩, f0, f1, f2, f3⟩ := hr4.cells; clear hb4 hbb hr4))
          exact bodyPost_ret (v := .tuple #[.agg #[.bool false, .int .u64 0, .int .u64 0, .int .i64 0], .int .i64 7]) (by simp [results, Tryz.results5, go_sem, z0, z1, z2, z3, f0, f1, f2, f3, hsz]) rfl ⟨by rw [← HRR.out], below_alloc ((((HBB.out.setCell (by simp) _).setCell (by simp) _).setCell (by simp) _).setCell (by simp) _) _⟩
      · have hok := Bool.eq_false_iff.mpr hok
        subst hok
        clear cb
        go_enter Tryz.func5, Tryz.ntmps5
        go_wp2_with (first | (go_at_call 26; (with_reducible refine (HCUT.out _).mono ?_); rintro e w' ⟨rfl, ⟨nd, rfl⟩⟩) | (go_at_call 27; (with_reducible refine (HRD.out _ (pw_below_drewN (below_alloc (Below.refl _ _) _) nd)).mono ?_); rintro e w4 ⟨rfl, hb4⟩; obtain ⟨hbb, hr4, hsz⟩ := start4 hb4; have HBB := Aside0.mk hbb; have HR4 := Aside0.mk hr4; obtain ⟨⟨z0, z1, z2, z3⟩, f0, f1, f2, f3⟩ := hr4.cells; clear hb4 hbb hr4))
        exact bodyPost_ret (v := .tuple #[.agg #[.bool false, .int .u64 0, .int .u64 0, .int .i64 0], .int .i64 7]) (by simp [results, Tryz.results5, go_sem, z0, z1, z2, z3, f0, f1, f2, f3, hsz]) rfl ⟨by rw [← HRR.out], below_alloc ((((HBB.out.setCell (by simp) _).setCell (by simp) _).setCell (by simp) _).setCell (by simp) _) _⟩
    · rw [if_neg cb] at h
      obtain ⟨hok, h4, hn1, hn3, hz⟩ : ok = true ∧ t4 = 0 ∧ 1 ≤ sn.size ∧ sn.size ≤ 3 ∧ ¬ (1 < sn.size ∧ bt sn 0 = 48) := by
        unfold badH at cb
        simp only [Bool.or_eq_true, Bool.and_eq_true, decide_eq_true_eq, Bool.not_eq_true', not_or] at cb
        obtain ⟨⟨⟨⟨a1, a2⟩, a3⟩, a4⟩, a5⟩ := cb
        exact ⟨(by cases ok; exact absurd rfl a1; rfl), (by omega), by omega, by omega, a5⟩
      subst hok h4
      clear cb
      obtain ⟨ys, hys⟩ : ∃ ys, ys = bytesOf sn := ⟨_, rfl⟩
      rw [← hys] at h
      have hyl3 : ys.length ≤ 3 := by rw [hys, bytesOf_length]; exact hn3
      have HYS := Aside0.mk hys
      have HZ := Aside0.mk hz
      have HH := Aside0.mk h
      clear hys hz h
      have d1 : decide ((sn.size : Int) < 1) = false := decide_eq_false (by omega)
      have d2 : decide (3 < (sn.size : Int)) = false := decide_eq_false (by omega)
      by_cases c4 : 1 < sn.size
      all_goals
        (first
          | (have d3 : decide (1 < (sn.size : Int)) = true := decide_eq_true (by omega)
             have d6 : 0 < sn.size := by omega
             have HX0 := Aside0.mk (show ((sn[0]'d6).toNat : Int) = bt sn 0 from bt_at sn 0 d6)
             have d5 : (((sn[0]'d6).toNat : Int) == 48) = false := by rw [HX0.out]; exact beq_eq_false_iff_ne.2 (fun e => HZ.out ⟨c4, e⟩))
          | have d3 : decide (1 < (sn.size : Int)) = false := decide_eq_false (by omega))
        go_enter Tryz.func5, Tryz.ntmps5
        go_wp2_with (first | (go_at_call 26; (with_reducible refine (HCUT.out _).mono ?_); rintro e w' ⟨rfl, ⟨nd, rfl⟩⟩) | (go_at_call 27; (with_reducible refine (HRD.out _ (pw_below_drewN (below_alloc (Below.refl _ _) _) nd)).mono ?_); rintro e w4 ⟨rfl, hb4⟩; obtain ⟨hbb, hr4, hsz⟩ := start4 hb4; have HBB := Aside0.mk hbb; have HR4 := Aside0.mk hr4; have HBA := Aside0.mk (below_alloc hbb (.cells #[.bool t1, .int .u64 t2, .int .u64 t3] 24)); clear hb4 hbb hr4) | ((with_reducible refine gate_dst (N := 53) rfl ?_); refine conv_event (src := 9) (dst := 51) (e := 5) (s := sn) (w := w4.alloc (.cells #[.bool t1, .int .u64 t2, .int .u64 t3] 24)) rfl (N := 53) rfl Tryz.underlying9 Tryz.underlying51 Tryz.underlying5 ?cvr (by omega) (Below.refl _ _) ?_; (case cvr => intro kb_; first | (go_simp; done) | (go_simp; rfl)); intro A c w1 hrow hc hb; have HROW := Aside0.mk hrow; have HB2 := Aside0.mk hb; clear hrow hc hb))
        rw [← HYS.out] at HROW ⊢
        have HGE : Aside0 (w4.heap.size + 1 ≤ w1.heap.size) := ⟨by have := HB2.out.size; simp at this; exact this⟩
        go_loopw [9, 55] (fun v i wr => ∃ k : Nat, k ≤ ys.length ∧ i = .int .i64 k ∧ v = .int .i64 (valI 10 (ys.take k)) ∧ Aside0 (∀ x ∈ ys.take k, digI x < 10) ∧ Aside0 (Kd.C (Kd.int .u8) wr A ys.length ys) ∧ Aside0 (Below (w4.heap.size + 1) (w4.alloc (.cells #[.bool t1, .int .u64 t2, .int .u64 t3] 24)) wr)) (fun _ i _ => ys.length - (RowKit.intOf i).toNat)
        case atStart => exact ⟨0, Nat.zero_le _, rfl, rfl, ⟨fun x hx => by simp at hx⟩, HROW, ⟨HB2.out.mono (by simp)⟩⟩
        case round =>
          clear HROW HB2
          obtain ⟨k, hk, rfl, rfl, HJ, HC, HB⟩ := hrel
          have hr4 : Range4 wr w.heap.size false 0 0 0 := (HB.out.block _ (Nat.lt_succ_of_lt hsz)).trans (HR4.out.below (below_alloc (Below.refl _ _) _))
          have ha3 : Addr3 wr w4.heap.size t1 t2 t3 := (HB.out.block _ (Nat.lt_succ_self _)).trans (Addr3.new w4 t1 t2 t3)
          have HBW := Aside0.mk (show Below w.heap.size w wr from HBA.out.trans (HB.out.mono (by omega)))
          have HR4w := Aside0.mk hr4
          have hszw : w.heap.size < wr.heap.size := blk_lt hr4
          have hszw4 : w4.heap.size < wr.heap.size := blk_lt ha3
          by_cases hlt : k < ys.length
          · obtain ⟨ad, had, hcell⟩ := Kd.at_int HC.out (k : Int) (by omega) (by omega)
            subst had
            rw [rd_at_ ys k, Int.toNat_natCast] at hcell
            have hv := valI_bound (B := 10) (by omega) (by omega) (ys.take k) HJ.out
            have hv1 := hv.2.1 (by rw [List.length_take]; omega)
            have hv0 := hv.1
            have HS := Aside0.mk (valI_snoc 10 (ys.take k) (ys.getD k 0))
            rw [← take_rd hlt] at HS
            clear hv
            by_cases hd : digI (ys.getD k 0) < 10
            · have hb := dig_byte hd
              obtain ⟨b1, b2⟩ := hb
              have HJ2 := Aside0.mk (show ∀ x ∈ ys.take (k + 1), digI x < 10 from fun x hx => by
                rw [take_rd hlt, List.mem_append, List.mem_singleton] at hx
                rcases hx with hx | hx
                · exact HJ.out x hx
                · rw [hx]; exact hd)
              have HDG := Aside0.mk (show digI (ys.getD k 0) = ys.getD k 0 - 48 by unfold digI; rw [if_pos ⟨b1, b2⟩])
              rw [HDG.out] at HS
              clear HJ hd HDG
              generalize ys.getD k 0 = x at hcell b1 b2 HS
              generalize valI 10 (ys.take k) = v at hv0 hv1 HS ⊢
              clear hr4 ha3
              go_wp2
              go_roundw
              case rel => exact ⟨k + 1, by omega, by go_num, by rw [HS.out, Int.mul_comm], HJ2, HC, HB⟩
              case measure => simp [RowKit.intOf]; omega
            · have hno := dig_no hd
              have HRR := Aside0.mk (show (false, 0, 0, 0, 7) = r by
                have hh := HH.out
                rw [if_neg] at hh
                · exact Option.some.inj hh
                · intro hall
                  exact hd (hall _ (by rw [List.getD_eq_getElem?_getD, List.getElem?_eq_getElem hlt]; exact List.getElem_mem hlt)))
              obtain ⟨⟨z0, z1, z2, z3⟩, f0, f1, f2, f3⟩ := hr4.cells
              clear hr4 ha3 HS hd HJ
              generalize ys.getD k 0 = x at hcell hno
              rcases hno with hno | hno
              all_goals
                (first | (have hno2 : 48 ≤ x := by omega) | skip)
                go_wp2
                exact bodyPost_ret (v := .tuple #[.agg #[.bool false, .int .u64 0, .int .u64 0, .int .i64 0], .int .i64 7]) (by simp [results, Tryz.results5, go_sem, z0, z1, z2, z3, f0, f1, f2, f3]) rfl ⟨by rw [← HRR.out], (((HBW.out.setCell (Nat.le_refl _) _).setCell (Nat.le_refl _) _).setCell (Nat.le_refl _) _).setCell (Nat.le_refl _) _⟩
          · have hk' : k = ys.length := by omega
            subst hk'
            have hall := HJ.out
            rw [List.take_length] at hall
            have hh := HH.out
            rw [if_pos hall, Option.bind_eq_some_iff] at hh
            obtain ⟨e, he, hh⟩ := hh
            have HCK := Aside0.mk (fun W => hchk t1 t2 t3 (valI 10 ys) e W he)
            have HHH := Aside0.mk hh
            rw [List.take_length]
            obtain ⟨y0, y1, y2, _, _, _⟩ := ha3.cells
            clear hall hh he hr4 ha3 HJ
            generalize valI 10 ys = v at HCK HHH ⊢
            by_cases c : e = 0
            · subst c
              have HRR := Aside0.mk (show (t1, t2, t3, v, 0) = r from Option.some.inj ((if_pos rfl).symm.trans HHH.out))
              clear HHH
              go_wp2_with (first | (go_at_call 15; (with_reducible refine (HCK.out _).mono ?_); rintro e w6 ⟨rfl, hb6⟩; have HB6 := Aside0.mk hb6; obtain ⟨⟨z0, z1, z2, z3⟩, f0, f1, f2, f3⟩ := ((HR4w.out.below (below_alloc (Below.refl _ _) _)).below hb6).cells; obtain ⟨⟨m0, m1, m2, m3⟩, _, _, _, _⟩ := ((Range4.new wr t1 t2 t3 v).below hb6).cells; clear hb6))
              exact bodyPost_ret (v := .tuple #[.agg #[.bool t1, .int .u64 t2, .int .u64 t3, .int .i64 v], .int .i64 0]) (by simp [results, Tryz.results5, go_sem, z0, z1, z2, z3, f0, f1, f2, f3]) rfl ⟨by rw [← HRR.out], ((((below_step (below_alloc HBW.out _) HB6.out).setCell (Nat.le_refl _) _).setCell (Nat.le_refl _) _).setCell (Nat.le_refl _) _).setCell (Nat.le_refl _) _⟩
            · have HRR := Aside0.mk (show (false, 0, 0, 0, e) = r from Option.some.inj ((if_neg c).symm.trans HHH.out))
              have dc : (e != 0) = true := bne_iff_ne.2 c
              clear HHH c
              go_wp2_with (first | (go_at_call 15; (with_reducible refine (HCK.out _).mono ?_); rintro e w6 ⟨rfl, hb6⟩; have HB6 := Aside0.mk hb6; obtain ⟨⟨z0, z1, z2, z3⟩, f0, f1, f2, f3⟩ := ((HR4w.out.below (below_alloc (Below.refl _ _) _)).below hb6).cells; clear hb6))
              exact bodyPost_ret (v := .tuple #[.agg #[.bool false, .int .u64 0, .int .u64 0, .int .i64 0], .int .i64 e]) (by simp [results, Tryz.results5, go_sem, z0, z1, z2, z3, f0, f1, f2, f3]) rfl ⟨by rw [← HRR.out], ((((below_step (below_alloc HBW.out _) HB6.out).setCell (Nat.le_refl _) _).setCell (Nat.le_refl _) _).setCell (Nat.le_refl _) _).setCell (Nat.le_refl _) _⟩
  · rw [if_neg c0] at h; cases h
theorem rrF_mono {f g : ByteArray → Option (Bool × Int × Int × Int)} (chk : Bool → Int → Int → Int → Option Int) (h : ∀ s, LeO (f s) (g s)) (s : ByteArray) : LeO (rrF f chk s) (rrF g chk s) := by
  unfold rrF
  exact LeO.ite (LeO.bind (h _) (fun _ => LeO.refl _)) (LeO.refl _)
end Go.Proofs.YtbalmnkbodcigaaGreatDoor.AddrLib
