/- What addr.newer comes to: the text is cut at the first two colons; groups ahead, noughts, groups behind. Its parts are read as addr.part reads them. And slices.Grow, slices.Concat of three rows. -/
import Derived.Test.YtbalmnkbodcigaaGreatDoorAddrWorld
import Derived.Test.YtbalmnkbodcigaaGreatDoorWZeros
set_option linter.unusedSimpArgs false
set_option linter.unusedVariables false
namespace Go.Proofs.YtbalmnkbodcigaaGreatDoor.AddrLib
open Go.Shelf Go.RowKit Go.Lib Go.Proofs.YtbalmnkbodcigaaGreatDoorW.PrintWords Go.Proofs.YtbalmnkbodcigaaGreatDoorW.PrintLast Go.Proofs.YtbalmnkbodcigaaGreatDoorW.PrintMore

theorem info_u16 : (Tryz.prog.info? 77).map (fun i => (i.zero, i.size, i.bytes)) = some (some (.int .u16 0), 1, 2) := by kernel_rfl
abbrev RU (W : World) (B : Nat) (v : Value) (xs : List Int) : Prop := Kd.R (Kd.int .u16) 77 W B (fun _ => True) v xs
set_option maxHeartbeats 1000000 in
set_option maxRecDepth 100000 in
theorem grow_ (n : Nat) (h1 : 1 ≤ n) (hn : n ≤ 1000) (w : World) :
    Calls Tryz.prog 88 #[.slice none 0 0, .int .i64 n] w fun e w' => ∃ v, e = .returned v ∧ RU w' w.heap.size v [] ∧ Below w.heap.size w w' := by
  have d1 : decide (0 < (n : Int)) = true := decide_eq_true (by omega)
  go_enter Tryz.func88, Tryz.ntmps88
  go_wp2_with (first | (at_builtin; refine Kd.R_append_zeros (Kd.int .u16) (w0 := w) w.heap.size rfl (.tmp 20) (.tmp 21) 66 3 77 (.int .u16 0) 2 rfl Tryz.underlying66 Tryz.underlying3 info_u16 rfl (by decide) (by decide) (.slice none 0 0) [] 0 (n : Int) (fun _ => True) rfl rfl ?aZ (fun _ _ => trivial) (Kd.R_nil _ _ _ _ _) (by omega) (Below.refl _ _) (Nat.le_refl _) ?aL ?_; (case aZ => exact rfl); (case aL => simp; omega); intro v1 w1 ho hb hg hat; obtain ⟨A, c, hv⟩ := Kd.R_slice ho; subst hv; have HO := Aside0.mk ho; have HB := Aside0.mk hb; clear ho hb hg hat))
  go_ret
  exact ⟨_, rfl, by have := Kd.R_take (m := 0) HO.out (Nat.zero_le _); rw [List.take_zero] at this; exact this, HB.out⟩
set_option maxHeartbeats 4000000 in
set_option maxRecDepth 100000 in
/-- Three rows behind one another, out of a list of three. -/
theorem concat_ (b : Nat) (A1 A2 A3 : Option Addr) (c1 c2 c3 : Nat) (xs ys zs : List Int) (w : World)
    (h1 : w.cell? ⟨b, 0, none⟩ = some (.slice A1 xs.length c1)) (h2 : w.cell? ⟨b, 1, none⟩ = some (.slice A2 ys.length c2)) (h3 : w.cell? ⟨b, 2, none⟩ = some (.slice A3 zs.length c3))
    (k1 : Kd.C (Kd.int .u16) w A1 xs.length xs) (k2 : Kd.C (Kd.int .u16) w A2 ys.length ys) (k3 : Kd.C (Kd.int .u16) w A3 zs.length zs) (h0 : 1 ≤ xs.length + ys.length + zs.length) (hm : xs.length + ys.length + zs.length ≤ 1000) :
    Calls Tryz.prog 70 #[.slice (some ⟨b, 0, none⟩) 3 3] w fun e w' => ∃ v, e = .returned v ∧ RU w' w.heap.size v (xs ++ ys ++ zs) ∧ Below w.heap.size w w' := by
  have K1 := Aside0.mk k1
  have K2 := Aside0.mk k2
  have K3 := Aside0.mk k3
  have HG := Aside0.mk (fun W => grow_ (xs.length + ys.length + zs.length) h0 hm W)
  have hbw : b < w.heap.size := World.block_lt_of_cell? _ _ h1
  clear k1 k2 k3
  obtain ⟨l1, e1⟩ : ∃ l1, l1 = xs.length := ⟨_, rfl⟩
  obtain ⟨l2, e2⟩ : ∃ l2, l2 = ys.length := ⟨_, rfl⟩
  obtain ⟨l3, e3⟩ : ∃ l3, l3 = zs.length := ⟨_, rfl⟩
  rw [← e1] at h1 h0 hm
  rw [← e2] at h2 h0 hm
  rw [← e3] at h3 h0 hm
  rw [← e1, ← e2, ← e3] at HG
  have E1 := Aside0.mk e1
  have E2 := Aside0.mk e2
  have E3 := Aside0.mk e3
  obtain ⟨N, hN⟩ : ∃ N, N = l1 + l2 + l3 := ⟨_, rfl⟩
  rw [← hN] at HG
  have HN := Aside0.mk hN
  clear e1 e2 e3 hN
  go_enter Tryz.func70, Tryz.ntmps70
  go_wp2
  go_loopw [11, 3] (fun i n wr => wr = w ∧ ((i = .int .i64 0 ∧ n = .int .i64 0) ∨ (i = .int .i64 1 ∧ n = .int .i64 (l1 : Int)) ∨ (i = .int .i64 2 ∧ n = .int .i64 ((l1 : Int) + l2)) ∨ (i = .int .i64 3 ∧ n = .int .i64 (N : Int)))) (fun i _ _ => 3 - (RowKit.intOf i).toNat)
  case atStart => exact ⟨rfl, .inl ⟨rfl, rfl⟩⟩
  case round =>
    obtain ⟨hw, hc⟩ := hrel
    have hw2 := hw.symm
    clear hw
    subst hw2
    rcases hc with ⟨rfl, rfl⟩ | ⟨rfl, rfl⟩ | ⟨rfl, rfl⟩ | ⟨rfl, rfl⟩
    · go_wp2
      go_roundw
      case rel => exact ⟨by first | trivial | rfl, .inr (.inl ⟨rfl, by go_num⟩)⟩
      case measure => simp [RowKit.intOf]
    · go_wp2
      go_roundw
      case rel => exact ⟨by first | trivial | rfl, .inr (.inr (.inl ⟨rfl, by go_num⟩))⟩
      case measure => simp [RowKit.intOf]
    · go_wp2
      go_roundw
      case rel => exact ⟨by first | trivial | rfl, .inr (.inr (.inr ⟨rfl, by rw [HN.out]; go_num⟩))⟩
      case measure => simp [RowKit.intOf]
    · go_wp2_with (go_at_call 88; (with_reducible refine (HG.out _).mono ?_); rintro e w1 ⟨v1, rfl, ho, hb⟩; have HO := Aside0.mk ho; have HB := Aside0.mk hb; clear ho hb)
      have hsz := HB.out.size
      go_loopw [27, 6] (fun i v wr => Aside0 (Below w.heap.size w wr) ∧ ((i = .int .i64 0 ∧ Aside0 (RU wr w.heap.size v [])) ∨ (i = .int .i64 1 ∧ Aside0 (RU wr w.heap.size v xs)) ∨ (i = .int .i64 2 ∧ Aside0 (RU wr w.heap.size v (xs ++ ys))) ∨ (i = .int .i64 3 ∧ Aside0 (RU wr w.heap.size v (xs ++ ys ++ zs))))) (fun i _ _ => 3 - (RowKit.intOf i).toNat)
      case atStart => exact ⟨HB, .inl ⟨rfl, HO⟩⟩
      case round =>
        clear HO HB hsz
        obtain ⟨HW, hc⟩ := hrel
        have g1 := (HW.out.cell (p := ⟨b, 0, none⟩) hbw).trans h1
        have g2 := (HW.out.cell (p := ⟨b, 1, none⟩) hbw).trans h2
        have g3 := (HW.out.cell (p := ⟨b, 2, none⟩) hbw).trans h3
        rcases hc with ⟨rfl, HR⟩ | ⟨rfl, HR⟩ | ⟨rfl, HR⟩ | ⟨rfl, HR⟩
        · go_wp2_with (first | (at_builtin; refine Kd.R_append_rows (Kd.int .u16) (w0 := w) w.heap.size rfl (.tmp 31) (.tmp 32) 66 77 (.int .u16 0) 2 rfl Tryz.underlying66 info_u16 rfl (by decide) (by decide) u6 [] xs _ _ _ (fun _ => True) (fun _ => False) rfl rfl ?aO ?aR (fun _ _ h => h) (fun _ h => h.elim) (fun _ _ => trivial) ?aB ?aS ?aL ?_; (case aO => exact HR.out); (case aR => exact (by have h_ := Kd.C_below K1.out HW.out; rw [← E1.out] at h_; exact h_)); (case aB => exact HW.out); (case aS => exact HW.out.size); (case aL => have := E1.out; have := E1.out; have := E2.out; have := E3.out; (try simp only [List.length_append, List.length_nil]); omega); intro v5 w5 ho hb hg hat; have HO5 := Aside0.mk ho; have HH := Aside0.mk hb; clear ho hg hb hat))
          go_roundw
          case rel => exact ⟨HH, .inr (.inl ⟨rfl, HO5⟩)⟩
          case measure => simp [RowKit.intOf]
        · go_wp2_with (first | (at_builtin; refine Kd.R_append_rows (Kd.int .u16) (w0 := w) w.heap.size rfl (.tmp 31) (.tmp 32) 66 77 (.int .u16 0) 2 rfl Tryz.underlying66 info_u16 rfl (by decide) (by decide) u6 xs ys _ _ _ (fun _ => True) (fun _ => False) rfl rfl ?aO ?aR (fun _ _ h => h) (fun _ h => h.elim) (fun _ _ => trivial) ?aB ?aS ?aL ?_; (case aO => exact HR.out); (case aR => exact (by have h_ := Kd.C_below K2.out HW.out; rw [← E2.out] at h_; exact h_)); (case aB => exact HW.out); (case aS => exact HW.out.size); (case aL => have := E2.out; have := E1.out; have := E2.out; have := E3.out; (try simp only [List.length_append, List.length_nil]); omega); intro v5 w5 ho hb hg hat; have HO5 := Aside0.mk ho; have HH := Aside0.mk hb; clear ho hg hb hat))
          go_roundw
          case rel => exact ⟨HH, .inr (.inr (.inl ⟨rfl, HO5⟩))⟩
          case measure => simp [RowKit.intOf]
        · go_wp2_with (first | (at_builtin; refine Kd.R_append_rows (Kd.int .u16) (w0 := w) w.heap.size rfl (.tmp 31) (.tmp 32) 66 77 (.int .u16 0) 2 rfl Tryz.underlying66 info_u16 rfl (by decide) (by decide) u6 (xs ++ ys) zs _ _ _ (fun _ => True) (fun _ => False) rfl rfl ?aO ?aR (fun _ _ h => h) (fun _ h => h.elim) (fun _ _ => trivial) ?aB ?aS ?aL ?_; (case aO => exact HR.out); (case aR => exact (by have h_ := Kd.C_below K3.out HW.out; rw [← E3.out] at h_; exact h_)); (case aB => exact HW.out); (case aS => exact HW.out.size); (case aL => have := E3.out; have := E1.out; have := E2.out; have := E3.out; (try simp only [List.length_append, List.length_nil]); omega); intro v5 w5 ho hb hg hat; have HO5 := Aside0.mk ho; have HH := Aside0.mk hb; clear ho hg hb hat))
          go_roundw
          case rel => exact ⟨HH, .inr (.inr (.inr ⟨rfl, HO5⟩))⟩
          case measure => simp [RowKit.intOf]
        · go_wp2
          go_ret
          exact ⟨_, rfl, HR.out, HW.out⟩
def newerF (part : ByteArray → Bool → Option (List Int × Bool)) (s : ByteArray) : Option (List Int × Bool) :=
  if s.size ≤ 100000 then
    (if Lib.contains (Lib.cut s.data.toList [58, 58]).2.1 [58, 58] = true then some ([], false) else
      (part (mkB (Lib.cut s.data.toList [58, 58]).1) (!(Lib.cut s.data.toList [58, 58]).2.2)).bind fun p => if p.2 = false then some ([], false) else
        (part (mkB (Lib.cut s.data.toList [58, 58]).2.1) true).bind fun q => if q.2 = false then some ([], false) else
          if p.1.length ≤ 200 ∧ q.1.length ≤ 200 then
            (if ((Lib.cut s.data.toList [58, 58]).2.2 = true ∧ 8 - (p.1.length : Int) - (q.1.length : Int) < 1) ∨ ((Lib.cut s.data.toList [58, 58]).2.2 = false ∧ 8 - (p.1.length : Int) - (q.1.length : Int) ≠ 0) then some ([], false)
            else some (p.1 ++ List.replicate (8 - (p.1.length : Int) - (q.1.length : Int)).toNat 0 ++ q.1, true))
          else none)
  else none
theorem newerF_mono {f g : ByteArray → Bool → Option (List Int × Bool)} (h : ∀ s b, LeO (f s b) (g s b)) (s : ByteArray) : LeO (newerF f s) (newerF g s) := by
  unfold newerF
  refine LeO.ite (LeO.ite (LeO.refl _) (LeO.bind (h _ _) fun p => LeO.ite (LeO.refl _) (LeO.bind (h _ _) fun q => LeO.refl _))) (LeO.refl _)
theorem drew2_below {w w1 w2 W : World} (h1 : Drawn0 w w1) (h2 : Drawn0 w1 w2) (h : Below w2.heap.size w2 W) : Below w.heap.size w W := by
  obtain ⟨n1, rfl⟩ := h1
  obtain ⟨n2, rfl⟩ := h2
  exact below_step (pw_below_drewN (pw_below_drewN (Below.refl _ _) _) _) h
theorem drew2_size {w w1 w2 : World} (h1 : Drawn0 w w1) (h2 : Drawn0 w1 w2) : w2.heap.size = w.heap.size := by
  obtain ⟨n1, rfl⟩ := h1
  obtain ⟨n2, rfl⟩ := h2
  rfl
theorem cells3 (w : World) (a b c : Value) (t : TypeId) : (w.alloc (.cells #[a, b, c] t)).cell? ⟨w.heap.size, 0, none⟩ = some a ∧ (w.alloc (.cells #[a, b, c] t)).cell? ⟨w.heap.size, 1, none⟩ = some b ∧ (w.alloc (.cells #[a, b, c] t)).cell? ⟨w.heap.size, 2, none⟩ = some c := by
  have h := heap_alloc_new w (.cells #[a, b, c] t)
  refine ⟨?_, ?_, ?_⟩ <;> (unfold World.cell?; rw [h]; rfl)
theorem cut_sizes (l sep : List UInt8) : (Lib.cut l sep).1.length ≤ l.length ∧ (Lib.cut l sep).2.1.length ≤ l.length := by
  unfold Lib.cut
  split
  · exact ⟨by simp; omega, by simp⟩
  · exact ⟨Nat.le_refl _, by simp⟩
set_option maxHeartbeats 4000000 in
set_option maxRecDepth 100000 in
theorem newer_calls (part : ByteArray → Bool → Option (List Int × Bool))
    (hpart : ∀ s b r w, G w → part s b = some r → Calls Tryz.prog 69 #[.string s, .bool b] w fun e w' => ∃ v0_ : Value, e = .returned (.tuple #[v0_, .bool r.2]) ∧ Kd.R (Kd.int .u16) 77 w' w.heap.size (fun _ => True) v0_ r.1 ∧ Below w.heap.size w w')
    (s : ByteArray) (r : List Int × Bool) (h : newerF part s = some r) (w : World) (hg : G w) :
    Calls Tryz.prog 47 #[.string s] w fun e w' => ∃ v0_ : Value, e = .returned (.tuple #[v0_, .bool r.2]) ∧ Kd.R (Kd.int .u16) 77 w' w.heap.size (fun _ => True) v0_ r.1 ∧ Below w.heap.size w w' := by
  unfold newerF at h
  by_cases c0 : s.size ≤ 100000
  · rw [if_pos c0] at h
    have HG := Aside0.mk hg
    have hcs := cut_sizes s.data.toList [58, 58]
    rw [data_length] at hcs
    have HCUT := Aside0.mk (fun (W : World) (hg : G W) => cut_any s (mkB [58, 58]) W hg (by omega))
    rw [mkB_data] at HCUT
    generalize Lib.cut s.data.toList [58, 58] = cc at h hcs HCUT
    obtain ⟨hd, tl, gap⟩ := cc
    simp only at h hcs HCUT
    have HCON := Aside0.mk (fun (W : World) (hg : G W) => contains_any (mkB tl) (mkB [58, 58]) W hg (by rw [mkB_size]; omega))
    rw [mkB_data, mkB_data] at HCON
    change Aside0 (∀ (W : World), G W → Calls Tryz.prog 26 #[.string s, .string (⟨#[58, 58]⟩ : ByteArray)] W fun e w' => e = .returned (.tuple #[.string (mkB hd), .string (mkB tl), .bool gap]) ∧ Drawn0 W w') at HCUT
    change Aside0 (∀ (W : World), G W → Calls Tryz.prog 46 #[.string (mkB tl), .string (⟨#[58, 58]⟩ : ByteArray)] W fun e w' => e = .returned (.bool (Lib.contains tl [58, 58])) ∧ Drawn0 W w') at HCON
    have HP := Aside0.mk (fun p W => hpart (mkB hd) (!gap) p W)
    have HQ := Aside0.mk (fun p W => hpart (mkB tl) true p W)
    clear hcs c0 hg hpart
    generalize part (mkB hd) (!gap) = pp at h HP
    generalize part (mkB tl) true = qq at h HQ
    generalize mkB hd = sh at HCUT HP
    generalize mkB tl = st at HCUT HQ HCON
    generalize Lib.contains tl [58, 58] = con at h HCON
    by_cases c1 : con = true
    · subst c1
      rw [if_pos rfl] at h
      obtain rfl := Option.some.inj h
      clear h
      go_enter Tryz.func47, Tryz.ntmps47
      go_wp2_with (first
        | (go_at_call 26; (with_reducible refine (HCUT.out _ HG.out).mono ?_); rintro e w1 ⟨rfl, hd1⟩; have HG1 := Aside0.mk (HG.out.drew hd1); have HD1 := Aside0.mk hd1; clear hd1)
        | (go_at_call 46; (with_reducible refine (HCON.out _ HG1.out).mono ?_); rintro e w2 ⟨rfl, hd2⟩; have HD2 := Aside0.mk hd2; clear hd2))
      go_ret2
      exact ⟨_, rfl, Kd.R_nil _ _ _ _ _, by obtain ⟨n1, rfl⟩ := HD1.out; obtain ⟨n2, rfl⟩ := HD2.out; exact pw_below_drewN (pw_below_drewN (Below.refl _ _) _) _⟩
    · rw [if_neg c1] at h
      obtain rfl := Bool.eq_false_iff.mpr c1
      clear c1
      obtain ⟨⟨ps, pb⟩, hp, h⟩ := Option.bind_eq_some_iff.mp h
      have HP1 := Aside0.mk (fun W hW => HP.out _ W hW hp)
      clear HP hp
      by_cases c2 : pb = false
      · subst c2
        rw [if_pos rfl] at h
        obtain rfl := Option.some.inj h
        clear h
        go_enter Tryz.func47, Tryz.ntmps47
        go_wp2_with (first
          | (go_at_call 26; (with_reducible refine (HCUT.out _ HG.out).mono ?_); rintro e w1 ⟨rfl, hd1⟩; have HG1 := Aside0.mk (HG.out.drew hd1); have HD1 := Aside0.mk hd1; clear hd1)
          | (go_at_call 46; (with_reducible refine (HCON.out _ HG1.out).mono ?_); rintro e w2 ⟨rfl, hd2⟩; have HD2 := Aside0.mk hd2; clear hd2)
          | (go_at_call 69; (with_reducible refine (HP1.out _ (HG1.out.drew HD2.out)).mono ?_); rintro e w3 ⟨v3, rfl, ho3, hb3⟩; have HB3 := Aside0.mk hb3; clear hb3 ho3))
        go_ret2
        exact ⟨_, rfl, Kd.R_nil _ _ _ _ _, drew2_below HD1.out HD2.out HB3.out⟩
      · rw [if_neg c2] at h
        have c2' : pb = true := by cases pb; exact absurd rfl c2; rfl
        subst c2'
        clear c2
        obtain ⟨⟨qs, qb⟩, hq, h⟩ := Option.bind_eq_some_iff.mp h
        have HQ1 := Aside0.mk (fun W hW => HQ.out _ W hW hq)
        clear HQ hq
        simp only at h
        by_cases c3 : qb = false
        · subst c3
          rw [if_pos rfl] at h
          obtain rfl := Option.some.inj h
          clear h
          go_enter Tryz.func47, Tryz.ntmps47
          go_wp2_with (first
            | (go_at_call 26; (with_reducible refine (HCUT.out _ HG.out).mono ?_); rintro e w1 ⟨rfl, hd1⟩; have HG1 := Aside0.mk (HG.out.drew hd1); have HD1 := Aside0.mk hd1; clear hd1)
            | (go_at_call 46; (with_reducible refine (HCON.out _ HG1.out).mono ?_); rintro e w2 ⟨rfl, hd2⟩; have HD2 := Aside0.mk hd2; clear hd2)
            | (go_at_call 69; first
                | ((with_reducible refine (HP1.out w2 (HG1.out.drew HD2.out)).mono ?_); rintro e w3 ⟨v3, rfl, ho3, hb3⟩; obtain ⟨A1, c1, e1⟩ := Kd.R_slice ho3; subst e1; have HB3 := Aside0.mk hb3; have HO3 := Aside0.mk ho3; clear hb3 ho3)
                | ((with_reducible refine (HQ1.out w3 ((HG1.out.drew HD2.out).below HB3.out)).mono ?_); rintro e w4 ⟨v4, rfl, ho4, hb4⟩; obtain ⟨A4, c4, e4⟩ := Kd.R_slice ho4; subst e4; have HB4 := Aside0.mk hb4; have HO4 := Aside0.mk ho4; clear hb4 ho4)))
          go_ret2
          exact ⟨_, rfl, Kd.R_nil _ _ _ _ _, drew2_below HD1.out HD2.out (below_step HB3.out HB4.out)⟩
        · rw [if_neg c3] at h
          have c3' : qb = true := by cases qb; exact absurd rfl c3; rfl
          subst c3'
          clear c3
          by_cases c4 : ps.length ≤ 200 ∧ qs.length ≤ 200
          · rw [if_pos c4] at h
            obtain ⟨b1, b2⟩ := c4
            by_cases c5 : (gap = true ∧ 8 - (ps.length : Int) - (qs.length : Int) < 1) ∨ (gap = false ∧ 8 - (ps.length : Int) - (qs.length : Int) ≠ 0)
            · rw [if_pos c5] at h
              obtain rfl := Option.some.inj h
              clear h
              rcases c5 with ⟨rfl, hn⟩ | ⟨rfl, hn⟩
              · have HP1 : Aside0 (∀ W, G W → Calls Tryz.prog 69 #[.string sh, .bool false] W fun e w' => ∃ v0_ : Value, e = .returned (.tuple #[v0_, .bool true]) ∧ Kd.R (Kd.int .u16) 77 w' W.heap.size (fun _ => True) v0_ ps ∧ Below W.heap.size W w') := HP1
                have d1 : decide (8 - (ps.length : Int) - (qs.length : Int) < 1) = true := decide_eq_true hn
                go_enter Tryz.func47, Tryz.ntmps47
                go_wp2_with (first
                  | (go_at_call 26; (with_reducible refine (HCUT.out _ HG.out).mono ?_); rintro e w1 ⟨rfl, hd1⟩; have HG1 := Aside0.mk (HG.out.drew hd1); have HD1 := Aside0.mk hd1; clear hd1)
                  | (go_at_call 46; (with_reducible refine (HCON.out _ HG1.out).mono ?_); rintro e w2 ⟨rfl, hd2⟩; have HD2 := Aside0.mk hd2; clear hd2)
                  | (go_at_call 69; first
                      | ((with_reducible refine (HP1.out w2 (HG1.out.drew HD2.out)).mono ?_); rintro e w3 ⟨v3, rfl, ho3, hb3⟩; obtain ⟨A1, c1, e1⟩ := Kd.R_slice ho3; subst e1; have HB3 := Aside0.mk hb3; have HO3 := Aside0.mk ho3; clear hb3 ho3)
                      | ((with_reducible refine (HQ1.out w3 ((HG1.out.drew HD2.out).below HB3.out)).mono ?_); rintro e w4 ⟨v4, rfl, ho4, hb4⟩; obtain ⟨A4, c4, e4⟩ := Kd.R_slice ho4; subst e4; have HB4 := Aside0.mk hb4; have HO4 := Aside0.mk ho4; clear hb4 ho4)))
                go_ret2
                exact ⟨_, rfl, Kd.R_nil _ _ _ _ _, drew2_below HD1.out HD2.out (below_step HB3.out HB4.out)⟩
              · have HP1 : Aside0 (∀ W, G W → Calls Tryz.prog 69 #[.string sh, .bool true] W fun e w' => ∃ v0_ : Value, e = .returned (.tuple #[v0_, .bool true]) ∧ Kd.R (Kd.int .u16) 77 w' W.heap.size (fun _ => True) v0_ ps ∧ Below W.heap.size W w') := HP1
                have d1 : ((8 - (ps.length : Int) - (qs.length : Int)) != 0) = true := bne_iff_ne.2 hn
                go_enter Tryz.func47, Tryz.ntmps47
                go_wp2_with (first
                  | (go_at_call 26; (with_reducible refine (HCUT.out _ HG.out).mono ?_); rintro e w1 ⟨rfl, hd1⟩; have HG1 := Aside0.mk (HG.out.drew hd1); have HD1 := Aside0.mk hd1; clear hd1)
                  | (go_at_call 46; (with_reducible refine (HCON.out _ HG1.out).mono ?_); rintro e w2 ⟨rfl, hd2⟩; have HD2 := Aside0.mk hd2; clear hd2)
                  | (go_at_call 69; first
                      | ((with_reducible refine (HP1.out w2 (HG1.out.drew HD2.out)).mono ?_); rintro e w3 ⟨v3, rfl, ho3, hb3⟩; obtain ⟨A1, c1, e1⟩ := Kd.R_slice ho3; subst e1; have HB3 := Aside0.mk hb3; have HO3 := Aside0.mk ho3; clear hb3 ho3)
                      | ((with_reducible refine (HQ1.out w3 ((HG1.out.drew HD2.out).below HB3.out)).mono ?_); rintro e w4 ⟨v4, rfl, ho4, hb4⟩; obtain ⟨A4, c4, e4⟩ := Kd.R_slice ho4; subst e4; have HB4 := Aside0.mk hb4; have HO4 := Aside0.mk ho4; clear hb4 ho4)))
                go_ret2
                exact ⟨_, rfl, Kd.R_nil _ _ _ _ _, drew2_below HD1.out HD2.out (below_step HB3.out HB4.out)⟩
            · rw [if_neg c5] at h
              obtain rfl := Option.some.inj h
              clear h
              have hge : 0 ≤ 8 - (ps.length : Int) - (qs.length : Int) := by
                cases gap
                · have : ¬ (8 - (ps.length : Int) - (qs.length : Int) ≠ 0) := fun hh => c5 (.inr ⟨rfl, hh⟩)
                  omega
                · have : ¬ (8 - (ps.length : Int) - (qs.length : Int) < 1) := fun hh => c5 (.inl ⟨rfl, hh⟩)
                  omega
              cases gap
              · have HP1 : Aside0 (∀ W, G W → Calls Tryz.prog 69 #[.string sh, .bool true] W fun e w' => ∃ v0_ : Value, e = .returned (.tuple #[v0_, .bool true]) ∧ Kd.R (Kd.int .u16) 77 w' W.heap.size (fun _ => True) v0_ ps ∧ Below W.heap.size W w') := HP1
                have hn : 8 - (ps.length : Int) - (qs.length : Int) = 0 := by
                  have : ¬ (8 - (ps.length : Int) - (qs.length : Int) ≠ 0) := fun hh => c5 (.inr ⟨rfl, hh⟩)
                  omega
                have d1 : ((8 - (ps.length : Int) - (qs.length : Int)) != 0) = false := bne_eq_false_iff_eq.2 hn
                clear c5 hn
                go_enter Tryz.func47, Tryz.ntmps47
                go_wp2_with (first
                  | (go_at_call 26; (with_reducible refine (HCUT.out _ HG.out).mono ?_); rintro e w1 ⟨rfl, hd1⟩; have HG1 := Aside0.mk (HG.out.drew hd1); have HD1 := Aside0.mk hd1; clear hd1)
                  | (go_at_call 46; (with_reducible refine (HCON.out _ HG1.out).mono ?_); rintro e w2 ⟨rfl, hd2⟩; have HD2 := Aside0.mk hd2; clear hd2)
                  | (go_at_call 69; first
                      | ((with_reducible refine (HP1.out w2 (HG1.out.drew HD2.out)).mono ?_); rintro e w3 ⟨v3, rfl, ho3, hb3⟩; obtain ⟨A1, c1, e1⟩ := Kd.R_slice ho3; subst e1; have HB3 := Aside0.mk hb3; have HO3 := Aside0.mk ho3; clear hb3 ho3)
                      | ((with_reducible refine (HQ1.out w3 ((HG1.out.drew HD2.out).below HB3.out)).mono ?_); rintro e w4 ⟨v4, rfl, ho4, hb4⟩; obtain ⟨A4, c4, e4⟩ := Kd.R_slice ho4; subst e4; have HB4 := Aside0.mk hb4; have HO4 := Aside0.mk ho4; clear hb4 ho4))
                  | ((with_reducible refine gate_dst (N := 55) rfl ?_); refine Kd.R_make (Kd.int .u16) (w0 := w4) w4.heap.size 77 rfl (N := 55) rfl 66 (.tmp 54) (.tmp 54) rfl (8 - (ps.length : Int) - (qs.length : Int)) ?hx ?hy Tryz.underlying66 (.int .u16 0) 2 info_u16 rfl (by decide) (by decide) (0 : Int) (ok := fun _ => True) (okp := fun _ => False) rfl (fun _ h => h.elim) trivial (by omega) (by omega) (Below.refl _ _) (Nat.le_refl _) ?_; (case hx => rfl); (case hy => rfl); intro v5 w5 ho5 hb5 _ _; obtain ⟨A5, c5, e5⟩ := Kd.R_slice ho5; subst e5; have HB5 := Aside0.mk hb5; have HO5 := Aside0.mk ho5; clear hb5 ho5)
                  | (go_at_call 70; (with_reducible refine (concat_ w5.heap.size A1 A5 A4 c1 c5 c4 ps (List.replicate (8 - (ps.length : Int) - (qs.length : Int)).toNat 0) qs _ ?s1 ?s2 ?s3 ?s4 ?s5 ?s6 ?s7 ?s8).mono ?_); (case s1 => exact (cells3 w5 _ _ _ _).1); (case s2 => rw [List.length_replicate, show (8 - (ps.length : Int) - (qs.length : Int)).toNat = 8 - ps.length - qs.length by omega]; exact (cells3 w5 _ _ _ _).2.1); (case s3 => exact (cells3 w5 _ _ _ _).2.2); (case s4 => exact Kd.C_alloc (Kd.C_below (Kd.C_below (Kd.R_reads' HO3.out).2.2 HB4.out) HB5.out) _); (case s5 => exact Kd.C_alloc (Kd.R_reads' HO5.out).2.2 _); (case s6 => exact Kd.C_alloc (Kd.C_below (Kd.R_reads' HO4.out).2.2 HB5.out) _); (case s7 => rw [List.length_replicate]; omega); (case s8 => rw [List.length_replicate]; omega); rintro e w6 ⟨v6, rfl, ho6, hb6⟩; have HB6 := Aside0.mk hb6; have HO6 := Aside0.mk ho6; clear hb6 ho6))
                go_ret2
                exact ⟨_, rfl, Kd.R_lower HO6.out (by have := HB3.out.size; have := HB4.out.size; have := HB5.out.size; rw [← drew2_size HD1.out HD2.out]; simp; omega), drew2_below HD1.out HD2.out (below_step (below_step HB3.out HB4.out) (below_step HB5.out (below_step (below_alloc (Below.refl _ _) _) HB6.out)))⟩
              · have HP1 : Aside0 (∀ W, G W → Calls Tryz.prog 69 #[.string sh, .bool false] W fun e w' => ∃ v0_ : Value, e = .returned (.tuple #[v0_, .bool true]) ∧ Kd.R (Kd.int .u16) 77 w' W.heap.size (fun _ => True) v0_ ps ∧ Below W.heap.size W w') := HP1
                have hn : ¬ (8 - (ps.length : Int) - (qs.length : Int) < 1) := fun hh => c5 (.inl ⟨rfl, hh⟩)
                have d1 : decide (8 - (ps.length : Int) - (qs.length : Int) < 1) = false := decide_eq_false hn
                clear c5
                go_enter Tryz.func47, Tryz.ntmps47
                go_wp2_with (first
                  | (go_at_call 26; (with_reducible refine (HCUT.out _ HG.out).mono ?_); rintro e w1 ⟨rfl, hd1⟩; have HG1 := Aside0.mk (HG.out.drew hd1); have HD1 := Aside0.mk hd1; clear hd1)
                  | (go_at_call 46; (with_reducible refine (HCON.out _ HG1.out).mono ?_); rintro e w2 ⟨rfl, hd2⟩; have HD2 := Aside0.mk hd2; clear hd2)
                  | (go_at_call 69; first
                      | ((with_reducible refine (HP1.out w2 (HG1.out.drew HD2.out)).mono ?_); rintro e w3 ⟨v3, rfl, ho3, hb3⟩; obtain ⟨A1, c1, e1⟩ := Kd.R_slice ho3; subst e1; have HB3 := Aside0.mk hb3; have HO3 := Aside0.mk ho3; clear hb3 ho3)
                      | ((with_reducible refine (HQ1.out w3 ((HG1.out.drew HD2.out).below HB3.out)).mono ?_); rintro e w4 ⟨v4, rfl, ho4, hb4⟩; obtain ⟨A4, c4, e4⟩ := Kd.R_slice ho4; subst e4; have HB4 := Aside0.mk hb4; have HO4 := Aside0.mk ho4; clear hb4 ho4))
                  | ((with_reducible refine gate_dst (N := 55) rfl ?_); refine Kd.R_make (Kd.int .u16) (w0 := w4) w4.heap.size 77 rfl (N := 55) rfl 66 (.tmp 54) (.tmp 54) rfl (8 - (ps.length : Int) - (qs.length : Int)) ?hx ?hy Tryz.underlying66 (.int .u16 0) 2 info_u16 rfl (by decide) (by decide) (0 : Int) (ok := fun _ => True) (okp := fun _ => False) rfl (fun _ h => h.elim) trivial (by omega) (by omega) (Below.refl _ _) (Nat.le_refl _) ?_; (case hx => rfl); (case hy => rfl); intro v5 w5 ho5 hb5 _ _; obtain ⟨A5, c5, e5⟩ := Kd.R_slice ho5; subst e5; have HB5 := Aside0.mk hb5; have HO5 := Aside0.mk ho5; clear hb5 ho5)
                  | (go_at_call 70; (with_reducible refine (concat_ w5.heap.size A1 A5 A4 c1 c5 c4 ps (List.replicate (8 - (ps.length : Int) - (qs.length : Int)).toNat 0) qs _ ?s1 ?s2 ?s3 ?s4 ?s5 ?s6 ?s7 ?s8).mono ?_); (case s1 => exact (cells3 w5 _ _ _ _).1); (case s2 => rw [List.length_replicate, show (8 - (ps.length : Int) - (qs.length : Int)).toNat = 8 - ps.length - qs.length by omega]; exact (cells3 w5 _ _ _ _).2.1); (case s3 => exact (cells3 w5 _ _ _ _).2.2); (case s4 => exact Kd.C_alloc (Kd.C_below (Kd.C_below (Kd.R_reads' HO3.out).2.2 HB4.out) HB5.out) _); (case s5 => exact Kd.C_alloc (Kd.R_reads' HO5.out).2.2 _); (case s6 => exact Kd.C_alloc (Kd.C_below (Kd.R_reads' HO4.out).2.2 HB5.out) _); (case s7 => rw [List.length_replicate]; omega); (case s8 => rw [List.length_replicate]; omega); rintro e w6 ⟨v6, rfl, ho6, hb6⟩; have HB6 := Aside0.mk hb6; have HO6 := Aside0.mk ho6; clear hb6 ho6))
                go_ret2
                exact ⟨_, rfl, Kd.R_lower HO6.out (by have := HB3.out.size; have := HB4.out.size; have := HB5.out.size; rw [← drew2_size HD1.out HD2.out]; simp; omega), drew2_below HD1.out HD2.out (below_step (below_step HB3.out HB4.out) (below_step HB5.out (below_step (below_alloc (Below.refl _ _) _) HB6.out)))⟩
          · rw [if_neg c4] at h; cases h
  · rw [if_neg c0] at h; cases h
end Go.Proofs.YtbalmnkbodcigaaGreatDoor.AddrLib
