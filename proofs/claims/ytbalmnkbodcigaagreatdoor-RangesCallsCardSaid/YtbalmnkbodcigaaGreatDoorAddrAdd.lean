/- What addr.Add comes to: so many on, with the carry; false, if there is none. -/
import Derived.Test.YtbalmnkbodcigaaGreatDoorAddrElder
import Derived.Shelf.Spec.BitsCarry
set_option linter.unusedSimpArgs false
set_option linter.unusedVariables false
namespace Go.Proofs.YtbalmnkbodcigaaGreatDoor.AddrLib
open Go.Shelf Go.RowKit Go.Lib Go.Proofs.YtbalmnkbodcigaaGreatDoorW.PrintWords Go.Proofs.YtbalmnkbodcigaaGreatDoorW.PrintLast Go.Proofs.YtbalmnkbodcigaaGreatDoorW.PrintMore

def carryRen : Ren := ⟨fun | 25 => 61 | n => n, fun | 22 => 22 | n => n, fun n => n⟩
theorem carryLays : Lays7.n25 Tryz.prog carryRen := { mixed := by kernel_rfl, f25 := Tryz.func61.trans (congrArg some (by kernel_rfl)), t22 := Tryz.underlying22, a22 := Tryz.isAgg22, z22 := Tryz.sizeOf22, v22 := Tryz.zeroValue22, i22 := by kernel_rfl }
theorem add64_ (x y c : Int) (hx : 0 ≤ x) (hy : 0 ≤ y) (hc : c = 0 ∨ c = 1) (w : World) :
    (callFunc 61 #[.int .u64 x, .int .u64 y, .int .u64 c]).run Tryz.prog w =
      .ok (.value (.tuple #[.int .u64 ((x + y + c) % 18446744073709551616), .int .u64 ((x + y + c) / 18446744073709551616)])) w := by
  obtain ⟨x, rfl⟩ := Int.eq_ofNat_of_zero_le hx
  obtain ⟨y, rfl⟩ := Int.eq_ofNat_of_zero_le hy
  obtain ⟨c, rfl⟩ := Int.eq_ofNat_of_zero_le (show 0 ≤ c by omega)
  have := Any7.bits_Add64 carryLays x y c (by omega) w
  refine this.trans ?_
  congr 1
/-- A block that holds an address. -/
def Addr3 (W : World) (g : Nat) (b : Bool) (x y : Int) : Prop := W.heap[g]? = some (.cells #[.bool b, .int .u64 x, .int .u64 y] 24 (0, 0))
theorem Addr3.cells {W : World} {g : Nat} {b : Bool} {x y : Int} (h : Addr3 W g b x y) : W.cell? ⟨g, 0, none⟩ = some (.bool b) ∧ W.cell? ⟨g, 1, none⟩ = some (.int .u64 x) ∧ W.cell? ⟨g, 2, none⟩ = some (.int .u64 y) ∧ W.frozen? ⟨g, 0, none⟩ = false ∧ W.frozen? ⟨g, 1, none⟩ = false ∧ W.frozen? ⟨g, 2, none⟩ = false := by
  unfold Addr3 at h
  refine ⟨?_, ?_, ?_, ?_, ?_, ?_⟩ <;> simp [World.cell?, World.frozen?, h]
theorem Addr3.below {W W' : World} {g : Nat} {b : Bool} {x y : Int} (h : Addr3 W g b x y) (hb : Below W.heap.size W W') : Addr3 W' g b x y := (hb.block g (blk_lt h)).trans h
theorem Addr3.alloc {W : World} {g : Nat} {b : Bool} {x y : Int} (h : Addr3 W g b x y) (o : Obj) : Addr3 (W.alloc o) g b x y := h.below (below_alloc (Below.refl _ _) o)
theorem Addr3.new (W : World) (b : Bool) (x y : Int) : Addr3 (W.alloc (.cells #[.bool b, .int .u64 x, .int .u64 y] 24)) W.heap.size b x y := heap_alloc_new W _
theorem Addr3.put1 {W : World} {g : Nat} {b : Bool} {x y : Int} (h : Addr3 W g b x y) (x' : Int) : Addr3 (W.setCell ⟨g, 1, none⟩ (.int .u64 x')) g b x' y := by
  unfold Addr3 at h ⊢
  simp [World.setCell, Array.getElem?_modify, h]
theorem Addr3.other {W : World} {g g' : Nat} {b : Bool} {x y : Int} (h : Addr3 W g b x y) (hne : g' ≠ g) (i : Nat) (v : Value) : Addr3 (W.setCell ⟨g', i, none⟩ v) g b x y := by
  unfold Addr3 at h ⊢
  simp [World.setCell, Array.getElem?_modify, hne, h]
def addF (chk : Bool → Int → Int → Option Int) (six : Bool) (hi lo n : Int) : Option (Bool × Int × Int × Bool) :=
  if 0 ≤ hi ∧ 0 ≤ lo ∧ 0 ≤ n ∧ lo < 18446744073709551616 ∧ n < 18446744073709551616 then (chk six hi lo).bind fun e => if e = 0 then
    (if six = true then (if (hi + (lo + n) / 18446744073709551616) / 18446744073709551616 = 0 then (chk true ((hi + (lo + n) / 18446744073709551616) % 18446744073709551616) ((lo + n) % 18446744073709551616)).bind fun e2 => (if e2 = 0 then some (true, (hi + (lo + n) / 18446744073709551616) % 18446744073709551616, (lo + n) % 18446744073709551616, true) else some (false, 0, 0, false)) else some (false, 0, 0, false))
    else (if (lo + n) / 18446744073709551616 = 0 then (chk false hi ((lo + n) % 18446744073709551616)).bind fun e2 => (if e2 = 0 then some (false, hi, (lo + n) % 18446744073709551616, true) else some (false, 0, 0, false)) else some (false, 0, 0, false)))
    else some (false, 0, 0, false) else none
set_option maxHeartbeats 4000000 in
set_option maxRecDepth 100000 in
theorem add_calls (chk : Bool → Int → Int → Option Int) (hchk : ∀ b x y e w, chk b x y = some e → Calls Tryz.prog 36 #[.agg #[.bool b, .int .u64 x, .int .u64 y]] w fun e' w' => e' = .returned (.int .i64 e) ∧ Below w.heap.size w w')
    (six : Bool) (hi lo n : Int) (r : Bool × Int × Int × Bool) (h : addF chk six hi lo n = some r) (w : World) :
    Calls Tryz.prog 32 #[.agg #[.bool six, .int .u64 hi, .int .u64 lo], .int .u64 n] w fun e w' => e = .returned (.tuple #[.agg #[.bool r.1, .int .u64 r.2.1, .int .u64 r.2.2.1], .bool r.2.2.2]) ∧ Below w.heap.size w w' := by
  unfold addF at h
  by_cases c0 : 0 ≤ hi ∧ 0 ≤ lo ∧ 0 ≤ n ∧ lo < 18446744073709551616 ∧ n < 18446744073709551616
  · rw [if_pos c0] at h
    obtain ⟨p1, p2, p3, p4, p5⟩ := c0
    rw [Option.bind_eq_some_iff] at h
    obtain ⟨e1, hc1, h⟩ := h
    have HC1 := Aside0.mk (fun W => hchk six hi lo e1 W hc1)
    have HG := Aside0.mk (show ∀ W, Below ((w.alloc (.cells #[.bool six, .int .u64 hi, .int .u64 lo] 24)).alloc (.cells #[.bool false, .int .u64 0, .int .u64 0] 24)).heap.size ((w.alloc (.cells #[.bool six, .int .u64 hi, .int .u64 lo] 24)).alloc (.cells #[.bool false, .int .u64 0, .int .u64 0] 24)) W →
        Addr3 W w.heap.size six hi lo ∧ Addr3 W (w.heap.size + 1) false 0 0 ∧ Below w.heap.size w W ∧ w.heap.size + 1 < W.heap.size from fun W hb => by
      refine ⟨((Addr3.new w six hi lo).alloc _).below hb, ?_, below_then (below_alloc (below_alloc (Below.refl _ _) _) _) (by simp; omega) hb, by have := hb.size; simp at this; omega⟩
      have := (Addr3.new (w.alloc (.cells #[.bool six, .int .u64 hi, .int .u64 lo] 24)) false 0 0).below hb
      rw [show (w.alloc (.cells #[.bool six, .int .u64 hi, .int .u64 lo] 24)).heap.size = w.heap.size + 1 by simp] at this
      exact this)
    clear hc1
    by_cases ce : e1 = 0
    · subst ce
      rw [if_pos rfl] at h
      have ha1 := fun W => add64_ lo n 0 p2 p3 (.inl rfl) W
      rw [show lo + n + 0 = lo + n by omega] at ha1
      obtain ⟨s, hs⟩ : ∃ s, s = (lo + n) % 18446744073709551616 := ⟨_, rfl⟩
      obtain ⟨c, hc⟩ : ∃ c, c = (lo + n) / 18446744073709551616 := ⟨_, rfl⟩
      rw [← hs, ← hc] at ha1 h
      have hc01 : c = 0 ∨ c = 1 := by omega
      have hs0 : 0 ≤ s := by omega
      clear hs hc
      cases six with
      | true =>
        rw [if_pos rfl] at h
        have ha2 := fun W => add64_ hi 0 c p1 (by omega) hc01 W
        rw [show hi + 0 + c = hi + c by omega] at ha2
        obtain ⟨s2, hs2⟩ : ∃ s2, s2 = (hi + c) % 18446744073709551616 := ⟨_, rfl⟩
        obtain ⟨c2, hc2⟩ : ∃ c2, c2 = (hi + c) / 18446744073709551616 := ⟨_, rfl⟩
        rw [← hs2, ← hc2] at ha2
        rw [← hs2, ← hc2] at h
        clear hs2 hc2 hc01 hs0 p1 p2 p3 p4 p5
        by_cases d : c2 = 0
        · subst d
          rw [if_pos rfl] at h
          rw [Option.bind_eq_some_iff] at h
          obtain ⟨e2, he2, h⟩ := h
          have HC2 := Aside0.mk (fun W => hchk true s2 s e2 W he2)
          clear he2
          by_cases d2 : e2 = 0
          · subst d2
            rw [if_pos rfl] at h
            have HRR := Aside0.mk (Option.some.inj h)
            clear h
            go_enter Tryz.func32, Tryz.ntmps32
            go_wp2_with (first | (go_at_call 36; (with_reducible refine (HC1.out _).mono ?_); rintro e w4 ⟨rfl, hb4⟩; obtain ⟨ha, hz, hbb, hsz⟩ := HG.out w4 hb4; have hsz0 : w.heap.size < w4.heap.size := Nat.lt_of_succ_lt hsz; have HBB := Aside0.mk hbb; have HZ := Aside0.mk hz; obtain ⟨z0, z1, z2, f0, f1, f2⟩ := hz.cells; obtain ⟨y0, y1, y2, g0, g1, g2⟩ := ha.cells; clear hb4 ha hz hbb) | (go_at_call 36; (with_reducible refine (HC2.out _).mono ?_); rintro e w5 ⟨rfl, hb5⟩; have HB5 := Aside0.mk hb5; obtain ⟨q0, q1, q2, k0, k1, k2⟩ := ((HZ.out.alloc _).below hb5).cells; obtain ⟨m0, m1, m2, l0, l1, l2⟩ := ((Addr3.new w4 true s2 s).below hb5).cells; clear hb5))
            exact bodyPost_ret (v := .tuple #[.agg #[.bool true, .int .u64 s2, .int .u64 s], .bool true]) (by simp [results, Tryz.results32, go_sem, q0, q1, q2, k0, k1, k2]) rfl ⟨by rw [← HRR.out], (((below_step (below_alloc HBB.out _) HB5.out).setCell (by simp) _).setCell (by simp) _).setCell (by simp) _⟩
          · rw [if_neg d2] at h
            have HRR := Aside0.mk (Option.some.inj h)
            have d3 : (e2 != 0) = true := bne_iff_ne.2 d2
            clear h d2
            go_enter Tryz.func32, Tryz.ntmps32
            go_wp2_with (first | (go_at_call 36; (with_reducible refine (HC1.out _).mono ?_); rintro e w4 ⟨rfl, hb4⟩; obtain ⟨ha, hz, hbb, hsz⟩ := HG.out w4 hb4; have hsz0 : w.heap.size < w4.heap.size := Nat.lt_of_succ_lt hsz; have HBB := Aside0.mk hbb; have HZ := Aside0.mk hz; obtain ⟨z0, z1, z2, f0, f1, f2⟩ := hz.cells; obtain ⟨y0, y1, y2, g0, g1, g2⟩ := ha.cells; clear hb4 ha hz hbb) | (go_at_call 36; (with_reducible refine (HC2.out _).mono ?_); rintro e w5 ⟨rfl, hb5⟩; have HB5 := Aside0.mk hb5; obtain ⟨q0, q1, q2, k0, k1, k2⟩ := ((HZ.out.alloc _).below hb5).cells; obtain ⟨m0, m1, m2, l0, l1, l2⟩ := ((Addr3.new w4 true s2 s).below hb5).cells; clear hb5))
            exact bodyPost_ret (v := .tuple #[.agg #[.bool false, .int .u64 0, .int .u64 0], .bool false]) (by simp [results, Tryz.results32, go_sem, q0, q1, q2, k0, k1, k2]) rfl ⟨by rw [← HRR.out], (((below_step (below_alloc HBB.out _) HB5.out).setCell (by simp) _).setCell (by simp) _).setCell (by simp) _⟩
        · rw [if_neg d] at h
          have HRR := Aside0.mk (Option.some.inj h)
          have d3 : (c2 != 0) = true := bne_iff_ne.2 d
          clear h d
          go_enter Tryz.func32, Tryz.ntmps32
          go_wp2_with (first | (go_at_call 36; (with_reducible refine (HC1.out _).mono ?_); rintro e w4 ⟨rfl, hb4⟩; obtain ⟨ha, hz, hbb, hsz⟩ := HG.out w4 hb4; have hsz0 : w.heap.size < w4.heap.size := Nat.lt_of_succ_lt hsz; have HBB := Aside0.mk hbb; have HZ := Aside0.mk hz; obtain ⟨z0, z1, z2, f0, f1, f2⟩ := hz.cells; obtain ⟨y0, y1, y2, g0, g1, g2⟩ := ha.cells; clear hb4 ha hz hbb))
          exact bodyPost_ret (v := .tuple #[.agg #[.bool false, .int .u64 0, .int .u64 0], .bool false]) (by simp [results, Tryz.results32, go_sem, z0, z1, z2, f0, f1, f2, hsz, hsz0]) rfl ⟨by rw [← HRR.out], below_alloc (((HBB.out.setCell (by simp) _).setCell (by simp) _).setCell (by simp) _) _⟩
      | false =>
        rw [if_neg (by decide)] at h
        clear hs0 p1 p2 p3 p4 p5
        by_cases d : c = 0
        · subst d
          rw [if_pos rfl] at h
          rw [Option.bind_eq_some_iff] at h
          obtain ⟨e2, he2, h⟩ := h
          have HC2 := Aside0.mk (fun W => hchk false hi s e2 W he2)
          clear he2 hc01
          by_cases d2 : e2 = 0
          · subst d2
            rw [if_pos rfl] at h
            have HRR := Aside0.mk (Option.some.inj h)
            clear h
            go_enter Tryz.func32, Tryz.ntmps32
            go_wp2_with (first | (go_at_call 36; (with_reducible refine (HC1.out _).mono ?_); rintro e w4 ⟨rfl, hb4⟩; obtain ⟨ha, hz, hbb, hsz⟩ := HG.out w4 hb4; have hsz0 : w.heap.size < w4.heap.size := Nat.lt_of_succ_lt hsz; have HBB := Aside0.mk hbb; have HZ := Aside0.mk hz; obtain ⟨z0, z1, z2, f0, f1, f2⟩ := hz.cells; obtain ⟨y0, y1, y2, g0, g1, g2⟩ := ha.cells; clear hb4 ha hz hbb) | (go_at_call 36; (with_reducible refine (HC2.out _).mono ?_); rintro e w5 ⟨rfl, hb5⟩; have HB5 := Aside0.mk hb5; obtain ⟨q0, q1, q2, k0, k1, k2⟩ := ((HZ.out.alloc _).below hb5).cells; obtain ⟨m0, m1, m2, l0, l1, l2⟩ := ((Addr3.new w4 false hi s).below hb5).cells; clear hb5))
            exact bodyPost_ret (v := .tuple #[.agg #[.bool false, .int .u64 hi, .int .u64 s], .bool true]) (by simp [results, Tryz.results32, go_sem, q0, q1, q2, k0, k1, k2]) rfl ⟨by rw [← HRR.out], (((below_step (below_alloc HBB.out _) HB5.out).setCell (by simp) _).setCell (by simp) _).setCell (by simp) _⟩
          · rw [if_neg d2] at h
            have HRR := Aside0.mk (Option.some.inj h)
            have d3 : (e2 != 0) = true := bne_iff_ne.2 d2
            clear h d2
            go_enter Tryz.func32, Tryz.ntmps32
            go_wp2_with (first | (go_at_call 36; (with_reducible refine (HC1.out _).mono ?_); rintro e w4 ⟨rfl, hb4⟩; obtain ⟨ha, hz, hbb, hsz⟩ := HG.out w4 hb4; have hsz0 : w.heap.size < w4.heap.size := Nat.lt_of_succ_lt hsz; have HBB := Aside0.mk hbb; have HZ := Aside0.mk hz; obtain ⟨z0, z1, z2, f0, f1, f2⟩ := hz.cells; obtain ⟨y0, y1, y2, g0, g1, g2⟩ := ha.cells; clear hb4 ha hz hbb) | (go_at_call 36; (with_reducible refine (HC2.out _).mono ?_); rintro e w5 ⟨rfl, hb5⟩; have HB5 := Aside0.mk hb5; obtain ⟨q0, q1, q2, k0, k1, k2⟩ := ((HZ.out.alloc _).below hb5).cells; obtain ⟨m0, m1, m2, l0, l1, l2⟩ := ((Addr3.new w4 false hi s).below hb5).cells; clear hb5))
            exact bodyPost_ret (v := .tuple #[.agg #[.bool false, .int .u64 0, .int .u64 0], .bool false]) (by simp [results, Tryz.results32, go_sem, q0, q1, q2, k0, k1, k2]) rfl ⟨by rw [← HRR.out], (((below_step (below_alloc HBB.out _) HB5.out).setCell (by simp) _).setCell (by simp) _).setCell (by simp) _⟩
        · rw [if_neg d] at h
          have HRR := Aside0.mk (Option.some.inj h)
          have d3 : (c != 0) = true := bne_iff_ne.2 d
          clear h d hc01
          go_enter Tryz.func32, Tryz.ntmps32
          go_wp2_with (first | (go_at_call 36; (with_reducible refine (HC1.out _).mono ?_); rintro e w4 ⟨rfl, hb4⟩; obtain ⟨ha, hz, hbb, hsz⟩ := HG.out w4 hb4; have hsz0 : w.heap.size < w4.heap.size := Nat.lt_of_succ_lt hsz; have HBB := Aside0.mk hbb; have HZ := Aside0.mk hz; obtain ⟨z0, z1, z2, f0, f1, f2⟩ := hz.cells; obtain ⟨y0, y1, y2, g0, g1, g2⟩ := ha.cells; clear hb4 ha hz hbb))
          exact bodyPost_ret (v := .tuple #[.agg #[.bool false, .int .u64 0, .int .u64 0], .bool false]) (by simp [results, Tryz.results32, go_sem, z0, z1, z2, f0, f1, f2, hsz, hsz0]) rfl ⟨by rw [← HRR.out], below_alloc (((HBB.out.setCell (by simp) _).setCell (by simp) _).setCell (by simp) _) _⟩
    · rw [if_neg ce] at h
      have HRR := Aside0.mk (Option.some.inj h)
      have d1 : (e1 != 0) = true := bne_iff_ne.2 ce
      clear h ce
      go_enter Tryz.func32, Tryz.ntmps32
      go_wp2_with (first | (go_at_call 36; (with_reducible refine (HC1.out _).mono ?_); rintro e w4 ⟨rfl, hb4⟩; obtain ⟨ha, hz, hbb, hsz⟩ := HG.out w4 hb4; have hsz0 : w.heap.size < w4.heap.size := Nat.lt_of_succ_lt hsz; have HBB := Aside0.mk hbb; obtain ⟨z0, z1, z2, f0, f1, f2⟩ := hz.cells; obtain ⟨y0, y1, y2, g0, g1, g2⟩ := ha.cells; clear hb4 ha hz hbb))
      exact bodyPost_ret (v := .tuple #[.agg #[.bool false, .int .u64 0, .int .u64 0], .bool false]) (by simp [results, Tryz.results32, go_sem, z0, z1, z2, f0, f1, f2]) rfl ⟨by rw [← HRR.out], ((HBB.out.setCell (by simp) _).setCell (by simp) _).setCell (by simp) _⟩
  · rw [if_neg c0] at h; cases h
end Go.Proofs.YtbalmnkbodcigaaGreatDoor.AddrLib
