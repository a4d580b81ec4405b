/- What the document's Add comes to: so many on, with the carry. -/
import Derived.Test.YtbalmnkbodcigaaGreatDoorAddrAdd
set_option linter.unusedSimpArgs false
set_option linter.unusedVariables false
namespace Go.Proofs.YtbalmnkbodcigaaGreatDoor.AddrLib
open Go.Shelf Go.RowKit Go.Lib Go.Proofs.YtbalmnkbodcigaaGreatDoorW.PrintWords Go.Proofs.YtbalmnkbodcigaaGreatDoorW.PrintLast Go.Proofs.YtbalmnkbodcigaaGreatDoorW.PrintMore

theorem setCell_twice (W : World) (b i : Nat) (u v : Value) : (W.setCell ⟨b, i, none⟩ u).setCell ⟨b, i, none⟩ v = W.setCell ⟨b, i, none⟩ v := by
  unfold World.setCell
  simp only [World.mk.injEq, and_true, true_and]
  apply Array.ext_getElem?
  intro k
  simp only [Array.getElem?_modify]
  by_cases h : b = k
  · subst h
    cases hk : W.heap[b]? with
    | none => simp
    | some o => cases o <;> simp [Addr.spot]
  · simp [h]
def raF (chk : Bool → Int → Int → Option Int) (six : Bool) (hi lo n : Int) : Option (Bool × Int × Int × Bool) :=
  (chk six hi lo).bind fun e => if e = 0 then (if six = true then (if IntKind.u64.wrap (lo + n) < lo then (if IntKind.u64.wrap (hi + 1) = 0 then some (false, 0, 0, false) else some (six, IntKind.u64.wrap (hi + 1), IntKind.u64.wrap (lo + n), true)) else some (six, hi, IntKind.u64.wrap (lo + n), true))
    else (if IntKind.u64.wrap (lo + n) < lo then some (false, 0, 0, false) else if IntKind.u64.wrap (lo + n) ≥ 4294967296 then some (false, 0, 0, false) else some (six, hi, IntKind.u64.wrap (lo + n), true))) else some (false, 0, 0, false)
attribute [local go_sem] setCell_twice
set_option maxHeartbeats 4000000 in
set_option maxRecDepth 100000 in
theorem refadd_calls (chk : Bool → Int → Int → Option Int) (hchk : ∀ b x y e w, chk b x y = some e → Calls Tryz.prog 38 #[.agg #[.bool b, .int .u64 x, .int .u64 y]] w fun e' w' => e' = .returned (.int .i64 e) ∧ Below w.heap.size w w')
    (six : Bool) (hi lo n : Int) (r : Bool × Int × Int × Bool) (h : raF chk six hi lo n = some r) (w : World) :
    Calls Tryz.prog 33 #[.agg #[.bool six, .int .u64 hi, .int .u64 lo], .int .u64 n] w fun e w' => e = .returned (.tuple #[.agg #[.bool r.1, .int .u64 r.2.1, .int .u64 r.2.2.1], .bool r.2.2.2]) ∧ Below w.heap.size w w' := by
  unfold raF at h
  rw [Option.bind_eq_some_iff] at h
  obtain ⟨e1, hc1, h⟩ := h
  have HC1 := Aside0.mk (fun W => hchk six hi lo e1 W hc1)
  have HG := Aside0.mk (show ∀ W, Below ((w.alloc (.cells #[.bool six, .int .u64 hi, .int .u64 lo] 24)).alloc (.cells #[.bool false, .int .u64 0, .int .u64 0] 24)).heap.size ((w.alloc (.cells #[.bool six, .int .u64 hi, .int .u64 lo] 24)).alloc (.cells #[.bool false, .int .u64 0, .int .u64 0] 24)) W →
      Addr3 W w.heap.size six hi lo ∧ Addr3 W (w.heap.size + 1) false 0 0 ∧ Below w.heap.size w W ∧ w.heap.size + 1 < W.heap.size from fun W hb => by
    refine ⟨((Addr3.new w six hi lo).alloc _).below hb, ?_, below_then (below_alloc (below_alloc (Below.refl _ _) _) _) (by simp; omega) hb, by have := hb.size; simp at this; omega⟩
    have := (Addr3.new (w.alloc (.cells #[.bool six, .int .u64 hi, .int .u64 lo] 24)) false 0 0).below hb
    rw [show (w.alloc (.cells #[.bool six, .int .u64 hi, .int .u64 lo] 24)).heap.size = w.heap.size + 1 by simp] at this
    exact this)
  clear hc1
  obtain ⟨s, hs⟩ : ∃ s, s = IntKind.u64.wrap (lo + n) := ⟨_, rfl⟩
  obtain ⟨t, ht⟩ : ∃ t, t = IntKind.u64.wrap (hi + 1) := ⟨_, rfl⟩
  rw [← hs, ← ht] at h
  replace hs := hs.symm
  replace ht := ht.symm
  by_cases ce : e1 = 0
  · subst ce
    rw [if_pos rfl] at h
    cases six with
    | true =>
      rw [if_pos rfl] at h
      by_cases d : s < lo
      · rw [if_pos d] at h
        have d0 : decide (s < lo) = true := decide_eq_true d
        clear d
        by_cases d2 : t = 0
        · rw [if_pos d2] at h
          have HRR := Aside0.mk (Option.some.inj h)
          have d3 : (t == 0) = true := beq_iff_eq.2 d2
          clear h d2
          go_enter Tryz.func33, Tryz.ntmps33
          go_wp2_with (first | (go_at_call 38; (with_reducible refine (HC1.out _).mono ?_); rintro e w4 ⟨rfl, hb4⟩; obtain ⟨ha, hz, hbb, hsz⟩ := HG.out w4 hb4; have hsz0 : w.heap.size < w4.heap.size := Nat.lt_of_succ_lt hsz; have HBB := Aside0.mk hbb; obtain ⟨z0, z1, z2, f0, f1, f2⟩ := hz.cells; obtain ⟨y0, y1, y2, g0, g1, g2⟩ := ha.cells; clear hb4 ha hz hbb))
          exact bodyPost_ret (v := .tuple #[.agg #[.bool false, .int .u64 0, .int .u64 0], .bool false]) (by simp [results, Tryz.results33, go_sem, z0, z1, z2, f0, f1, f2, hsz, hsz0]) rfl ⟨by rw [← HRR.out], by repeat (first | exact HBB.out | apply below_alloc | refine Below.setCell ?_ (by simp) _)⟩
        · rw [if_neg d2] at h
          have HRR := Aside0.mk (Option.some.inj h)
          have d3 : (t == 0) = false := beq_eq_false_iff_ne.2 d2
          clear h d2
          go_enter Tryz.func33, Tryz.ntmps33
          go_wp2_with (first | (go_at_call 38; (with_reducible refine (HC1.out _).mono ?_); rintro e w4 ⟨rfl, hb4⟩; obtain ⟨ha, hz, hbb, hsz⟩ := HG.out w4 hb4; have hsz0 : w.heap.size < w4.heap.size := Nat.lt_of_succ_lt hsz; have HBB := Aside0.mk hbb; obtain ⟨z0, z1, z2, f0, f1, f2⟩ := hz.cells; obtain ⟨y0, y1, y2, g0, g1, g2⟩ := ha.cells; clear hb4 ha hz hbb))
          exact bodyPost_ret (v := .tuple #[.agg #[.bool true, .int .u64 t, .int .u64 s], .bool true]) (by simp [results, Tryz.results33, go_sem, z0, z1, z2, f0, f1, f2, hsz, hsz0]) rfl ⟨by rw [← HRR.out], by repeat (first | exact HBB.out | apply below_alloc | refine Below.setCell ?_ (by simp) _)⟩
      · rw [if_neg d] at h
        have d0 : decide (s < lo) = false := decide_eq_false d
        have HRR := Aside0.mk (Option.some.inj h)
        clear h d
        go_enter Tryz.func33, Tryz.ntmps33
        go_wp2_with (first | (go_at_call 38; (with_reducible refine (HC1.out _).mono ?_); rintro e w4 ⟨rfl, hb4⟩; obtain ⟨ha, hz, hbb, hsz⟩ := HG.out w4 hb4; have hsz0 : w.heap.size < w4.heap.size := Nat.lt_of_succ_lt hsz; have HBB := Aside0.mk hbb; obtain ⟨z0, z1, z2, f0, f1, f2⟩ := hz.cells; obtain ⟨y0, y1, y2, g0, g1, g2⟩ := ha.cells; clear hb4 ha hz hbb))
        exact bodyPost_ret (v := .tuple #[.agg #[.bool true, .int .u64 hi, .int .u64 s], .bool true]) (by simp [results, Tryz.results33, go_sem, z0, z1, z2, f0, f1, f2, hsz, hsz0]) rfl ⟨by rw [← HRR.out], by repeat (first | exact HBB.out | apply below_alloc | refine Below.setCell ?_ (by simp) _)⟩
    | false =>
      rw [if_neg (show ¬ false = true by decide)] at h
      by_cases d : s < lo
      · rw [if_pos d] at h
        have d0 : decide (s < lo) = true := decide_eq_true d
        have HRR := Aside0.mk (Option.some.inj h)
        clear h d
        go_enter Tryz.func33, Tryz.ntmps33
        go_wp2_with (first | (go_at_call 38; (with_reducible refine (HC1.out _).mono ?_); rintro e w4 ⟨rfl, hb4⟩; obtain ⟨ha, hz, hbb, hsz⟩ := HG.out w4 hb4; have hsz0 : w.heap.size < w4.heap.size := Nat.lt_of_succ_lt hsz; have HBB := Aside0.mk hbb; obtain ⟨z0, z1, z2, f0, f1, f2⟩ := hz.cells; obtain ⟨y0, y1, y2, g0, g1, g2⟩ := ha.cells; clear hb4 ha hz hbb))
        exact bodyPost_ret (v := .tuple #[.agg #[.bool false, .int .u64 0, .int .u64 0], .bool false]) (by simp [results, Tryz.results33, go_sem, z0, z1, z2, f0, f1, f2, hsz, hsz0]) rfl ⟨by rw [← HRR.out], by repeat (first | exact HBB.out | apply below_alloc | refine Below.setCell ?_ (by simp) _)⟩
      · rw [if_neg d] at h
        have d0 : decide (s < lo) = false := decide_eq_false d
        clear d
        by_cases d2 : s ≥ 4294967296
        · rw [if_pos d2] at h
          have HRR := Aside0.mk (Option.some.inj h)
          have d3 : decide (4294967296 ≤ s) = true := decide_eq_true d2
          clear h d2
          go_enter Tryz.func33, Tryz.ntmps33
          go_wp2_with (first | (go_at_call 38; (with_reducible refine (HC1.out _).mono ?_); rintro e w4 ⟨rfl, hb4⟩; obtain ⟨ha, hz, hbb, hsz⟩ := HG.out w4 hb4; have hsz0 : w.heap.size < w4.heap.size := Nat.lt_of_succ_lt hsz; have HBB := Aside0.mk hbb; obtain ⟨z0, z1, z2, f0, f1, f2⟩ := hz.cells; obtain ⟨y0, y1, y2, g0, g1, g2⟩ := ha.cells; clear hb4 ha hz hbb))
          exact bodyPost_ret (v := .tuple #[.agg #[.bool false, .int .u64 0, .int .u64 0], .bool false]) (by simp [results, Tryz.results33, go_sem, z0, z1, z2, f0, f1, f2, hsz, hsz0]) rfl ⟨by rw [← HRR.out], by repeat (first | exact HBB.out | apply below_alloc | refine Below.setCell ?_ (by simp) _)⟩
        · rw [if_neg d2] at h
          have HRR := Aside0.mk (Option.some.inj h)
          have d3 : decide (4294967296 ≤ s) = false := decide_eq_false d2
          clear h d2
          go_enter Tryz.func33, Tryz.ntmps33
          go_wp2_with (first | (go_at_call 38; (with_reducible refine (HC1.out _).mono ?_); rintro e w4 ⟨rfl, hb4⟩; obtain ⟨ha, hz, hbb, hsz⟩ := HG.out w4 hb4; have hsz0 : w.heap.size < w4.heap.size := Nat.lt_of_succ_lt hsz; have HBB := Aside0.mk hbb; obtain ⟨z0, z1, z2, f0, f1, f2⟩ := hz.cells; obtain ⟨y0, y1, y2, g0, g1, g2⟩ := ha.cells; clear hb4 ha hz hbb))
          exact bodyPost_ret (v := .tuple #[.agg #[.bool false, .int .u64 hi, .int .u64 s], .bool true]) (by simp [results, Tryz.results33, go_sem, z0, z1, z2, f0, f1, f2, hsz, hsz0]) rfl ⟨by rw [← HRR.out], by repeat (first | exact HBB.out | apply below_alloc | refine Below.setCell ?_ (by simp) _)⟩
  · rw [if_neg ce] at h
    have HRR := Aside0.mk (Option.some.inj h)
    have d1 : (e1 != 0) = true := bne_iff_ne.2 ce
    clear h ce
    go_enter Tryz.func33, Tryz.ntmps33
    go_wp2_with (first | (go_at_call 38; (with_reducible refine (HC1.out _).mono ?_); rintro e w4 ⟨rfl, hb4⟩; obtain ⟨ha, hz, hbb, hsz⟩ := HG.out w4 hb4; have hsz0 : w.heap.size < w4.heap.size := Nat.lt_of_succ_lt hsz; have HBB := Aside0.mk hbb; obtain ⟨z0, z1, z2, f0, f1, f2⟩ := hz.cells; obtain ⟨y0, y1, y2, g0, g1, g2⟩ := ha.cells; clear hb4 ha hz hbb))
    exact bodyPost_ret (v := .tuple #[.agg #[.bool false, .int .u64 0, .int .u64 0], .bool false]) (by simp [results, Tryz.results33, go_sem, z0, z1, z2, f0, f1, f2, hsz, hsz0]) rfl ⟨by rw [← HRR.out], by repeat (first | exact HBB.out | apply below_alloc | refine Below.setCell ?_ (by simp) _)⟩
end Go.Proofs.YtbalmnkbodcigaaGreatDoor.AddrLib
