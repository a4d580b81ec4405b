/- An address out of its octets: addr.Of. -/
import Derived.Test.YtilobbjnmnnmnaaGreatDoorProg
import Derived.Below
import Derived.Deep.Draws
import Derived.Deep.AppendLies
import Derived.Maps.AppendAt
import Derived.OwnWalk
import Derived.Laws.BytesArg
import Derived.Laws.MakeOwn
import Derived.Laws.OwnMore
import Derived.Deep.OwnRows
import Derived.Tactics
import Derived.Lib.ConvBytes
import Derived.Laws.Slices
import Derived.WalkKit
import Derived.KernelRfl
import Derived.RangeFuncRecord
import Derived.RowKit3
import Derived.Deep.LoopGhost
import Derived.Deep.QuietTactic
import Derived.BigQuiet
import Derived.WideLaws
import Derived.Deep.DeepCutAuto
import Derived.Deep.CutBlock
import Derived.Deep.RegionHeld3
import Derived.Laws.Rows
import Derived.Lib.AppendStr
import Derived.ArgAppend
import Derived.Laws.IdiomCopy
import Derived.OrdersHeld
import Derived.Laws.BitsLemmas
import Derived.RowKit
import Derived.Test.YtilobbjnmnnmnaaGreatDoorHandWords
import Derived.Test.YtilobbjnmnnmnaaGreatDoorWWords
import Derived.Test.YtilobbjnmnnmnaaGreatDoorWLast
import Derived.Test.YtilobbjnmnnmnaaGreatDoorWTab
import Derived.Test.YtilobbjnmnnmnaaGreatDoorWFour
import Derived.Test.YtilobbjnmnnmnaaGreatDoorWQPut
import Derived.Test.YtilobbjnmnnmnaaGreatDoorWApart
import Derived.Test.YtilobbjnmnnmnaaGreatDoorWArr
import Derived.Test.YtilobbjnmnnmnaaGreatDoorWZeros
import Derived.Test.YtilobbjnmnnmnaaGreatDoorWFoot
import Derived.Test.YtilobbjnmnnmnaaGreatDoorWKept
import Derived.Test.YtilobbjnmnnmnaaGreatDoorWShare
import Derived.Test.YtilobbjnmnnmnaaGreatDoorWN
import Derived.Test.YtilobbjnmnnmnaaGreatDoorWFootNe
import Derived.Test.YtilobbjnmnnmnaaGreatDoorWAt
import Derived.Test.YtilobbjnmnnmnaaGreatDoorWEqStruct
import Derived.Test.YtilobbjnmnnmnaaGreatDoorWRepsOne
import Derived.Test.YtilobbjnmnnmnaaGreatDoorWInv
import Derived.Test.YtilobbjnmnnmnaaGreatDoorWInvWords
import Derived.Test.YtilobbjnmnnmnaaGreatDoorWGuard
import Derived.Test.YtilobbjnmnnmnaaGreatDoorWNEv
import Derived.Test.YtilobbjnmnnmnaaGreatDoorWMore
set_option linter.unusedSimpArgs false
set_option linter.unusedVariables false
namespace Go.Proofs.YtilobbjnmnnmnaaGreatDoor.AddrLib
open Go.RowKit Go.Lib Go.Proofs.YtilobbjnmnnmnaaGreatDoorW.PrintWords Go.Proofs.YtilobbjnmnnmnaaGreatDoorW.PrintLast Go.Proofs.YtilobbjnmnnmnaaGreatDoorW.PrintMore

section
attribute [local go_sem] Oper.semAt_some
def ofF (four : Int → Int → Int → Int → Option (Bool × Int × Int)) (whole : List Int → Option Int) (s : ByteArray) : Option (Bool × Int × Int × Int) :=
  if s.size = 4 then (four (rd (bytesOf s) 0) (rd (bytesOf s) 1) (rd (bytesOf s) 2) (rd (bytesOf s) 3)).bind fun t => some (t.1, t.2.1, t.2.2, 0)
  else if s.size = 16 then (whole ((bytesOf s).take 8)).bind fun x => (whole ((bytesOf s).drop 8)).bind fun y => some (true, x, y, 0)
  else if s.size ≤ 1000000 then some (false, 0, 0, 2) else none
theorem ofF_mono {four four' : Int → Int → Int → Int → Option (Bool × Int × Int)} {whole whole' : List Int → Option Int} (h1 : ∀ a b c d, LeO (four a b c d) (four' a b c d)) (h2 : ∀ l, LeO (whole l) (whole' l)) (s : ByteArray) : LeO (ofF four whole s) (ofF four' whole' s) := by
  unfold ofF
  exact LeO.ite (LeO.bind (h1 _ _ _ _) (fun _ => LeO.refl _)) (LeO.ite (LeO.bind (h2 _) (fun _ => LeO.bind (h2 _) (fun _ => LeO.refl _))) (LeO.refl _))
theorem of_results (tmps : Array Value) (p : Nat) (a : Bool) (b c d : Int) (w : World) (hp : tmps.getD 2 undef = .pointer (some ⟨p, 0, none⟩)) (hq : tmps.getD 3 undef = .int .i64 d)
    (h : w.heap[p]? = some (.cells #[.bool a, .int .u64 b, .int .u64 c] 24 (0, 0))) :
    (results Tryz.f42 tmps).run Tryz.prog w = .ok (.tuple #[.agg #[.bool a, .int .u64 b, .int .u64 c], .int .i64 d]) w := by
  have hr : Tryz.f42.results = #[ResultVar.cell 2 24, ResultVar.tmp 3] := by kernel_rfl
  have hp' : tmps[2]?.getD undef = .pointer (some ⟨p, 0, none⟩) := by simpa using hp
  have hq' : tmps[3]?.getD undef = .int .i64 d := by simpa using hq
  have h0 := blk_cell h 0
  have h1 := blk_cell h 1
  have h2 := blk_cell h 2
  simp only [List.getElem?_toArray, List.getElem?_cons_zero, List.getElem?_cons_succ] at h0 h1 h2
  simp [results, hr, go_sem, h0, h1, h2, hp', hq']
theorem of_box {W : World} {g : Nat} {x : Array Value} (hx : x.size = 3) (h : W.heap[g]? = some (.cells x 24 (0, 0))) (a : Bool) (b c : Int) :
    (((W.setCell ⟨g, 0, none⟩ (.bool a)).setCell ⟨g, 1, none⟩ (.int .u64 b)).setCell ⟨g, 2, none⟩ (.int .u64 c)).heap[g]? = some (.cells #[.bool a, .int .u64 b, .int .u64 c] 24 (0, 0)) := by
  have := blk_set (blk_set (blk_set h 0 (.bool a)) 1 (.int .u64 b)) 2 (.int .u64 c)
  rw [this]
  obtain ⟨p, q, r, rfl⟩ : ∃ p q r, x = #[p, q, r] := by
    obtain ⟨l⟩ := x
    match l, hx with
    | [p, q, r], _ => exact ⟨p, q, r, rfl⟩
  rfl
theorem of_info8 : (Tryz.prog.info? 5).map (fun i => (i.zero, i.size, i.bytes)) = some (some (.int .u8 0), 1, 1) := by kernel_rfl
set_option maxRecDepth 100000 in
set_option maxHeartbeats 2000000 in
theorem of_calls (four : Int → Int → Int → Int → Option (Bool × Int × Int)) (whole : List Int → Option Int) (s : ByteArray) (r1 : Bool) (r2 r3 r4 : Int) (w : World)
    (hfour : ∀ (a b c d : Int) (x : Bool) (y z : Int) (W : World), four a b c d = some (x, y, z) → Calls Tryz.prog 25 #[.int .u8 a, .int .u8 b, .int .u8 c, .int .u8 d] W fun e w' => e = .returned (.agg #[.bool x, .int .u64 y, .int .u64 z]) ∧ Below W.heap.size W w')
    (hwhole : ∀ (A : Option Addr) (c : Nat) (l : List Int) (r : Int) (W : World), Kd.C (Kd.int .u8) W A l.length l → l.length ≤ c → whole l = some r → Calls Tryz.prog 57 #[.slice A l.length c] W fun e w' => e = .returned (.int .u64 r) ∧ Drawn0 W w')
    (h : ofF four whole s = some (r1, r2, r3, r4)) :
    Calls Tryz.prog 42 #[.string s] w fun e w' => e = .returned (.tuple #[.agg #[.bool r1, .int .u64 r2, .int .u64 r3], .int .i64 r4]) ∧ Below w.heap.size w w' := by
  unfold ofF at h
  have f0 := World.alloc_heap_new w (.cells #[.bool false, .int .u64 0, .int .u64 0] 24)
  have hb0 := below_alloc (Below.refl w.heap.size w) (.cells #[.bool false, .int .u64 0, .int .u64 0] 24)
  obtain ⟨ys, hys⟩ : ∃ ys, ys = bytesOf s := ⟨_, rfl⟩
  have hyl : ys.length = s.size := by rw [hys, bytesOf_length]
  rw [← hys] at h
  have HYS := Aside0.mk hys
  clear hys
  have hsz : s.size ≤ 9223372036854775807 := by
    by_cases c4 : s.size = 4
    · omega
    · by_cases c5 : s.size = 16
      · omega
      · rw [if_neg c4, if_neg c5] at h
        by_cases c6 : s.size ≤ 1000000
        · omega
        · rw [if_neg c6] at h; cases h
  by_cases c4 : s.size = 4
  · rw [if_pos c4] at h
    replace h := Option.bind_eq_some_iff.1 h
    obtain ⟨⟨a, b, c⟩, hf, h⟩ := h
    obtain ⟨rfl, rfl, rfl, rfl⟩ : a = r1 ∧ b = r2 ∧ c = r3 ∧ 0 = r4 := by simpa using h
    have HF := Aside0.mk (fun W => hfour _ _ _ _ _ _ _ W hf)
    have HL := Aside0.mk (show ys.length = 4 by omega)
    have HSZ := Aside0.mk hsz
    clear hfour hwhole hf h hyl c4 hsz
    go_enter Tryz.func42, Tryz.ntmps42
    go_wp2_with (first
      | ((with_reducible refine gate_dst (N := 6) rfl ?_); refine conv_event (src := 9) (dst := 79) (e := 5) (s := s) (w := w.alloc (.cells #[.bool false, .int .u64 0, .int .u64 0] 24)) rfl (N := 6) rfl Tryz.underlying9 Tryz.underlying79 Tryz.underlying5 ?cvr HSZ.out (Below.refl _ _) ?_; (case cvr => intro kb_; first | (go_simp; done) | (go_simp; rfl)); intro A cc w1 hC hc hb; rw [← HYS.out, HL.out] at hC hc ⊢; have HR := Aside0.mk hC; have HC := Aside0.mk hc; have HB := Aside0.mk hb; clear hC hc hb))
    obtain ⟨ad, e0, x0⟩ := Kd.at_int HR.out 0 (by omega) (by decide)
    subst e0
    obtain ⟨ad1, e1, x1⟩ := Kd.at_int HR.out 1 (by omega) (by decide)
    obtain rfl : ad = ad1 := by injection e1
    obtain ⟨ad1, e1, x2⟩ := Kd.at_int HR.out 2 (by omega) (by decide)
    obtain rfl : ad = ad1 := by injection e1
    obtain ⟨ad1, e1, x3⟩ := Kd.at_int HR.out 3 (by omega) (by decide)
    obtain rfl : ad = ad1 := by injection e1
    rw [show (0 : Int).toNat = 0 from rfl, Addr.add_zero'] at x0
    simp only [show (1 : Int).toNat = 1 from rfl, show (2 : Int).toNat = 2 from rfl, show (3 : Int).toNat = 3 from rfl, Nat.reduceMul, Nat.reduceEqDiff, Go.Addr.add, ↓reduceIte] at x1 x2 x3
    have BX := Aside0.mk ((HB.out.block w.heap.size (by simp)).trans f0)
    have HB2 := Aside0.mk (hb0.trans (HB.out.mono (by simp)))
    clear HR HC HB e1
    -- REGION 4
    refine start_ (n := 15) (S := fun w' => w'.cell? ad = some (.int .u8 (rd ys 0)) ∧ w'.cell? ⟨ad.block, ad.off + 1, none⟩ = some (.int .u8 (rd ys 1)) ∧ w'.cell? ⟨ad.block, ad.off + 2, none⟩ = some (.int .u8 (rd ys 2)) ∧ w'.cell? ⟨ad.block, ad.off + 3, none⟩ = some (.int .u8 (rd ys 3))) (ds := [13]) #[false, false, false, false, false, false, false, false, false, false, false, false, false, false, false] (by kernel_rfl) rfl rfl ⟨x0, x1, x2, x3⟩ (fun hHeld => ?_)
    refine pure_ (i := 0) (N := some 11) (v := ?_) (a' := ?_) #[true, false, false, false, false, false, false, false, false, false, false, false, false, false, false] rfl rfl (by kernel_rfl) (fun _ _ _ h => h) (Or.inl ⟨by rfl, ?_⟩) ?_ ?_
    rotate_left
    · intro w'
      go_simp
      with_reducible rfl
    rotate_left
    · simp only [Act.put, List.setIfInBounds_toArray, List.set_cons_zero, List.set_cons_succ, i64_w, i32_w]
      rfl
    refine pure_ (i := 1) (N := some 12) (v := ?_) (a' := ?_) #[true, true, false, false, false, false, false, false, false, false, false, false, false, false, false] rfl rfl (by kernel_rfl) (fun _ _ _ h => h) (Or.inl ⟨by rfl, ?_⟩) ?_ ?_
    rotate_left
    · intro w'
      go_simp
      with_reducible rfl
    rotate_left
    · simp only [Act.put, List.setIfInBounds_toArray, List.set_cons_zero, List.set_cons_succ, i64_w, i32_w]
      rfl
    refine pure_ (i := 3) (N := some 14) (v := ?_) (a' := ?_) #[true, true, false, true, false, false, false, false, false, false, false, false, false, false, false] rfl rfl (by kernel_rfl) (fun _ _ _ h => h) (Or.inl ⟨by rfl, ?_⟩) ?_ ?_
    rotate_left
    · intro w'
      go_simp
      with_reducible rfl
    rotate_left
    · simp only [Act.put, List.setIfInBounds_toArray, List.set_cons_zero, List.set_cons_succ, i64_w, i32_w]
      rfl
    refine pure_ (i := 4) (N := some 15) (v := ?_) (a' := ?_) #[true, true, false, true, true, false, false, false, false, false, false, false, false, false, false] rfl rfl (by kernel_rfl) (fun _ _ _ h => h) (Or.inl ⟨by rfl, ?_⟩) ?_ ?_
    rotate_left
    · intro w'
      go_simp
      with_reducible rfl
    rotate_left
    · simp only [Act.put, List.setIfInBounds_toArray, List.set_cons_zero, List.set_cons_succ, i64_w, i32_w]
      rfl
    refine pure_ (i := 6) (N := some 17) (v := ?_) (a' := ?_) #[true, true, false, true, true, false, true, false, false, false, false, false, false, false, false] rfl rfl (by kernel_rfl) (fun _ _ _ h => h) (Or.inl ⟨by rfl, ?_⟩) ?_ ?_
    rotate_left
    · intro w'
      go_simp
      with_reducible rfl
    rotate_left
    · simp only [Act.put, List.setIfInBounds_toArray, List.set_cons_zero, List.set_cons_succ, i64_w, i32_w]
      rfl
    refine pure_ (i := 7) (N := some 18) (v := ?_) (a' := ?_) #[true, true, false, true, true, false, true, true, false, false, false, false, false, false, false] rfl rfl (by kernel_rfl) (fun _ _ _ h => h) (Or.inl ⟨by rfl, ?_⟩) ?_ ?_
    rotate_left
    · intro w'
      go_simp
      with_reducible rfl
    rotate_left
    · simp only [Act.put, List.setIfInBounds_toArray, List.set_cons_zero, List.set_cons_succ, i64_w, i32_w]
      rfl
    refine pure_ (i := 9) (N := some 20) (v := ?_) (a' := ?_) #[true, true, false, true, true, false, true, true, false, true, false, false, false, false, false] rfl rfl (by kernel_rfl) (fun _ _ _ h => h) (Or.inl ⟨by rfl, ?_⟩) ?_ ?_
    rotate_left
    · intro w'
      go_simp
      with_reducible rfl
    rotate_left
    · simp only [Act.put, List.setIfInBounds_toArray, List.set_cons_zero, List.set_cons_succ, i64_w, i32_w]
      rfl
    refine pure_ (i := 10) (N := some 21) (v := ?_) (a' := ?_) #[true, true, false, true, true, false, true, true, false, true, true, false, false, false, false] rfl rfl (by kernel_rfl) (fun _ _ _ h => h) (Or.inl ⟨by rfl, ?_⟩) ?_ ?_
    rotate_left
    · intro w'
      go_simp
      with_reducible rfl
    rotate_left
    · simp only [Act.put, List.setIfInBounds_toArray, List.set_cons_zero, List.set_cons_succ, i64_w, i32_w]
      rfl
    refine take_ (i := 2) (N := some 13) (v := ?_) (a' := ?_) #[true, true, true, true, true, false, true, true, false, true, true, false, false, false, false] rfl rfl (by kernel_rfl) (fun _ _ _ h => h) (Or.inl ⟨by rfl, ?_⟩) hHeld ?_ ?_
    rotate_left
    · rintro w' ⟨s0, s1, s2, s3⟩
      go_simp
      with_reducible rfl
    rotate_left
    · simp only [Act.put, List.setIfInBounds_toArray, List.set_cons_zero, List.set_cons_succ, i64_w, i32_w]
      rfl
    refine take_ (i := 5) (N := some 16) (v := ?_) (a' := ?_) #[true, true, true, true, true, true, true, true, false, true, true, false, false, false, false] rfl rfl (by kernel_rfl) (fun _ _ _ h => h) (Or.inl ⟨by rfl, ?_⟩) hHeld ?_ ?_
    rotate_left
    · rintro w' ⟨s0, s1, s2, s3⟩
      go_simp
      with_reducible rfl
    rotate_left
    · simp only [Act.put, List.setIfInBounds_toArray, List.set_cons_zero, List.set_cons_succ, i64_w, i32_w]
      rfl
    refine take_ (i := 8) (N := some 19) (v := ?_) (a' := ?_) #[true, true, true, true, true, true, true, true, true, true, true, false, false, false, false] rfl rfl (by kernel_rfl) (fun _ _ _ h => h) (Or.inl ⟨by rfl, ?_⟩) hHeld ?_ ?_
    rotate_left
    · rintro w' ⟨s0, s1, s2, s3⟩
      go_simp
      with_reducible rfl
    rotate_left
    · simp only [Act.put, List.setIfInBounds_toArray, List.set_cons_zero, List.set_cons_succ, i64_w, i32_w]
      rfl
    refine take_ (i := 11) (N := some 22) (v := ?_) (a' := ?_) #[true, true, true, true, true, true, true, true, true, true, true, true, false, false, false] rfl rfl (by kernel_rfl) (fun _ _ _ h => h) (Or.inl ⟨by rfl, ?_⟩) hHeld ?_ ?_
    rotate_left
    · rintro w' ⟨s0, s1, s2, s3⟩
      go_simp
      with_reducible rfl
    rotate_left
    · simp only [Act.put, List.setIfInBounds_toArray, List.set_cons_zero, List.set_cons_succ, i64_w, i32_w]
      rfl
    refine one_ (i := 12) (N := some 23) #[true, true, true, true, true, true, true, true, true, true, true, true, true, false, false] rfl rfl (by kernel_rfl) (by decide) (fun K hK => ?_)
    refine goes_ Tryz.func25 (by kernel_rfl) rfl #[.int .u8 (rd ys 0), .int .u8 (rd ys 1), .int .u8 (rd ys 2), .int .u8 (rd ys 3)] (by rfl) rfl rfl (by simp only [List.map_toArray, List.map_cons, List.map_nil]; rfl) ?_
    with_reducible refine (HF.out _).mono ?_
    rintro e w3 ⟨rfl, hb3⟩
    have F3 := Aside0.mk ((hb3.block _ (blk_lt BX.out)).trans BX.out)
    have HB3 := Aside0.mk ((below_drew1 HB2.out).trans (hb3.mono HB2.out.size))
    have u0 := blk_cell F3.out 0
    have u1 := blk_cell F3.out 1
    have u2 := blk_cell F3.out 2
    have v0 := blk_frozen F3.out 0
    have v1 := blk_frozen F3.out 1
    have v2 := blk_frozen F3.out 2
    simp only [List.getElem?_toArray, List.getElem?_cons_zero, List.getElem?_cons_succ] at u0 u1 u2
    refine ⟨_, rfl, ?_⟩
    refine hK.out _ _ ⟨(hb3.cell (World.block_lt_of_cell? _ _ x0)).trans x0, (hb3.cell (World.block_lt_of_cell? _ _ x1)).trans x1, (hb3.cell (World.block_lt_of_cell? _ _ x2)).trans x2, (hb3.cell (World.block_lt_of_cell? _ _ x3)).trans x3⟩ (fun hHeld => ?_)
    clear hK K
    refine norm_ (a' := ?_) ?_ ?_
    rotate_left
    · show Act.put _ (some 23) _ = _
      simp only [Act.put, List.setIfInBounds_toArray, List.set_cons_zero, List.set_cons_succ, i64_w, i32_w]
      rfl
    refine last_ (i := 13) (N := none) #[true, true, true, true, true, true, true, true, true, true, true, true, true, true, false] rfl rfl (by kernel_rfl) (by decide) (fun K hK => ?_)
    refine skip_ (w1 := ?_) (by rfl) rfl ?_ ?_
    rotate_left
    · go_simp
      rfl
    refine hK.out _ _ ?_
    clear hK K
    refine pure_ (i := 14) (N := some 3) (v := ?_) (a' := ?_) #[true, true, true, true, true, true, true, true, true, true, true, true, true, true, true] rfl rfl (by kernel_rfl) (fun _ _ _ h => h) (Or.inl ⟨by rfl, ?_⟩) ?_ ?_
    rotate_left
    · intro w'
      go_simp
      with_reducible rfl
    rotate_left
    · simp only [Act.put, List.setIfInBounds_toArray, List.set_cons_zero, List.set_cons_succ, i64_w, i32_w]
      rfl
    refine done_ (by kernel_rfl) ?_

    -- END 4
    try go_wp2
    refine bodyPost_ret (of_results _ w.heap.size a b c 0 _ rfl rfl (of_box rfl F3.out a b c)) rfl ⟨rfl, ?_⟩
    exact below_set (below_set (below_set HB3.out (Nat.le_refl _)) (Nat.le_refl _)) (Nat.le_refl _)
  · rw [if_neg c4] at h
    by_cases c5 : s.size = 16
    · rw [if_pos c5] at h
      replace h := Option.bind_eq_some_iff.1 h
      obtain ⟨x, hx, h⟩ := h
      replace h := Option.bind_eq_some_iff.1 h
      obtain ⟨y, hy, h⟩ := h
      obtain ⟨rfl, rfl, rfl, rfl⟩ : true = r1 ∧ x = r2 ∧ y = r3 ∧ 0 = r4 := by simpa using h
      have HL := Aside0.mk (show ys.length = 16 by omega)
      have HW1 := Aside0.mk (fun A c W h1 h2 => hwhole A c _ _ W h1 h2 hx)
      have HW2 := Aside0.mk (fun A c W h1 h2 => hwhole A c _ _ W h1 h2 hy)
      have HSZ := Aside0.mk hsz
      clear hfour hwhole hx hy h hyl c4 c5 hsz
      go_enter Tryz.func42, Tryz.ntmps42
      have t3 : ((ys.length : Int) == 4) = false := by rw [HL.out]; rfl
      have t4 : ((ys.length : Int) == 16) = true := by rw [HL.out]; rfl
      go_wp2_with (first
        | ((with_reducible refine gate_dst (N := 6) rfl ?_); refine conv_event (src := 9) (dst := 79) (e := 5) (s := s) (w := w.alloc (.cells #[.bool false, .int .u64 0, .int .u64 0] 24)) rfl (N := 6) rfl Tryz.underlying9 Tryz.underlying79 Tryz.underlying5 ?cvr HSZ.out (Below.refl _ _) ?_; (case cvr => intro kb_; first | (go_simp; done) | (go_simp; rfl)); intro A cc w1 hC hc hb; rw [← HYS.out] at hC hc ⊢; have HR := Aside0.mk hC; have HC := Aside0.mk hc; have HB := Aside0.mk hb; clear hC hc hb))
      obtain ⟨i1, hi1, _, hs1, _⟩ := info_parts of_info8
      obtain ⟨hcut1, hA1, hC1⟩ := print_take_of (P := Tryz.prog) (Value.int .u8) 0 79 5 .i64 Tryz.underlying79 hi1 hs1 A cc ys 8 (by omega) (by have := HL.out; omega) HC.out
      obtain ⟨A2, hcut2, hA2, hC2⟩ := print_drop_of (P := Tryz.prog) (Value.int .u8) 0 79 5 .i64 Tryz.underlying79 hi1 hs1 A cc ys 8 (by omega) (by have := HL.out; omega) HC.out
      have RT : Aside0 (Kd.C (Kd.int .u8) w1 A _ _) := ⟨Kd.C_of_reads (h1 := fun _ => rfl) (hA1 _ (Kd.reads_of_C HR.out))⟩
      have RD : Aside0 (Kd.C (Kd.int .u8) w1 A2 _ _) := ⟨Kd.C_of_reads (h1 := fun _ => rfl) (hA2 _ (Kd.reads_of_C HR.out))⟩
      have LT := Aside0.mk hC1
      have LD := Aside0.mk hC2
      have BX := Aside0.mk ((HB.out.block w.heap.size (by simp)).trans f0)
      have HB2 := Aside0.mk (hb0.trans (HB.out.mono (by simp)))
      clear hA1 hA2 hC1 hC2 HR HC HB hi1 hs1
      rw [show (8 : Int).toNat = 8 from rfl] at RT RD LT LD hcut1 hcut2
      obtain ⟨y1, hy1⟩ : ∃ l, l = ys.take 8 := ⟨_, rfl⟩
      obtain ⟨y2, hy2⟩ : ∃ l, l = ys.drop 8 := ⟨_, rfl⟩
      rw [← hy1] at RT LT hcut1 HW1
      rw [← hy2] at RD LD hcut2 HW2
      clear hy1 hy2
      -- REGION 6
      refine start_ (n := 9) (S := fun w' => True) (ds := []) #[false, false, false, false, false, false, false, false, false] (by kernel_rfl) rfl rfl trivial (fun hHeld => ?_)
      refine pure_ (i := 0) (N := some 26) (v := ?_) (a' := ?_) #[true, false, false, false, false, false, false, false, false] rfl rfl (by kernel_rfl) (fun _ _ _ h => h) (Or.inl ⟨by rfl, ?_⟩) ?_ ?_
      rotate_left
      · intro w'
        go_simp
        with_reducible rfl
      rotate_left
      · simp only [Act.put, List.setIfInBounds_toArray, List.set_cons_zero, List.set_cons_succ, i64_w, i32_w]
        rfl
      refine pure_ (i := 1) (N := some 27) (v := ?_) (a' := ?_) #[true, true, false, false, false, false, false, false, false] rfl rfl (by kernel_rfl) (fun _ _ _ h => h) (Or.inl ⟨by rfl, ?_⟩) ?_ ?_
      rotate_left
      · intro w'
        go_simp
        with_reducible rfl
      rotate_left
      · simp only [Act.put, List.setIfInBounds_toArray, List.set_cons_zero, List.set_cons_succ, i64_w, i32_w]
        rfl
      refine pure_ (i := 3) (N := some 29) (v := ?_) (a' := ?_) #[true, true, false, true, false, false, false, false, false] rfl rfl (by kernel_rfl) (fun _ _ _ h => h) (Or.inl ⟨by rfl, ?_⟩) ?_ ?_
      rotate_left
      · intro w'
        go_simp
        with_reducible rfl
      rotate_left
      · simp only [Act.put, List.setIfInBounds_toArray, List.set_cons_zero, List.set_cons_succ, i64_w, i32_w]
        rfl
      refine pure_ (i := 4) (N := some 30) (v := ?_) (a' := ?_) #[true, true, false, true, true, false, false, false, false] rfl rfl (by kernel_rfl) (fun _ _ _ h => h) (Or.inl ⟨by rfl, ?_⟩) ?_ ?_
      rotate_left
      · intro w'
        go_simp
        with_reducible rfl
      rotate_left
      · simp only [Act.put, List.setIfInBounds_toArray, List.set_cons_zero, List.set_cons_succ, i64_w, i32_w]
        rfl
      refine one_ (i := 2) (N := some 28) #[true, true, true, true, true, false, false, false, false] rfl rfl (by kernel_rfl) (by decide) (fun K hK => ?_)
      refine goes_ Tryz.func57 (by kernel_rfl) rfl #[.slice A y1.length cc] (by rfl) rfl rfl (by simp only [List.map_toArray, List.map_cons, List.map_nil]; rfl) ?_
      with_reducible refine (HW1.out _ _ _ (Kd.C_drew RT.out) LT.out).mono ?_
      rintro e w3 ⟨rfl, ⟨nd, rfl⟩⟩
      refine ⟨_, rfl, ?_⟩
      refine hK.out _ _ trivial (fun hHeld => ?_)
      clear hK K
      refine norm_ (a' := ?_) ?_ ?_
      rotate_left
      · show Act.put _ (some 28) _ = _
        simp only [Act.put, List.setIfInBounds_toArray, List.set_cons_zero, List.set_cons_succ, i64_w, i32_w]
        rfl
      refine one_ (i := 5) (N := some 31) #[true, true, true, true, true, true, false, false, false] rfl rfl (by kernel_rfl) (by decide) (fun K hK => ?_)
      refine goes_ Tryz.func57 (by kernel_rfl) rfl #[.slice A2 y2.length (cc - 8)] (by rfl) rfl rfl (by simp only [List.map_toArray, List.map_cons, List.map_nil]; rfl) ?_
      with_reducible refine (HW2.out _ _ _ (Kd.C_drewN (Kd.C_drew RD.out) _) LD.out).mono ?_
      rintro e w3 ⟨rfl, ⟨nd2, rfl⟩⟩
      refine ⟨_, rfl, ?_⟩
      refine hK.out _ _ trivial (fun hHeld => ?_)
      clear hK K
      refine norm_ (a' := ?_) ?_ ?_
      rotate_left
      · show Act.put _ (some 31) _ = _
        simp only [Act.put, List.setIfInBounds_toArray, List.set_cons_zero, List.set_cons_succ, i64_w, i32_w]
        rfl
      refine pure_ (i := 6) (N := some 32) (v := ?_) (a' := ?_) #[true, true, true, true, true, true, true, false, false] rfl rfl (by kernel_rfl) (fun _ _ _ h => h) (Or.inl ⟨by rfl, ?_⟩) ?_ ?_
      rotate_left
      · intro w'
        go_simp
        with_reducible rfl
      rotate_left
      · simp only [Act.put, List.setIfInBounds_toArray, List.set_cons_zero, List.set_cons_succ, i64_w, i32_w]
        rfl
      refine one_ (i := 7) (N := none) #[true, true, true, true, true, true, true, true, false] rfl rfl (by kernel_rfl) (by decide) (fun K hK => ?_)
      have u0 := blk_cell BX.out 0
      have u1 := blk_cell BX.out 1
      have u2 := blk_cell BX.out 2
      have v0 := blk_frozen BX.out 0
      have v1 := blk_frozen BX.out 1
      have v2 := blk_frozen BX.out 2
      simp only [List.getElem?_toArray, List.getElem?_cons_zero, List.getElem?_cons_succ] at u0 u1 u2
      refine skip_ (w1 := ?_) (by rfl) rfl ?_ ?_
      rotate_left
      · go_simp
        rfl
      refine hK.out _ _ trivial (fun hHeld => ?_)
      clear hK K
      refine pure_ (i := 8) (N := some 3) (v := ?_) (a' := ?_) #[true, true, true, true, true, true, true, true, true] rfl rfl (by kernel_rfl) (fun _ _ _ h => h) (Or.inl ⟨by rfl, ?_⟩) ?_ ?_
      rotate_left
      · intro w'
        go_simp
        with_reducible rfl
      rotate_left
      · simp only [Act.put, List.setIfInBounds_toArray, List.set_cons_zero, List.set_cons_succ, i64_w, i32_w]
        rfl
      refine done_ (by kernel_rfl) ?_

      -- END 6
      try go_wp2
      refine bodyPost_ret (of_results _ w.heap.size true x y 0 _ rfl rfl (of_box rfl (show (World.heap _)[w.heap.size]? = _ from BX.out) true x y)) rfl ⟨rfl, ?_⟩
      exact below_set (below_set (below_set (pw_below_drewN HB2.out _) (Nat.le_refl _)) (Nat.le_refl _)) (Nat.le_refl _)
    · rw [if_neg c5] at h
      have c6 : s.size ≤ 1000000 := by
        by_cases c : s.size ≤ 1000000
        · exact c
        · rw [if_neg c] at h; cases h
      rw [if_pos c6] at h
      obtain ⟨rfl, rfl, rfl, rfl⟩ : false = r1 ∧ 0 = r2 ∧ 0 = r3 ∧ 2 = r4 := by simpa using h
      have HSZ := Aside0.mk hsz
      have t3 : ((ys.length : Int) == 4) = false := beq_eq_false_iff_ne.2 (by omega)
      have t4 : ((ys.length : Int) == 16) = false := beq_eq_false_iff_ne.2 (by omega)
      clear hfour hwhole h hyl c4 c5 c6 hsz
      go_enter Tryz.func42, Tryz.ntmps42
      go_wp2_with (first
        | ((with_reducible refine gate_dst (N := 6) rfl ?_); refine conv_event (src := 9) (dst := 79) (e := 5) (s := s) (w := w.alloc (.cells #[.bool false, .int .u64 0, .int .u64 0] 24)) rfl (N := 6) rfl Tryz.underlying9 Tryz.underlying79 Tryz.underlying5 ?cvr HSZ.out (Below.refl _ _) ?_; (case cvr => intro kb_; first | (go_simp; done) | (go_simp; rfl)); intro A cc w1 hC hc hb; rw [← HYS.out] at hC hc ⊢; have bx := (hb.block w.heap.size (by simp)).trans f0; have HB2 := Aside0.mk (hb0.trans (hb.mono (by simp))); have BX := Aside0.mk bx; have u0 := blk_cell bx 0; have u1 := blk_cell bx 1; have u2 := blk_cell bx 2; have v0 := blk_frozen bx 0; have v1 := blk_frozen bx 1; have v2 := blk_frozen bx 2; clear hC hc hb bx; simp only [List.getElem?_toArray, List.getElem?_cons_zero, List.getElem?_cons_succ] at u0 u1 u2))
      refine bodyPost_ret (of_results _ w.heap.size false 0 0 2 _ rfl rfl (of_box rfl BX.out false 0 0)) rfl ⟨rfl, ?_⟩
      exact below_set (below_set (below_set HB2.out (Nat.le_refl _)) (Nat.le_refl _)) (Nat.le_refl _)
end
end Go.Proofs.YtilobbjnmnnmnaaGreatDoor.AddrLib
