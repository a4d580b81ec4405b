/- Octets from the last one on: slices.Backward's iterator, whatever is done in its rounds. -/
import Derived.Test.YtilobbjnmnnmnaaDoorRoundRegion
import Derived.Test.YtilobbjnmnnmnaaDoorAddrWorld
import Derived.Test.YtilobbjnmnnmnaaDoorHandUp
set_option linter.unusedSimpArgs false
set_option linter.unusedVariables false
namespace Go.Proofs.YtilobbjnmnnmnaaDoor.AddrLib
open Go.RowKit Go.Lib Go.Proofs.YtilobbjnmnnmnaaDoorW.PrintWords Go.Proofs.YtilobbjnmnnmnaaDoorW.PrintLast Go.Proofs.YtilobbjnmnnmnaaDoorW.PrintMore

section
open Go.Shelf
attribute [local go_sem] Oper.semAt_some
def seqB (xs : List Int) (m : Nat) : List (Int × Int) := (((List.range xs.length).drop m).reverse).map fun (i : Nat) => ((i : Int), rd xs (i : Int))
theorem seqB_step (xs : List Int) (m : Nat) (h : m < xs.length) : seqB xs m = seqB xs (m + 1) ++ [((m : Int), rd xs (m : Int))] := by
  unfold seqB
  rw [List.drop_eq_getElem_cons (by simpa using h), List.reverse_cons, List.map_append, List.getElem_range]
  rfl
theorem seqB_top (xs : List Int) : seqB xs xs.length = [] := by
  unfold seqB
  rw [List.drop_eq_nil_of_le (by simp)]
  rfl
theorem seqB_pre (xs : List Int) (m : Nat) : seqB xs m <+: seqB xs 0 := by
  induction m with
  | zero => exact List.prefix_refl _
  | succ m ih =>
    by_cases h : m < xs.length
    · rw [seqB_step xs m h] at ih
      exact (List.prefix_append _ _).trans ih
    · have : seqB xs (m + 1) = [] := by
        unfold seqB
        rw [List.drop_eq_nil_of_le (by simp; omega)]
        rfl
      rw [this]
      exact List.nil_prefix
theorem seqB_mem {xs : List Int} {x : Int × Int} (h : x ∈ seqB xs 0) : ∃ m : Nat, m < xs.length ∧ x = ((m : Int), rd xs (m : Int)) := by
  unfold seqB at h
  simp only [List.drop_zero, List.map_reverse, List.mem_reverse, List.mem_map, List.mem_range] at h
  obtain ⟨m, hm, rfl⟩ := h
  exact ⟨m, hm, rfl⟩
theorem seqB_len (xs : List Int) : (seqB xs 0).length = xs.length := by
  unfold seqB
  simp

/-- What Backward's rounds read: its box (block Bm) and the row (block Cb). -/
structure BackZ (Bm Cb c : Nat) (xs : List Int) (W : World) : Prop where
  box : W.cell? ⟨Bm, 0, none⟩ = some (.slice (some ⟨Cb, 0, none⟩) xs.length c)
  row : ∀ m : Nat, m < xs.length → W.cell? ⟨Cb, m, none⟩ = some (.int .u8 (rd xs (m : Int)))
/-- Both blocks stay as they are. -/
def BackK (Bm Cb : Nat) (W W' : World) : Prop := W.heap.size ≤ W'.heap.size ∧ (∀ o, W.heap[Bm]? = some o → W'.heap[Bm]? = some o) ∧ ∀ o, W.heap[Cb]? = some o → W'.heap[Cb]? = some o
theorem BackK.refl (Bm Cb : Nat) (W : World) : BackK Bm Cb W W := ⟨Nat.le_refl _, fun _ h => h, fun _ h => h⟩
theorem BackK.trans {Bm Cb : Nat} {A B C : World} (h : BackK Bm Cb A B) (k : BackK Bm Cb B C) : BackK Bm Cb A C := ⟨Nat.le_trans h.1 k.1, fun o ho => k.2.1 o (h.2.1 o ho), fun o ho => k.2.2 o (h.2.2 o ho)⟩
theorem cell_block {W W' : World} {p : Addr} {v : Value} (h : W.cell? p = some v) (hb : ∀ o, W.heap[p.block]? = some o → W'.heap[p.block]? = some o) : W'.cell? p = some v := by
  unfold World.cell? at *
  cases ho : W.heap[p.block]? with
  | none => rw [ho] at h; cases h
  | some o => rw [hb o ho]; rw [ho] at h; exact h
theorem BackZ.keep {Bm Cb c : Nat} {xs : List Int} {W W' : World} (h : BackZ Bm Cb c xs W) (hk : BackK Bm Cb W W') : BackZ Bm Cb c xs W' :=
  ⟨cell_block h.box hk.2.1, fun m hm => cell_block (h.row m hm) hk.2.2⟩
set_option maxRecDepth 100000 in
set_option maxHeartbeats 1000000 in
theorem back1_in (n : Nat) (hn : 1 ≤ n) (l Bm Cb c : Nat) (xs : List Int) (hmax : xs.length ≤ 1000000)
    (J Jx : List (Int × Int) → World → Prop) (N : Nat) (hN : xs.length ≤ N)
    (hY : ∀ pre x W, J pre W → pre ++ [x] <+: seqB xs 0 → pre.length < N → YieldAt Fence.wide (n - 1) Tryd.prog l #[.int .i64 x.1, .int .u8 x.2] W fun e W' => (e = .returned (.bool true) ∧ J (pre ++ [x]) W' ∧ BackK Bm Cb W W') ∨ (e = .returned (.bool false) ∧ Jx (pre ++ [x]) W'))
    (W : World) (hJ : AbidesFrom W.heap.size J) (hW : BackZ Bm Cb c xs W) (h0 : J [] W) :
    CallsIn Fence.wide n Tryd.prog 51 #[.func (.yield l) #[] #[], .pointer (some ⟨Bm, 0, none⟩)] W fun e W' => (∃ v, e = .returned v) ∧ ((∃ ss : List (Int × Int), ss = seqB xs 0 ∧ J ss W') ∨ (∃ pre, pre <+: seqB xs 0 ∧ Jx pre W')) := by
  refine callsIn_of_wp Tryd.func51 rfl trivial ?_ rfl
  simp only [Tryd.ntmps51, List.size_toArray, List.length_cons, List.length_nil, Nat.reduceAdd, Nat.reduceSub, Array.replicate_succ, Array.replicate_zero, List.push_toArray, List.append_toArray, List.nil_append, List.cons_append]
  have hmW := hW.box
  have hw : wrap64 ((xs.length : Int) - 1) = (xs.length : Int) - 1 := wrap_id (by omega) (by omega)
  gi_wp2
  gi_loopw [3] (fun vi wr => ∃ (m : Nat) (i : Int), vi = .int .i64 i ∧ i + 1 = (m : Int) ∧ m ≤ xs.length ∧ Aside0 (J (seqB xs m) wr) ∧ Aside0 (BackZ Bm Cb c xs wr))
    (fun vi _ => (intOf vi + 1).toNat)
  case atStart =>
    refine ⟨xs.length, (xs.length : Int) - 1, by first | rfl | rw [hw], by omega, Nat.le_refl _, ⟨?_⟩, ⟨hW⟩⟩
    rw [seqB_top]
    first | exact h0 | exact hJ _ _ _ none h0 (grownBy_drewN_ _ _) (fun r e => by cases e)
  case round =>
    obtain ⟨m, i, rfl, hi, hml, HJ, HB⟩ := hrel
    cases m with
    | zero =>
      have hi' : i = -1 := by omega
      subst hi'
      gi_wp2
      go_end0
      exact ⟨⟨_, rfl⟩, .inl ⟨_, rfl, HJ.out⟩⟩
    | succ m =>
      have hi' : i = (m : Int) := by omega
      subst hi'
      have hx := HB.out.row m (by omega)
      have hst := seqB_step xs m (by omega)
      have hpre := seqB_pre xs m
      rw [hst] at hpre
      have hlen : (seqB xs (m + 1)).length < N := by
        have := hpre.length_le
        rw [seqB_len, List.length_append] at this
        simp at this
        omega
      obtain ⟨fn, tmps, assign, body, hy, hR⟩ := hY _ _ wr HJ.out hpre hlen
      have HRR := Aside0.mk hR
      have HP := Aside0.mk hpre
      have HS := Aside0.mk hst
      clear hR hpre hst
      dsimp only at hy
      generalize rd xs (m : Int) = x at hx hy HRR HP HS
      have hmw := HB.out.box
      have b0 : decide (0 ≤ (m : Int)) = true := decide_eq_true (by omega)
      have p1 : (0 ≤ (m : Int)) = True := eq_true (by omega)
      have q1 : ((m : Int) < (xs.length : Int)) = True := eq_true (by omega)
      gi_wp2_with fail
      refine HRR.out.mono ?_
      rintro e W3 (⟨rfl, hJ3, hk3⟩ | ⟨rfl, hJx3⟩)
      · have HJ3 := Aside0.mk hJ3
        have HK3 := Aside0.mk hk3
        have hw2 : wrap64 ((m : Int) - 1) = (m : Int) - 1 := wrap_id (by omega) (by omega)
        clear hJ3 hk3 HRR hy
        gi_wp2
        go_roundw
        case rel => exact ⟨m, (m : Int) - 1, by first | rfl | rw [hw2], by omega, by omega, ⟨by rw [HS.out]; exact HJ3.out⟩, ⟨HB.out.keep HK3.out⟩⟩
        case measure => first | (simp [intOf]; done) | (simp [intOf]; omega)
      · have HJ3 := Aside0.mk hJx3
        clear hJx3 HRR hy
        gi_wp2

        refine bodyPost_ret (results_none rfl _ _ _) rfl ?_
        exact ⟨⟨_, rfl⟩, .inr ⟨_, HP.out, HJ3.out⟩⟩

abbrev BackX (xs : List Int) := { x : Int × Int // ∃ m : Nat, m < xs.length ∧ x = ((m : Int), rd xs (m : Int)) }
theorem back1_stopsQ (n : Nat) (hn : 1 ≤ n) (Bm Cb c : Nat) (xs : List Int) (hmax : xs.length ≤ 1000000) (w0 : World) (hZ : BackZ Bm Cb c xs w0) (h1 : Bm < w0.heap.size) (h2 : Cb < w0.heap.size) :
    SeqStopsK Fence.wide n Tryd.prog 51 #[.pointer (some ⟨Bm, 0, none⟩)] (fun x : BackX xs => #[Value.int .i64 x.1.1, Value.int .u8 x.1.2]) (BackK Bm Cb) (fun ys => ys.map Subtype.val = seqB xs 0) (fun pre => pre.map Subtype.val <+: seqB xs 0) xs.length w0 := by
  intro l J Jx W hW hJ hJx hY h0
  refine (back1_in n hn l Bm Cb c xs hmax (fun pre W => ∃ p : List (BackX xs), p.map Subtype.val = pre ∧ J p W) (fun pre W => ∃ p : List (BackX xs), p.map Subtype.val = pre ∧ Jx p W) _ (Nat.le_refl _) ?_ W ?_ (hZ.keep ⟨hW.size, fun o ho => (hW.block _ h1).trans ho, fun o ho => (hW.block _ h2).trans ho⟩) ⟨[], rfl, h0⟩).mono ?_
  · rintro pre x W1 ⟨p, rfl, hj⟩ hp hl
    have hx := seqB_mem (hp.subset (List.mem_append_right _ (List.mem_singleton.2 rfl)))
    obtain ⟨fn, tmps, assign, body, hy, hR⟩ := hY p ⟨x, hx⟩ W1 hj (by simpa using hl)
    refine ⟨fn, tmps, assign, body, hy, hR.mono ?_⟩
    rintro e W' (⟨he, h1, h2⟩ | ⟨he, h1⟩)
    · exact .inl ⟨he, ⟨p ++ [⟨x, hx⟩], by simp, h1⟩, h2⟩
    · exact .inr ⟨he, ⟨p ++ [⟨x, hx⟩], by simp, h1⟩⟩
  · rintro pre A B row ⟨p, hp, hj⟩ hg hr
    exact ⟨p, hp, hJ p A B row hj hg hr⟩
  · rintro e W' ⟨hv, ⟨ss, hss, p, hp, hj⟩ | ⟨pre, hpre, p, hp, hj⟩⟩
    · exact ⟨hv, .inl ⟨p, hp.trans hss, hj⟩⟩
    · exact ⟨hv, .inr ⟨p, by show p.map Subtype.val <+: _; rw [hp]; exact hpre, hj⟩⟩
theorem back_calls (n : Nat) (v : Value) (hv : v.oneCell' = true) (w : World) : CallsIn Fence.wide n Tryd.prog 38 #[v] w fun e w' => e = .returned (.func (.func 51) #[] #[.pointer (some ⟨w.heap.size, 0, none⟩)]) ∧ w' = w.alloc (.cells #[v] 39) := by
  refine callsIn_of_wp Tryd.func38 rfl trivial ?_ rfl
  simp only [Tryd.ntmps38, List.size_toArray, List.length_cons, List.length_nil, Nat.reduceAdd, Nat.reduceSub, Array.replicate_succ, Array.replicate_zero, List.push_toArray, List.append_toArray, List.nil_append, List.cons_append]
  gi_wp2
  go_ret
  exact ⟨rfl, rfl⟩


end
end Go.Proofs.YtilobbjnmnnmnaaDoor.AddrLib
