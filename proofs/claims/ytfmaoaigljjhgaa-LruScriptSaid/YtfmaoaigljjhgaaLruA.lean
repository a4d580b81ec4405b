/- What an lru list's All goes through: what is in the list when it begins. -/
import Derived.Test.YtfmaoaigljjhgaaLru8
import Derived.RangeFuncBound
import Derived.RangeFuncBox
import Derived.RangeFuncCalls
import Derived.RangeFuncGives
import Derived.RangeFuncLeaves
import Derived.RangeFuncNested
import Derived.RangeFuncWrites
import Derived.TacticsInMore
import Derived.LoopIn
import Derived.LoopNIn
import Derived.OwnWalkIn
namespace Go.Proofs.Ytfmaoaigljjhgaa.Lru
open Go Go.RowKit Go.Maps Go.Proofs.YtfmaoaigljjhgaaW.PrintWords

/-- Rows from a block on stay what they are. -/
def KpC (B : Nat) (A C : World) : Prop := A.heap.size ≤ C.heap.size ∧ ∀ (k : Nat) (cs : Array Value) (T : TypeId) (fz : Nat × Nat), B ≤ k → A.heap[k]? = some (.cells cs T fz) → C.heap[k]? = some (.cells cs T fz)
theorem KpC.trans {B : Nat} {a b c : World} (h : KpC B a b) (k : KpC B b c) : KpC B a c := ⟨Nat.le_trans h.1 k.1, fun i cs T fz hb hi => k.2 i cs T fz hb (h.2 i cs T fz hb hi)⟩
theorem KpC.put {B : Nat} (W : World) (l : Nat) (o o' : Obj) (h : W.heap[l]? = some o) (hc : o.isCells = false) : KpC B W (W.putObj l o') := by
  refine ⟨by simp, fun k cs T fz _ hk => ?_⟩
  rw [World.putObj_heap_other (fun e => ?_)]
  · exact hk
  · subst e
    rw [h] at hk
    injection hk with hk
    subst hk
    cases hc
theorem run_func_there (w : World) (f : Fn) (x y : Array Value) : (binOp .neq 42 (.func f x y) .nilFunc).run Try.prog w = .ok (.bool true) w := by
  have h : ∀ d : Nat, (Op.equalIn (d + 1) 42 (.func f x y) .nilFunc).run Try.prog w = .ok false w := fun d => by
    simp [Op.equalIn, run_underlying Try.underlying42]
  simp only [binOp]
  simp [Op.equal, Op.maxDepth, h 9999]
theorem run_func_not (w : World) (f : Fn) (x y : Array Value) : (binOp .eql 42 (.func f x y) .nilFunc).run Try.prog w = .ok (.bool false) w := by
  have h : ∀ d : Nat, (Op.equalIn (d + 1) 42 (.func f x y) .nilFunc).run Try.prog w = .ok false w := fun d => by
    simp [Op.equalIn, run_underlying Try.underlying42]
  simp only [binOp]
  simp [Op.equal, Op.maxDepth, h 9999]
/-- The law of a range over a function, where nothing is assigned. -/
theorem wp_range_skip {α : Type} {F : Fence} {n : Nat} {P : Program} {g : Operand} {ps : Array Tmp} {body : Code} {Q : Exit → Act → World → Prop} {a : Act} {w : World}
    (hro : F.round = none) (h1 : 1 ≤ n) {gf : Nat} {lb : Array Value} (hg : a.eval g = .func (.func gf) #[] lb) (hFg : F.fn gf) (eg : ∀ args w, (callFunc gf args).run P w = .ok (.enter gf args) w)
    {encs : α → Array Value} {Kp : World → World → Prop} {S Sp : List α → Prop} {N : Nat} {w0 : World} (hseq : SeqStopsK F (n - 1) P gf lb encs Kp S Sp N w0)
    (hKt : ∀ {A B C : World}, Kp A B → Kp B C → Kp A C) (hKb : ∀ (W : World) (l : Nat) (o o' : Obj), w.heap.size ≤ l → W.heap[l]? = some o → o.isCells = false → o.isWalk = false → Kp W (W.putObj l o')) (hb0 : Below w0.heap.size w0 w) (hps : ∀ x, (encs x).size = ps.size)
    (I : List α → World → Prop) (Ix : Code → List α → World → Prop) (hI : OwnFrom w.heap.size I) (hIx : ∀ c, OwnFrom w.heap.size (Ix c)) (h0 : I [] w)
    (hbody : ∀ (l : Nat) (pre : List α) (x : α) (W : World), I pre W → pre.length < N → body.wpIn (F.inRound l) (n - 1 - 1) P (ownPostG w.heap.size Kp I Ix (pre ++ [x]) W) { tmps := (ps.zip (encs x)).foldl (fun t (p, v) => t.setIfInBounds p v) a.tmps, defers := [] } W)
    (hdone : ∀ (D : Nat) (xs : List α) (W : World), w.heap.size ≤ D → S xs → I xs W → W.heap[D]? = some (.deferred (some [])) → Q .normal { a with defers := { target := .collected D, args := #[] } :: a.defers } W)
    (hstop : ∀ (D : Nat) (c : Code) (pre : List α) (W : World), w.heap.size ≤ D → Sp pre → Ix c pre W → W.heap[D]? = some (.deferred (some [])) → c.wpIn F n P Q { a with defers := { target := .collected D, args := #[] } :: a.defers } W) :
    (Code.rangeFunc g ps Code.skip body).wpIn F n P Q a w :=
  wpIn_rangeFunc_ownG hro h1 hg hFg eg hseq hKt hKb hb0 hps I Ix hI hIx h0 (fun x => { tmps := (ps.zip (encs x)).foldl (fun t (p, v) => t.setIfInBounds p v) a.tmps, defers := [] })
    (fun _ _ _ _ hK => wpIn_skip hK) hbody hdone hstop
/-- All of a list: the list is boxed, the function value captures the box. -/
theorem All_calls (n : Nat) (pv : Option Addr) (w : World) : CallsIn Fence.wide n Try.prog 18 #[.pointer pv] w fun e w' => e = .returned (.func (.func 38) #[] #[.pointer (some ⟨w.heap.size, 0, none⟩)]) ∧ w' = w.alloc (.cells #[.pointer pv] 24) := by
  refine callsIn_of_wp Try.func18 rfl trivial ?_ rfl
  simp only [Try.ntmps18, List.size_toArray, List.length_cons, List.length_nil, Nat.reduceAdd, Nat.reduceSub, Array.replicate_succ, Array.replicate_zero, List.push_toArray, List.append_toArray, List.nil_append, List.cons_append]
  gi_wp2
  go_ret
  exact ⟨rfl, rfl⟩
theorem R_cellsKept {w w' : World} {v : Value} {ns : List SN} {base B : Nat} (h : Kd.R kN NT w base (fun _ => True) v ns) (hB : B ≤ base) (hk : KpC B w w') : Kd.R kN NT w' base (fun _ => True) v ns := by
  have h1 := Kd.R_bound h
  refine Kd.R_mono (Kd.R_move h1 fun k hk' => ?_) fun _ _ => trivial
  obtain ⟨_, hb, _, q, _, cells, hc⟩ := hk'
  rw [hc]
  exact hk.2 k _ _ _ (Nat.le_trans hB hb) hc
theorem wrap_in {n : Int} (h : -9223372036854775808 ≤ n) (h' : n ≤ 9223372036854775807) : wrap64 n = n := by unfold wrap64; omega
theorem wrap_nat (i : Nat) (h : (i : Int) ≤ 1000000) : wrap64 ((i : Int) + 1) = ((i + 1 : Nat) : Int) := by
  rw [wrap_in (by omega) (by omega)]
  simp
theorem int_step {i : Nat} (h : (i : Int) ≤ 1000000) : Value.int .i64 (wrap64 ((i : Int) + 1)) = .int .i64 ((i + 1 : Nat) : Int) := by rw [wrap_nat i h]
theorem left_step {i n : Nat} (h : (i : Int) ≤ 1000000) (hi : i < n) : n - (intOf (Value.int .i64 (wrap64 ((i : Int) + 1)))).toNat < n - (intOf (Value.int .i64 (i : Int))).toNat := by
  have key : ∀ x : Int, intOf (Value.int .i64 x) = x := fun _ => rfl
  rw [key, key, wrap_nat i h, Int.toNat_natCast, Int.toNat_natCast]
  clear h
  omega
set_option maxRecDepth 100000 in
set_option maxHeartbeats 8000000 in
theorem all1_in (n : Nat) (hn : 1 ≤ n) (l Bm : Nat) (pv : Option Addr) (L : List KV) (hlen : L.length ≤ 100000) (W : World) (J Jx : List KV → World → Prop)
    (hnod : Calls Try.prog 36 #[.pointer pv] W fun e w' => ∃ v ns, e = .returned v ∧ Kd.R kN NT w' W.heap.size (fun _ => True) v ns ∧ nkv ns = L ∧ Below W.heap.size W w') (B : Nat) (hB : B ≤ W.heap.size)
    (hY : ∀ pre x W1, J pre W1 → pre ++ [x] <+: L → YieldAt Fence.wide (n - 1) Try.prog l #[.string x.1, vl x.2] W1 fun e W' => (e = .returned (.bool true) ∧ J (pre ++ [x]) W' ∧ KpC B W1 W') ∨ (e = .returned (.bool false) ∧ Jx (pre ++ [x]) W'))
    (hJ : AbidesFrom W.heap.size J) (hm : W.cell? ⟨Bm, 0, none⟩ = some (.pointer pv)) (h0 : J [] W) :
    CallsIn Fence.wide n Try.prog 38 #[.func (.yield l) #[] #[], .pointer (some ⟨Bm, 0, none⟩)] W fun e W' => (∃ v, e = .returned v) ∧ ((∃ ss : List KV, ss = L ∧ J ss W') ∨ (∃ pre, pre <+: L ∧ Jx pre W')) := by
  refine callsIn_of_wp Try.func38 rfl trivial ?_ rfl
  simp only [Try.ntmps38, List.size_toArray, List.length_cons, List.length_nil, Nat.reduceAdd, Nat.reduceSub, Array.replicate_succ, Array.replicate_zero, List.push_toArray, List.append_toArray, List.nil_append, List.cons_append]
  have HN := Aside0.mk hnod
  have H0 := Aside0.mk h0
  clear hnod h0
  gi_wp2_with (refine ⟨trivial, ?_⟩; gi_at_call 36; (refine (callsIn_wide.2 HN.out).mono ?_); rintro e w5 ⟨v, ns, rfl, hr, hv, hb⟩; obtain ⟨A5, c5, rfl, hl5, hC5⟩ := Kd.R_reads hr; have HR5 := Aside0.mk hr; have HV5 := Aside0.mk hv; have HB5 := Aside0.mk hb; clear hr hv hb hl5 hC5)
  have hlen5 : ns.length = L.length := by
    have := congrArg List.length HV5.out
    unfold nkv at this
    rw [List.length_map] at this
    exact this
  have HL5 := Aside0.mk hlen5
  clear hlen5
  gi_loopw [8] (fun v8 wr => ∃ i : Nat, v8 = .int .i64 (i : Int) ∧ Aside0 (i ≤ ns.length) ∧ Aside0 (Kd.R kN NT wr W.heap.size (fun _ => True) (.slice A5 ns.length c5) ns) ∧ Aside0 (J (L.take i) wr) ∧ Aside0 (W.heap.size ≤ wr.heap.size))
    (fun v8 _ => ns.length - (intOf v8).toNat)
  case atStart =>
    exact ⟨0, rfl, ⟨Nat.zero_le _⟩, HR5, ⟨hJ _ _ _ none H0.out (grown_of_below HB5.out none) (fun r e => by cases e)⟩, ⟨HB5.out.size⟩⟩
  case round =>
    clear HR5 H0
    obtain ⟨i, rfl, HI, HR, HJ, HS⟩ := hrel
    have hI := HI.out
    by_cases hi : i < ns.length
    · obtain ⟨ad, e5, x0, x1, x2, x3⟩ := at_N (Kd.R_reads' HR.out).2.2 (i : Int) (by omega) (by omega)
      subst e5
      rw [Int.toNat_natCast] at x0 x1 x2 x3
      have hxs : L.take (i + 1) = L.take i ++ [((rd_N ns (i : Int)).key, (rd_N ns (i : Int)).val)] := by
        rw [← HV5.out]
        unfold nkv
        rw [List.take_succ_eq_append_getElem (by rw [List.length_map]; exact hi), List.getElem_map]
        unfold rd_N
        rw [Int.toNat_natCast, List.getD_eq_getElem?_getD, List.getElem?_eq_getElem hi]
        rfl
      obtain ⟨s, hs⟩ : ∃ s, rd_N ns (i : Int) = s := ⟨_, rfl⟩
      rw [hs] at x0 x1 x2 x3 hxs
      have HXS := Aside0.mk hxs
      have q1 : (i : Int) < (ns.length : Int) := by omega
      have HM : Aside0 ((i : Int) ≤ 1000000) := ⟨by have := HL5.out; omega⟩
      have hJ1 : J (L.take i) (wr.alloc (.cells #[.string s.key, vl s.val, .pointer s.nx, .pointer s.pv] NT)) := hJ _ _ _ none HJ.out (World.grownBy_alloc _ _ _) (fun r e => by cases e)
      have hR1 := Kd.R_alloc HR.out (.cells #[.string s.key, vl s.val, .pointer s.nx, .pointer s.pv] NT)
      obtain ⟨fn, tmps, assign, body, hy, hYR⟩ := hY (L.take i) (s.key, s.val) _ hJ1 (by rw [← hxs]; exact List.take_prefix _ _)
      have HYR := Aside0.mk hYR
      have HR1 := Aside0.mk hR1
      clear hxs hs hJ1 hYR hR1
      dsimp only at hy
      unfold vl at x1 hy HYR HR1
      gi_wp2_with fail
      refine HYR.out.mono ?_
      rintro e W3 (⟨rfl, hJ3, hk3⟩ | ⟨rfl, hJx3⟩)
      · have HJ3 := Aside0.mk hJ3
        have HK3 := Aside0.mk hk3
        clear hJ3 hk3 HYR hy
        gi_wp2
        go_roundw
        case rel => exact ⟨i + 1, int_step HM.out, ⟨hi⟩, ⟨R_cellsKept HR1.out hB HK3.out⟩, ⟨by rw [HXS.out]; exact HJ3.out⟩, ⟨Nat.le_trans HS.out (Nat.le_trans (by simp) HK3.out.1)⟩⟩
        case measure => exact left_step HM.out hi
      · have HX := Aside0.mk (show L.take i ++ [(s.key, s.val)] <+: L by rw [← HXS.out]; exact List.take_prefix _ _)
        have HJ3 := Aside0.mk hJx3
        clear hJx3 HYR hy
        gi_wp2
        (try simp only [Exit.inBlock, Exit.then])
        refine bodyPost_ret (results_none rfl _ _ _) rfl ?_
        exact ⟨⟨_, rfl⟩, .inr ⟨_, HX.out, HJ3.out⟩⟩
    · have HE := Aside0.mk (show L.take i = L by rw [List.take_of_length_le]; have := HL5.out; omega)
      gi_wp2
      go_end0
      exact ⟨⟨_, rfl⟩, .inl ⟨L, rfl, by rw [← HE.out]; exact HJ.out⟩⟩
theorem all1_stops (n : Nat) (hn : 1 ≤ n) (Bm : Nat) (pv : Option Addr) (L : List KV) (hlen : L.length ≤ 100000) (w : World) (hBm : Bm < w.heap.size) (hm : w.cell? ⟨Bm, 0, none⟩ = some (.pointer pv))
    (hnod : ∀ W, Below w.heap.size w W → Calls Try.prog 36 #[.pointer pv] W fun e w' => ∃ v ns, e = .returned v ∧ Kd.R kN NT w' W.heap.size (fun _ => True) v ns ∧ nkv ns = L ∧ Below W.heap.size W w') :
    SeqStopsK Fence.wide n Try.prog 38 #[.pointer (some ⟨Bm, 0, none⟩)] (fun x : KV => #[.string x.1, vl x.2]) (KpC w.heap.size) (fun ys => ys = L) (fun pre => pre <+: L) L.length w := by
  intro l J Jx W hW hJ _ hY h0
  refine all1_in n hn l Bm pv L hlen W J Jx (hnod W hW) w.heap.size hW.size (fun pre x W1 hj hp => hY pre x W1 hj ?_) hJ ((hW.cell (p := ⟨Bm, 0, none⟩) hBm).trans hm) h0
  have := hp.length_le
  rw [List.length_append] at this
  simp at this
  omega
end Go.Proofs.Ytfmaoaigljjhgaa.Lru
