/- How many places of a range are in none that is reserved: ranges.Free, with its range over a function and its closure. -/
import Derived.Test.YtbalmnkbodcigaaGreatDoorRangeFree2
import Derived.Shelf.Abstract
set_option linter.unusedSimpArgs false
set_option linter.unusedVariables false
namespace Go.Proofs.YtbalmnkbodcigaaGreatDoor.RangeFree
open Go Go.RowKit Go.Maps Go.Proofs.YtbalmnkbodcigaaGreatDoorW.PrintWords Go.Proofs.YtbalmnkbodcigaaGreatDoorW.PrintLast Go.Proofs.YtbalmnkbodcigaaGreatDoorW.PrintMore Go.Proofs.YtbalmnkbodcigaaGreatDoor.RangeRow

/-- Reading the same row through another kind. -/
theorem row_of {α : Type} {d : Kd α} {q : α → Rng} {w : World} {A : Option Addr} {n : Nat} {l : List α} (hs : d.sz = 4) (hq : ∀ x cs, d.K w x cs → kR.K w (q x) cs) (h : Kd.C d w A n l) : Kd.C kR w A n (l.map q) := by
  obtain ⟨h1, h2, h3⟩ := h
  refine ⟨by rw [List.length_map]; exact h1, h2, fun hn => ?_⟩
  obtain ⟨ad, e, hrow⟩ := h3 hn
  refine ⟨ad, e, fun j p hj => ?_⟩
  rw [List.getElem?_map] at hj
  obtain ⟨x, hx, rfl⟩ := Option.map_eq_some_iff.mp hj
  obtain ⟨cs, k1, k2, k3⟩ := hrow j x hx
  refine ⟨cs, k1.trans hs, hq _ _ k2, ?_⟩
  rw [hs] at k3
  exact k3
def stepF (hasF : Rng → Adr → Option Bool) (addF : Adr → Int → Option (Bool × Int × Int × Bool)) (x : Rng) (l : List Rng) (i : Nat) : Option Int :=
  (addF ⟨x.six, x.hi, x.lo⟩ (i : Int)).bind fun t => (anyF hasF ⟨t.1, t.2.1, t.2.2.1⟩ l).bind fun v => some (if v = true then 0 else 1)
def countF (hasF : Rng → Adr → Option Bool) (addF : Adr → Int → Option (Bool × Int × Int × Bool)) (x : Rng) (l : List Rng) : Nat → Option Int
  | 0 => some 0
  | m + 1 => (countF hasF addF x l m).bind fun c => (stepF hasF addF x l m).bind fun d => some (c + d)
/-- How many places are free. -/
def freeF (hasF : Rng → Adr → Option Bool) (sizeF : Rng → Option Int) (addF : Adr → Int → Option (Bool × Int × Int × Bool)) (x : Rng) (l : List Rng) : Option Int :=
  if (l.length : Int) ≤ 4000000 then (sizeF x).bind fun n => if 0 ≤ n ∧ n ≤ 65536 then countF hasF addF x l n.toNat else none else none
def cnt (hasF : Rng → Adr → Option Bool) (l : List Rng) (pre : List Adr) : Int := pre.foldl (fun c y => c + (if anyF hasF y l = some true then 0 else 1)) 0
theorem cnt_snoc (hasF : Rng → Adr → Option Bool) (l : List Rng) (pre : List Adr) (y : Adr) : cnt hasF l (pre ++ [y]) = cnt hasF l pre + (if anyF hasF y l = some true then 0 else 1) := by
  unfold cnt
  rw [List.foldl_append]
  rfl
theorem fold_bound (hasF : Rng → Adr → Option Bool) (l : List Rng) : ∀ (pre : List Adr) (c : Int), c ≤ pre.foldl (fun c y => c + (if anyF hasF y l = some true then 0 else 1)) c ∧ pre.foldl (fun c y => c + (if anyF hasF y l = some true then 0 else 1)) c ≤ c + pre.length
  | [], c => ⟨Int.le_refl _, by simp⟩
  | y :: pre, c => by
    have ih := fold_bound hasF l pre (c + (if anyF hasF y l = some true then 0 else 1))
    rw [List.foldl_cons, List.length_cons]
    by_cases k : anyF hasF y l = some true
    · rw [if_pos k] at ih ⊢
      omega
    · rw [if_neg k] at ih ⊢
      omega
theorem cnt_bound (hasF : Rng → Adr → Option Bool) (l : List Rng) (pre : List Adr) : 0 ≤ cnt hasF l pre ∧ cnt hasF l pre ≤ pre.length := by
  have := fold_bound hasF l pre 0
  unfold cnt
  omega
theorem count_list {hasF : Rng → Adr → Option Bool} {addF : Adr → Int → Option (Bool × Int × Int × Bool)} {x : Rng} {l : List Rng} : ∀ (m : Nat) (c : Int), countF hasF addF x l m = some c →
    ∃ ls : List Adr, ls.length = m ∧ (∀ i (h : i < ls.length), ∃ ok, addF ⟨x.six, x.hi, x.lo⟩ (i : Int) = some (ls[i].six, ls[i].hi, ls[i].lo, ok)) ∧ (∀ y ∈ ls, ∃ v, anyF hasF y l = some v) ∧ cnt hasF l ls = c
  | 0, c, h => ⟨[], rfl, fun i hi => absurd hi (by simp), fun y hy => absurd hy (by simp), (Option.some.inj h : (0 : Int) = c)⟩
  | m + 1, c, h => by
    obtain ⟨c1, h1, h2⟩ := Option.bind_eq_some_iff.mp h
    obtain ⟨d, h3, h4⟩ := Option.bind_eq_some_iff.mp h2
    obtain ⟨t, h5, h6⟩ := Option.bind_eq_some_iff.mp h3
    obtain ⟨v, h7, h8⟩ := Option.bind_eq_some_iff.mp h6
    obtain ⟨ls, e1, e2, e3, e4⟩ := count_list m c1 h1
    refine ⟨ls ++ [⟨t.1, t.2.1, t.2.2.1⟩], by simp [e1], fun i hi => ?_, fun y hy => ?_, ?_⟩
    · by_cases c : i < ls.length
      · rw [List.getElem_append_left c]; exact e2 i c
      · rw [List.length_append] at hi
        have : i = ls.length := by simp at hi; omega
        subst this
        rw [List.getElem_append_right (Nat.le_refl _)]
        simp only [Nat.sub_self, List.getElem_cons_zero]
        rw [e1]
        exact ⟨t.2.2.2, h5⟩
    · rcases List.mem_append.1 hy with k | k
      · exact e3 y k
      · rw [List.mem_singleton.1 k]; exact ⟨v, h7⟩
    · rw [cnt_snoc, e4, h7, ← Option.some.inj h4, ← Option.some.inj h8]
      cases v <;> simp
theorem callsIn_round {l n : Nat} {P : Program} {f : FuncId} {args : Array Value} {w : World} {R : Ending → World → Prop} (h : Calls P f args w R) : CallsIn (Fence.wide.inRound l) n P f args w R := (callsIn_wide (n := n)).2 h
theorem four (w : World) (a b c d : Obj) : ((((w.alloc a).alloc b).alloc c).alloc d).heap[w.heap.size + 1]? = some b ∧ ((((w.alloc a).alloc b).alloc c).alloc d).heap[w.heap.size + 2]? = some c ∧ ((((w.alloc a).alloc b).alloc c).alloc d).heap[w.heap.size + 3]? = some d := by
  obtain ⟨w1, h1⟩ : ∃ w1, w.alloc a = w1 := ⟨_, rfl⟩
  obtain ⟨w2, h2⟩ : ∃ w2, w1.alloc b = w2 := ⟨_, rfl⟩
  obtain ⟨w3, h3⟩ : ∃ w3, w2.alloc c = w3 := ⟨_, rfl⟩
  have z1 : w1.heap.size = w.heap.size + 1 := by rw [← h1, World.size_alloc]
  have z2 : w2.heap.size = w.heap.size + 2 := by rw [← h2, World.size_alloc, z1]
  have z3 : w3.heap.size = w.heap.size + 3 := by rw [← h3, World.size_alloc, z2]
  rw [h1, h2, h3]
  refine ⟨?_, ?_, ?_⟩
  · rw [Below.heap_alloc _ _ _ (by omega), ← h3, Below.heap_alloc _ _ _ (by omega), ← h2, ← z1]; exact World.alloc_heap_new _ _
  · rw [Below.heap_alloc _ _ _ (by omega), ← h3, ← z2]; exact World.alloc_heap_new _ _
  · rw [← z3]; exact World.alloc_heap_new _ _
theorem ownFrom_block {β : Type} (B b : Nat) (cs : Array Value) (T : TypeId) (fz : Nat × Nat) : OwnFrom B (fun (_ : β) W => W.heap[b]? = some (.cells cs T fz)) := fun _ W W' row hs hg hr => by
  have hs' : W.heap[b]? = some (.cells cs T fz) := hs
  refine (hg.block b (Array.getElem?_eq_some_iff.1 hs').1 (fun e => ?_)).trans hs'
  obtain ⟨_, o, ho, hc⟩ := hr b e.symm
  rw [hs'] at ho
  cases ho
  cases hc
attribute [local go_sem] Oper.semAt_some
set_option maxRecDepth 100000 in
set_option maxHeartbeats 8000000 in
theorem free_in {hasF : Rng → Adr → Option Bool} {sizeF : Rng → Option Int} {addF : Adr → Int → Option (Bool × Int × Int × Bool)} (HH : HasLaw hasF) (HS : SizeLaw sizeF) (HD : AddLaw addF) (x : Rng) (l : List Rng) (ls : List {y : Adr // ∃ v, anyF hasF y l = some v}) (hl : (l.length : Int) ≤ 4000000) (hsz : sizeF x = some (ls.length : Int)) (hlen : (ls.length : Int) ≤ 65536)
    (hadd : ∀ i (h : i < ls.length), ∃ ok, addF ⟨x.six, x.hi, x.lo⟩ (i : Int) = some (ls[i].val.six, ls[i].val.hi, ls[i].val.lo, ok)) (A : Option Addr) (c : Nat) (w : World) (hR : Kd.C kR w A l.length l) (n : Nat) (hn : 5 ≤ n) :
    CallsIn Fence.wide n Tryz.prog 22 #[x.val, .slice A l.length c] w fun e w' => e = .returned (.int .i64 (cnt hasF l (ls.map Subtype.val))) ∧ Below w.heap.size w w' := by
  have h1 : 1 ≤ n := by omega
  have HR := Aside0.mk hR
  have HLL := Aside0.mk hl
  have HLEN := Aside0.mk hlen
  have HSEQ : Aside0 (∀ (Be : Nat) (W : World), W.heap[Be]? = some (.cells #[.bool x.six, .int .u64 x.hi, .int .u64 x.lo, .int .i64 x.bits] 26 (0, 0)) → SeqStopsK Fence.wide (n - 1) Tryz.prog 63 #[.pointer (some ⟨Be, 0, none⟩)] (fun y : {y : Adr // ∃ v, anyF hasF y l = some v} => #[y.val.val]) (KpE Be) (fun ys => ys = ls) (fun pre => pre <+: ls) ls.length W) :=
    ⟨fun Be W hm => each1_stops Subtype.val HS HD (n - 1) (by omega) Be x ls hsz hlen hadd W hm⟩
  clear hR hl hlen hsz hadd HS HD
  obtain ⟨xs, xh, xl, xb⟩ := x
  simp only [Rng.val]
  refine callsIn_of_wp_marks Tryz.func22 rfl trivial ?_ rfl
  simp only [Tryz.ntmps22, List.size_toArray, List.length_cons, List.length_nil, Nat.reduceAdd, Nat.reduceSub, Array.replicate_succ, Array.replicate_zero, List.push_toArray, List.append_toArray, List.nil_append, List.cons_append]
  have HE : Aside0 (∀ W : World, CallsIn Fence.wide (n - 1) Tryz.prog 40 #[.agg #[.bool xs, .int .u64 xh, .int .u64 xl, .int .i64 xb]] W fun e w' => e = .returned (.func (.func 63) #[] #[.pointer (some ⟨W.heap.size, 0, none⟩)]) ∧ w' = W.alloc (.cells #[.bool xs, .int .u64 xh, .int .u64 xl, .int .i64 xb] 26)) := ⟨fun W => each_calls (n - 1) ⟨xs, xh, xl, xb⟩ W⟩
  gi_wp2_with (refine ⟨trivial, ?_⟩; gi_at_call 40; (with_reducible refine CallsIn.mono (HE.out _) ?_); rintro e w5 ⟨rfl, rfl⟩)
  obtain ⟨wA, hwA⟩ : ∃ wA, (((w.alloc (.cells #[.bool xs, .int .u64 xh, .int .u64 xl, .int .i64 xb] 26)).alloc (.cells #[.slice A l.length c] 27)).alloc (.cells #[.int .i64 0] 3)).alloc (.cells #[.bool xs, .int .u64 xh, .int .u64 xl, .int .i64 xb] 26) = wA := ⟨_, rfl⟩
  have hbA : Below w.heap.size w wA := by rw [← hwA]; exact ((((Below.refl _ _).alloc (Nat.le_refl _) _).alloc (by simp) _).alloc (by simp; omega) _).alloc (by simp; omega) _
  have hzA : wA.heap.size = w.heap.size + 4 := by rw [← hwA]; simp
  obtain ⟨f1, f2, f3⟩ := four w (.cells #[.bool xs, .int .u64 xh, .int .u64 xl, .int .i64 xb] 26) (.cells #[.slice A l.length c] 27) (.cells #[.int .i64 0] 3) (.cells #[.bool xs, .int .u64 xh, .int .u64 xl, .int .i64 xb] 26)
  rw [hwA] at f1 f2 f3
  have hseq := HSEQ.out (w.heap.size + 3) wA f3
  rw [hwA]
  have HBA := Aside0.mk hbA
  have HZA := Aside0.mk hzA
  clear hwA HSEQ HE
  refine wpIn_rangeFunc_ownH rfl h1 (gf := 63) (lb := #[.pointer (some ⟨w.heap.size + 3, 0, none⟩)]) rfl trivial (enters_of Tryz.func63 (by kernel_rfl) rfl) hseq (fun a b => a.trans b)
    (fun W lo o o' hlo hc _ _ => ⟨by simp, fun q hq => by rw [World.putObj_heap_other (fun e => by have := HZA.out; omega)]; exact hq⟩) (Below.refl _ _) (fun _ => rfl)
    (fun pre W => Boxed W (w.heap.size + 2) 3 (.int .i64 (cnt hasF l (pre.map Subtype.val))) ∧ Boxed W (w.heap.size + 1) 27 (.slice A l.length c) ∧ Below w.heap.size w W)
    (fun _ _ _ => False)
    (OwnFrom.and (Own.from (boxed_own _ _ _) _) (OwnFrom.and (Own.from (boxed_own _ _ _) _) (ownFrom_below (Nat.le_refl _) (by have := HZA.out; omega))))
    (fun _ _ _ _ _ hs _ _ => hs)
    ⟨f2, f1, hbA⟩
    (fun y a' W => ∃ b, a' = { tmps := #[.agg #[.bool xs, .int .u64 xh, .int .u64 xl, .int .i64 xb], .slice A l.length c, .pointer (some ⟨w.heap.size, 0, none⟩), .pointer (some ⟨w.heap.size + 1, 0, none⟩), .int .i64 0, .pointer (some ⟨w.heap.size + 1 + 1, 0, none⟩), .pointer (some ⟨b, 0, none⟩), .agg #[.bool xs, .int .u64 xh, .int .u64 xl, .int .i64 xb], .func (.func 63) #[] #[.pointer (some ⟨w.heap.size + 1 + 1 + 1, 0, none⟩)], y.val.val, undef, undef, undef, undef, undef, undef, undef], defers := [] } ∧ W.heap[b]? = some (.cells #[.bool y.val.six, .int .u64 y.val.hi, .int .u64 y.val.lo] 24 (0, 0)))
    (fun y a' => fun s W W' row hs hg hr => by
      obtain ⟨b, e, hc⟩ := hs
      exact ⟨b, e, ownFrom_block (β := Unit) _ _ _ _ _ s W W' row hc hg hr⟩)
    ?assign ?body ?done ?stop
  case assign =>
    rintro lo pre ⟨⟨s6, hi6, lo6⟩, hy6⟩ W K ⟨hv, hs, hbW⟩ hK
    simp only [Adr.val]
    have HK := Aside0.mk hK
    have HV := Aside0.mk hv
    have HS := Aside0.mk hs
    have HBW := Aside0.mk hbW
    clear hK hv hs hbW
    gi_wp2
    exact HK.out _ _ ((KeepsOthers.alloc _ _).from _) ⟨by simp, fun o ho => by rw [Below.heap_alloc _ _ _ ((Array.getElem?_eq_some_iff.1 ho).1)]; exact ho⟩ ⟨HV.out.alloc _, HS.out.alloc _, HBW.out.alloc HBW.out.size _⟩ ⟨_, rfl, World.alloc_heap_new _ _⟩
  case body =>
    rintro lo pre y a' W hlo _ ⟨hv, hs, hbW⟩ ⟨b, rfl, hc⟩ hlt
    obtain ⟨v, hy⟩ := y.property
    have hb := (Array.getElem?_eq_some_iff.1 hc).1
    have HC := Aside0.mk (contains_calls HH y.val l v hy HLL.out A c b W (Kd.C_below HR.out hbW) hb (cell_of hc 0) (cell_of hc 1) (cell_of hc 2))
    have hcs : W.cell? ⟨w.heap.size + 1, 0, none⟩ = some (.slice A l.length c) := hs.cell
    have HS := Aside0.mk hs
    have HV := Aside0.mk hv
    have HBW := Aside0.mk hbW
    have HCN : Aside0 (∀ w1, Below W.heap.size W w1 → Boxed w1 (w.heap.size + 2) 3 (.int .i64 (cnt hasF l (pre.map Subtype.val)))) := ⟨fun w1 h => (h.block _ hv.lt).trans hv⟩
    have HCS : Aside0 (∀ w1, Below W.heap.size W w1 → Boxed w1 (w.heap.size + 1) 27 (.slice A l.length c)) := ⟨fun w1 h => (h.block _ hs.lt).trans hs⟩
    have hst : cnt hasF l ((pre ++ [y]).map Subtype.val) = cnt hasF l (pre.map Subtype.val) + (if v = true then 0 else 1) := by
      rw [List.map_append, List.map_cons, List.map_nil, cnt_snoc, hy]
      cases v <;> simp
    have hcb := cnt_bound hasF l (pre.map Subtype.val)
    rw [List.length_map] at hcb
    have hw : wrap64 (cnt hasF l (pre.map Subtype.val) + 1) = cnt hasF l (pre.map Subtype.val) + 1 := by
      have := HLEN.out
      unfold wrap64; omega
    generalize cnt hasF l (pre.map Subtype.val) = kc at *
    have HST := Aside0.mk hst
    have HW := Aside0.mk hw
    clear hv hs hbW hy hst hcb hw hc hb
    cases v with
    | true =>
      gi_wp2_with (refine ⟨trivial, fun hd => by simp [Fence.wide] at hd, ?_⟩; gi_at_call 41; (with_reducible refine CallsIn.mono (callsIn_round HC.out) ?_); rintro e w1 ⟨rfl, hb1⟩; have HB1 := Aside0.mk hb1; clear hb1)
      refine ⟨KeepsFrom.of_grownBy (grown_of_below HB1.out none) (fun j e => by cases e), ⟨HB1.out.size, fun o ho => (HB1.out.block _ (Array.getElem?_eq_some_iff.1 ho).1).trans ho⟩, ?_, HCS.out _ HB1.out, HBW.out.trans (HB1.out.mono HBW.out.size)⟩
      rw [HST.out, if_pos trivial, Int.add_zero]
      exact HCN.out _ HB1.out
    | false =>
      gi_wp2_with (refine ⟨trivial, fun hd => by simp [Fence.wide] at hd, ?_⟩; gi_at_call 41; (with_reducible refine CallsIn.mono (callsIn_round HC.out) ?_); rintro e w1 ⟨rfl, hb1⟩; have HB1 := Aside0.mk hb1; have hcn : w1.cell? ⟨w.heap.size + 1 + 1, 0, none⟩ = some (.int .i64 kc) := (HCN.out _ hb1).cell; have hfn : w1.frozen? ⟨w.heap.size + 1 + 1, 0, none⟩ = false := (HCN.out _ hb1).frozen; clear hb1)
      refine ⟨(KeepsFrom.of_grownBy (grown_of_below HB1.out none) (fun j e => by cases e)).trans ((KeepsOthers.setCell _ _ _).from _), ⟨by simpa using HB1.out.size, fun o ho => by rw [Below.heap_setCell _ _ _ _ (by simp only; omega)]; exact (HB1.out.block _ (Array.getElem?_eq_some_iff.1 ho).1).trans ho⟩, ?_, (HCS.out _ HB1.out).other (by omega) _, (HBW.out.trans (HB1.out.mono HBW.out.size)).setCell (by simp only; omega) _⟩
      rw [HST.out, if_neg (by simp)]
      have := (HCN.out _ HB1.out).set (.int .i64 (wrap64 (kc + 1)))
      rw [HW.out] at this ⊢
      exact this
  case done =>
    rintro D ys W hD rfl ⟨hv, hs, hbW⟩ hK
    obtain ⟨kc, hk⟩ : ∃ kc, cnt hasF l (ys.map Subtype.val) = kc := ⟨_, rfl⟩
    rw [hk] at hv
    have HKC := Aside0.mk hk
    clear hk
    have hcn : W.cell? ⟨w.heap.size + 1 + 1, 0, none⟩ = some (.int .i64 kc) := hv.cell
    have HBW := Aside0.mk hbW
    have HKD := Aside0.mk hK
    clear hv hs hbW hK
    gi_wp2
    refine ⟨by simp, .inl ⟨_, _, rfl, run_takeDeferred HKD.out, ?_⟩⟩
    exact ⟨_, results_tmp rfl _ _ _, by rw [HKC.out]; rfl, HBW.out.trans (belowK_b (w := w) (Nat.le_refl _) _ D _ _ (by have := HZA.out; omega) HKD.out rfl rfl)⟩
  case stop =>
    rintro D c pre W _ _ h _
    exact h.elim
theorem sub_list {β : Type} {P : β → Prop} : ∀ (l : List β), (∀ y ∈ l, P y) → ∃ ls : List {y // P y}, ls.map Subtype.val = l
  | [], _ => ⟨[], rfl⟩
  | y :: l, h => by
    obtain ⟨ls, e⟩ := sub_list l (fun z hz => h z (List.mem_cons_of_mem _ hz))
    exact ⟨⟨y, h y (List.mem_cons_self)⟩ :: ls, by rw [List.map_cons, e]⟩
theorem free_calls (hasF : Rng → Adr → Option Bool) (sizeF : Rng → Option Int) (addF : Adr → Int → Option (Bool × Int × Int × Bool)) (HH : HasLaw hasF) (HS : SizeLaw sizeF) (HD : AddLaw addF) (x : Rng) (l : List Rng) (r : Int) (h : freeF hasF sizeF addF x l = some r) (A : Option Addr) (c : Nat) (w : World) (hR : Kd.C kR w A l.length l) :
    Calls Tryz.prog 22 #[x.val, .slice A l.length c] w fun e w' => e = .returned (.int .i64 r) ∧ Below w.heap.size w w' := by
  unfold freeF at h
  by_cases hl : (l.length : Int) ≤ 4000000
  · rw [if_pos hl] at h
    obtain ⟨m, hm, h⟩ := Option.bind_eq_some_iff.mp h
    by_cases hb : 0 ≤ m ∧ m ≤ 65536
    · rw [if_pos hb] at h
      obtain ⟨ls0, e1, e2, e3, e4⟩ := count_list _ _ h
      obtain ⟨ls, rfl⟩ := sub_list (P := fun y => ∃ v, anyF hasF y l = some v) ls0 e3
      rw [List.length_map] at e1
      rw [← e4]
      refine callsIn_wide.1 (free_in HH HS HD x l ls hl (by rw [hm, e1]; congr 1; omega) (by omega) (fun i hi => ?_) A c w hR 5 (Nat.le_refl _))
      obtain ⟨ok, hok⟩ := e2 i (by rw [List.length_map]; exact hi)
      rw [List.getElem_map] at hok
      exact ⟨ok, hok⟩
    · rw [if_neg hb] at h; cases h
  · rw [if_neg hl] at h; cases h
end Go.Proofs.YtbalmnkbodcigaaGreatDoor.RangeFree
