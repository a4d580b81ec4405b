/- An address out of its name in the other direction: addr.Back. -/
import Derived.Test.YtilobbjnmnnmnaaGreatDoorAddrBack
set_option linter.unusedSimpArgs false
set_option linter.unusedVariables false
namespace Go.Proofs.YtilobbjnmnnmnaaGreatDoor.AddrLib
open Go.RowKit Go.Lib Go.Proofs.YtilobbjnmnnmnaaGreatDoorW.PrintWords Go.Proofs.YtilobbjnmnnmnaaGreatDoorW.PrintLast Go.Proofs.YtilobbjnmnnmnaaGreatDoorW.PrintMore

section
open Go.Shelf
def backOfF (lb : ByteArray → Option (List ByteArray)) (bk : List ByteArray → Option (Bool × Int × Int × Bool)) (rev : Bool → Int → Int → Option (ByteArray × Int)) (same : ByteArray → ByteArray → Option Bool) (s : ByteArray) : Option (Bool × Int × Int × Bool) :=
  (lb s).bind fun l => (bk l).bind fun t => if t.2.2.2 = true then ((rev t.1 t.2.1 t.2.2.1).bind fun p => if p.2 = 0 then ((same p.1 s).bind fun b => some (if b = true then (t.1, t.2.1, t.2.2.1, true) else (false, 0, 0, false))) else some (false, 0, 0, false)) else some (false, 0, 0, false)
theorem backOf_results (tmps : Array Value) (p : Nat) (a : Bool) (b c : Int) (d : Bool) (w : World) (hp : tmps.getD 2 undef = .pointer (some ⟨p, 0, none⟩)) (hq : tmps.getD 3 undef = .bool d)
    (h : w.heap[p]? = some (.cells #[.bool a, .int .u64 b, .int .u64 c] 24 (0, 0))) :
    (results Tryz.f43 tmps).run Tryz.prog w = .ok (.tuple #[.agg #[.bool a, .int .u64 b, .int .u64 c], .bool d]) w := by
  have hr : Tryz.f43.results = #[ResultVar.cell 2 24, ResultVar.tmp 3] := by kernel_rfl
  have hp' : tmps[2]?.getD undef = .pointer (some ⟨p, 0, none⟩) := by simpa using hp
  have hq' : tmps[3]?.getD undef = .bool d := by simpa using hq
  have h0 := blk_cell h 0
  have h1 := blk_cell h 1
  have h2 := blk_cell h 2
  simp only [List.getElem?_toArray, List.getElem?_cons_zero, List.getElem?_cons_succ] at h0 h1 h2
  simp [results, hr, go_sem, h0, h1, h2, hp', hq']
/-- A result's box, written whole. -/
theorem box_set3 {W : World} {g : Nat} {x : Array Value} (hx : x.size = 3) (h : W.heap[g]? = some (.cells x 24 (0, 0))) (a : Bool) (b c : Int) :
    (((W.setCell ⟨g, 0, none⟩ (.bool a)).setCell ⟨g, 1, none⟩ (.int .u64 b)).setCell ⟨g, 2, none⟩ (.int .u64 c)).heap[g]? = some (.cells #[.bool a, .int .u64 b, .int .u64 c] 24 (0, 0)) := by
  have := blk_set (blk_set (blk_set h 0 (.bool a)) 1 (.int .u64 b)) 2 (.int .u64 c)
  rw [this]
  obtain ⟨p, q, r, rfl⟩ : ∃ p q r, x = #[p, q, r] := by
    obtain ⟨l⟩ := x
    match l, hx with
    | [p, q, r], _ => exact ⟨p, q, r, rfl⟩
  rfl
set_option maxRecDepth 100000 in
set_option maxHeartbeats 2000000 in
theorem backOf_calls (lb : ByteArray → Option (List ByteArray)) (bk : List ByteArray → Option (Bool × Int × Int × Bool)) (rev : Bool → Int → Int → Option (ByteArray × Int)) (same : ByteArray → ByteArray → Option Bool)
    (s : ByteArray) (a : Bool) (b c : Int) (d : Bool) (w : World) (hG : G w)
    (hlb : ∀ (l : List ByteArray) (w : World), lb s = some l → Calls Tryz.prog 37 #[.string s] w fun e w' => ∃ v0_ : Value, e = .returned (v0_) ∧ Kd.R Kd.string 9 w' w.heap.size (fun _ => True) v0_ l ∧ Below w.heap.size w w')
    (hbk : ∀ (l : List ByteArray) (a : Bool) (b c : Int) (d : Bool) (u : Value) (w0 w : World), bk l = some (a, b, c, d) → Below w0.heap.size w0 w → Kd.R Kd.string 9 w w0.heap.size (fun _ => True) u l → Calls Tryz.prog 77 #[u] w fun e w' => e = .returned (.tuple #[.agg #[.bool a, .int .u64 b, .int .u64 c], .bool d]) ∧ Below w0.heap.size w0 w')
    (hrev : ∀ (a : Bool) (b c : Int) (r : ByteArray) (x : Int) (w : World), G w → rev a b c = some (r, x) → Calls Tryz.prog 36 #[.agg #[.bool a, .int .u64 b, .int .u64 c]] w fun e w' => e = .returned (.tuple #[.string r, .int .i64 x]) ∧ Below w.heap.size w w')
    (hsame : ∀ (r : ByteArray) (t : Bool) (w : World), same r s = some t → Calls Tryz.prog 78 #[.string r, .string s] w fun e w' => e = .returned (.bool t) ∧ Below w.heap.size w w')
    (h : backOfF lb bk rev same s = some (a, b, c, d)) :
    Calls Tryz.prog 43 #[.string s] w fun e w' => e = .returned (.tuple #[.agg #[.bool a, .int .u64 b, .int .u64 c], .bool d]) ∧ Below w.heap.size w w' := by
  unfold backOfF at h
  replace h := Option.bind_eq_some_iff.1 h
  obtain ⟨l, hl, h⟩ := h
  replace h := Option.bind_eq_some_iff.1 h
  obtain ⟨⟨x, y, z, ok⟩, hb, h⟩ := h
  have HLB := Aside0.mk (fun W => hlb l W hl)
  have HBK := Aside0.mk (fun u w0 W h1 h2 => hbk l x y z ok u w0 W hb h1 h2)
  have HG := Aside0.mk hG
  have H := Aside0.mk h
  clear hlb hbk hl hb h hG
  have f0 := World.alloc_heap_new w (.cells #[.bool false, .int .u64 0, .int .u64 0] 24)
  have hb0 := below_alloc (Below.refl w.heap.size w) (.cells #[.bool false, .int .u64 0, .int .u64 0] 24)
  cases ok with
  | false =>
    have h := H.out
    rw [if_neg (by simp)] at h
    obtain ⟨rfl, rfl, rfl, rfl⟩ : false = a ∧ 0 = b ∧ 0 = c ∧ false = d := by simpa using h
    go_enter Tryz.func43, Tryz.ntmps43
    go_wp2_with (first
      | (go_at_call 37; (with_reducible refine (HLB.out _).mono ?_); rintro e w3 ⟨u, rfl, hR3, hb3⟩; have HR3 := Aside0.mk hR3; have HB3 := Aside0.mk hb3; clear hR3 hb3)
      | (go_at_call 77; (with_reducible refine (HBK.out _ _ _ HB3.out HR3.out).mono ?_); rintro e w4 ⟨rfl, hb4⟩; have f4 : w4.heap[w.heap.size]? = some (.cells #[.bool false, .int .u64 0, .int .u64 0] 24 (0, 0)) := (hb4.block _ (by simp)).trans f0; have hn4 : w.heap.size < w4.heap.size := blk_lt f4; have F4 := Aside0.mk f4; have HB4 := Aside0.mk (hb0.trans (hb4.mono (by simp))); have z0 := fun o => blk_cell (blk_alloc f4 o) 0; have z1 := fun o => blk_cell (blk_alloc f4 o) 1; have z2 := fun o => blk_cell (blk_alloc f4 o) 2; have y0 := fun o => blk_frozen (blk_alloc f4 o) 0; have y1 := fun o => blk_frozen (blk_alloc f4 o) 1; have y2 := fun o => blk_frozen (blk_alloc f4 o) 2; have u0 := blk_cell f4 0; have u1 := blk_cell f4 1; have u2 := blk_cell f4 2; have v0 := blk_frozen f4 0; have v1 := blk_frozen f4 1; have v2 := blk_frozen f4 2; clear hb4 f4; simp only [List.getElem?_toArray, List.getElem?_cons_zero, List.getElem?_cons_succ] at z0 z1 z2 u0 u1 u2))
    refine bodyPost_ret (backOf_results _ w.heap.size false 0 0 false _ rfl rfl (blk_alloc (box_set3 rfl F4.out false 0 0) _)) rfl ⟨rfl, ?_⟩
    exact below_alloc (below_set (below_set (below_set HB4.out (Nat.le_refl _)) (Nat.le_refl _)) (Nat.le_refl _)) _
  | true =>
    have h := H.out
    rw [if_pos rfl] at h
    replace h := Option.bind_eq_some_iff.1 h
    obtain ⟨⟨n, e⟩, hr, h⟩ := h
    have HREV := Aside0.mk (fun W hg => hrev x y z n e W hg hr)
    clear hrev hr H
    by_cases he : e = 0
    · subst he
      rw [if_pos rfl] at h
      replace h := Option.bind_eq_some_iff.1 h
      obtain ⟨sm, hs, h⟩ := h
      have HSM := Aside0.mk (fun W => hsame n sm W hs)
      have H := Aside0.mk h
      clear hsame hs h
      cases sm with
      | false =>
        obtain ⟨rfl, rfl, rfl, rfl⟩ : false = a ∧ 0 = b ∧ 0 = c ∧ false = d := by simpa using H.out
        go_enter Tryz.func43, Tryz.ntmps43
        go_wp2_with (first
          | (go_at_call 37; (with_reducible refine (HLB.out _).mono ?_); rintro e w3 ⟨u, rfl, hR3, hb3⟩; have HR3 := Aside0.mk hR3; have HB3 := Aside0.mk hb3; clear hR3 hb3)
          | (go_at_call 77; (with_reducible refine (HBK.out _ _ _ HB3.out HR3.out).mono ?_); rintro e w4 ⟨rfl, hb4⟩; have f4 : w4.heap[w.heap.size]? = some (.cells #[.bool false, .int .u64 0, .int .u64 0] 24 (0, 0)) := (hb4.block _ (by simp)).trans f0; have F4 := Aside0.mk f4; have HB4 := Aside0.mk (hb0.trans (hb4.mono (by simp))); clear hb4 f4)
          | (go_at_call 36; (with_reducible refine (HREV.out _ (HG.out.below (below_alloc HB4.out _))).mono ?_); rintro e w5 ⟨rfl, hb5⟩; have F5 := Aside0.mk ((hb5.block _ (by have := blk_lt F4.out; simp; omega)).trans (blk_alloc F4.out _)); have Q5 := Aside0.mk ((hb5.block _ (by simp)).trans (World.alloc_heap_new w4 (.cells #[.bool x, .int .u64 y, .int .u64 z] 24))); have HB5 := Aside0.mk ((below_alloc HB4.out _).trans (hb5.mono (by have := blk_lt F4.out; simp; omega))); clear hb5)
          | (go_at_call 78; (with_reducible refine (HSM.out _).mono ?_); rintro e w6 ⟨rfl, hb6⟩; have f6 := (hb6.block _ (blk_lt F5.out)).trans F5.out; have q6 := (hb6.block _ (blk_lt Q5.out)).trans Q5.out; have F6 := Aside0.mk f6; have HB6 := Aside0.mk (HB5.out.trans (hb6.mono (by have := blk_lt F5.out; omega))); have u0 := blk_cell f6 0; have u1 := blk_cell f6 1; have u2 := blk_cell f6 2; have v0 := blk_frozen f6 0; have v1 := blk_frozen f6 1; have v2 := blk_frozen f6 2; have t0 := blk_cell q6 0; have t1 := blk_cell q6 1; have t2 := blk_cell q6 2; clear hb6 f6 q6; simp only [List.getElem?_toArray, List.getElem?_cons_zero, List.getElem?_cons_succ] at u0 u1 u2 t0 t1 t2))
        refine bodyPost_ret (backOf_results _ w.heap.size false 0 0 false _ rfl rfl (box_set3 rfl F6.out false 0 0)) rfl ⟨rfl, ?_⟩
        exact below_set (below_set (below_set HB6.out (Nat.le_refl _)) (Nat.le_refl _)) (Nat.le_refl _)
      | true =>
        obtain ⟨rfl, rfl, rfl, rfl⟩ : x = a ∧ y = b ∧ z = c ∧ true = d := by simpa using H.out
        go_enter Tryz.func43, Tryz.ntmps43
        go_wp2_with (first
          | (go_at_call 37; (with_reducible refine (HLB.out _).mono ?_); rintro e w3 ⟨u, rfl, hR3, hb3⟩; have HR3 := Aside0.mk hR3; have HB3 := Aside0.mk hb3; clear hR3 hb3)
          | (go_at_call 77; (with_reducible refine (HBK.out _ _ _ HB3.out HR3.out).mono ?_); rintro e w4 ⟨rfl, hb4⟩; have f4 : w4.heap[w.heap.size]? = some (.cells #[.bool false, .int .u64 0, .int .u64 0] 24 (0, 0)) := (hb4.block _ (by simp)).trans f0; have F4 := Aside0.mk f4; have HB4 := Aside0.mk (hb0.trans (hb4.mono (by simp))); clear hb4 f4)
          | (go_at_call 36; (with_reducible refine (HREV.out _ (HG.out.below (below_alloc HB4.out _))).mono ?_); rintro e w5 ⟨rfl, hb5⟩; have F5 := Aside0.mk ((hb5.block _ (by have := blk_lt F4.out; simp; omega)).trans (blk_alloc F4.out _)); have Q5 := Aside0.mk ((hb5.block _ (by simp)).trans (World.alloc_heap_new w4 (.cells #[.bool x, .int .u64 y, .int .u64 z] 24))); have HB5 := Aside0.mk ((below_alloc HB4.out _).trans (hb5.mono (by have := blk_lt F4.out; simp; omega))); clear hb5)
          | (go_at_call 78; (with_reducible refine (HSM.out _).mono ?_); rintro e w6 ⟨rfl, hb6⟩; have f6 := (hb6.block _ (blk_lt F5.out)).trans F5.out; have q6 := (hb6.block _ (blk_lt Q5.out)).trans Q5.out; have F6 := Aside0.mk f6; have HB6 := Aside0.mk (HB5.out.trans (hb6.mono (by have := blk_lt F5.out; omega))); have u0 := blk_cell f6 0; have u1 := blk_cell f6 1; have u2 := blk_cell f6 2; have v0 := blk_frozen f6 0; have v1 := blk_frozen f6 1; have v2 := blk_frozen f6 2; have t0 := blk_cell q6 0; have t1 := blk_cell q6 1; have t2 := blk_cell q6 2; clear hb6 f6 q6; simp only [List.getElem?_toArray, List.getElem?_cons_zero, List.getElem?_cons_succ] at u0 u1 u2 t0 t1 t2))
        refine bodyPost_ret (backOf_results _ w.heap.size x y z true _ rfl rfl (box_set3 rfl F6.out x y z)) rfl ⟨rfl, ?_⟩
        exact below_set (below_set (below_set HB6.out (Nat.le_refl _)) (Nat.le_refl _)) (Nat.le_refl _)
    · rw [if_neg he] at h
      obtain ⟨rfl, rfl, rfl, rfl⟩ : false = a ∧ 0 = b ∧ 0 = c ∧ false = d := by simpa using h
      have e1 : (e == 0) = false := beq_eq_false_iff_ne.2 he
      have e2 : (e != 0) = true := bne_iff_ne.2 he
      clear h hsame he
      go_enter Tryz.func43, Tryz.ntmps43
      go_wp2_with (first
        | (go_at_call 37; (with_reducible refine (HLB.out _).mono ?_); rintro e w3 ⟨u, rfl, hR3, hb3⟩; have HR3 := Aside0.mk hR3; have HB3 := Aside0.mk hb3; clear hR3 hb3)
        | (go_at_call 77; (with_reducible refine (HBK.out _ _ _ HB3.out HR3.out).mono ?_); rintro e w4 ⟨rfl, hb4⟩; have f4 : w4.heap[w.heap.size]? = some (.cells #[.bool false, .int .u64 0, .int .u64 0] 24 (0, 0)) := (hb4.block _ (by simp)).trans f0; have F4 := Aside0.mk f4; have HB4 := Aside0.mk (hb0.trans (hb4.mono (by simp))); clear hb4 f4)
        | (go_at_call 36; (with_reducible refine (HREV.out _ (HG.out.below (below_alloc HB4.out _))).mono ?_); rintro e w5 ⟨rfl, hb5⟩; have f5 := (hb5.block _ (by have := blk_lt F4.out; simp; omega)).trans (blk_alloc F4.out _); have F5 := Aside0.mk f5; have HB5 := Aside0.mk ((below_alloc HB4.out _).trans (hb5.mono (by have := blk_lt F4.out; simp; omega))); have u0 := blk_cell f5 0; have u1 := blk_cell f5 1; have u2 := blk_cell f5 2; have v0 := blk_frozen f5 0; have v1 := blk_frozen f5 1; have v2 := blk_frozen f5 2; clear hb5 f5; simp only [List.getElem?_toArray, List.getElem?_cons_zero, List.getElem?_cons_succ] at u0 u1 u2))
      refine bodyPost_ret (backOf_results _ w.heap.size false 0 0 false _ rfl rfl (box_set3 rfl F5.out false 0 0)) rfl ⟨rfl, ?_⟩
      exact below_set (below_set (below_set HB5.out (Nat.le_refl _)) (Nat.le_refl _)) (Nat.le_refl _)
theorem backF_mono {rv rv' : List ByteArray → Option (List ByteArray)} {el el' : ByteArray → Option (Bool × Int × Int × Bool)} {of of' : List Int → Option (Bool × Int × Int)} (jn : List ByteArray → ByteArray → Option ByteArray) (nm : ByteArray → Int → Int → Option (Int × Bool)) (h1 : ∀ l, LeO (rv l) (rv' l)) (h2 : ∀ s, LeO (el s) (el' s)) (h3 : ∀ l, LeO (of l) (of' l)) (l : List ByteArray) : LeO (backF rv jn el nm of l) (backF rv' jn el' nm of' l) := by
  unfold backF
  exact LeO.ite (LeO.refl _) (LeO.bind (h1 _) (fun _ => LeO.ite (LeO.bind (LeO.refl _) h2) (LeO.ite (LeO.bind (LeO.refl _) (fun _ => LeO.bind (h3 _) (fun _ => LeO.refl _))) (LeO.refl _))))
theorem backOfF_mono {lb lb' : ByteArray → Option (List ByteArray)} {bk bk' : List ByteArray → Option (Bool × Int × Int × Bool)} {rev rev' : Bool → Int → Int → Option (ByteArray × Int)} {same same' : ByteArray → ByteArray → Option Bool} (h1 : ∀ s, LeO (lb s) (lb' s)) (h2 : ∀ l, LeO (bk l) (bk' l)) (h3 : ∀ a b c, LeO (rev a b c) (rev' a b c)) (h4 : ∀ a b, LeO (same a b) (same' a b)) (s : ByteArray) : LeO (backOfF lb bk rev same s) (backOfF lb' bk' rev' same' s) := by
  unfold backOfF
  exact LeO.bind (h1 _) (fun _ => LeO.bind (h2 _) (fun _ => LeO.ite (LeO.bind (h3 _ _ _) (fun _ => LeO.ite (LeO.bind (h4 _ _) (fun _ => LeO.refl _)) (LeO.refl _))) (LeO.refl _)))
end
end Go.Proofs.YtilobbjnmnnmnaaGreatDoor.AddrLib
