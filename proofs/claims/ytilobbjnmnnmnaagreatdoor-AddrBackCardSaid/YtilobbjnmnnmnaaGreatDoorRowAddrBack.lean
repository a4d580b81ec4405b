/- The row of the law AddrBack, and its card: whatever the arguments, its call returns true, and nothing that was there before has turned. Condition: the listed variables of Go's library read as they are laid; the card ties them to the program's text. -/
import Derived.Test.YtilobbjnmnnmnaaGreatDoorAddrWorld
import Derived.Test.YtilobbjnmnnmnaaGreatDoorRows
import Derived.HandedShaped
import Derived.Shelf.Vars
import Derived.Lib.LaidTab
import Derived.MakeChecks
import Derived.Test.YtilobbjnmnnmnaaGreatDoorPlain
import Derived.Test.YtilobbjnmnnmnaaGreatDoorOBkx6
import Derived.Laws.Bits64b
import Derived.Test.YtilobbjnmnnmnaaGreatDoorCards
import Derived.Test.YtilobbjnmnnmnaaGreatDoorTie
import Derived.Test.YtilobbjnmnnmnaaGreatDoorRangeOpen
import Derived.WalkKit
import Derived.ProofKit
import Derived.OpenShut
import Derived.ShutString
import Derived.ChangeOld
import Derived.Below
import Derived.SizedLaws
import Derived.LaidMore
import Derived.Lay
import Derived.SevenTiedAt
import Derived.Stop.Joined
set_option linter.unusedSimpArgs false
set_option linter.unusedVariables false
namespace Go.Proofs.YtilobbjnmnnmnaaGreatDoor.AddrLib
open Go.RowKit Go.Lib

/-- Arguments opened and shut; beside the row's condition the contract is told the world's shape. -/
theorem handed_shaped {H : Type} {enc : TypeId × Value → H} {a : Assume} {C : Checked} {os : Os} {f : FuncId} {fn : Func} {s : ChangeSpec} {conds : List PathCond} {apart fresh handsOn again : Bool} {X : World → Array Value → Prop}
    (hX : ∀ (w w' : World) (args : Array Value), w.heap = w'.heap → X w args → X w' args)
    (own : ownKnob C.prog.godebug = none) (started : os.Started) (noInit : C.prog.inits.idxOf? f = none) (hfn : C.prog.funcs[f]? = some fn)
    (witness : ∃ (w : World) (tape : Tape) (i : Input), w.os = os ∧ (w.forCall tape i).Shaped C.prog ∧ i.vars = [] ∧ Input.okWide C.prog (w.forCall tape i) .any w.heap.size f i ∧
      ((s.pre enc C.prog fn conds apart (w.forCall tape i).memory i.args ∧ X (w.forCall tape i).memory i.args) ∧ sizedMet enc C.prog fn (OpenSpec.ofChange s) apart (w.forCall tape i).memory i.args) ∧ a.holds C.prog (lone (Frame.enter C.prog f i.args .normal) [] (w.forCall tape i)))
    (contract : ∀ (W : World) (base : Nat) (args : Array Value) (ds gs : List (DataW H)) (before : List MemPlace),
      (∀ (j : Nat) t v, fn.params[j]? = some t → args[j]? = some v → Value.okWide C.prog W .any base t v) →
      DataW.Whole enc C.prog fn.params.toList s.vars apart W args.toList ds gs before →
      conds.all (PathCond.test C.prog ⟨fn.params.toList, ds, s.plain.varTypes C.prog, gs⟩) = true →
      (DataW.weightsEach C.prog (fn.params.toList ++ s.plain.varTypes C.prog) (ds ++ gs)).all (· ≤ reachBytes) = true → X W args → W.ShapedOpen C.prog →
      a.holds C.prog (lone (Frame.enter C.prog f args .normal) [] W) →
      Calls C.prog f args W fun e W' => ∃ v, e = .returned v ∧ s.post enc C.prog fn apart fresh handsOn again W args v W') :
    ReturnsInHanded a C os f .any (fun w args => (s.pre enc C.prog fn conds apart w args ∧ X w args) ∧ sizedMet enc C.prog fn (OpenSpec.ofChange s) apart w args) (s.post enc C.prog fn apart fresh handsOn again) := by
  refine returnsInHanded_of_calls own started noInit witness ?_
  intro w tape i _ hsh _ hok hpre hholds
  obtain ⟨_, _, _, fn', hfn', _, _, _, _, hval⟩ := hok
  obtain rfl : fn' = fn := Option.some.inj (hfn'.symm.trans hfn)
  obtain ⟨⟨⟨ds, gs, before, hw, hc⟩, hx⟩, hz⟩ := hpre
  have hw' := DataW.Whole.of_heap (w' := w.forCall tape i) (by rfl) hw
  refine (contract (w.forCall tape i) w.heap.size i.args ds gs before hval hw' hc (hz.weights hw) (hX _ _ _ (by rfl) hx) hsh hholds).mono fun e W' ⟨v, he, hp⟩ => ?_
  subst he
  exact ChangeSpec.post_blind hp
theorem laidVars_mem {P : Program} {w : World} {n : String} {d : DataW Unit} : ∀ {l : List (String × DataW Unit)} {ps : List MemPlace}, DataW.LaidVars P w l ps → (n, d) ∈ l →
    ∃ g t cs fuel p, P.globalNamed n = some g ∧ (P.globals[g]?).map (·.type) = some t ∧ w.var? P n = some cs ∧ DataW.trod (fun _ => ()) P w 0 (fun _ => true) false fuel t cs.toList = some (d, p) := by
  intro l
  induction l with
  | nil => intro ps _ hm; cases hm
  | cons x r ih =>
    intro ps h hm
    obtain ⟨n', d'⟩ := x
    obtain ⟨g, t, cs, fuel, p, q, h1, h2, h3, h4, h5, h6⟩ := h
    rcases List.mem_cons.1 hm with e | hm
    · simp only [Prod.mk.injEq] at e
      obtain ⟨rfl, rfl⟩ := e
      exact ⟨g, t, cs, fuel, p, h1, h2, h3, h4⟩
    · exact ih h5 hm
theorem tab_of_laid {P : Program} {W : World} {name : String} {k : IntKind} {zs : List Int} {l : List (String × DataW Unit)} {g : Nat} {t e : TypeId} {n : Nat}
    (hg : P.globalNamed name = some g) (hty : (P.globals[g]?).map (·.type) = some t) (ht : P.underlying t = some (.array n e)) (he : P.underlying e = some (.int k)) (hce : P.cellsOf e = 1) (hct : P.cellsOf t = n)
    (h : laidMet P l W) (hm : (name, tabData k zs) ∈ l) : TabIs P W name k zs := by
  obtain ⟨ps, hps, _⟩ := h
  obtain ⟨g', t', cs, fuel, p, hg', ht', hvar, hd⟩ := laidVars_mem hps hm
  obtain rfl := Option.some.inj (hg.symm.trans hg')
  obtain rfl := Option.some.inj (hty.symm.trans ht')
  unfold TabIs
  rw [hvar, ← cells_of_tab ht he hce hct hd]
def deB : List Int := [0, 1, 56, 2, 57, 49, 28, 3, 61, 58, 42, 50, 38, 29, 17, 4, 62, 47, 59, 36, 45, 43, 51, 22, 53, 39, 33, 30, 24, 18, 12, 5, 63, 55, 48, 27, 60, 41, 37, 16, 46, 35, 44, 21, 52, 32, 23, 11, 54, 26, 40, 15, 34, 20, 31, 10, 25, 14, 19, 9, 13, 8, 7, 6]
theorem deB_laid : (Rows.laid_math_bits_deBruijn64tab : DataW Unit) = tabData .u8 deB := by rfl
theorem pow_laid : (Rows.laid_internal_strconv_uint64pow10 : DataW Unit) = tabData .u64 pow10Tab := by rfl
theorem G_of {l : List (String × DataW Unit)} {W : World} (hL : laidMetH Tryz.prog l W) (hp : (l.all fun x => x.2.handleName?.isNone) = true)
    (m1 : ("math/bits.deBruijn64tab", (Rows.laid_math_bits_deBruijn64tab : DataW Unit)) ∈ l) (m2 : ("internal/strconv.uint64pow10", (Rows.laid_internal_strconv_uint64pow10 : DataW Unit)) ∈ l) (hS : W.ShapedOpen Tryz.prog) : G W := by
  rw [MakeChecks.laidMetH_plain _ _ _ hp] at hL
  rw [deB_laid] at m1
  rw [pow_laid] at m2
  have t1 := tab_of_laid (g := 6) (t := 200) (e := 5) (n := 64) (by kernel_rfl) (by kernel_rfl) (by kernel_rfl) (by kernel_rfl) (by kernel_rfl) (by kernel_rfl) hL m1
  have t2 := tab_of_laid (g := 1) (t := 175) (e := 22) (n := 20) (by kernel_rfl) (by kernel_rfl) (by kernel_rfl) (by kernel_rfl) (by kernel_rfl) (by kernel_rfl) hL m2
  refine ⟨cell_of_shapedOpen_int (t := 3) (zero := #[.int .i64 0]) (k := .i64) hS (of_decide_eq_true (by kernel_rfl)) (by kernel_rfl) (by rfl) (by kernel_rfl) (by kernel_rfl) (by kernel_rfl), t2, ?_⟩
  exact t1.cell (by kernel_rfl) 15 (by decide)
end Go.Proofs.YtilobbjnmnnmnaaGreatDoor.AddrLib
namespace Go.Proofs.YtilobbjnmnnmnaaGreatDoorW.PrintWords
open Go.RowKit

/-- Labels that may be. -/
def okL (L : List ByteArray) : Prop := ∀ x ∈ L, 1 ≤ x.size ∧ x.size ≤ 63
theorem okL_nil : okL [] := fun x h => by cases h
theorem okL_cons {x : ByteArray} {L : List ByteArray} : okL (x :: L) ↔ (1 ≤ x.size ∧ x.size ≤ 63) ∧ okL L := by
  unfold okL
  simp
theorem okL_append {L M : List ByteArray} : okL (L ++ M) ↔ okL L ∧ okL M := by
  unfold okL
  simp only [List.mem_append]
  constructor
  · intro h
    exact ⟨fun x hx => h x (Or.inl hx), fun x hx => h x (Or.inr hx)⟩
  · rintro ⟨h1, h2⟩ x (hx | hx)
    · exact h1 x hx
    · exact h2 x hx
theorem okL_drop {L : List ByteArray} (h : okL L) (n : Nat) : okL (L.drop n) := fun x hx => h x (List.mem_of_mem_drop hx)
theorem okL_fold {L : List ByteArray} (h : okL L) : okL (L.map foldS) := by
  intro x hx
  obtain ⟨y, hy, rfl⟩ := List.mem_map.1 hx
  rw [foldS_size]
  exact h y hy
/-- The octets of a name of labels. -/
def joinI (L : List ByteArray) : List Int := L.flatMap fun x => (x.size : Int) :: bytesOf x
theorem joinI_cons (x : ByteArray) (L : List ByteArray) : joinI (x :: L) = (x.size : Int) :: (bytesOf x ++ joinI L) := by
  unfold joinI
  rw [List.flatMap_cons, List.cons_append]
theorem joinI_append (L M : List ByteArray) : joinI (L ++ M) = joinI L ++ joinI M := by
  unfold joinI
  rw [List.flatMap_append]
theorem joinI_byt {L : List ByteArray} (h : okL L) : Byt (joinI L) := by
  induction L with
  | nil => exact byt_nil
  | cons x t ih =>
    rw [joinI_cons, byt_cons, byt_append]
    have := okL_cons.1 h
    exact ⟨⟨by omega, by omega⟩, byt_bytesOf x, ih this.2⟩
def joinS (L : List ByteArray) : ByteArray := strOfNums (joinI L)
theorem bytesOf_join {L : List ByteArray} (h : okL L) : bytesOf (joinS L) = joinI L := bytesOf_str (joinI_byt h)
theorem joinS_size {L : List ByteArray} (h : okL L) : (joinS L).size = (joinI L).length := by rw [← bytesOf_length, bytesOf_join h]
theorem joinS_append (L M : List ByteArray) : joinS (L ++ M) = joinS L ++ joinS M := by
  unfold joinS
  rw [joinI_append, str_append]
theorem joinI_len_cons (x : ByteArray) (L : List ByteArray) : (joinI (x :: L)).length = 1 + x.size + (joinI L).length := by
  rw [joinI_cons, List.length_cons, List.length_append, bytesOf_length]
  omega
theorem joinI_len (L : List ByteArray) : L.length ≤ (joinI L).length := by
  induction L with
  | nil => exact Nat.le_refl _
  | cons x t ih =>
    rw [joinI_len_cons, List.length_cons]
    omega
theorem joinI_len2 {L : List ByteArray} (h : okL L) : 2 * L.length ≤ (joinI L).length := by
  induction L with
  | nil => exact Nat.le_refl _
  | cons x t ih =>
    have := okL_cons.1 h
    have := ih this.2
    rw [joinI_len_cons, List.length_cons]
    omega
theorem joinI_fold_len (L : List ByteArray) : (joinI (L.map foldS)).length = (joinI L).length := by
  induction L with
  | nil => rfl
  | cons x t ih => rw [List.map_cons, joinI_len_cons, joinI_len_cons, foldS_size, ih]
theorem cutS_join {x : ByteArray} {L : List ByteArray} (h : okL (x :: L)) : cutS (joinS (x :: L)) = some (x, joinS L) := by
  have h1 := okL_cons.1 h
  have hb := bytesOf_join h
  have hz := joinS_size h
  rw [joinI_len_cons] at hz
  rw [joinI_cons] at hb
  have h0 : bt (joinS (x :: L)) 0 = (x.size : Int) := by rw [bt_rd, hb]; rfl
  unfold cutS
  rw [h0, if_pos (by omega)]
  have e1 : (joinS (x :: L)).extract 1 (1 + (x.size : Int)).toNat = x := by
    apply bytesOf_inj
    rw [bytesOf_extract, hb, show (1 + (x.size : Int)).toNat = x.size + 1 by omega, List.take_succ_cons, List.drop_succ_cons, List.drop_zero, List.take_append_of_le_length (by rw [bytesOf_length]; exact Nat.le_refl _), List.take_of_length_le (by rw [bytesOf_length]; exact Nat.le_refl _)]
  have e2 : (joinS (x :: L)).extract (1 + (x.size : Int)).toNat (joinS (x :: L)).size = joinS L := by
    apply bytesOf_inj
    rw [bytesOf_extract, ← bytesOf_length (s := joinS (x :: L)), List.take_length, hb, bytesOf_join h1.2, show (1 + (x.size : Int)).toNat = x.size + 1 by omega, List.drop_succ_cons, List.drop_append_of_le_length (by rw [bytesOf_length]; exact Nat.le_refl _), List.drop_eq_nil_of_le (by rw [bytesOf_length]; exact Nat.le_refl _), List.nil_append]
  rw [e1, e2]
theorem joinS_nil : joinS [] = ⟨#[]⟩ := rfl
theorem cutS_empty : cutS ⟨#[]⟩ = none := by
  unfold cutS
  rw [if_neg (by rintro ⟨h, _⟩; exact absurd h (by decide))]
theorem labelsP_join {L : List ByteArray} (h : okL L) : labelsP (joinS L) = L := by
  induction L with
  | nil => exact labelsP_none cutS_empty
  | cons x t ih => rw [labelsP_cut (cutS_join h), ih (okL_cons.1 h).2]
theorem joinS_inj {L M : List ByteArray} (h1 : okL L) (h2 : okL M) (h : joinS L = joinS M) : L = M := by rw [← labelsP_join h1, h, labelsP_join h2]
theorem cutS_back {s l r : ByteArray} (h : cutS s = some (l, r)) : s = joinS [l] ++ r := by
  have hs := cutS_sizes h
  unfold cutS at h
  split at h
  · rename_i hc
    simp only [Option.some.injEq, Prod.mk.injEq] at h
    obtain ⟨h1, h2⟩ := h
    have hl : (l.size : Int) = bt s 0 := by
      have := congrArg ByteArray.size h1
      rw [size_extract_] at this
      omega
    apply bytesOf_inj
    rw [bytesOf_append, bytesOf_join (okL_cons.2 ⟨⟨hs.1, hs.2.1⟩, okL_nil⟩), joinI_cons, hl]
    rw [← h1, ← h2, bytesOf_extract, bytesOf_extract, ← bytesOf_length (s := s), List.take_length]
    have hlen : 0 < (bytesOf s).length := by rw [bytesOf_length]; omega
    have hd : bytesOf s = bt s 0 :: (bytesOf s).drop 1 := by
      have := drop_rd (xs := bytesOf s) (i := 0) hlen
      rw [List.drop_zero] at this
      rw [bt_rd]
      exact this
    show bytesOf s = bt s 0 :: (List.drop 1 (List.take _ (bytesOf s)) ++ joinI []) ++ _
    rw [show joinI [] = [] from rfl, List.append_nil, List.cons_append]
    have hk : (1 + bt s 0).toNat = (bt s 0).toNat + 1 := by omega
    rw [hk, List.drop_take, Nat.add_sub_cancel]
    generalize bytesOf s = b at *
    rw [show b.drop ((bt s 0).toNat + 1) = (b.drop 1).drop (bt s 0).toNat by rw [List.drop_drop, Nat.add_comm], List.take_append_drop]
    exact hd
  · cases h
/-- Whether an octet row is labels from end to end. -/
def wfN : Nat → ByteArray → Bool
  | 0, s => s.size == 0
  | n + 1, s => if s.size = 0 then true else match cutS s with
    | none => false
    | some (_, r) => wfN n r
theorem size_zero {s : ByteArray} (h : s.size = 0) : s = ⟨#[]⟩ := by
  apply bytesOf_inj
  have : (bytesOf s).length = 0 := by rw [bytesOf_length]; exact h
  rw [List.eq_nil_of_length_eq_zero this]
  rfl
theorem wf_join {L : List ByteArray} (h : okL L) : ∀ n, L.length ≤ n → wfN n (joinS L) = true := by
  induction L with
  | nil =>
    intro n _
    cases n with
    | zero => rfl
    | succ n => rfl
  | cons x t ih =>
    intro n hn
    cases n with
    | zero => simp at hn
    | succ n =>
      unfold wfN
      rw [if_neg (by rw [joinS_size h, joinI_len_cons]; omega), cutS_join h]
      exact ih (okL_cons.1 h).2 n (by simp at hn; omega)
theorem wf_back : ∀ (n : Nat) (s : ByteArray), wfN n s = true → ∃ L, okL L ∧ s = joinS L := by
  intro n
  induction n with
  | zero =>
    intro s h
    unfold wfN at h
    exact ⟨[], okL_nil, size_zero (by simpa using h)⟩
  | succ n ih =>
    intro s h
    unfold wfN at h
    by_cases h0 : s.size = 0
    · exact ⟨[], okL_nil, size_zero h0⟩
    rw [if_neg h0] at h
    cases hc : cutS s with
    | none => rw [hc] at h; cases h
    | some p =>
      obtain ⟨l, r⟩ := p
      rw [hc] at h
      obtain ⟨M, hM, rfl⟩ := ih r h
      have hs := cutS_sizes hc
      refine ⟨l :: M, okL_cons.2 ⟨⟨hs.1, hs.2.1⟩, hM⟩, ?_⟩
      rw [cutS_back hc, ← joinS_append]
      rfl

theorem wfN_more {s : ByteArray} : ∀ (n m : Nat), s.size ≤ n → s.size ≤ m → wfN n s = wfN m s := by
  intro n
  induction n generalizing s with
  | zero =>
    intro m h1 _
    have h0 : s.size = 0 := by omega
    cases m with
    | zero => rfl
    | succ m =>
      unfold wfN
      rw [if_pos h0, h0]
      rfl
  | succ n ih =>
    intro m h1 h2
    cases m with
    | zero =>
      have h0 : s.size = 0 := by omega
      unfold wfN
      rw [if_pos h0, h0]
      rfl
    | succ m =>
      unfold wfN
      by_cases h0 : s.size = 0
      · rw [if_pos h0, if_pos h0]
      rw [if_neg h0, if_neg h0]
      cases hc : cutS s with
      | none => rfl
      | some p =>
        obtain ⟨l, r⟩ := p
        have := cutS_sizes hc
        exact ih m (by omega) (by omega)
def wf (s : ByteArray) : Bool := wfN s.size s
theorem wf_cut {s l r : ByteArray} (h : cutS s = some (l, r)) : wf s = wf r := by
  have hs := cutS_sizes h
  unfold wf
  rw [show s.size = (s.size - 1) + 1 by omega]
  show (if s.size = 0 then true else match cutS s with | none => false | some (_, r) => wfN (s.size - 1) r) = _
  rw [if_neg (by omega), h]
  exact wfN_more (s.size - 1) r.size (by omega) (Nat.le_refl _)
theorem wf_none {s : ByteArray} (h : cutS s = none) (h0 : s.size ≠ 0) : wf s = false := by
  unfold wf
  rw [show s.size = (s.size - 1) + 1 by omega]
  show (if s.size = 0 then true else match cutS s with | none => false | some (_, r) => wfN (s.size - 1) r) = _
  rw [if_neg h0, h]
theorem wf_zero {s : ByteArray} (h : s.size = 0) : wf s = true := by
  unfold wf
  rw [h]
  show (s.size == 0) = true
  rw [h]
  rfl
theorem wf_iff {s : ByteArray} : wf s = true ↔ ∃ L, okL L ∧ s = joinS L := by
  constructor
  · exact wf_back _ s
  · rintro ⟨L, hL, rfl⟩
    exact wf_join hL _ (by rw [joinS_size hL]; exact joinI_len L)
/-- What the check of a name tells. -/
def chkS (s : ByteArray) : Int := if s.size > 254 then 3 else if wf s = true then 0 else 4
theorem chkS_cases (s : ByteArray) : chkS s = 0 ∨ chkS s = 3 ∨ chkS s = 4 := by
  unfold chkS
  by_cases h : s.size > 254
  · rw [if_pos h]; simp
  · rw [if_neg h]
    by_cases g : wf s = true
    · rw [if_pos g]; simp
    · rw [if_neg g]; simp
theorem chkS_zero {s : ByteArray} : chkS s = 0 ↔ ∃ L, okL L ∧ s = joinS L ∧ (joinI L).length ≤ 254 := by
  unfold chkS
  constructor
  · intro h
    by_cases h1 : s.size > 254
    · rw [if_pos h1] at h; cases h
    rw [if_neg h1] at h
    by_cases h2 : wf s = true
    · obtain ⟨L, hL, rfl⟩ := wf_iff.1 h2
      refine ⟨L, hL, rfl, ?_⟩
      rw [← joinS_size hL]
      omega
    · rw [if_neg h2] at h; cases h
  · rintro ⟨L, hL, rfl, hl⟩
    rw [if_neg (by rw [joinS_size hL]; omega), if_pos (wf_iff.2 ⟨L, hL, rfl⟩)]
theorem chkS_join {L : List ByteArray} (h : okL L) (hl : (joinI L).length ≤ 254) : chkS (joinS L) = 0 := chkS_zero.2 ⟨L, h, rfl, hl⟩
theorem chkS_long {L : List ByteArray} (h : okL L) (hl : ¬ (joinI L).length ≤ 254) : chkS (joinS L) = 3 := by
  unfold chkS
  rw [if_pos (by rw [joinS_size h]; omega)]

/-! ### Comparing lists of rows of numbers -/
def cmpL : List (List Int) → List (List Int) → Int
  | [], [] => 0
  | [], _ :: _ => -1
  | _ :: _, [] => 1
  | x :: xs, y :: ys => if cmpI x y = 0 then cmpL xs ys else cmpI x y
theorem cmpL_range (a b : List (List Int)) : cmpL a b = -1 ∨ cmpL a b = 0 ∨ cmpL a b = 1 := by
  induction a generalizing b with
  | nil => cases b <;> simp [cmpL]
  | cons x xs ih =>
    cases b with
    | nil => simp [cmpL]
    | cons y ys =>
      unfold cmpL
      by_cases h : cmpI x y = 0
      · rw [if_pos h]; exact ih ys
      · rw [if_neg h]; exact cmpI_range x y
theorem cmpL_self (a : List (List Int)) : cmpL a a = 0 := by
  induction a with
  | nil => rfl
  | cons x xs ih => unfold cmpL; rw [if_pos (cmpI_self x)]; exact ih
theorem cmpL_zero {a b : List (List Int)} : cmpL a b = 0 ↔ a = b := by
  constructor
  · intro h
    induction a generalizing b with
    | nil =>
      cases b with
      | nil => rfl
      | cons y ys => simp [cmpL] at h
    | cons x xs ih =>
      cases b with
      | nil => simp [cmpL] at h
      | cons y ys =>
        unfold cmpL at h
        by_cases hc : cmpI x y = 0
        · rw [if_pos hc] at h
          rw [cmpI_zero.1 hc, ih h]
        · rw [if_neg hc] at h
          exact absurd h hc
  · rintro rfl
    exact cmpL_self a
theorem cmpL_neg (a b : List (List Int)) : cmpL b a = - cmpL a b := by
  induction a generalizing b with
  | nil => cases b <;> simp [cmpL]
  | cons x xs ih =>
    cases b with
    | nil => simp [cmpL]
    | cons y ys =>
      unfold cmpL
      rw [cmpI_neg x y]
      by_cases h : cmpI x y = 0
      · rw [if_pos h, if_pos (by omega)]; exact ih ys
      · rw [if_neg h, if_neg (by omega)]
theorem cmpL_trans {a b c : List (List Int)} (h1 : cmpL a b ≤ 0) (h2 : cmpL b c ≤ 0) : cmpL a c ≤ 0 ∧ (cmpL a b < 0 → cmpL a c < 0) := by
  induction a generalizing b c with
  | nil =>
    cases b with
    | nil => exact ⟨h2, fun h => by simp [cmpL] at h⟩
    | cons y ys =>
      cases c with
      | nil => simp [cmpL] at h2
      | cons z zs => simp [cmpL]
  | cons x xs ih =>
    cases b with
    | nil => simp [cmpL] at h1
    | cons y ys =>
      cases c with
      | nil => simp [cmpL] at h2
      | cons z zs =>
        unfold cmpL at h1 h2 ⊢
        have t := @cmpI_trans x y z
        by_cases hxy : cmpI x y = 0
        · rw [if_pos hxy] at h1
          have e1 := cmpI_zero.1 hxy
          subst e1
          by_cases hyz : cmpI x z = 0
          · rw [if_pos hyz] at h2
            rw [if_pos hyz, if_pos hxy]
            exact ih h1 h2
          · rw [if_neg hyz] at h2
            rw [if_neg hyz]
            refine ⟨h2, fun _ => by omega⟩
        · rw [if_neg hxy] at h1
          by_cases hyz : cmpI y z = 0
          · have e1 := cmpI_zero.1 hyz
            subst e1
            rw [if_neg hxy]
            refine ⟨h1, fun _ => by omega⟩
          · rw [if_neg hyz] at h2
            have := (t h1 h2).2 (by omega)
            rw [if_neg (by omega)]
            exact ⟨by omega, fun _ => this⟩
theorem cmpL_prefix {a b : List (List Int)} (h : a <+: b) (hl : a.length < b.length) : cmpL a b = -1 := by
  obtain ⟨t, rfl⟩ := h
  induction a with
  | nil =>
    cases t with
    | nil => simp at hl
    | cons y ys => rfl
  | cons x xs ih =>
    rw [List.cons_append]
    unfold cmpL
    rw [if_pos (cmpI_self x)]
    exact ih (by simpa using hl)
/-- How a name is compared: its labels from the last, folded. -/
def keyL (L : List ByteArray) : List (List Int) := (L.map fun x => bytesOf (foldS x)).reverse
theorem keyL_inj {L M : List ByteArray} : keyL L = keyL M ↔ L.map foldS = M.map foldS := by
  unfold keyL
  rw [List.reverse_inj]
  constructor
  · intro h
    induction L generalizing M with
    | nil =>
      cases M with
      | nil => rfl
      | cons y ys => simp at h
    | cons x xs ih =>
      cases M with
      | nil => simp at h
      | cons y ys =>
        simp only [List.map_cons, List.cons.injEq] at h ⊢
        exact ⟨bytesOf_inj h.1, ih h.2⟩
  · intro h
    have := congrArg (List.map bytesOf) h
    rw [List.map_map, List.map_map] at this
    exact this
theorem keyL_fold (L : List ByteArray) : keyL (L.map foldS) = keyL L := by
  rw [keyL_inj, List.map_map]
  congr 1
  funext x
  exact foldS_foldS x
theorem keyL_length (L : List ByteArray) : (keyL L).length = L.length := by
  unfold keyL
  simp
/-- One name under another. -/
def underL (L M : List ByteArray) : Prop := M.map foldS <:+ L.map foldS
theorem underL_key {L M : List ByteArray} (h : underL L M) : keyL M <+: keyL L := by
  unfold underL at h
  have e : ∀ L : List ByteArray, keyL L = ((L.map foldS).map bytesOf).reverse := fun L => by rw [List.map_map]; rfl
  rw [e, e, List.reverse_prefix]
  exact h.map _
theorem underL_refl (L : List ByteArray) : underL L L := List.suffix_refl _
theorem underL_trans {L M N : List ByteArray} (h : underL L M) (k : underL M N) : underL L N := List.IsSuffix.trans k h
theorem underL_length {L M : List ByteArray} (h : underL L M) : M.length ≤ L.length := by
  have := h.length_le
  simpa using this
theorem underL_append (A M : List ByteArray) : underL (A ++ M) M := by
  unfold underL
  rw [List.map_append]
  exact List.suffix_append _ _
theorem underL_cmp {L M : List ByteArray} (h : underL L M) : cmpL (keyL M) (keyL L) ≤ 0 := by
  have hp := underL_key h
  by_cases hl : (keyL M).length < (keyL L).length
  · rw [cmpL_prefix hp hl]; decide
  · rw [hp.eq_of_length (Nat.le_antisymm hp.length_le (Nat.le_of_not_lt hl)), cmpL_self]
    decide
theorem underL_drop {L M : List ByteArray} : underL L M ↔ M.length ≤ L.length ∧ (L.drop (L.length - M.length)).map foldS = M.map foldS := by
  unfold underL
  rw [List.suffix_iff_eq_drop]
  constructor
  · intro h
    have hl := congrArg List.length h
    simp only [List.length_map, List.length_drop] at hl
    refine ⟨by omega, ?_⟩
    rw [List.map_drop]
    simp only [List.length_map] at h
    exact h.symm
  · rintro ⟨hl, h⟩
    rw [← h, List.map_drop]
    simp only [List.length_map, List.length_drop]
    congr 1
    omega
end Go.Proofs.YtilobbjnmnnmnaaGreatDoorW.PrintWords
set_option linter.unusedSimpArgs false
set_option linter.unusedVariables false
namespace Go.Proofs.YtilobbjnmnnmnaaGreatDoor.AddrFns
open Go.RowKit Go.Lib Go.Proofs.YtilobbjnmnnmnaaGreatDoor.OBk Go.Proofs.YtilobbjnmnnmnaaGreatDoor.AddrLib Go.Proofs.YtilobbjnmnnmnaaGreatDoorW.PrintWords Go.Proofs.YtilobbjnmnnmnaaGreatDoorW.PrintLast Go.Proofs.YtilobbjnmnnmnaaGreatDoorW.PrintMore

theorem wr_u64 (n : Int) (h0 : 0 ≤ n) (h1 : n < 18446744073709551616) : IntKind.u64.wrap n = n := by
  simp [IntKind.wrap, IntKind.bits, IntKind.signed]
  omega
theorem wr_u16 (n : Int) : IntKind.u16.wrap n = n % 65536 := by
  simp [IntKind.wrap, IntKind.bits, IntKind.signed]
theorem or_add (n c : Int) (j : Nat) (B : Int) (hB : B = 2 ^ j) (h0 : 0 ≤ n) (h1 : n * B < 18446744073709551616) (c0 : 0 ≤ c) (c1 : c < B) (hs : n * B + c < 18446744073709551616) :
    Go.bits .or .u64 (IntKind.u64.wrap (n * B)) (IntKind.u64.wrap c) = n * B + c := by
  obtain ⟨n, rfl⟩ := Int.eq_ofNat_of_zero_le h0
  obtain ⟨c, rfl⟩ := Int.eq_ofNat_of_zero_le c0
  have hBn : B = ((2 ^ j : Nat) : Int) := by rw [hB]; push_cast; rfl
  have e : (n : Int) * B = ((n * 2 ^ j : Nat) : Int) := by rw [hBn]; push_cast; rfl
  rw [wr_u64 _ (by rw [e]; omega) h1, wr_u64 _ c0 (by rw [e] at hs; omega), e]
  rw [e] at h1 hs
  have hc : c < 2 ^ j := by rw [hBn] at c1; omega
  rw [bits_or_u64_nat (n * 2 ^ j) c (by omega) (by omega), ← Nat.shiftLeft_eq, ← Nat.shiftLeft_add_eq_or_of_lt hc, Nat.shiftLeft_eq]
  push_cast
  rfl
/-! ### Eight groups are a number -/
theorem wrap_small (i : Nat) (h : i < 1000) : wrap64 ((i : Int) + 1) = ((i + 1 : Nat) : Int) := by unfold wrap64; omega
theorem of_step (k : Nat) (l : List Int) (i : Nat) (b : Bool) (hi lo : Int) (h8 : l.length = 8) (hi8 : i < 8) (x : Int) (hx : l.getD i 0 = x) (x0 : 0 ≤ x) (x1 : x < 65536) :
    addr_of.l0 (k + 1) l 8 i b hi lo = if (i : Int) < 4 then addr_of.l0 k l 8 ((i + 1 : Nat) : Int) b (Go.bits .or .u64 (IntKind.u64.wrap (hi * 65536)) (IntKind.u64.wrap x)) lo else addr_of.l0 k l 8 ((i + 1 : Nat) : Int) b hi (Go.bits .or .u64 (IntKind.u64.wrap (lo * 65536)) (IntKind.u64.wrap x)) := by
  have hr : rd l (i : Int) = x := by unfold rd; rw [Int.toNat_natCast, hx]
  rw [addr_of.l0, if_pos (by omega), if_pos (by omega), if_pos (by rw [h8]; omega), hr, wrap_small i (by omega)]
theorem of_eq (k : Nat) (a0 a1 a2 a3 a4 a5 a6 a7 : Int) (h : ∀ x ∈ [a0, a1, a2, a3, a4, a5, a6, a7], 0 ≤ x ∧ x < 65536) :
    addr_of.f (k + 9) [a0, a1, a2, a3, a4, a5, a6, a7] = some (true, ((a0 * 65536 + a1) * 65536 + a2) * 65536 + a3, ((a4 * 65536 + a5) * 65536 + a6) * 65536 + a7) := by
  obtain ⟨l, hl⟩ : ∃ l, l = [a0, a1, a2, a3, a4, a5, a6, a7] := ⟨_, rfl⟩
  have h8 : l.length = 8 := by rw [hl]; rfl
  have b0 := h a0 (by simp); have b1 := h a1 (by simp); have b2 := h a2 (by simp); have b3 := h a3 (by simp); have b4 := h a4 (by simp); have b5 := h a5 (by simp); have b6 := h a6 (by simp); have b7 := h a7 (by simp)
  rw [← hl]
  unfold addr_of.f
  rw [h8]
  have st := fun k i hi8 x hx x0 x1 hh ll => of_step k l i true hh ll h8 hi8 x hx x0 x1
  have z : ∀ x : Int, 0 ≤ x → x < 65536 → Go.bits .or .u64 (IntKind.u64.wrap (0 * 65536)) (IntKind.u64.wrap x) = x := fun x x0 x1 => by
    rw [or_add 0 x 16 65536 (by decide) (by decide) (by decide) x0 x1 (by omega)]; omega
  have orr : ∀ n x : Int, 0 ≤ n → n < 281474976710656 → 0 ≤ x → x < 65536 → Go.bits .or .u64 (IntKind.u64.wrap (n * 65536)) (IntKind.u64.wrap x) = n * 65536 + x := fun n x n0 n1 x0 x1 =>
    or_add n x 16 65536 (by decide) n0 (by omega) x0 x1 (by omega)
  have e0 := st (k + 8) 0 (by decide) a0 (by rw [hl]; rfl) b0.1 b0.2 0 0
  rw [if_pos (by decide), z a0 b0.1 b0.2] at e0
  have e1 := st (k + 7) 1 (by decide) a1 (by rw [hl]; rfl) b1.1 b1.2 a0 0
  rw [if_pos (by decide), orr a0 a1 b0.1 (by omega) b1.1 b1.2] at e1
  have e2 := st (k + 6) 2 (by decide) a2 (by rw [hl]; rfl) b2.1 b2.2 (a0 * 65536 + a1) 0
  rw [if_pos (by decide), orr _ a2 (by omega) (by omega) b2.1 b2.2] at e2
  have e3 := st (k + 5) 3 (by decide) a3 (by rw [hl]; rfl) b3.1 b3.2 ((a0 * 65536 + a1) * 65536 + a2) 0
  rw [if_pos (by decide), orr _ a3 (by omega) (by omega) b3.1 b3.2] at e3
  have e4 := st (k + 4) 4 (by decide) a4 (by rw [hl]; rfl) b4.1 b4.2 (((a0 * 65536 + a1) * 65536 + a2) * 65536 + a3) 0
  rw [if_neg (by decide), z a4 b4.1 b4.2] at e4
  have e5 := st (k + 3) 5 (by decide) a5 (by rw [hl]; rfl) b5.1 b5.2 (((a0 * 65536 + a1) * 65536 + a2) * 65536 + a3) a4
  rw [if_neg (by decide), orr a4 a5 b4.1 (by omega) b5.1 b5.2] at e5
  have e6 := st (k + 2) 6 (by decide) a6 (by rw [hl]; rfl) b6.1 b6.2 (((a0 * 65536 + a1) * 65536 + a2) * 65536 + a3) (a4 * 65536 + a5)
  rw [if_neg (by decide), orr _ a6 (by omega) (by omega) b6.1 b6.2] at e6
  have e7 := st (k + 1) 7 (by decide) a7 (by rw [hl]; rfl) b7.1 b7.2 (((a0 * 65536 + a1) * 65536 + a2) * 65536 + a3) ((a4 * 65536 + a5) * 65536 + a6)
  rw [if_neg (by decide), orr _ a7 (by omega) (by omega) b7.1 b7.2] at e7
  show addr_of.l0 (k + 8 + 1) l 8 ((0 : Nat) : Int) true 0 0 = _
  rw [e0]
  show addr_of.l0 (k + 7 + 1) l 8 ((1 : Nat) : Int) true a0 0 = _
  rw [e1]
  show addr_of.l0 (k + 6 + 1) l 8 ((2 : Nat) : Int) true _ 0 = _
  rw [e2]
  show addr_of.l0 (k + 5 + 1) l 8 ((3 : Nat) : Int) true _ 0 = _
  rw [e3]
  show addr_of.l0 (k + 4 + 1) l 8 ((4 : Nat) : Int) true _ 0 = _
  rw [e4]
  show addr_of.l0 (k + 3 + 1) l 8 ((5 : Nat) : Int) true _ a4 = _
  rw [e5]
  show addr_of.l0 (k + 2 + 1) l 8 ((6 : Nat) : Int) true _ _ = _
  rw [e6]
  show addr_of.l0 (k + 1 + 1) l 8 ((7 : Nat) : Int) true _ _ = _
  rw [e7, addr_of.l0, if_neg (by decide)]
theorem cut_rng (hi lo : Int) : ∀ x ∈ cutL hi lo, 0 ≤ x ∧ x < 65536 := by
  intro x hx
  unfold cutL g16 at hx
  simp only [wr_u16, List.mem_cons, List.not_mem_nil, or_false] at hx
  rcases hx with rfl | rfl | rfl | rfl | rfl | rfl | rfl | rfl <;> omega
theorem of_cut (k : Nat) (hi lo : Int) (h0 : 0 ≤ hi) (h1 : hi < 18446744073709551616) (l0 : 0 ≤ lo) (l1 : lo < 18446744073709551616) : addr_of.f (k + 9) (cutL hi lo) = some (true, hi, lo) := by
  have h := of_eq k (g16 hi 3) (g16 hi 2) (g16 hi 1) (g16 hi 0) (g16 lo 3) (g16 lo 2) (g16 lo 1) (g16 lo 0) (cut_rng hi lo)
  refine h.trans ?_
  unfold g16
  simp only [wr_u16]
  have e1 : ((hi / 281474976710656 % 65536 * 65536 + hi / 4294967296 % 65536) * 65536 + hi / 65536 % 65536) * 65536 + hi % 65536 = hi := by omega
  have e2 : ((lo / 281474976710656 % 65536 * 65536 + lo / 4294967296 % 65536) * 65536 + lo / 65536 % 65536) * 65536 + lo % 65536 = lo := by omega
  rw [e1, e2]
/-! ### The longest run of noughts is one -/
def nought (l : List Int) (a b : Int) : Prop := ∀ j : Nat, a ≤ (j : Int) → (j : Int) < b → l.getD j 0 = 0
theorem zL_ok (l : List Int) : ∀ (t : List Int) (p : Nat) (f n k : Int), l.drop p = t → 0 ≤ f → 0 ≤ n → f + n ≤ p → nought l f (f + n) → 0 ≤ k → k ≤ p → nought l (p - k) p →
    0 ≤ (zL t p f n k).1 ∧ 0 ≤ (zL t p f n k).2 ∧ (zL t p f n k).1 + (zL t p f n k).2 ≤ p + t.length ∧ nought l (zL t p f n k).1 ((zL t p f n k).1 + (zL t p f n k).2) := by
  intro t
  induction t with
  | nil => intro p f n k _ h1 h2 h3 h4 _ _ _; unfold zL; simp only [List.length_nil]; exact ⟨h1, h2, by omega, h4⟩
  | cons x t ih =>
    intro p f n k hd h1 h2 h3 h4 h5 h6 h7
    have hx : l.getD p 0 = x := by
      rw [List.getD_eq_getElem?_getD, ← List.head?_drop, hd]; rfl
    have hd2 : l.drop (p + 1) = t := by rw [← List.drop_drop, hd]; rfl
    have ih := fun f n k => ih (p + 1) f n k hd2
    rw [show ((p + 1 : Nat) : Int) = (p : Int) + 1 by omega] at ih
    unfold zL
    rw [List.length_cons]
    by_cases c : x = 0
    · rw [if_pos c]
      have hn : nought l ((p : Int) - k) (p + 1) := fun j a b => by
        by_cases e : (j : Int) < p
        · exact h7 j a e
        · have : j = p := by omega
          rw [this, hx, c]
      by_cases d : n < k + 1
      · rw [if_pos d]
        have := ih (p + 1 - (k + 1)) (k + 1) (k + 1) (by omega) (by omega) (by omega) (by rw [show ((p : Int) + 1 - (k + 1)) + (k + 1) = p + 1 by omega, show (p : Int) + 1 - (k + 1) = p - k by omega]; exact hn) (by omega) (by omega) (by rw [show (p : Int) + 1 - (k + 1) = p - k by omega]; exact hn)
        exact ⟨this.1, this.2.1, by have := this.2.2.1; omega, this.2.2.2⟩
      · rw [if_neg d]
        have := ih f n (k + 1) h1 h2 (by omega) h4 (by omega) (by omega) (by rw [show (p : Int) + 1 - (k + 1) = p - k by omega]; exact hn)
        exact ⟨this.1, this.2.1, by have := this.2.2.1; omega, this.2.2.2⟩
    · rw [if_neg c, if_neg (by omega)]
      have := ih f n 0 h1 h2 (by omega) h4 (by omega) (by omega) (fun j a b => by omega)
      exact ⟨this.1, this.2.1, by have := this.2.2.1; omega, this.2.2.2⟩
theorem zL_whole (l : List Int) : ∃ f n : Nat, zL l 0 0 0 0 = ((f : Int), (n : Int)) ∧ f + n ≤ l.length ∧ l = l.take f ++ List.replicate n 0 ++ l.drop (f + n) := by
  have h := zL_ok l l 0 0 0 0 rfl (by decide) (by decide) (by decide) (fun j a b => by omega) (by decide) (by decide) (fun j a b => by omega)
  obtain ⟨h1, h2, h3, h4⟩ := h
  obtain ⟨f, hf⟩ := Int.eq_ofNat_of_zero_le h1
  obtain ⟨n, hn⟩ := Int.eq_ofNat_of_zero_le h2
  rw [show ((0 : Nat) : Int) = 0 from rfl] at h1 h2 h3 h4 hf hn
  rw [hf, hn] at h3 h4
  refine ⟨f, n, Prod.ext hf hn, by omega, ?_⟩
  have hr : (l.drop f).take n = List.replicate n 0 := by
    refine List.eq_replicate_iff.2 ⟨by rw [List.length_take, List.length_drop]; omega, fun b hb => ?_⟩
    obtain ⟨i, hi, rfl⟩ := List.getElem_of_mem hb
    rw [List.length_take, List.length_drop] at hi
    have := h4 (f + i) (by omega) (by omega)
    rw [List.getD_eq_getElem?_getD, List.getElem?_eq_getElem (by omega)] at this
    rw [List.getElem_take, List.getElem_drop]
    exact this
  rw [← hr, List.append_assoc, ← List.drop_drop, List.take_append_drop, List.take_append_drop]
end Go.Proofs.YtilobbjnmnnmnaaGreatDoor.AddrFns
set_option linter.unusedSimpArgs false
set_option linter.unusedVariables false
namespace Go.Proofs.YtilobbjnmnnmnaaGreatDoor.AddrFns
open Go.RowKit Go.Lib Go.Proofs.YtilobbjnmnnmnaaGreatDoor.OBk Go.Proofs.YtilobbjnmnnmnaaGreatDoor.AddrLib Go.Proofs.YtilobbjnmnnmnaaGreatDoorW.PrintWords Go.Proofs.YtilobbjnmnnmnaaGreatDoorW.PrintLast Go.Proofs.YtilobbjnmnnmnaaGreatDoorW.PrintMore

/-! ### Base 10 -/
def decL (u : Nat) : List UInt8 :=
  if u < 10 then [UInt8.ofNat (48 + u)] else if u < 100 then [UInt8.ofNat (48 + u / 10), UInt8.ofNat (48 + u % 10)] else [UInt8.ofNat (48 + u / 100), UInt8.ofNat (48 + u / 10 % 10), UInt8.ofNat (48 + u % 10)]
theorem dec_eq (u : Nat) (h : u < 1000) : decDigits u = decL u := by
  have one : ∀ v, v < 10 → decDigits v = [UInt8.ofNat (48 + v)] := fun v hv => by rw [decDigits, dif_pos hv]
  have two : ∀ v, ¬ v < 10 → v < 100 → decDigits v = [UInt8.ofNat (48 + v / 10), UInt8.ofNat (48 + v % 10)] := fun v h1 h2 => by
    rw [decDigits, dif_neg h1, one (v / 10) (by omega)]; rfl
  unfold decL
  by_cases c : u < 10
  · rw [if_pos c, one u c]
  · rw [if_neg c]
    by_cases d : u < 100
    · rw [if_pos d, two u c d]
    · rw [if_neg d, decDigits, dif_neg c, two (u / 10) (by omega) (by omega), show u / 10 / 10 = u / 100 by omega]
      rfl
theorem itoa_eq (x : Int) (h0 : 0 ≤ x) (h1 : x < 1000) : itoa x = decL x.toNat := by
  unfold itoa
  rw [if_neg (by omega), dec_eq _ (by omega)]
def decOk (u : Nat) : Bool := (numP 3 10 (mkB (decL u)) == some ((u : Int), true)) && !(badO ((u : Int), true) (mkB (decL u))) && (decL u).all (fun b => b != 46 && b != 47 && b != 58) && decide (1 ≤ (decL u).length ∧ (decL u).length ≤ 3)
theorem dec_tab : ∀ u : Fin 256, decOk u.val = true := by decide +kernel
theorem dec_fact (u : Nat) (h : u < 256) : numP 3 10 (mkB (decL u)) = some ((u : Int), true) ∧ badO ((u : Int), true) (mkB (decL u)) = false ∧ (46 : UInt8) ∉ decL u ∧ (47 : UInt8) ∉ decL u ∧ (58 : UInt8) ∉ decL u ∧ 1 ≤ (decL u).length ∧ (decL u).length ≤ 3 := by
  have t := dec_tab ⟨u, h⟩
  unfold decOk at t
  simp only [Bool.and_eq_true, beq_iff_eq, Bool.not_eq_true', List.all_eq_true, bne_iff_ne, decide_eq_true_eq] at t
  obtain ⟨⟨⟨t1, t2⟩, t3⟩, t4, t5⟩ := t
  exact ⟨t1, t2, fun hb => (t3 _ hb).1.1 rfl, fun hb => (t3 _ hb).1.2 rfl, fun hb => (t3 _ hb).2 rfl, t4, t5⟩
theorem count_none {c : UInt8} {s : ByteArray} (h : c ∉ s.data.toList) : countB s (oneS c) = 0 := countB_miss s (oneS c) (index1_none h)
theorem elder_none (k : Nat) (s : ByteArray) (hs : s.size ≤ 100000) (h : (46 : UInt8) ∉ s.data.toList) : addr_elder.f k s = some (false, 0, 0, false) := by
  unfold addr_elder.f elderF
  rw [if_pos hs, count_none h, if_neg (by decide)]
theorem whole_step (k : Nat) (l : List Int) (i : Nat) (n x : Int) (h4 : l.length = 4) (hi : i < 4) (hx : l.getD i 0 = x) (x0 : 0 ≤ x) (x1 : x < 256) (n0 : 0 ≤ n) (n1 : n < 16777216) :
    addr_whole.l0 (k + 1) n l 4 i = addr_whole.l0 k (n * 256 + x) l 4 ((i + 1 : Nat) : Int) := by
  have hr : rd l (i : Int) = x := by unfold rd; rw [Int.toNat_natCast, hx]
  rw [addr_whole.l0, if_pos (by omega), if_pos (by omega), if_pos (by rw [h4]; omega), hr, wrap_small i (by omega), or_add n x 8 256 (by decide) n0 (by omega) x0 x1 (by omega)]
theorem four_eq (k : Nat) (a b c d : Int) (ha : 0 ≤ a ∧ a < 256) (hb : 0 ≤ b ∧ b < 256) (hc : 0 ≤ c ∧ c < 256) (hd : 0 ≤ d ∧ d < 256) :
    addr_Four.f (k + 5) a b c d = some (false, 0, ((a * 256 + b) * 256 + c) * 256 + d) := by
  unfold addr_Four.f addr_whole.f
  obtain ⟨l, hl⟩ : ∃ l, l = [a, b, c, d] := ⟨_, rfl⟩
  have h4 : l.length = 4 := by rw [hl]; rfl
  rw [← hl, h4]
  have e0 := whole_step (k + 4) l 0 0 a h4 (by decide) (by rw [hl]; rfl) ha.1 ha.2 (by decide) (by decide)
  rw [show (0 : Int) * 256 + a = a by omega] at e0
  have e1 := whole_step (k + 3) l 1 a b h4 (by decide) (by rw [hl]; rfl) hb.1 hb.2 ha.1 (by omega)
  have e2 := whole_step (k + 2) l 2 (a * 256 + b) c h4 (by decide) (by rw [hl]; rfl) hc.1 hc.2 (by omega) (by omega)
  have e3 := whole_step (k + 1) l 3 ((a * 256 + b) * 256 + c) d h4 (by decide) (by rw [hl]; rfl) hd.1 hd.2 (by omega) (by omega)
  rw [show addr_whole.l0 (k + 5) 0 l ((4 : Nat) : Int) 0 = addr_whole.l0 (k + 4) a l 4 ((0 + 1 : Nat) : Int) from e0, show addr_whole.l0 (k + 4) a l 4 ((0 + 1 : Nat) : Int) = _ from e1, show addr_whole.l0 (k + 3) _ l 4 ((1 + 1 : Nat) : Int) = _ from e2, show addr_whole.l0 (k + 2) _ l 4 ((2 + 1 : Nat) : Int) = _ from e3, addr_whole.l0, if_neg (by decide), Option.bind_some]
/-- A dotted quad is read. -/
theorem elder_quad (k : Nat) (lo : Int) (l0 : 0 ≤ lo) (l1 : lo < 4294967296) :
    (join ((quad lo).map (·.data.toList)) [46]).length ≤ 15 ∧ (47 : UInt8) ∉ join ((quad lo).map (·.data.toList)) [46] ∧ addr_elder.f (k + 5) (mkB (join ((quad lo).map (·.data.toList)) [46])) = some (false, 0, lo, true) := by
  obtain ⟨L, hL⟩ : ∃ L, L = [decL (lo / 16777216 % 256).toNat, decL (lo / 65536 % 256).toNat, decL (lo / 256 % 256).toNat, decL (lo % 256).toNat] := ⟨_, rfl⟩
  have hq : (quad lo).map (·.data.toList) = L := by
    rw [hL]
    unfold quad
    simp only [List.map_cons, List.map_nil, mkB_data]
    rw [itoa_eq _ (by omega) (by omega), itoa_eq _ (by omega) (by omega), itoa_eq _ (by omega) (by omega), itoa_eq _ (by omega) (by omega)]
  rw [hq]
  have fa := dec_fact (lo / 16777216 % 256).toNat (by omega)
  have fb := dec_fact (lo / 65536 % 256).toNat (by omega)
  have fc := dec_fact (lo / 256 % 256).toNat (by omega)
  have fd := dec_fact (lo % 256).toNat (by omega)
  have hno : ∀ x ∈ L, (46 : UInt8) ∉ x ∧ (47 : UInt8) ∉ x := by
    intro x hx
    rw [hL] at hx
    simp only [List.mem_cons, List.not_mem_nil, or_false] at hx
    rcases hx with rfl | rfl | rfl | rfl
    · exact ⟨fa.2.2.1, fa.2.2.2.1⟩
    · exact ⟨fb.2.2.1, fb.2.2.2.1⟩
    · exact ⟨fc.2.2.1, fc.2.2.2.1⟩
    · exact ⟨fd.2.2.1, fd.2.2.2.1⟩
  have hlen : (join L [46]).length ≤ 15 := by
    rw [hL, join_length]
    simp only [lens, List.map_cons, List.map_nil, List.sum_cons, List.sum_nil, List.length_cons, List.length_nil]
    have := fa.2.2.2.2.2.2; have := fb.2.2.2.2.2.2; have := fc.2.2.2.2.2.2; have := fd.2.2.2.2.2.2
    omega
  refine ⟨hlen, ?_, ?_⟩
  · rw [hL] at hno ⊢
    rw [join_cons]
    simp only [joinTail, List.map_cons, List.map_nil, List.flatten_cons, List.flatten_nil, List.mem_append, List.mem_cons, List.not_mem_nil, or_false, not_or]
    exact ⟨fa.2.2.2.1, ⟨by decide, fb.2.2.2.1⟩, ⟨by decide, fc.2.2.2.1⟩, by decide, fd.2.2.2.1⟩
  · have hsp : splitB (oneS 46) 0 (countB (mkB (join L [46])) (oneS 46)) (mkB (join L [46])) = L.map mkB := by
      rw [splitB_list, mkB_data, split_join 46 L (by rw [hL]; simp) (fun x hx => (hno x hx).1)]
    have hcnt := splitB_all (oneS 46) (Nat.le_refl _) 0 _ (mkB (join L [46])) rfl
    rw [hsp, List.length_map, hL, List.length_cons, List.length_cons, List.length_cons, List.length_cons, List.length_nil, ← hL] at hcnt
    unfold addr_elder.f elderF
    rw [if_pos (by rw [mkB_size]; omega), if_pos (by omega), hsp, hL]
    simp only [List.map_cons, List.map_nil]
    have st : ∀ (u : Nat) (t : List ByteArray) (acc : List Int), u < 256 → elderK (addr_Four.f (k + 5)) (mkB (decL u) :: t) acc = elderK (addr_Four.f (k + 5)) t (acc ++ [(u : Int)]) := fun u t acc hu => by
      have f := dec_fact u hu
      rw [elderK, f.1, Option.bind_some, f.2.1, if_neg (by decide)]
    rw [st _ _ _ (by omega), st _ _ _ (by omega), st _ _ _ (by omega), st _ _ _ (by omega)]
    show (addr_Four.f (k + 5) _ _ _ _).bind _ = _
    rw [four_eq k _ _ _ _ ⟨by omega, by omega⟩ ⟨by omega, by omega⟩ ⟨by omega, by omega⟩ ⟨by omega, by omega⟩, Option.bind_some]
    have e : ((((lo / 16777216 % 256).toNat : Int) * 256 + ((lo / 65536 % 256).toNat : Int)) * 256 + ((lo / 256 % 256).toNat : Int)) * 256 + ((lo % 256).toNat : Int) = lo := by
      rw [Int.toNat_of_nonneg (by omega), Int.toNat_of_nonneg (by omega), Int.toNat_of_nonneg (by omega), Int.toNat_of_nonneg (by omega)]
      omega
    simp only
    rw [e]
end Go.Proofs.YtilobbjnmnnmnaaGreatDoor.AddrFns
set_option linter.unusedSimpArgs false
set_option linter.unusedVariables false
namespace Go.Proofs.YtilobbjnmnnmnaaGreatDoor.AddrFns
open Go.RowKit Go.Lib Go.Proofs.YtilobbjnmnnmnaaGreatDoor.OBk Go.Proofs.YtilobbjnmnnmnaaGreatDoor.AddrLib Go.Proofs.YtilobbjnmnnmnaaGreatDoorW.PrintWords Go.Proofs.YtilobbjnmnnmnaaGreatDoorW.PrintLast Go.Proofs.YtilobbjnmnnmnaaGreatDoorW.PrintMore

/-- A group's text. -/
def hx (x : Int) : List UInt8 := hexL x.toNat
def rng (l : List Int) : Prop := ∀ x ∈ l, 0 ≤ x ∧ x < 65536
def tx (l : List Int) : List UInt8 := join (l.map hx) [58]
theorem hx_ok {l : List Int} (h : rng l) : okG (l.map hx) := by
  intro y hy
  obtain ⟨x, hx', rfl⟩ := List.mem_map.1 hy
  have := h x hx'
  refine ⟨fun hb => (hexL_mem (u := x.toNat) (by omega) 58 hb).2.1 rfl, fun e => ?_⟩
  have := (hexL_len x.toNat).1
  unfold hx at e
  rw [e] at this
  exact absurd this (by decide)
theorem joinTail_len (l : List Int) : (joinTail [58] (l.map hx)).length ≤ 5 * l.length := by
  induction l with
  | nil => simp [joinTail]
  | cons x t ih =>
    have := (hexL_len x.toNat).2
    unfold joinTail at ih ⊢
    unfold hx at ih ⊢
    simp only [List.map_cons, List.flatten_cons, List.length_append, List.length_cons, List.length_nil, List.map_map] at ih ⊢
    omega
theorem tx_len (l : List Int) : (tx l).length ≤ 5 * l.length := by
  unfold tx
  cases l with
  | nil => simp [join_nil]
  | cons x t =>
    rw [List.map_cons, join_cons, List.length_append, List.length_cons]
    have := joinTail_len t
    have := (hexL_len x.toNat).2
    unfold hx at *
    omega
/-- Which octets there are: digits of base 16, and colons. -/
theorem tx_mem {l : List Int} (h : rng l) : ∀ b ∈ tx l, b ≠ 46 ∧ b ≠ 47 ∧ b.toNat < 128 := by
  have tail : ∀ t : List Int, rng t → ∀ b ∈ joinTail [58] (t.map hx), b ≠ 46 ∧ b ≠ 47 ∧ b.toNat < 128 := by
    intro t ht b hb
    unfold joinTail at hb
    rw [List.map_map, List.mem_flatten] at hb
    obtain ⟨y, hy, hb⟩ := hb
    obtain ⟨x, hx', rfl⟩ := List.mem_map.1 hy
    have hr := ht x hx'
    simp only [Function.comp, List.mem_append, List.mem_singleton] at hb
    rcases hb with rfl | hb
    · decide
    · have := hexL_mem (u := x.toNat) (by omega) b hb
      exact ⟨this.2.2.1, this.2.2.2.1, this.1⟩
  intro b hb
  unfold tx at hb
  cases l with
  | nil => simp [join_nil] at hb
  | cons x t =>
    rw [List.map_cons, join_cons, List.mem_append] at hb
    rcases hb with hb | hb
    · have hr := h x (by simp)
      have := hexL_mem (u := x.toNat) (by omega) b hb
      exact ⟨this.2.2.1, this.2.2.2.1, this.1⟩
    · exact tail t (fun y hy => h y (by simp [hy])) b hb
/-! ### addr.join -/
theorem rd_nat (l : List Int) (i : Nat) : rd l (i : Int) = l.getD i 0 := by unfold rd; rw [Int.toNat_natCast]
theorem join_loop (l : List Int) (h : rng l) (h8 : l.length ≤ 8) : ∀ (m k i : Nat), i + m = l.length →
    addr_join.l0 (k + m + 1) ((l.take i).map fun x => mkB (hx x)) l (l.length : Int) (i : Int) = some (mkB (tx l)) := by
  intro m
  induction m with
  | zero =>
    intro k i hi
    have e : i = l.length := by omega
    have hd : ((l.map fun x => mkB (hx x)).map fun b => b.data.toList) = l.map hx := by
      rw [List.map_map]
      exact List.map_congr_left fun x _ => mkB_data _
    have ht := tx_len l
    unfold tx at ht
    rw [addr_join.l0, if_neg (by omega), e, List.take_length]
    unfold strings_Join.f
    rw [hd, if_pos ⟨by rw [List.length_map]; omega, by show (join (l.map hx) [58]).length ≤ 100000; omega⟩, Option.bind_some]
    rfl
  | succ m ih =>
    intro k i hi
    have hlt : i < l.length := by omega
    have hr := h (l.getD i 0) (by rw [List.getD_eq_getElem?_getD, List.getElem?_eq_getElem hlt]; exact List.getElem_mem hlt)
    have hg : l.getD i 0 = l[i] := by rw [List.getD_eq_getElem?_getD, List.getElem?_eq_getElem hlt]; rfl
    rw [addr_join.l0, if_pos (by omega), if_pos (by omega), if_pos (by omega), rd_nat, wr_u64 _ hr.1 (by omega)]
    unfold strconv_FormatUint_103.f
    rw [if_pos ⟨rfl, hr.1, by omega⟩, Option.bind_some, if_pos (by rw [List.length_map, List.length_take]; omega), wrap_small i (by omega)]
    have e : ((l.take i).map fun x => mkB (hx x)) ++ [mkB (hexL (l.getD i 0).toNat)] = (l.take (i + 1)).map fun x => mkB (hx x) := by
      rw [List.take_succ_eq_append_getElem hlt, List.map_append, hg]; rfl
    rw [e, show k + (m + 1) = k + m + 1 by omega]
    exact ih k (i + 1) (by omega)
theorem join_eq (k : Nat) (l : List Int) (h : rng l) (h8 : l.length ≤ 8) : addr_join.f (k + 9) l = some (mkB (tx l)) := by
  unfold addr_join.f
  have := join_loop l h h8 l.length (k + (8 - l.length)) 0 (by omega)
  rw [show k + (8 - l.length) + l.length + 1 = k + 9 by omega] at this
  exact this
/-! ### addr.part -/
theorem num_hx {x : Int} (h : 0 ≤ x ∧ x < 65536) : addr_number.f (mkB (hx x)) 4 16 = some (x, true) := by
  unfold addr_number.f
  rw [if_pos ⟨.inr rfl, by decide⟩]
  have := numP_hex (u := x.toNat) (by omega)
  rw [Int.toNat_of_nonneg h.1] at this
  exact this
theorem wrapm (n : Nat) (h : n ≤ 8) : wrap64 ((n : Int) - 1) = (n : Int) - 1 := by unfold wrap64; omega
theorem part_loop (last : Bool) (l : List Int) (h : rng l) (h8 : l.length ≤ 8) : ∀ (m k i : Nat), i + m = l.length →
    addr_part.l0 (k + 2 * m + 1) last (l.take i) (l.map fun x => mkB (hx x)) (l.map fun x => mkB (hx x)) ((l.map fun x => mkB (hx x)).length : Int) (i : Int) = some (l, true) := by
  intro m
  induction m with
  | zero =>
    intro k i hi
    have e : i = l.length := by omega
    rw [addr_part.l0, if_neg (by rw [List.length_map]; omega), e, List.take_length]
  | succ m ih =>
    intro k i hi
    have hlt : i < l.length := by omega
    have hr := h l[i] (List.getElem_mem hlt)
    have hg : rdOf ByteArray.empty (l.map fun x => mkB (hx x)) (i : Int) = mkB (hx l[i]) := by
      unfold rdOf
      rw [Int.toNat_natCast, List.getD_eq_getElem?_getD, List.getElem?_map, List.getElem?_eq_getElem hlt]
      rfl
    have hel := elder_none (k + 2 * (m + 1)) (mkB (hx l[i])) (by rw [mkB_size]; have := (hexL_len l[i].toNat).2; unfold hx; omega) (by rw [mkB_data]; exact fun hb => (hexL_mem (u := l[i].toNat) (by omega) 46 hb).2.2.1 rfl)
    rw [addr_part.l0, if_pos (by rw [List.length_map]; omega), if_pos (by omega), if_pos (by rw [List.length_map]; omega), hg, hel, Option.bind_some, if_neg (by decide), show k + 2 * (m + 1) = k + 2 * m + 1 + 1 by omega, addr_part.j1, if_neg (by decide), num_hx hr, Option.bind_some, if_pos rfl, if_pos (by rw [List.length_take]; omega), wrap_small i (by omega), wr_u16]
    have e : l.take i ++ [l[i] % 65536] = l.take (i + 1) := by
      rw [List.take_succ_eq_append_getElem hlt, show l[i] % 65536 = l[i] by omega]
    rw [e]
    exact ih k (i + 1) (by omega)
theorem toList_ne {l : List UInt8} (h : l ≠ []) : ¬ (mkB l).toList = [] := by
  intro e
  rw [ByteArray.toList_eq, mkB_data] at e
  exact h e
theorem tx_ne {l : List Int} (h : l ≠ []) : tx l ≠ [] := by
  intro e
  cases l with
  | nil => exact h rfl
  | cons x t =>
    unfold tx at e
    rw [List.map_cons, join_cons] at e
    have := (hexL_len x.toNat).1
    have e2 := (List.append_eq_nil_iff.1 e).1
    unfold hx at e2
    rw [e2] at this
    exact absurd this (by decide)
theorem part_eq (k : Nat) (last : Bool) (l : List Int) (h : rng l) (h8 : l.length ≤ 8) : addr_part.f (k + 17) (mkB (tx l)) last = some (l, true) := by
  unfold addr_part.f
  by_cases c : l = []
  · subst c
    rw [if_pos (by rw [ByteArray.toList_eq, mkB_data]; rfl)]
  · rw [if_neg (toList_ne (tx_ne c))]
    have ht := tx_len l
    have hs : strings_Split.f (mkB (tx l)) (⟨#[58]⟩ : ByteArray) = some (l.map fun x => mkB (hx x)) := by
      unfold strings_Split.f
      rw [if_pos ⟨by rw [mkB_size]; omega, rfl⟩]
      rw [show (⟨#[58]⟩ : ByteArray) = oneS 58 from rfl, splitB_list, mkB_data]
      unfold tx
      rw [split_join 58 (l.map hx) (by simpa using c) (fun y hy => (hx_ok h y hy).1), List.map_map]
      rfl
    rw [hs, Option.bind_some]
    have := part_loop last l h h8 l.length (k + 2 * (8 - l.length)) 0 (by omega)
    rw [show k + 2 * (8 - l.length) + 2 * l.length + 1 = k + 17 by omega] at this
    exact this
/-! ### addr.newer -/
theorem rng_take {l : List Int} (h : rng l) (n : Nat) : rng (l.take n) := fun x hx => h x (List.mem_of_mem_take hx)
theorem rng_drop {l : List Int} (h : rng l) (n : Nat) : rng (l.drop n) := fun x hx => h x (List.mem_of_mem_drop hx)
theorem newer_whole (k : Nat) (l : List Int) (h : rng l) (h8 : l.length = 8) : addr_newer.f (k + 17) (mkB (tx l)) = some (l, true) := by
  have ht := tx_len l
  have hc := cut_whole (l.map hx) (hx_ok h)
  change cut (tx l) [58, 58] = (tx l, [], false) at hc
  unfold addr_newer.f newerF
  rw [if_pos (by rw [mkB_size]; omega), mkB_data, hc]
  simp only
  rw [if_neg (by decide), show (!false) = true from rfl, part_eq k true l h (by omega), Option.bind_some, if_neg (show ¬ (true = false) by decide)]
  have hn : addr_part.f (k + 17) (mkB []) true = some ([], true) := part_eq k true [] (fun x hx => by cases hx) (by decide)
  rw [hn, Option.bind_some, if_neg (show ¬ (true = false) by decide)]
  simp only
  rw [if_pos ⟨by omega, by decide⟩, if_neg (by
    rw [h8]
    rintro (⟨e, _⟩ | ⟨_, e⟩)
    · cases e
    · exact e (by decide)), h8]
  simp
theorem newer_gap (k f n : Nat) (l : List Int) (h : rng l) (h8 : l.length = 8) (hfn : f + n ≤ 8) (hn : 1 < n) (hl : l = l.take f ++ List.replicate n 0 ++ l.drop (f + n)) :
    addr_newer.f (k + 17) (mkB (tx (l.take f) ++ 58 :: 58 :: tx (l.drop (f + n)))) = some (l, true) := by
  have ht1 := tx_len (l.take f)
  have ht2 := tx_len (l.drop (f + n))
  have e1 : (l.take f).length = f := by rw [List.length_take]; omega
  have e2 : (l.drop (f + n)).length = 8 - (f + n) := by rw [List.length_drop, h8]
  have hc := cut_gap ((l.take f).map hx) ((l.drop (f + n)).map hx) (hx_ok (rng_take h f))
  change cut (tx (l.take f) ++ 58 :: 58 :: tx (l.drop (f + n))) [58, 58] = (tx (l.take f), tx (l.drop (f + n)), true) at hc
  have hno := contains_no ((l.drop (f + n)).map hx) (hx_ok (rng_drop h (f + n)))
  change contains (tx (l.drop (f + n))) [58, 58] = false at hno
  unfold addr_newer.f newerF
  rw [if_pos (by rw [mkB_size, List.length_append, List.length_cons, List.length_cons]; omega), mkB_data, hc]
  simp only
  rw [hno, if_neg (by decide), show (!true) = false from rfl, part_eq k false _ (rng_take h f) (by omega), Option.bind_some, if_neg (show ¬ (true = false) by decide), part_eq k true _ (rng_drop h (f + n)) (by omega), Option.bind_some, if_neg (show ¬ (true = false) by decide)]
  simp only
  rw [if_pos ⟨by omega, by omega⟩, e1, e2]
  have en : (8 - (f : Int) - ((8 - (f + n) : Nat) : Int)).toNat = n := by omega
  rw [if_neg (by
    rintro (⟨_, e⟩ | ⟨e, _⟩)
    · omega
    · cases e), en]
  exact congrArg some (Prod.ext hl.symm rfl)
/-! ### The whole -/
def ok2 (six : Bool) (hi lo : Int) : Prop := 0 ≤ hi ∧ hi < 18446744073709551616 ∧ 0 ≤ lo ∧ lo < 18446744073709551616 ∧ (six = true ∨ (hi = 0 ∧ lo < 4294967296))
theorem check_ok {six : Bool} {hi lo : Int} (h : ok2 six hi lo) : addr_Check.f six hi lo = some 0 := by
  unfold addr_Check.f
  cases six
  · rcases h.2.2.2.2 with e | ⟨e1, e2⟩
    · cases e
    · rw [if_neg (by decide), if_pos e1, if_pos (by have := h.2.2.1; omega)]
  · rw [if_pos rfl]
theorem has58 {l : List Int} (h : 2 ≤ l.length) : (58 : UInt8) ∈ tx l := by
  match l, h with
  | x :: y :: t, _ =>
    unfold tx
    rw [List.map_cons, List.map_cons, join_cons]
    simp [joinTail]
theorem read_six (k : Nat) (s : List UInt8) (l : List Int) (hi lo : Int) (hs : s.length ≤ 100) (h46 : (46 : UInt8) ∉ s) (h58 : (58 : UInt8) ∈ s) (hn : addr_newer.f (k + 17) (mkB s) = some (l, true)) (ho : addr_of.f (k + 17) l = some (true, hi, lo)) :
    addr_Read.f (k + 17) (mkB s) = some (true, hi, lo, 0) := by
  unfold addr_Read.f
  rw [elder_none (k + 17) (mkB s) (by rw [mkB_size]; omega) (by rw [mkB_data]; exact h46), Option.bind_some, if_neg (by decide)]
  unfold strings_Contains.f
  rw [if_pos (by rw [mkB_size]; omega), Option.bind_some, mkB_data, if_pos (contains_one h58), hn, Option.bind_some, if_pos rfl, ho, Option.bind_some]
/-- An address is read of its text; the text is short, without strokes. -/
theorem read_text (six : Bool) (hi lo : Int) (h : ok2 six hi lo) (k : Nat) : ∃ s : List UInt8, addr_Text.f (k + 17) six hi lo = some (mkB s, 0) ∧ addr_Read.f (k + 17) (mkB s) = some (six, hi, lo, 0) ∧ (47 : UInt8) ∉ s ∧ s.length ≤ 39 := by
  unfold addr_Text.f textF
  rw [check_ok h, Option.bind_some, if_pos rfl]
  obtain ⟨h1, h2, h3, h4, h5⟩ := h
  cases six
  · rcases h5 with e | ⟨e1, e2⟩
    · cases e
    · subst e1
      obtain ⟨q1, q2, q3⟩ := elder_quad (k + 12) lo h3 e2
      rw [if_neg (by decide), if_pos (by omega)]
      refine ⟨_, rfl, ?_, q2, by omega⟩
      unfold addr_Read.f
      rw [show k + 17 = k + 12 + 5 by omega, q3, Option.bind_some, if_pos rfl]
  · rw [if_pos rfl]
    have hr : rng (cutL hi lo) := cut_rng hi lo
    have h8 : (cutL hi lo).length = 8 := rfl
    have hof : addr_of.f (k + 17) (cutL hi lo) = some (true, hi, lo) := of_cut (k + 8) hi lo h1 h2 h3 h4
    obtain ⟨f, n, hz, hfn, hl⟩ := zL_whole (cutL hi lo)
    rw [h8] at hfn
    rw [hz]
    simp only
    by_cases c : 1 < n
    · rw [if_pos (by omega), if_pos ⟨by omega, by omega⟩, Int.toNat_natCast, show ((f : Int) + (n : Int)).toNat = f + n by omega, join_eq (k + 8) _ (rng_take hr f) (by rw [List.length_take]; omega), Option.bind_some, join_eq (k + 8) _ (rng_drop hr (f + n)) (by rw [List.length_drop]; omega), Option.bind_some]
      have t1 := tx_len ((cutL hi lo).take f)
      have t2 := tx_len ((cutL hi lo).drop (f + n))
      rw [List.length_take, h8] at t1
      rw [List.length_drop, h8] at t2
      rw [if_pos ⟨by rw [mkB_size]; omega, by rw [mkB_size]; omega⟩]
      have es : (mkB (tx ((cutL hi lo).take f)) ++ (⟨#[58, 58]⟩ : ByteArray)) ++ mkB (tx ((cutL hi lo).drop (f + n))) = mkB (tx ((cutL hi lo).take f) ++ 58 :: 58 :: tx ((cutL hi lo).drop (f + n))) := by
        rw [← mkB_eta ((mkB (tx ((cutL hi lo).take f)) ++ (⟨#[58, 58]⟩ : ByteArray)) ++ mkB (tx ((cutL hi lo).drop (f + n))))]
        congr 1
        simp [ByteArray.data_append, mkB]
      rw [es]
      have hm : ∀ b ∈ tx ((cutL hi lo).take f) ++ 58 :: 58 :: tx ((cutL hi lo).drop (f + n)), b ≠ 46 ∧ b ≠ 47 := by
        intro b hb
        rw [List.mem_append, List.mem_cons, List.mem_cons] at hb
        rcases hb with hb | rfl | rfl | hb
        · exact ⟨(tx_mem (rng_take hr f) b hb).1, (tx_mem (rng_take hr f) b hb).2.1⟩
        · decide
        · decide
        · exact ⟨(tx_mem (rng_drop hr (f + n)) b hb).1, (tx_mem (rng_drop hr (f + n)) b hb).2.1⟩
      have hlen : (tx ((cutL hi lo).take f) ++ 58 :: 58 :: tx ((cutL hi lo).drop (f + n))).length ≤ 39 := by
        rw [List.length_append, List.length_cons, List.length_cons]; omega
      exact ⟨_, rfl, read_six k _ _ hi lo (by omega) (fun hb => (hm _ hb).1 rfl) (by simp) (newer_gap k f n _ hr h8 hfn c hl) hof, fun hb => (hm _ hb).2 rfl, hlen⟩
    · rw [if_neg (by omega), join_eq (k + 8) _ hr (by omega), Option.bind_some]
      have t1 : (tx (cutL hi lo)).length ≤ 39 := by
        have := joinTail_len ((cutL hi lo).drop 1)
        show (join ((cutL hi lo).map hx) [58]).length ≤ 39
        unfold cutL at this ⊢
        rw [List.map_cons, join_cons, List.length_append]
        simp only [List.drop_succ_cons, List.drop_zero, List.length_cons, List.length_nil] at this
        have h0 := (hexL_len (g16 hi 3).toNat).2
        unfold hx at *
        omega
      exact ⟨_, rfl, read_six k _ _ hi lo (by omega) (fun hb => (tx_mem hr _ hb).1 rfl) (has58 (by rw [h8]; decide)) (newer_whole k _ hr h8) hof, fun hb => (tx_mem hr _ hb).2.1 rfl, t1⟩
end Go.Proofs.YtilobbjnmnnmnaaGreatDoor.AddrFns
set_option linter.unusedSimpArgs false
set_option linter.unusedVariables false
namespace Go.Proofs.YtilobbjnmnnmnaaGreatDoor.AddrFns
open Go.RowKit Go.Lib Go.Proofs.YtilobbjnmnnmnaaGreatDoor.OBk Go.Proofs.YtilobbjnmnnmnaaGreatDoor.AddrLib Go.Proofs.YtilobbjnmnnmnaaGreatDoorW.PrintWords Go.Proofs.YtilobbjnmnnmnaaGreatDoorW.PrintLast Go.Proofs.YtilobbjnmnnmnaaGreatDoorW.PrintMore

/-- A group's text, and what it tells. -/
structure Grp (p : List UInt8 × Int) : Prop where
  ne : p.1 ≠ []
  len : p.1.length ≤ 4
  mem : ∀ b ∈ p.1, b ≠ 46 ∧ b ≠ 58
  num : addr_number.f (mkB p.1) 4 16 = some (p.2, true)
  rng : 0 ≤ p.2 ∧ p.2 < 65536
def gts (l : List (List UInt8 × Int)) : List UInt8 := join (l.map Prod.fst) [58]
theorem gts_ok {l : List (List UInt8 × Int)} (h : ∀ p ∈ l, Grp p) : okG (l.map Prod.fst) := by
  intro y hy
  obtain ⟨p, hp, rfl⟩ := List.mem_map.1 hy
  exact ⟨fun hb => ((h p hp).mem 58 hb).2 rfl, (h p hp).ne⟩
theorem gtsTail_len (l : List (List UInt8 × Int)) (h : ∀ p ∈ l, Grp p) : (joinTail [58] (l.map Prod.fst)).length ≤ 5 * l.length := by
  induction l with
  | nil => simp [joinTail]
  | cons x t ih =>
    have h1 := (h x (by simp)).len
    have ih := ih (fun p hp => h p (by simp [hp]))
    unfold joinTail at ih ⊢
    simp only [List.map_cons, List.flatten_cons, List.length_append, List.length_cons, List.length_nil, List.map_map] at ih ⊢
    omega
theorem gts_len (l : List (List UInt8 × Int)) (h : ∀ p ∈ l, Grp p) : (gts l).length ≤ 5 * l.length := by
  unfold gts
  cases l with
  | nil => simp [join_nil]
  | cons x t =>
    rw [List.map_cons, join_cons, List.length_append, List.length_cons]
    have := gtsTail_len t (fun p hp => h p (by simp [hp]))
    have := (h x (by simp)).len
    omega
theorem gts_mem {l : List (List UInt8 × Int)} (h : ∀ p ∈ l, Grp p) : (46 : UInt8) ∉ gts l := by
  have tail : ∀ t : List (List UInt8 × Int), (∀ p ∈ t, Grp p) → (46 : UInt8) ∉ joinTail [58] (t.map Prod.fst) := by
    intro t ht hb
    unfold joinTail at hb
    rw [List.map_map, List.mem_flatten] at hb
    obtain ⟨y, hy, hb⟩ := hb
    obtain ⟨x, hx', rfl⟩ := List.mem_map.1 hy
    simp only [Function.comp, List.mem_append, List.mem_singleton] at hb
    rcases hb with hb | hb
    · exact absurd hb (by decide)
    · exact ((ht x hx').mem _ hb).1 rfl
  intro hb
  unfold gts at hb
  cases l with
  | nil => simp [join_nil] at hb
  | cons x t =>
    rw [List.map_cons, join_cons, List.mem_append] at hb
    rcases hb with hb | hb
    · exact ((h x (by simp)).mem _ hb).1 rfl
    · exact tail t (fun y hy => h y (by simp [hy])) hb
theorem part_loopG (last : Bool) (l : List (List UInt8 × Int)) (h : ∀ p ∈ l, Grp p) (h8 : l.length ≤ 8) : ∀ (m k i : Nat), i + m = l.length →
    addr_part.l0 (k + 2 * m + 1) last ((l.take i).map Prod.snd) (l.map fun x => mkB x.1) (l.map fun x => mkB x.1) ((l.map fun x => mkB x.1).length : Int) (i : Int) = some (l.map Prod.snd, true) := by
  intro m
  induction m with
  | zero =>
    intro k i hi
    have e : i = l.length := by omega
    rw [addr_part.l0, if_neg (by rw [List.length_map]; omega), e, List.take_length]
  | succ m ih =>
    intro k i hi
    have hlt : i < l.length := by omega
    have hr := h l[i] (List.getElem_mem hlt)
    have hg : rdOf ByteArray.empty (l.map fun x => mkB x.1) (i : Int) = mkB l[i].1 := by
      unfold rdOf
      rw [Int.toNat_natCast, List.getD_eq_getElem?_getD, List.getElem?_map, List.getElem?_eq_getElem hlt]
      rfl
    have hel := elder_none (k + 2 * (m + 1)) (mkB l[i].1) (by rw [mkB_size]; have := hr.len; omega) (by rw [mkB_data]; exact fun hb => (hr.mem 46 hb).1 rfl)
    have hrg := hr.rng
    rw [addr_part.l0, if_pos (by rw [List.length_map]; omega), if_pos (by omega), if_pos (by rw [List.length_map]; omega), hg, hel, Option.bind_some, if_neg (by decide), show k + 2 * (m + 1) = k + 2 * m + 1 + 1 by omega, addr_part.j1, if_neg (by decide), hr.num, Option.bind_some, if_pos rfl, if_pos (by rw [List.length_map, List.length_take]; omega), wrap_small i (by omega), wr_u16]
    have e : (l.take i).map Prod.snd ++ [l[i].2 % 65536] = (l.take (i + 1)).map Prod.snd := by
      rw [List.take_succ_eq_append_getElem hlt, List.map_append, show l[i].2 % 65536 = l[i].2 by omega]
      rfl
    rw [e]
    exact ih k (i + 1) (by omega)
theorem gts_ne {l : List (List UInt8 × Int)} (h : ∀ p ∈ l, Grp p) (c : l ≠ []) : gts l ≠ [] := by
  intro e
  cases l with
  | nil => exact c rfl
  | cons x t =>
    unfold gts at e
    rw [List.map_cons, join_cons] at e
    exact (h x (by simp)).ne (List.append_eq_nil_iff.1 e).1
theorem part_groups (k : Nat) (last : Bool) (l : List (List UInt8 × Int)) (h : ∀ p ∈ l, Grp p) (h8 : l.length ≤ 8) : addr_part.f (k + 17) (mkB (gts l)) last = some (l.map Prod.snd, true) := by
  unfold addr_part.f
  by_cases c : l = []
  · subst c
    rw [if_pos (by rw [ByteArray.toList_eq, mkB_data]; rfl)]
    rfl
  · rw [if_neg (toList_ne (gts_ne h c))]
    have ht := gts_len l h
    have hs : strings_Split.f (mkB (gts l)) (⟨#[58]⟩ : ByteArray) = some (l.map fun x => mkB x.1) := by
      unfold strings_Split.f
      rw [if_pos ⟨by rw [mkB_size]; omega, rfl⟩]
      rw [show (⟨#[58]⟩ : ByteArray) = oneS 58 from rfl, splitB_list, mkB_data]
      unfold gts
      rw [split_join 58 (l.map Prod.fst) (by simpa using c) (fun y hy => (gts_ok h y hy).1), List.map_map]
      rfl
    rw [hs, Option.bind_some]
    have := part_loopG last l h h8 l.length (k + 2 * (8 - l.length)) 0 (by omega)
    rw [show k + 2 * (8 - l.length) + 2 * l.length + 1 = k + 17 by omega] at this
    exact this
theorem newer_groups (k : Nat) (l : List (List UInt8 × Int)) (h : ∀ p ∈ l, Grp p) (h8 : l.length = 8) : addr_newer.f (k + 17) (mkB (gts l)) = some (l.map Prod.snd, true) := by
  have ht := gts_len l h
  have hc := cut_whole (l.map Prod.fst) (gts_ok h)
  change cut (gts l) [58, 58] = (gts l, [], false) at hc
  unfold addr_newer.f newerF
  rw [if_pos (by rw [mkB_size]; omega), mkB_data, hc]
  simp only
  rw [if_neg (by decide), show (!false) = true from rfl, part_groups k true l h (by omega), Option.bind_some, if_neg (show ¬ (true = false) by decide)]
  have hn : addr_part.f (k + 17) (mkB []) true = some ([], true) := part_eq k true [] (fun x hx => by cases hx) (by decide)
  rw [hn, Option.bind_some, if_neg (show ¬ (true = false) by decide)]
  simp only
  rw [List.length_map, if_pos ⟨by omega, by decide⟩, if_neg (by
    rw [h8]
    rintro (⟨e, _⟩ | ⟨_, e⟩)
    · cases e
    · exact e (by decide)), h8]
  simp
theorem has58G {l : List (List UInt8 × Int)} (h : 2 ≤ l.length) : (58 : UInt8) ∈ gts l := by
  match l, h with
  | x :: y :: t, _ =>
    unfold gts
    rw [List.map_cons, List.map_cons, join_cons]
    simp [joinTail]
/-- Eight groups are an address. -/
theorem read_groups (k : Nat) (l : List (List UInt8 × Int)) (h : ∀ p ∈ l, Grp p) (hi lo : Int) (h0 : 0 ≤ hi) (h1 : hi < 18446744073709551616) (l0 : 0 ≤ lo) (l1 : lo < 18446744073709551616) (hv : l.map Prod.snd = cutL hi lo) :
    addr_Read.f (k + 17) (mkB (gts l)) = some (true, hi, lo, 0) := by
  have h8 : l.length = 8 := by rw [← List.length_map (f := Prod.snd), hv]; rfl
  have hlen := gts_len l h
  refine read_six k (gts l) (cutL hi lo) hi lo (by omega) (gts_mem h) (has58G (by omega)) ?_ (of_cut (k + 8) hi lo h0 h1 l0 l1)
  rw [← hv]
  exact newer_groups k l h h8
end Go.Proofs.YtilobbjnmnnmnaaGreatDoor.AddrFns
set_option linter.unusedSimpArgs false
set_option linter.unusedVariables false
namespace Go.Proofs.YtilobbjnmnnmnaaGreatDoor.NameFns
open Go.RowKit Go.Proofs.YtilobbjnmnnmnaaGreatDoor.OBk Go.Proofs.YtilobbjnmnnmnaaGreatDoorW.PrintWords Go.Proofs.YtilobbjnmnnmnaaGreatDoorW.PrintLast Go.Proofs.YtilobbjnmnnmnaaGreatDoorW.PrintMore

theorem size_nil {s : ByteArray} : s.toList = ([] : List UInt8) ↔ s.size = 0 := by
  rw [ByteArray.toList_eq]
  constructor
  · intro h
    have : s.data.toList.length = 0 := by rw [h]; rfl
    rw [data_length] at this
    exact this
  · intro h
    apply List.eq_nil_of_length_eq_zero
    rw [data_length]
    exact h
/-! ### The check -/
theorem check_l0 : ∀ (k : Nat) (s : ByteArray), s.size < k → s.size ≤ 1000000 → name_Check.l0 k s = some (if wf s = true then 0 else 4) := by
  intro k
  induction k with
  | zero => intro s h; omega
  | succ k ih =>
    intro s h hs
    simp only [name_Check.l0]
    by_cases h0 : s.size = 0
    · rw [if_pos (size_nil.2 h0), wf_zero h0, if_pos rfl]
    rw [if_neg (fun e => h0 (size_nil.1 e)), cut_eq s (by omega), Option.bind_some]
    unfold cutR
    cases hc : cutS s with
    | none =>
      rw [wf_none hc h0]
      rfl
    | some p =>
      obtain ⟨l, r⟩ := p
      have hz := cutS_sizes hc
      rw [wf_cut hc]
      show (if true = true then name_Check.l0 k r else some 4) = _
      rw [if_pos rfl]
      exact ih r (by omega) (by omega)
theorem check_eq (s : ByteArray) (k : Nat) (hk : 300 ≤ k) : name_Check.f k s = some (chkS s) := by
  unfold name_Check.f chkS
  by_cases h : s.size > 254
  · rw [if_pos (by omega), if_pos h]
  · rw [if_neg (by omega), if_neg h]
    exact check_l0 k s (by omega) (by omega)
/-! ### The labels -/
theorem labels_bad {s : ByteArray} (h : chkS s ≠ 0) (k : Nat) (hk : 300 ≤ k) : name_Labels.f k s = some [] := by
  unfold name_Labels.f
  rw [check_eq s k hk, Option.bind_some, if_neg h]
theorem labels_join {L : List ByteArray} (h : okL L) (hl : (joinI L).length ≤ 254) (k : Nat) (hk : 300 ≤ k) : name_Labels.f k (joinS L) = some L := by
  unfold name_Labels.f
  rw [check_eq _ k hk, Option.bind_some, chkS_join h hl, if_pos rfl, labelsP_join h, if_pos ⟨by rw [joinS_size h]; exact hl, Nat.le_trans (joinI_len L) hl⟩]
/-! ### Make -/
theorem nm_eq {L : List ByteArray} (h : okL L) : (⟨(nmOf L).toArray⟩ : ByteArray) = joinS L := by
  apply bytesOf_inj
  rw [bytesOf_join h]
  show (nmOf L).map _ = _
  induction L with
  | nil => rfl
  | cons x t ih =>
    have h1 := okL_cons.1 h
    rw [joinI_cons]
    simp only [nmOf, List.map_cons, List.map_append]
    rw [ih h1.2]
    congr 1
    simp
    omega
theorem nm_len {L : List ByteArray} (h : okL L) : (nmOf L).length = (joinI L).length := by
  rw [← bytesOf_join h, ← nm_eq h]
  show _ = ((nmOf L).map _).length
  rw [List.length_map]
theorem chkL_ok {L : List ByteArray} (h : okL L) : chkL L = 0 := by
  induction L with
  | nil => rfl
  | cons x t ih =>
    have h1 := okL_cons.1 h
    unfold chkL
    rw [if_neg (by omega), if_neg (by omega)]
    exact ih h1.2
theorem make_join {L : List ByteArray} (h : okL L) (hl : (joinI L).length ≤ 254) : name_Make.f L = some (joinS L, 0) := by
  unfold name_Make.f
  rw [if_pos (by have := joinI_len L; omega), if_pos (chkL_ok h), if_neg (by rw [nm_len h]; omega), nm_eq h]
end Go.Proofs.YtilobbjnmnnmnaaGreatDoor.NameFns
set_option linter.unusedSimpArgs false
set_option linter.unusedVariables false
namespace Go.Proofs.YtilobbjnmnnmnaaGreatDoor.AddrFns
open Go.RowKit Go.Lib Go.Proofs.YtilobbjnmnnmnaaGreatDoor.OBk Go.Proofs.YtilobbjnmnnmnaaGreatDoor.AddrLib Go.Proofs.YtilobbjnmnnmnaaGreatDoor.NameFns Go.Proofs.YtilobbjnmnnmnaaGreatDoorW.PrintWords Go.Proofs.YtilobbjnmnnmnaaGreatDoorW.PrintLast Go.Proofs.YtilobbjnmnnmnaaGreatDoorW.PrintMore

def octs (a : Int) : Nat → List Int
  | 0 => []
  | m + 1 => (a / 2 ^ (8 * m) % 256) :: octs a m
theorem octs_rng (a : Int) : ∀ m, ∀ x ∈ octs a m, 0 ≤ x ∧ x < 256
  | 0, x, h => by cases h
  | m + 1, x, h => by
    rcases List.mem_cons.1 h with rfl | h
    · omega
    · exact octs_rng a m x h
theorem parted_loop (a : Int) : ∀ (m k : Nat) (l : List Int), m ≤ 8 → l.length + m ≤ 100 → addr_parted.l0 (k + m + 1) l a ((m : Int) - 1) = some (l ++ octs a m) := by
  intro m
  induction m with
  | zero =>
    intro k l _ _
    rw [addr_parted.l0, if_neg (by omega)]
    simp [octs]
  | succ m ih =>
    intro k l hm hl
    have e0 : ((m + 1 : Nat) : Int) - 1 = (m : Int) := by omega
    have e1 : wrap64 (8 * (m : Int)) = 8 * (m : Int) := by unfold wrap64; omega
    have e2 : shr .u64 a (8 * (m : Int)) = a / 2 ^ (8 * m) := by
      show a / 2 ^ min (8 * (m : Int)).toNat 64 = _
      rw [show min (8 * (m : Int)).toNat 64 = 8 * m by omega]
    have e3 : wrap64 ((m : Int) - 1) = (m : Int) - 1 := by unfold wrap64; omega
    rw [e0, show k + (m + 1) + 1 = (k + m + 1) + 1 by omega, addr_parted.l0, if_pos (by omega), e1, if_pos (by omega), if_pos (by omega), e2, e3, ih k _ (by omega) (by rw [List.length_append, List.length_singleton]; omega)]
    simp [octs]
theorem parted_eq (a : Int) (m k : Nat) (l : List Int) (hm : m ≤ 8) (hl : l.length ≤ 50) : addr_parted.f (k + 9) l a (m : Int) = some (l ++ octs a m) := by
  unfold addr_parted.f
  have := parted_loop a m (k + (8 - m)) l hm (by omega)
  rw [show k + (8 - m) + m + 1 = k + 9 by omega] at this
  rw [show wrap64 ((m : Int) - 1) = (m : Int) - 1 by unfold wrap64; omega]
  exact this
def octsOf (six : Bool) (hi lo : Int) : List Int := if six then octs hi 8 ++ octs lo 8 else octs lo 4
theorem octsOf_rng (six : Bool) (hi lo : Int) : ∀ x ∈ octsOf six hi lo, 0 ≤ x ∧ x < 256 := by
  intro x h
  unfold octsOf at h
  split at h
  · rcases List.mem_append.1 h with h | h <;> exact octs_rng _ _ x h
  · exact octs_rng _ _ x h
theorem octets_ok {six : Bool} {hi lo : Int} (h : ok2 six hi lo) (k : Nat) : addr_Octets.f (k + 9) six hi lo = some (strOfNums (octsOf six hi lo), 0) := by
  unfold addr_Octets.f
  rw [check_ok h, Option.bind_some, if_pos rfl]
  cases six
  · rw [if_neg (by decide)]
    have := parted_eq lo 4 k [] (by decide) (by decide)
    rw [show ((4 : Nat) : Int) = 4 from rfl, List.nil_append] at this
    rw [this, Option.bind_some]
    rfl
  · rw [if_pos rfl]
    have h1 := parted_eq hi 8 k [] (by decide) (by decide)
    have h2 := parted_eq lo 8 k (octs hi 8) (by decide) (by simp [octs])
    rw [show ((8 : Nat) : Int) = 8 from rfl] at h1 h2
    rw [List.nil_append] at h1
    rw [h1, Option.bind_some, h2, Option.bind_some]
    rfl
/-- Of an address that is none the octets are none. -/
theorem octets_bad {six : Bool} {hi lo : Int} (h : six = false) (hb : ¬ (hi = 0 ∧ lo < 4294967296)) (h0 : 0 ≤ lo) (k : Nat) : ∃ e : Int, e ≠ 0 ∧ addr_Octets.f k six hi lo = some (⟨#[]⟩, e) := by
  subst h
  have hc : addr_Check.f false hi lo = some 2 := by
    unfold addr_Check.f
    rw [if_neg (by decide)]
    by_cases e : hi = 0
    · rw [if_pos e, if_neg (by omega)]
    · rw [if_neg e]
  refine ⟨2, by decide, ?_⟩
  unfold addr_Octets.f
  rw [hc, Option.bind_some, if_neg (by decide)]
theorem nums_octs (six : Bool) (hi lo : Int) : numsB (strOfNums (octsOf six hi lo)) = octsOf six hi lo := bytesOf_str (fun x h => by have := octsOf_rng six hi lo x h; omega)
theorem size_octs (six : Bool) (hi lo : Int) : (strOfNums (octsOf six hi lo)).size = (octsOf six hi lo).length := by rw [← numsB_len, nums_octs]
theorem octs_len (a : Int) : ∀ m, (octs a m).length = m
  | 0 => rfl
  | m + 1 => by rw [octs, List.length_cons, octs_len a m]
theorem octsOf_len (six : Bool) (hi lo : Int) : (octsOf six hi lo).length = if six then 16 else 4 := by
  unfold octsOf
  split
  · rw [List.length_append, octs_len, octs_len]
  · rw [octs_len]
/-! ### The row -/
theorem seqB_snd (xs : List Int) : (seqB xs 0).map Prod.snd = xs.reverse := by
  unfold seqB
  rw [List.drop_zero, List.map_map, List.map_reverse]
  congr 1
  refine List.ext_getElem? fun i => ?_
  rw [List.getElem?_map]
  by_cases h : i < xs.length
  · rw [List.getElem?_eq_getElem (by simpa using h), List.getElem?_eq_getElem h]
    simp [rd, rdOf, List.getD, h]
  · rw [List.getElem?_eq_none (by simpa using h), List.getElem?_eq_none (by omega)]
    rfl
theorem revs_eq (six : Bool) (l : List (Int × Int)) : revs six l = (l.map Prod.snd).flatMap (revOne six) := by
  unfold revs
  rw [List.flatMap_map]
def rowOf (six : Bool) (hi lo : Int) : List ByteArray := (octsOf six hi lo).reverse.flatMap (revOne six) ++ tailS six
theorem revRow_eq (six : Bool) (hi lo : Int) : revRow six (strOfNums (octsOf six hi lo)) = rowOf six hi lo := by
  unfold revRow rowOf
  rw [nums_octs, revs_eq, seqB_snd]
theorem hexS_eq : ∀ d : Fin 16, hexS (d.val : Int) = mkB [hexD d.val] := by decide +kernel
theorem hexS_at (d : Int) (h0 : 0 ≤ d) (h1 : d < 16) : hexS d = mkB [hexD d.toNat] := by
  have := hexS_eq ⟨d.toNat, by omega⟩
  rw [show ((⟨d.toNat, by omega⟩ : Fin 16).val : Int) = d by show ((d.toNat : Nat) : Int) = d; omega] at this
  exact this
theorem decL_len (u : Nat) : 1 ≤ (decL u).length ∧ (decL u).length ≤ 3 := by
  unfold decL
  split
  · simp
  · split <;> simp
theorem revOne_size (six : Bool) (b : Int) (h0 : 0 ≤ b) (h1 : b < 256) : ∀ x ∈ revOne six b, 1 ≤ x.size ∧ x.size ≤ 3 := by
  intro x hx
  unfold revOne at hx
  split at hx
  · rcases List.mem_cons.1 hx with rfl | hx
    · rw [hexS_at _ (by omega) (by omega), mkB_size]; simp
    · obtain rfl := List.mem_singleton.1 hx
      rw [hexS_at _ (by omega) (by omega), mkB_size]; simp
  · obtain rfl := List.mem_singleton.1 hx
    rw [mkB_size, itoa_eq b h0 (by omega)]
    exact decL_len _
theorem tailS_size : ∀ six : Bool, ∀ x ∈ tailS six, 1 ≤ x.size ∧ x.size ≤ 7 := by decide
theorem rowOf_size (six : Bool) (hi lo : Int) : ∀ x ∈ rowOf six hi lo, 1 ≤ x.size ∧ x.size ≤ 7 := by
  intro x hx
  unfold rowOf at hx
  rcases List.mem_append.1 hx with hx | hx
  · obtain ⟨b, hb, hx⟩ := List.mem_flatMap.1 hx
    have hr := octsOf_rng six hi lo b (List.mem_reverse.1 hb)
    have := revOne_size six b hr.1 hr.2 x hx
    omega
  · exact tailS_size six x hx
theorem rowOf_ok (six : Bool) (hi lo : Int) : okL (rowOf six hi lo) := fun x hx => by have := rowOf_size six hi lo x hx; omega
theorem joinI_len_le (L : List ByteArray) (h : ∀ x ∈ L, x.size ≤ 7) : (joinI L).length ≤ 8 * L.length := by
  induction L with
  | nil => exact Nat.zero_le _
  | cons x t ih =>
    have h1 := h x (by simp)
    have h2 := ih (fun y hy => h y (by simp [hy]))
    rw [joinI_len_cons, List.length_cons]
    omega
theorem flat_len (six : Bool) (l : List Int) : (l.flatMap (revOne six)).length = (if six then 2 else 1) * l.length := by
  induction l with
  | nil => simp
  | cons x t ih =>
    rw [List.flatMap_cons, List.length_append, ih, List.length_cons]
    cases six
    · simp [revOne]; omega
    · simp [revOne]; omega
theorem rowOf_len (six : Bool) (hi lo : Int) : (rowOf six hi lo).length = if six then 34 else 6 := by
  unfold rowOf
  rw [List.length_append, flat_len, List.length_reverse, octsOf_len]
  cases six <;> rfl
theorem joinI_flat (l : List Int) (six : Bool) (h : ∀ x ∈ l, 0 ≤ x ∧ x < 256) : (joinI (l.flatMap (revOne six))).length ≤ 4 * l.length := by
  induction l with
  | nil => exact Nat.zero_le _
  | cons x t ih =>
    have ih := ih (fun y hy => h y (by simp [hy]))
    have hx := h x (by simp)
    have hs := revOne_size six x hx.1 hx.2
    rw [List.flatMap_cons, joinI_append, List.length_append, List.length_cons]
    have : (joinI (revOne six x)).length ≤ 4 := by
      cases six
      · have := hs (mkB (itoa x)) (by simp [revOne])
        show (joinI [mkB (itoa x)]).length ≤ 4
        rw [joinI_len_cons]
        show 1 + _ + 0 ≤ 4
        omega
      · show (joinI [hexS (x % 16), hexS (x / 16)]).length ≤ 4
        rw [joinI_len_cons, joinI_len_cons, hexS_at _ (by omega) (by omega), hexS_at _ (by omega) (by omega), mkB_size, mkB_size]
        show 1 + 1 + (1 + 1 + 0) ≤ 4
        decide
    omega
theorem rowOf_short (six : Bool) (hi lo : Int) : (joinI (rowOf six hi lo)).length ≤ 254 := by
  unfold rowOf
  rw [joinI_append, List.length_append]
  have := joinI_flat (octsOf six hi lo).reverse six (fun x h => octsOf_rng six hi lo x (List.mem_reverse.1 h))
  rw [List.length_reverse, octsOf_len] at this
  have ht : (joinI (tailS six)).length ≤ 14 := by cases six <;> decide
  cases six
  · simp only [Bool.false_eq_true, if_false] at this; omega
  · simp only [if_true] at this; omega
theorem reverse_ok {six : Bool} {hi lo : Int} (h : ok2 six hi lo) (k : Nat) : addr_Reverse.f (k + 9) six hi lo = some (joinS (rowOf six hi lo), 0) := by
  unfold addr_Reverse.f reverseF
  rw [octets_ok h k, Option.bind_some, if_pos rfl, if_pos (by rw [size_octs, octsOf_len]; split <;> decide), revRow_eq]
  exact make_join (rowOf_ok six hi lo) (rowOf_short six hi lo)
theorem reverse_bad {six : Bool} {hi lo : Int} (h : six = false) (hb : ¬ (hi = 0 ∧ lo < 4294967296)) (h0 : 0 ≤ lo) (k : Nat) : ∃ e : Int, e ≠ 0 ∧ addr_Reverse.f k six hi lo = some (⟨#[]⟩, e) := by
  obtain ⟨e, he, ho⟩ := octets_bad h hb h0 k
  refine ⟨e, he, ?_⟩
  unfold addr_Reverse.f reverseF
  rw [ho, Option.bind_some, if_neg he]
/-! ### Unlike addresses have unlike rows -/
theorem octs8_inj {a b : Int} (a0 : 0 ≤ a) (a1 : a < 18446744073709551616) (b0 : 0 ≤ b) (b1 : b < 18446744073709551616) (h : octs a 8 = octs b 8) : a = b := by
  simp only [octs, List.cons.injEq, Nat.reduceMul, and_true] at h
  obtain ⟨h7, h6, h5, h4, h3, h2, h1, h0⟩ := h
  simp only [Int.reducePow] at h7 h6 h5 h4 h3 h2 h1 h0
  omega
theorem octs4_inj {a b : Int} (a0 : 0 ≤ a) (a1 : a < 4294967296) (b0 : 0 ≤ b) (b1 : b < 4294967296) (h : octs a 4 = octs b 4) : a = b := by
  simp only [octs, List.cons.injEq, Nat.reduceMul, and_true] at h
  obtain ⟨h3, h2, h1, h0⟩ := h
  simp only [Int.reducePow] at h3 h2 h1 h0
  omega
theorem hexD_inj : ∀ a b : Fin 16, hexD a.val = hexD b.val → a = b := by decide +kernel
theorem itoa_inj (a b : Nat) (ha : a < 256) (hb : b < 256) (h : decL a = decL b) : a = b := by
  have h1 := (dec_fact a ha).1
  rw [h, (dec_fact b hb).1] at h1
  have := congrArg Prod.fst (Option.some.inj h1)
  simp only at this
  omega
theorem mkB_inj {a b : List UInt8} (h : mkB a = mkB b) : a = b := by
  have := congrArg (fun s : ByteArray => s.data.toList) h
  simpa [mkB_data] using this
theorem revOne_inj (six : Bool) (a b : Int) (ha : 0 ≤ a ∧ a < 256) (hb : 0 ≤ b ∧ b < 256) (h : revOne six a = revOne six b) : a = b := by
  cases six
  · simp only [revOne, Bool.false_eq_true, if_false, List.cons.injEq, and_true] at h
    rw [itoa_eq a ha.1 (by omega), itoa_eq b hb.1 (by omega)] at h
    have := itoa_inj a.toNat b.toNat (by omega) (by omega) (mkB_inj h)
    omega
  · simp only [revOne, if_true, List.cons.injEq, and_true] at h
    obtain ⟨h1, h2⟩ := h
    rw [hexS_at _ (by omega) (by omega), hexS_at _ (by omega) (by omega)] at h1 h2
    have e1 := Fin.val_eq_of_eq (hexD_inj ⟨(a % 16).toNat, by omega⟩ ⟨(b % 16).toNat, by omega⟩ (by have := mkB_inj h1; simpa using this))
    have e2 := Fin.val_eq_of_eq (hexD_inj ⟨(a / 16).toNat, by omega⟩ ⟨(b / 16).toNat, by omega⟩ (by have := mkB_inj h2; simpa using this))
    simp only at e1 e2
    omega
theorem flat_inj (six : Bool) : ∀ (l m : List Int), (∀ x ∈ l, 0 ≤ x ∧ x < 256) → (∀ x ∈ m, 0 ≤ x ∧ x < 256) → l.length = m.length → l.flatMap (revOne six) = m.flatMap (revOne six) → l = m
  | [], [], _, _, _, _ => rfl
  | [], _ :: _, _, _, hl, _ => by cases hl
  | _ :: _, [], _, _, hl, _ => by cases hl
  | x :: l, y :: m, h1, h2, hl, h => by
    rw [List.flatMap_cons, List.flatMap_cons] at h
    have hlen : (revOne six x).length = (revOne six y).length := by cases six <;> rfl
    obtain ⟨e1, e2⟩ := List.append_inj h hlen
    rw [revOne_inj six x y (h1 x (by simp)) (h2 y (by simp)) e1, flat_inj six l m (fun z hz => h1 z (by simp [hz])) (fun z hz => h2 z (by simp [hz])) (by simpa using hl) e2]
theorem rowOf_inj {six six' : Bool} {hi lo hi' lo' : Int} (h : ok2 six hi lo) (h' : ok2 six' hi' lo') (e : rowOf six hi lo = rowOf six' hi' lo') : six = six' ∧ hi = hi' ∧ lo = lo' := by
  have hs : six = six' := by
    have := congrArg List.length e
    rw [rowOf_len, rowOf_len] at this
    cases six <;> cases six' <;> first | rfl | (simp at this)
  subst hs
  have hl : (octsOf six hi lo).length = (octsOf six hi' lo').length := by rw [octsOf_len, octsOf_len]
  unfold rowOf at e
  have e1 := flat_inj six _ _ (fun x hx => octsOf_rng six hi lo x (List.mem_reverse.1 hx)) (fun x hx => octsOf_rng six hi' lo' x (List.mem_reverse.1 hx)) (by simpa using hl) (List.append_cancel_right e)
  have e2 := List.reverse_inj.1 e1
  obtain ⟨a1, a2, a3, a4, a5⟩ := h
  obtain ⟨b1, b2, b3, b4, b5⟩ := h'
  cases six
  · have p : hi = 0 ∧ lo < 4294967296 := a5.resolve_left (by decide)
    have q : hi' = 0 ∧ lo' < 4294967296 := b5.resolve_left (by decide)
    exact ⟨rfl, by rw [p.1, q.1], octs4_inj a3 p.2 b3 q.2 e2⟩
  · have e3 : octs hi 8 ++ octs lo 8 = octs hi' 8 ++ octs lo' 8 := e2
    obtain ⟨q1, q2⟩ := List.append_inj e3 (by rw [octs_len, octs_len])
    exact ⟨rfl, octs8_inj a1 a2 b1 b2 q1, octs8_inj a3 a4 b3 b4 q2⟩
end Go.Proofs.YtilobbjnmnnmnaaGreatDoor.AddrFns
set_option linter.unusedSimpArgs false
set_option linter.unusedVariables false
namespace Go.Proofs.YtilobbjnmnnmnaaGreatDoor.AddrFns
open Go.RowKit Go.Lib Go.Proofs.YtilobbjnmnnmnaaGreatDoor.OBk Go.Proofs.YtilobbjnmnnmnaaGreatDoor.AddrLib Go.Proofs.YtilobbjnmnnmnaaGreatDoor.NameFns Go.Proofs.YtilobbjnmnnmnaaGreatDoorW.PrintWords Go.Proofs.YtilobbjnmnnmnaaGreatDoorW.PrintLast Go.Proofs.YtilobbjnmnnmnaaGreatDoorW.PrintMore

/-! ### Groups of four digits -/
def dig4 (a b : Int) : List UInt8 := [hexD (a / 16).toNat, hexD (a % 16).toNat, hexD (b / 16).toNat, hexD (b % 16).toNat]
theorem grp4 (a b : Int) (ha : 0 ≤ a ∧ a < 256) (hb : 0 ≤ b ∧ b < 256) : Grp (dig4 a b, a * 256 + b) := by
  have f1 := hexD_fact (a / 16).toNat (by omega)
  have f2 := hexD_fact (a % 16).toNat (by omega)
  have f3 := hexD_fact (b / 16).toNat (by omega)
  have f4 := hexD_fact (b % 16).toNat (by omega)
  have hm : ∀ c ∈ dig4 a b, c.toNat < 128 ∧ c ≠ 58 ∧ c ≠ 46 ∧ digI (c.toNat : Int) < 16 := by
    intro c hc
    unfold dig4 at hc
    simp only [List.mem_cons, List.not_mem_nil, or_false] at hc
    rcases hc with rfl | rfl | rfl | rfl
    · exact ⟨f1.2.1, f1.2.2.1, f1.2.2.2.1, by rw [f1.1]; omega⟩
    · exact ⟨f2.2.1, f2.2.2.1, f2.2.2.2.1, by rw [f2.1]; omega⟩
    · exact ⟨f3.2.1, f3.2.2.1, f3.2.2.2.1, by rw [f3.1]; omega⟩
    · exact ⟨f4.2.1, f4.2.2.1, f4.2.2.2.1, by rw [f4.1]; omega⟩
  refine ⟨by simp [dig4], Nat.le_refl 4, fun c hc => ⟨(hm c hc).2.2.1, (hm c hc).2.1⟩, ?_, by omega, by omega⟩
  unfold addr_number.f
  rw [if_pos ⟨.inr rfl, by decide⟩]
  have hz : (mkB (dig4 a b)).size = 4 := by rw [mkB_size]; rfl
  unfold numP
  rw [if_neg (by rw [hz]; decide), if_pos (by unfold ascii; rw [mkB_data, List.all_eq_true]; intro b hb; exact decide_eq_true (hm b hb).1), if_pos (by rw [mkB_bytes]; intro x hx; obtain ⟨b, hb, rfl⟩ := List.mem_map.1 hx; exact (hm b hb).2.2.2), mkB_bytes]
  have : valI 16 ((dig4 a b).map fun b => (b.toNat : Int)) = a * 256 + b := by
    unfold valI dig4
    simp only [List.map_cons, List.map_nil, List.foldl_cons, List.foldl_nil, f1.1, f2.1, f3.1, f4.1]
    omega
  rw [this]
def dig2 (x : Int) : List UInt8 := [hexD (x % 16).toNat, hexD (x / 16).toNat]
def bytes1 (ds : List UInt8) : List ByteArray := ds.map fun d => mkB [d]
theorem flat_dig : ∀ (l : List Int), (∀ x ∈ l, 0 ≤ x ∧ x < 256) → l.flatMap (revOne true) = bytes1 (l.flatMap dig2)
  | [], _ => rfl
  | x :: l, h => by
    have hx := h x (by simp)
    rw [List.flatMap_cons, List.flatMap_cons, flat_dig l (fun y hy => h y (by simp [hy]))]
    unfold bytes1
    rw [List.map_append]
    congr 1
    show [hexS (x % 16), hexS (x / 16)] = [mkB [hexD (x % 16).toNat], mkB [hexD (x / 16).toNat]]
    rw [hexS_at _ (by omega) (by omega), hexS_at _ (by omega) (by omega)]
theorem mkB_app (a b : List UInt8) : mkB a ++ mkB b = mkB (a ++ b) := by
  rw [← mkB_eta (mkB a ++ mkB b)]
  congr 1
def grps (xs : List Int) : List (List UInt8 × Int) := (List.range 8).map fun i => (dig4 (xs.getD (2 * i) 0) (xs.getD (2 * i + 1) 0), xs.getD (2 * i) 0 * 256 + xs.getD (2 * i + 1) 0)
set_option maxRecDepth 20000 in
theorem grps_val (hi lo : Int) (h0 : 0 ≤ hi) (h1 : hi < 18446744073709551616) (l0 : 0 ≤ lo) (l1 : lo < 18446744073709551616) : (grps (octs hi 8 ++ octs lo 8)).map Prod.snd = cutL hi lo := by
  show [hi / 2 ^ 56 % 256 * 256 + hi / 2 ^ 48 % 256, hi / 2 ^ 40 % 256 * 256 + hi / 2 ^ 32 % 256, hi / 2 ^ 24 % 256 * 256 + hi / 2 ^ 16 % 256, hi / 2 ^ 8 % 256 * 256 + hi / 2 ^ 0 % 256, lo / 2 ^ 56 % 256 * 256 + lo / 2 ^ 48 % 256, lo / 2 ^ 40 % 256 * 256 + lo / 2 ^ 32 % 256, lo / 2 ^ 24 % 256 * 256 + lo / 2 ^ 16 % 256, lo / 2 ^ 8 % 256 * 256 + lo / 2 ^ 0 % 256] = _
  unfold cutL
  simp only [g16, wr_u16, Int.reducePow, Int.ediv_one]
  congr 1
  · omega
  congr 1
  · omega
  congr 1
  · omega
  congr 1
  · omega
  congr 1
  · omega
  congr 1
  · omega
  congr 1
  · omega
  congr 1
  omega
theorem grps_ok (hi lo : Int) : ∀ p ∈ grps (octs hi 8 ++ octs lo 8), Grp p := by
  intro p hp
  obtain ⟨i, _, rfl⟩ := List.mem_map.1 hp
  have hr : ∀ j, 0 ≤ (octs hi 8 ++ octs lo 8).getD j 0 ∧ (octs hi 8 ++ octs lo 8).getD j 0 < 256 := by
    intro j
    rw [List.getD_eq_getElem?_getD]
    cases hj : (octs hi 8 ++ octs lo 8)[j]? with
    | none => simp
    | some x => exact octsOf_rng true hi lo x (List.mem_of_getElem? hj)
  exact grp4 _ _ (hr _) (hr _)
theorem row_six (hi lo : Int) : rowOf true hi lo = bytes1 ((octs hi 8 ++ octs lo 8).reverse.flatMap dig2) ++ tailS true := by
  unfold rowOf
  rw [flat_dig _ (fun x hx => octsOf_rng true hi lo x (List.mem_reverse.1 hx))]
  rfl
theorem flat2_len : ∀ (l : List Int), (l.flatMap dig2).length = 2 * l.length
  | [] => rfl
  | x :: l => by rw [List.flatMap_cons, List.length_append, flat2_len l, List.length_cons]; show 2 + _ = _; omega
/-- The labels at the end. -/
theorem rd_tail (L T : List ByteArray) (j : Nat) (i : Int) (hi : i = (L.length : Int) + (j : Int)) : rdOf ByteArray.empty (L ++ T) i = T.getD j ByteArray.empty := by
  subst hi
  unfold rdOf
  rw [show ((L.length : Int) + (j : Int)).toNat = L.length + j by omega, List.getD_eq_getElem?_getD, List.getD_eq_getElem?_getD, List.getElem?_append_right (by omega), show L.length + j - L.length = j by omega]
theorem rd_row (six : Bool) (hi lo : Int) (j : Nat) (i : Int) (h : i = (if six then 32 else 4) + (j : Int)) : rdOf ByteArray.empty (rowOf six hi lo) i = (tailS six).getD j ByteArray.empty := by
  unfold rowOf
  refine rd_tail _ _ j i ?_
  rw [flat_len, List.length_reverse, octsOf_len, h]
  cases six <;> simp
theorem reverse_some (six : Bool) (hi lo : Int) (h0 : 0 ≤ hi) (h1 : hi < 18446744073709551616) (l0 : 0 ≤ lo) (l1 : lo < 18446744073709551616) :
    (ok2 six hi lo ∧ addr_Reverse.f 400 six hi lo = some (joinS (rowOf six hi lo), 0)) ∨ ∃ e : Int, e ≠ 0 ∧ addr_Reverse.f 400 six hi lo = some (⟨#[]⟩, e) := by
  by_cases h : six = true ∨ (hi = 0 ∧ lo < 4294967296)
  · exact .inl ⟨⟨h0, h1, l0, l1, h⟩, reverse_ok ⟨h0, h1, l0, l1, h⟩ 391⟩
  · refine .inr (reverse_bad ?_ (fun e => h (.inr e)) l0 400)
    cases six
    · rfl
    · exact absurd (.inl rfl) h
end Go.Proofs.YtilobbjnmnnmnaaGreatDoor.AddrFns
set_option linter.unusedSimpArgs false
set_option linter.unusedVariables false
namespace Go.Proofs.YtilobbjnmnnmnaaGreatDoor.NameFns
open Go.RowKit Go.Proofs.YtilobbjnmnnmnaaGreatDoor.OBk Go.Proofs.YtilobbjnmnnmnaaGreatDoorW.PrintWords Go.Proofs.YtilobbjnmnnmnaaGreatDoorW.PrintLast Go.Proofs.YtilobbjnmnnmnaaGreatDoorW.PrintMore

/-! ### Comparing labels -/
theorem lcmp_eq {a b : ByteArray} (h : a.size ≤ 1000) (h' : b.size ≤ 1000) : label_Compare.f a b = some (cmpI (bytesOf (foldS a)) (bytesOf (foldS b))) := by
  unfold label_Compare.f strings_Compare.f label_Fold.f
  rw [if_pos (by omega), if_pos (by omega)]
  show some _ = _
  rw [cmp_bytes]
theorem lsame_eq {a b : ByteArray} (h : a.size ≤ 1000) (h' : b.size ≤ 1000) : label_Same.f a b = some (decide (foldS a = foldS b)) := by
  unfold label_Same.f
  rw [lcmp_eq h h', Option.bind_some]
  congr 1
  by_cases c : foldS a = foldS b
  · rw [c, cmpI_self, decide_eq_true rfl]
    rfl
  · rw [decide_eq_false c, beq_eq_false_iff_ne]
    intro e
    exact c (bytesOf_inj (cmpI_zero.1 e))
theorem allSame_eq {x y : List ByteArray} (hx : okL x) (hy : okL y) (hl : x.length = y.length) : allSame (x.zip y) = some (decide (x.map foldS = y.map foldS)) := by
  unfold allSame
  have hm : ∀ p ∈ x.zip y, label_Same.f p.1 p.2 = some (decide (foldS p.1 = foldS p.2)) := by
    rintro ⟨p, q⟩ hp
    have h1 := hx p (List.of_mem_zip hp).1
    have h2 := hy q (List.of_mem_zip hp).2
    exact lsame_eq (show p.size ≤ 1000 by omega) (show q.size ≤ 1000 by omega)
  rw [if_pos (by rw [List.all_eq_true]; intro p hp; rw [hm p hp]; rfl)]
  congr 1
  by_cases c : x.map foldS = y.map foldS
  · rw [decide_eq_true c, List.all_eq_true]
    intro p hp
    rw [hm p hp]
    obtain ⟨n, hn, rfl⟩ := List.getElem_of_mem hp
    rw [List.getElem_zip]
    simp only [List.length_zip] at hn
    have h1 : (x.map foldS)[n]'(by rw [List.length_map]; omega) = (y.map foldS)[n]'(by rw [List.length_map]; omega) := by congr 1
    rw [List.getElem_map, List.getElem_map] at h1
    rw [decide_eq_true h1]
    rfl
  · rw [decide_eq_false c]
    rw [← Bool.not_eq_true, List.all_eq_true]
    intro h
    apply c
    apply List.ext_getElem
    · rw [List.length_map, List.length_map]
      exact hl
    · intro n h1 h2
      rw [List.getElem_map, List.getElem_map]
      rw [List.length_map] at h1 h2
      have hp := h _ (List.getElem_mem (l := x.zip y) (n := n) (by rw [List.length_zip]; omega))
      rw [hm _ (List.getElem_mem _), List.getElem_zip] at hp
      simpa using hp
theorem same_join {L M : List ByteArray} (h : okL L) (hl : (joinI L).length ≤ 254) (g : okL M) (gl : (joinI M).length ≤ 254) (k : Nat) (hk : 300 ≤ k) : name_Same.f k (joinS L) (joinS M) = some (decide (L.map foldS = M.map foldS)) := by
  unfold name_Same.f
  rw [check_eq _ k hk, check_eq _ k hk, chkS_join h hl, chkS_join g gl, Option.bind_some, if_pos rfl, Option.bind_some, if_pos rfl, labels_join h hl k hk, labels_join g gl k hk, Option.bind_some, Option.bind_some]
  by_cases c : L.length = M.length
  · rw [if_pos c]
    exact allSame_eq h g c
  · rw [if_neg c, decide_eq_false]
    intro e
    have := congrArg List.length e
    rw [List.length_map, List.length_map] at this
    exact c this
theorem rdOf_get {xs : List ByteArray} {i : Nat} (h : i < xs.length) : rdOf ByteArray.empty xs (i : Int) = xs[i] := by
  unfold rdOf
  rw [Int.toNat_natCast, List.getD_eq_getElem?_getD, List.getElem?_eq_getElem h]
  rfl
theorem reverse_stop {L : List ByteArray} (i : Nat) (xs : List ByteArray) (c : ¬ (i : Int) < (L.length : Int) - 1 - i) (h2 : 2 * i ≤ L.length + 1) (h3 : xs.length = L.length)
    (h4 : ∀ m, m < L.length → xs[m]? = if m < i ∨ L.length - i ≤ m then L[L.length - 1 - m]? else L[m]?) (k : Nat) :
    slices_Reverse_string_string.l0 (k + 1) xs (i : Int) ((L.length : Int) - 1 - i) = some L.reverse := by
  simp only [slices_Reverse_string_string.l0]
  rw [if_neg c]
  congr 1
  apply List.ext_getElem?
  intro m
  by_cases hm : m < L.length
  · rw [h4 m hm, List.getElem?_reverse hm]
    by_cases c : m < i ∨ L.length - i ≤ m
    · rw [if_pos c]
    · rw [if_neg c]
      congr 1
      omega
  · rw [List.getElem?_eq_none (by omega), List.getElem?_eq_none (by rw [List.length_reverse]; omega)]
theorem reverse_l0 {L : List ByteArray} (hL : L.length ≤ 1000000) : ∀ (d i : Nat) (xs : List ByteArray), L.length - 2 * i ≤ d → 2 * i ≤ L.length + 1 → xs.length = L.length →
    (∀ m, m < L.length → xs[m]? = if m < i ∨ L.length - i ≤ m then L[L.length - 1 - m]? else L[m]?) → ∀ k, d + 1 ≤ k →
    slices_Reverse_string_string.l0 k xs (i : Int) ((L.length : Int) - 1 - i) = some L.reverse := by
  intro d
  induction d with
  | zero =>
    intro i xs h1 h2 h3 h4 k hk
    obtain ⟨k, rfl⟩ : ∃ m, k = m + 1 := ⟨k - 1, by omega⟩
    simp only [slices_Reverse_string_string.l0]
    rw [if_neg (by omega)]
    congr 1
    apply List.ext_getElem?
    intro m
    by_cases hm : m < L.length
    · rw [h4 m hm, List.getElem?_reverse hm]
      by_cases c : m < i ∨ L.length - i ≤ m
      · rw [if_pos c]
      · rw [if_neg c]
        congr 1
        omega
    · rw [List.getElem?_eq_none (by omega), List.getElem?_eq_none (by rw [List.length_reverse]; omega)]
  | succ d ih =>
    intro i xs h1 h2 h3 h4 k hk
    obtain ⟨k, rfl⟩ : ∃ m, k = m + 1 := ⟨k - 1, by omega⟩
    by_cases c : (i : Int) < (L.length : Int) - 1 - i
    · simp only [slices_Reverse_string_string.l0]
      rw [if_pos c, if_pos (by omega), if_pos (by omega), if_pos (by omega), if_pos (by omega)]
      have hj : (L.length : Int) - 1 - i = ((L.length - 1 - i : Nat) : Int) := by omega
      have e1 := wrap_id (n := (i : Int) + 1) (by omega) (by omega)
      have e2 := wrap_id (n := (L.length : Int) - 1 - i - 1) (by omega) (by omega)
      rw [e1, e2, show (L.length : Int) - 1 - (i : Int) - 1 = (L.length : Int) - 1 - ((i + 1 : Nat) : Int) by omega, show (i : Int) + 1 = ((i + 1 : Nat) : Int) by omega, hj, rdOf_get (show L.length - 1 - i < xs.length by omega), rdOf_get (show i < xs.length by omega), Int.toNat_natCast, Int.toNat_natCast]
      refine ih (i + 1) _ (by omega) (by omega) (by rw [List.length_set, List.length_set]; exact h3) ?_ k (by omega)
      intro m hm
      rw [List.getElem?_set, List.getElem?_set, List.length_set]
      have g1 := h4 i (by omega)
      have g2 := h4 (L.length - 1 - i) (by omega)
      rw [if_neg (by omega)] at g1 g2
      have q1 : some xs[i] = L[i]? := by rw [← g1, List.getElem?_eq_getElem (show i < xs.length by omega)]
      have q2 : some (xs[L.length - 1 - i]'(by omega)) = L[L.length - 1 - i]? := by rw [← g2, List.getElem?_eq_getElem (show L.length - 1 - i < xs.length by omega)]
      by_cases m1 : L.length - 1 - i = m
      · rw [if_pos m1, if_pos (by omega), if_pos (by omega), q1]
        congr 1
        omega
      · rw [if_neg m1]
        by_cases m2 : i = m
        · rw [if_pos m2, if_pos (by omega), if_pos (by omega), q2]
          congr 1
          omega
        · rw [if_neg m2, h4 m hm]
          by_cases c3 : m < i ∨ L.length - i ≤ m
          · rw [if_pos c3, if_pos (by omega)]
          · rw [if_neg c3, if_neg (by omega)]
    · exact reverse_stop i xs c h2 h3 h4 k
theorem reverse_eq {L : List ByteArray} (hL : L.length ≤ 1000000) (k : Nat) (hk : L.length + 1 ≤ k) : slices_Reverse_string_string.f k L = some L.reverse := by
  unfold slices_Reverse_string_string.f
  rw [wrap_id (by omega) (by omega)]
  have := reverse_l0 hL L.length 0 L (by omega) (by omega) rfl (by
    intro m hm
    rw [if_neg (by omega)]) k hk
  rw [show (L.length : Int) - 1 - ((0 : Nat) : Int) = (L.length : Int) - 1 by omega] at this
  exact this
end Go.Proofs.YtilobbjnmnnmnaaGreatDoor.NameFns
set_option linter.unusedSimpArgs false
set_option linter.unusedVariables false
namespace Go.Proofs.YtilobbjnmnnmnaaGreatDoor.AddrFns
open Go.RowKit Go.Lib Go.Proofs.YtilobbjnmnnmnaaGreatDoor.OBk Go.Proofs.YtilobbjnmnnmnaaGreatDoor.AddrLib Go.Proofs.YtilobbjnmnnmnaaGreatDoor.NameFns Go.Proofs.YtilobbjnmnnmnaaGreatDoorW.PrintWords Go.Proofs.YtilobbjnmnnmnaaGreatDoorW.PrintLast Go.Proofs.YtilobbjnmnnmnaaGreatDoorW.PrintMore

theorem joinF_eq (l : List ByteArray) (s : ByteArray) (h : l.length ≤ 1000) (hs : (Lib.join (l.map (·.data.toList)) s.data.toList).length ≤ 100000) : strings_Join.f l s = some (mkB (Lib.join (l.map (·.data.toList)) s.data.toList)) := by
  unfold strings_Join.f
  rw [if_pos ⟨by omega, hs⟩]
theorem join_dig (x y : Int) : strings_Join.f (bytes1 (dig4 x y)) ⟨#[]⟩ = some (mkB (dig4 x y)) := by
  have e : Lib.join ((bytes1 (dig4 x y)).map (·.data.toList)) (⟨#[]⟩ : ByteArray).data.toList = dig4 x y := by
    unfold bytes1 dig4
    simp [mkB_data, join_cons, joinTail]
  rw [joinF_eq _ _ (by unfold bytes1 dig4; simp) (by rw [e]; unfold dig4; simp), e]
theorem goB_step (r : List ByteArray) (i : Nat) (acc : List Int) (x y : Int) (hg : grpL r i = bytes1 (dig4 x y)) (hx : 0 ≤ x ∧ x < 256) (hy : 0 ≤ y ∧ y < 256) (ih : goB strings_Join.f addr_number.f r i = some acc) :
    goB strings_Join.f addr_number.f r (i + 1) = some (acc ++ [x * 256 + y]) := by
  rw [goB, ih, Option.bind_some, hg, join_dig, Option.bind_some, (grp4 x y hx hy).num, Option.bind_some, if_pos rfl]
  simp only
  rw [show (x * 256 + y) % 65536 = x * 256 + y by omega]
set_option maxRecDepth 20000 in
theorem goB_grps (x0 x1 x2 x3 x4 x5 x6 x7 x8 x9 x10 x11 x12 x13 x14 x15 : Int) (h : ∀ x ∈ [x0, x1, x2, x3, x4, x5, x6, x7, x8, x9, x10, x11, x12, x13, x14, x15], 0 ≤ x ∧ x < 256) (a b : ByteArray) :
    goB strings_Join.f addr_number.f ((bytes1 ([x0, x1, x2, x3, x4, x5, x6, x7, x8, x9, x10, x11, x12, x13, x14, x15].reverse.flatMap dig2) ++ [a, b]).reverse) 8 = some ((grps [x0, x1, x2, x3, x4, x5, x6, x7, x8, x9, x10, x11, x12, x13, x14, x15]).map Prod.snd) := by
  have s0 := goB_step ((bytes1 ([x0, x1, x2, x3, x4, x5, x6, x7, x8, x9, x10, x11, x12, x13, x14, x15].reverse.flatMap dig2) ++ [a, b]).reverse) 0 [] x0 x1 rfl (h _ (by simp)) (h _ (by simp)) rfl
  have s1 := goB_step _ 1 _ x2 x3 rfl (h _ (by simp)) (h _ (by simp)) s0
  have s2 := goB_step _ 2 _ x4 x5 rfl (h _ (by simp)) (h _ (by simp)) s1
  have s3 := goB_step _ 3 _ x6 x7 rfl (h _ (by simp)) (h _ (by simp)) s2
  have s4 := goB_step _ 4 _ x8 x9 rfl (h _ (by simp)) (h _ (by simp)) s3
  have s5 := goB_step _ 5 _ x10 x11 rfl (h _ (by simp)) (h _ (by simp)) s4
  have s6 := goB_step _ 6 _ x12 x13 rfl (h _ (by simp)) (h _ (by simp)) s5
  have s7 := goB_step _ 7 _ x14 x15 rfl (h _ (by simp)) (h _ (by simp)) s6
  exact s7
/-- What addr.back tells of a row. -/
def backRow (k : Nat) (l : List ByteArray) : Option (Bool × Int × Int × Bool) := backF (slices_Reverse_string_string.f k) strings_Join.f (addr_elder.f k) addr_number.f (addr_of.f k) l
def headS (six : Bool) (hi lo : Int) : List ByteArray := (octsOf six hi lo).reverse.flatMap (revOne six)
theorem headS_len (six : Bool) (hi lo : Int) : (headS six hi lo).length = if six then 32 else 4 := by
  unfold headS
  rw [flat_len, List.length_reverse, octsOf_len]
  cases six <;> rfl
set_option maxRecDepth 20000 in
theorem row_back4 (lo : Int) (l0 : 0 ≤ lo) (l1 : lo < 4294967296) (a b : ByteArray) (k : Nat) (hk : 300 ≤ k) : backRow k (headS false 0 lo ++ [a, b]) = some (false, 0, lo, true) := by
  have hrow : headS false 0 lo ++ [a, b] = [mkB (itoa (lo % 256)), mkB (itoa (lo / 256 % 256)), mkB (itoa (lo / 65536 % 256)), mkB (itoa (lo / 16777216 % 256)), a, b] := by
    show [mkB (itoa (lo / 2 ^ 0 % 256)), mkB (itoa (lo / 2 ^ 8 % 256)), mkB (itoa (lo / 2 ^ 16 % 256)), mkB (itoa (lo / 2 ^ 24 % 256)), a, b] = _
    simp only [Int.reducePow, Int.ediv_one]
  obtain ⟨q1, _, q3⟩ := elder_quad (k - 5) lo l0 l1
  rw [show k - 5 + 5 = k by omega] at q3
  rw [hrow]
  unfold backRow backF
  rw [if_neg (by simp), reverse_eq (by simp) k (by simp only [List.length_cons, List.length_nil]; omega), Option.bind_some, if_pos (by rfl)]
  show (strings_Join.f (quad lo) ⟨#[46]⟩).bind (addr_elder.f k) = _
  rw [joinF_eq (quad lo) ⟨#[46]⟩ (by unfold quad; simp) (Nat.le_trans q1 (by decide)), Option.bind_some]
  exact q3
set_option maxRecDepth 20000 in
theorem row_back6 (hi lo : Int) (h0 : 0 ≤ hi) (h1 : hi < 18446744073709551616) (l0 : 0 ≤ lo) (l1 : lo < 18446744073709551616) (a b : ByteArray) (k : Nat) (hk : 300 ≤ k) : backRow k (headS true hi lo ++ [a, b]) = some (true, hi, lo, true) := by
  have hlen := headS_len true hi lo
  have hrow : headS true hi lo = bytes1 ((octs hi 8 ++ octs lo 8).reverse.flatMap dig2) := flat_dig _ (fun x hx => octsOf_rng true hi lo x (List.mem_reverse.1 hx))
  have hl : (headS true hi lo ++ [a, b]).length = 34 := by rw [List.length_append, hlen]; rfl
  have hg : goB strings_Join.f addr_number.f (headS true hi lo ++ [a, b]).reverse 8 = some ((grps (octs hi 8 ++ octs lo 8)).map Prod.snd) := by
    rw [hrow]
    exact goB_grps _ _ _ _ _ _ _ _ _ _ _ _ _ _ _ _ (octsOf_rng true hi lo) a b
  have ho := of_cut (k - 9) hi lo h0 h1 l0 l1
  rw [show k - 9 + 9 = k by omega] at ho
  unfold backRow backF
  rw [if_neg (by simp), reverse_eq (by rw [hl]; decide) k (by rw [hl]; omega), Option.bind_some, if_neg (by rw [hl]; decide), if_pos hl, hg, Option.bind_some, grps_val hi lo h0 h1 l0 l1, ho, Option.bind_some]
theorem row_back {six : Bool} {hi lo : Int} (h : ok2 six hi lo) (a b : ByteArray) (k : Nat) (hk : 300 ≤ k) : backRow k (headS six hi lo ++ [a, b]) = some (six, hi, lo, true) := by
  obtain ⟨a1, a2, a3, a4, a5⟩ := h
  cases six
  · obtain ⟨rfl, p2⟩ := a5.resolve_left (by decide)
    exact row_back4 lo a3 p2 a b k hk
  · exact row_back6 hi lo a1 a2 a3 a4 a b k hk
theorem headS_size (six : Bool) (hi lo : Int) : ∀ x ∈ headS six hi lo, 1 ≤ x.size ∧ x.size ≤ 7 := fun x hx => rowOf_size six hi lo x (List.mem_append_left _ hx)
/-- The row of an address with another end. -/
theorem back_ok {six : Bool} {hi lo : Int} (h : ok2 six hi lo) (a b : ByteArray) (hs : 1 ≤ a.size ∧ a.size ≤ 7 ∧ 1 ≤ b.size ∧ b.size ≤ 7) (hf : (tailS six).map foldS = [a, b].map foldS) (k : Nat) (hk : 300 ≤ k) :
    okL (headS six hi lo ++ [a, b]) ∧ (joinI (headS six hi lo ++ [a, b])).length ≤ 254 ∧ addr_Back.f k (joinS (headS six hi lo ++ [a, b])) = some (six, hi, lo, true) := by
  have hok : okL (headS six hi lo ++ [a, b]) := by
    intro x hx
    rcases List.mem_append.1 hx with hx | hx
    · have := headS_size six hi lo x hx; omega
    · simp only [List.mem_cons, List.not_mem_nil, or_false] at hx
      rcases hx with rfl | rfl <;> omega
  have hl : (joinI (headS six hi lo ++ [a, b])).length ≤ 254 := by
    have := rowOf_short six hi lo
    rw [show rowOf six hi lo = headS six hi lo ++ tailS six from rfl] at this
    have hj := joinI_flat (octsOf six hi lo).reverse six (fun x h => octsOf_rng six hi lo x (List.mem_reverse.1 h))
    rw [List.length_reverse, octsOf_len] at hj
    rw [joinI_append, List.length_append, joinI_len_cons, joinI_len_cons]
    show _ + (1 + _ + (1 + _ + 0)) ≤ 254
    have h64 : (joinI (headS six hi lo)).length ≤ 64 := by
      unfold headS
      refine Nat.le_trans hj ?_
      cases six <;> decide
    omega
  refine ⟨hok, hl, ?_⟩
  have hr := reverse_ok h (k - 9)
  rw [show k - 9 + 9 = k by omega] at hr
  have hb := row_back h a b k hk
  unfold backRow at hb
  unfold addr_Back.f backOfF
  rw [labels_join hok hl k hk, Option.bind_some, hb, Option.bind_some]
  simp only
  rw [if_pos trivial, hr, Option.bind_some]
  simp only
  rw [if_pos trivial, same_join (rowOf_ok six hi lo) (rowOf_short six hi lo) hok hl k hk, Option.bind_some, decide_eq_true (by rw [show rowOf six hi lo = headS six hi lo ++ tailS six from rfl, List.map_append, List.map_append, hf]), if_pos rfl]
/-- A row of another many labels. -/
theorem back_none {L : List ByteArray} (h : okL L) (hl : (joinI L).length ≤ 254) (h0 : L ≠ []) (h6 : L.length ≠ 6) (h34 : L.length ≠ 34) (k : Nat) (hk : 300 ≤ k) : addr_Back.f k (joinS L) = some (false, 0, 0, false) := by
  have := joinI_len L
  unfold addr_Back.f backOfF
  rw [labels_join h hl k hk, Option.bind_some]
  unfold backF
  rw [if_neg h0, reverse_eq (by omega) k (by omega), Option.bind_some, if_neg h6, if_neg h34, Option.bind_some]
  simp only
  rw [if_neg (by decide)]
end Go.Proofs.YtilobbjnmnnmnaaGreatDoor.AddrFns
set_option linter.unusedSimpArgs false
set_option linter.unusedVariables false
namespace Go.Proofs.YtilobbjnmnnmnaaGreatDoor.AddrFns
open Go.RowKit Go.Lib Go.Proofs.YtilobbjnmnnmnaaGreatDoor.OBk Go.Proofs.YtilobbjnmnnmnaaGreatDoor.AddrLib Go.Proofs.YtilobbjnmnnmnaaGreatDoor.NameFns Go.Proofs.YtilobbjnmnnmnaaGreatDoorW.PrintWords Go.Proofs.YtilobbjnmnnmnaaGreatDoorW.PrintLast Go.Proofs.YtilobbjnmnnmnaaGreatDoorW.PrintMore

/-! ### An address of its octets -/
theorem whole_step8 (k : Nat) (l : List Int) (i : Nat) (n x : Int) (h8 : l.length = 8) (hi : i < 8) (hx : l.getD i 0 = x) (x0 : 0 ≤ x) (x1 : x < 256) (n0 : 0 ≤ n) (n1 : n < 72057594037927936) :
    addr_whole.l0 (k + 1) n l 8 i = addr_whole.l0 k (n * 256 + x) l 8 ((i + 1 : Nat) : Int) := by
  have hr : rd l (i : Int) = x := by unfold rd; rw [Int.toNat_natCast, hx]
  rw [addr_whole.l0, if_pos (by omega), if_pos (by omega), if_pos (by rw [h8]; omega), hr, wrap_small i (by omega), or_add n x 8 256 (by decide) n0 (by omega) x0 x1 (by omega)]
theorem whole8 (k : Nat) (a0 a1 a2 a3 a4 a5 a6 a7 : Int) (h : ∀ x ∈ [a0, a1, a2, a3, a4, a5, a6, a7], 0 ≤ x ∧ x < 256) :
    addr_whole.f (k + 9) [a0, a1, a2, a3, a4, a5, a6, a7] = some (((((((a0 * 256 + a1) * 256 + a2) * 256 + a3) * 256 + a4) * 256 + a5) * 256 + a6) * 256 + a7) := by
  have b0 := h a0 (by simp)
  have b1 := h a1 (by simp)
  have b2 := h a2 (by simp)
  have b3 := h a3 (by simp)
  have b4 := h a4 (by simp)
  have b5 := h a5 (by simp)
  have b6 := h a6 (by simp)
  have b7 := h a7 (by simp)
  unfold addr_whole.f
  obtain ⟨l, hl⟩ : ∃ l, l = [a0, a1, a2, a3, a4, a5, a6, a7] := ⟨_, rfl⟩
  have h8 : l.length = 8 := by rw [hl]; rfl
  rw [← hl, h8]
  have e0 := whole_step8 (k + 8) l 0 0 a0 h8 (by decide) (by rw [hl]; rfl) b0.1 b0.2 (by decide) (by decide)
  rw [show (0 : Int) * 256 + a0 = a0 by omega] at e0
  have e1 := whole_step8 (k + 7) l 1 a0 a1 h8 (by decide) (by rw [hl]; rfl) b1.1 b1.2 b0.1 (by omega)
  obtain ⟨n1, hn1⟩ : ∃ n, n = a0 * 256 + a1 := ⟨_, rfl⟩
  rw [← hn1] at e1 ⊢
  have e2 := whole_step8 (k + 6) l 2 n1 a2 h8 (by decide) (by rw [hl]; rfl) b2.1 b2.2 (by omega) (by omega)
  have g1 : 0 ≤ n1 ∧ n1 < 65536 := by omega
  obtain ⟨n2, hn2⟩ : ∃ n, n = n1 * 256 + a2 := ⟨_, rfl⟩
  rw [← hn2] at e2 ⊢
  have g2 : 0 ≤ n2 ∧ n2 < 16777216 := by omega
  have e3 := whole_step8 (k + 5) l 3 n2 a3 h8 (by decide) (by rw [hl]; rfl) b3.1 b3.2 (by omega) (by omega)
  obtain ⟨n3, hn3⟩ : ∃ n, n = n2 * 256 + a3 := ⟨_, rfl⟩
  rw [← hn3] at e3 ⊢
  have g3 : 0 ≤ n3 ∧ n3 < 4294967296 := by omega
  have e4 := whole_step8 (k + 4) l 4 n3 a4 h8 (by decide) (by rw [hl]; rfl) b4.1 b4.2 (by omega) (by omega)
  obtain ⟨n4, hn4⟩ : ∃ n, n = n3 * 256 + a4 := ⟨_, rfl⟩
  rw [← hn4] at e4 ⊢
  have g4 : 0 ≤ n4 ∧ n4 < 1099511627776 := by omega
  have e5 := whole_step8 (k + 3) l 5 n4 a5 h8 (by decide) (by rw [hl]; rfl) b5.1 b5.2 (by omega) (by omega)
  obtain ⟨n5, hn5⟩ : ∃ n, n = n4 * 256 + a5 := ⟨_, rfl⟩
  rw [← hn5] at e5 ⊢
  have g5 : 0 ≤ n5 ∧ n5 < 281474976710656 := by omega
  have e6 := whole_step8 (k + 2) l 6 n5 a6 h8 (by decide) (by rw [hl]; rfl) b6.1 b6.2 (by omega) (by omega)
  obtain ⟨n6, hn6⟩ : ∃ n, n = n5 * 256 + a6 := ⟨_, rfl⟩
  rw [← hn6] at e6 ⊢
  have e7 := whole_step8 (k + 1) l 7 n6 a7 h8 (by decide) (by rw [hl]; rfl) b7.1 b7.2 (by omega) (by omega)
  rw [show addr_whole.l0 (k + 9) 0 l ((8 : Nat) : Int) 0 = addr_whole.l0 (k + 8) a0 l 8 ((0 + 1 : Nat) : Int) from e0, show addr_whole.l0 (k + 8) a0 l 8 ((0 + 1 : Nat) : Int) = _ from e1, show addr_whole.l0 (k + 7) _ l 8 ((1 + 1 : Nat) : Int) = _ from e2, show addr_whole.l0 (k + 6) _ l 8 ((2 + 1 : Nat) : Int) = _ from e3, show addr_whole.l0 (k + 5) _ l 8 ((3 + 1 : Nat) : Int) = _ from e4, show addr_whole.l0 (k + 4) _ l 8 ((4 + 1 : Nat) : Int) = _ from e5, show addr_whole.l0 (k + 3) _ l 8 ((5 + 1 : Nat) : Int) = _ from e6, show addr_whole.l0 (k + 2) _ l 8 ((6 + 1 : Nat) : Int) = _ from e7, addr_whole.l0, if_neg (by decide)]
theorem whole_octs (k : Nat) (a : Int) (h0 : 0 ≤ a) (h1 : a < 18446744073709551616) : addr_whole.f (k + 9) (octs a 8) = some a := by
  have hw := whole8 k (a / 2 ^ 56 % 256) (a / 2 ^ 48 % 256) (a / 2 ^ 40 % 256) (a / 2 ^ 32 % 256) (a / 2 ^ 24 % 256) (a / 2 ^ 16 % 256) (a / 2 ^ 8 % 256) (a / 2 ^ 0 % 256) (octs_rng a 8)
  refine hw.trans ?_
  simp only [Int.reducePow, Int.ediv_one]
  have q7 : a / 72057594037927936 % 256 = a / 72057594037927936 := by omega
  have q6 : a / 72057594037927936 * 256 + a / 281474976710656 % 256 = a / 281474976710656 := by omega
  have q5 : a / 281474976710656 * 256 + a / 1099511627776 % 256 = a / 1099511627776 := by omega
  have q4 : a / 1099511627776 * 256 + a / 4294967296 % 256 = a / 4294967296 := by omega
  have q3 : a / 4294967296 * 256 + a / 16777216 % 256 = a / 16777216 := by omega
  have q2 : a / 16777216 * 256 + a / 65536 % 256 = a / 65536 := by omega
  have q1 : a / 65536 * 256 + a / 256 % 256 = a / 256 := by omega
  have q0 : a / 256 * 256 + a % 256 = a := by omega
  rw [q7, q6, q5, q4, q3, q2, q1, q0]
theorem of_octs {six : Bool} {hi lo : Int} (h : ok2 six hi lo) (k : Nat) : addr_Of.f (k + 9) (strOfNums (octsOf six hi lo)) = some (six, hi, lo, 0) := by
  obtain ⟨a1, a2, a3, a4, a5⟩ := h
  have hb : bytesOf (strOfNums (octsOf six hi lo)) = octsOf six hi lo := nums_octs six hi lo
  have hz : (strOfNums (octsOf six hi lo)).size = if six = true then 16 else 4 := by rw [size_octs, octsOf_len]
  unfold addr_Of.f ofF
  rw [hb, hz]
  cases six
  · obtain ⟨rfl, p2⟩ := a5.resolve_left (by decide)
    rw [if_pos (by decide)]
    show (addr_Four.f (k + 9) (lo / 2 ^ 24 % 256) (lo / 2 ^ 16 % 256) (lo / 2 ^ 8 % 256) (lo / 2 ^ 0 % 256)).bind _ = _
    simp only [Int.reducePow, Int.ediv_one]
    rw [four_eq (k + 4) _ _ _ _ ⟨by omega, by omega⟩ ⟨by omega, by omega⟩ ⟨by omega, by omega⟩ ⟨by omega, by omega⟩, Option.bind_some]
    have e : ((lo / 16777216 % 256 * 256 + lo / 65536 % 256) * 256 + lo / 256 % 256) * 256 + lo % 256 = lo := by omega
    simp only
    rw [e]
  · rw [if_neg (by decide), if_pos (by decide)]
    have e1 : (octsOf true hi lo).take 8 = octs hi 8 := rfl
    have e2 : (octsOf true hi lo).drop 8 = octs lo 8 := rfl
    rw [e1, e2, whole_octs k hi a1 a2, Option.bind_some, whole_octs k lo a3 a4, Option.bind_some]
/-! ### Addresses that may not be -/
theorem check_bad {hi lo : Int} (hb : ¬ (hi = 0 ∧ lo < 4294967296)) (h0 : 0 ≤ lo) : addr_Check.f false hi lo = some 2 := by
  unfold addr_Check.f
  rw [if_neg (by decide)]
  by_cases e : hi = 0
  · rw [if_pos e, if_neg (by omega)]
  · rw [if_neg e]
theorem text_bad {hi lo : Int} (hb : ¬ (hi = 0 ∧ lo < 4294967296)) (h0 : 0 ≤ lo) (k : Nat) : addr_Text.f k false hi lo = some (⟨#[]⟩, 2) := by
  unfold addr_Text.f textF
  rw [check_bad hb h0, Option.bind_some, if_neg (by decide)]
theorem octets_bad2 {hi lo : Int} (hb : ¬ (hi = 0 ∧ lo < 4294967296)) (h0 : 0 ≤ lo) (k : Nat) : addr_Octets.f k false hi lo = some (⟨#[]⟩, 2) := by
  unfold addr_Octets.f
  rw [check_bad hb h0, Option.bind_some, if_neg (by decide)]
theorem reverse_bad2 {hi lo : Int} (hb : ¬ (hi = 0 ∧ lo < 4294967296)) (h0 : 0 ≤ lo) (k : Nat) : addr_Reverse.f k false hi lo = some (⟨#[]⟩, 2) := by
  unfold addr_Reverse.f reverseF
  rw [octets_bad2 hb h0, Option.bind_some, if_neg (by decide)]
/-! ### The law -/
set_option maxRecDepth 20000 in
theorem lives_true : nameplatelaw04_lives.f 400 = some true := by decide +kernel
def arpaS : ByteArray := ⟨#[97, 114, 112, 97]⟩
def greatS : ByteArray := ⟨#[65, 82, 80, 65]⟩
def midS (six : Bool) : ByteArray := if six then ⟨#[105, 112, 54]⟩ else ⟨#[105, 110, 45, 97, 100, 100, 114]⟩
theorem rowOf_eq (six : Bool) (hi lo : Int) : rowOf six hi lo = headS six hi lo ++ [midS six, arpaS] := by
  cases six <;> rfl
theorem mid_facts (six : Bool) : 1 ≤ (midS six).size ∧ (midS six).size ≤ 7 := by cases six <;> decide
theorem fold_arpa (six : Bool) : (tailS six).map foldS = [midS six, arpaS].map foldS := by cases six <;> rfl
set_option maxRecDepth 20000 in
theorem fold_great (six : Bool) : (tailS six).map foldS = [midS six, greatS].map foldS := by cases six <;> decide +kernel
theorem set_great (H : List ByteArray) (a b c : ByteArray) : (H ++ [a, b]).set (H.length + 1) c = H ++ [a, c] := by
  induction H with
  | nil => rfl
  | cons x t ih => simp only [List.cons_append, List.length_cons, List.set_cons_succ, ih]
theorem self3 (six : Bool) (hi lo : Int) : (six == six && (hi == hi && (lo == lo))) = true := by simp
theorem nil_list : (⟨#[]⟩ : ByteArray).toList = ([] : List UInt8) := by rw [ByteArray.toList_eq]
theorem back_good {six : Bool} {hi lo : Int} (h : ok2 six hi lo) : nameplatelaw04_AddrBack.f 400 six hi lo = some true := by
  obtain ⟨s, t1, t2, t3, t4⟩ := read_text six hi lo h 383
  have o1 := octets_ok h 391
  have v1 := reverse_ok h 391
  have of1 := of_octs h 391
  obtain ⟨w1, w2, w3⟩ := back_ok h (midS six) arpaS ⟨(mid_facts six).1, (mid_facts six).2, by decide, by decide⟩ (fold_arpa six) 400 (by decide)
  obtain ⟨g1, g2, g3⟩ := back_ok h (midS six) greatS ⟨(mid_facts six).1, (mid_facts six).2, by decide, by decide⟩ (fold_great six) 400 (by decide)
  have hr := rowOf_eq six hi lo
  have hlen := rowOf_len six hi lo
  have hl := labels_join w1 w2 400 (by decide)
  rw [← hr] at w1 w2 w3 hl
  have hh := headS_len six hi lo
  have hset : (rowOf six hi lo).set (wrap64 (((rowOf six hi lo).length : Int) - 1)).toNat greatS = headS six hi lo ++ [midS six, greatS] := by
    rw [hr, ← set_great (headS six hi lo) (midS six) arpaS greatS]
    congr 1
    rw [List.length_append, hh]
    cases six <;> decide +kernel
  have hmk := make_join g1 g2
  obtain ⟨x, L, hx⟩ : ∃ x L, rowOf six hi lo = x :: L := by
    cases hc : rowOf six hi lo with
    | nil => rw [hc] at hlen; cases six <;> simp at hlen
    | cons x L => exact ⟨x, L, rfl⟩
  have hcut := cutS_join (x := x) (L := L) (hx ▸ w1)
  rw [← hx] at hcut
  unfold cutS at hcut
  have hL : okL L := fun y hy => w1 y (by rw [hx]; exact List.mem_cons_of_mem _ hy)
  have hLl : (joinI L).length ≤ 254 := by
    rw [hx, joinI_len_cons] at w2
    omega
  have hLn : L.length = (if six then 33 else 5) := by
    rw [hx, List.length_cons] at hlen
    cases six <;> simp at hlen ⊢ <;> omega
  have hno := back_none hL hLl (by intro e; rw [e] at hLn; cases six <;> simp at hLn) (by rw [hLn]; cases six <;> decide) (by rw [hLn]; cases six <;> decide) 400 (by decide)
  obtain ⟨B, hB⟩ : ∃ B, B = joinS (rowOf six hi lo) := ⟨_, rfl⟩
  rw [← hB] at v1 w3 hl hcut
  by_cases hc : 0 < B.size ∧ 1 ≤ bt B 0 ∧ bt B 0 ≤ 63 ∧ bt B 0 < B.size
  · rw [if_pos hc] at hcut
    have hex : B.extract (1 + bt B 0).toNat B.size = joinS L := (Prod.mk.inj (Option.some.inj hcut)).2
    have hw : wrap64 (1 + wrap64 (bt B 0)) = 1 + bt B 0 := by
      unfold wrap64
      omega
    have hl3 : ¬ ((rowOf six hi lo).length : Int) < 3 := by rw [hlen]; cases six <;> decide
    have hwl : wrap64 (((rowOf six hi lo).length : Int) - 1) = ((rowOf six hi lo).length : Int) - 1 := by rw [hlen]; cases six <;> decide +kernel
    have hsz : (((strOfNums (octsOf six hi lo)).size : Int) == 16) = six := by rw [size_octs, octsOf_len]; cases six <;> decide
    unfold nameplatelaw04_AddrBack.f
    rw [lives_true, Option.bind_some, if_pos rfl, t1, Option.bind_some, o1, Option.bind_some, v1, Option.bind_some]
    simp only
    rw [if_pos trivial, t2, Option.bind_some, of1, Option.bind_some, w3, Option.bind_some, hl, Option.bind_some, if_neg hl3]
    rw [if_pos (by rw [hwl]; omega), if_pos (by rw [hwl]; omega), show (⟨#[65, 82, 80, 65]⟩ : ByteArray) = greatS from rfl, hset, hmk, Option.bind_some]
    simp only
    rw [g3, Option.bind_some, if_pos (by omega), hw, if_pos (by omega), if_pos (by omega), hex, hno, Option.bind_some]
    simp only [self3, hsz]
    simp
  · rw [if_neg hc] at hcut
    cases hcut
/-- The law of all addresses. -/
theorem back_f (six : Bool) (hi lo : Int) (h0 : 0 ≤ hi) (h1 : hi < 18446744073709551616) (l0 : 0 ≤ lo) (l1 : lo < 18446744073709551616) : nameplatelaw04_AddrBack.f 400 six hi lo = some true := by
  by_cases h : six = true ∨ (hi = 0 ∧ lo < 4294967296)
  · exact back_good ⟨h0, h1, l0, l1, h⟩
  · obtain rfl : six = false := by
      cases six
      · rfl
      · exact absurd (.inl rfl) h
    have hb : ¬ (hi = 0 ∧ lo < 4294967296) := fun e => h (.inr e)
    unfold nameplatelaw04_AddrBack.f
    rw [lives_true, Option.bind_some, if_pos rfl, text_bad hb l0, Option.bind_some, octets_bad2 hb l0, Option.bind_some, reverse_bad2 hb l0, Option.bind_some]
    simp only
    rw [if_neg (by decide), if_pos trivial, if_pos trivial, check_bad hb l0, Option.bind_some, if_pos rfl, if_pos nil_list, if_pos nil_list, nil_list]
    rfl
/-- The law's call, whatever the memory. -/
theorem calls_row (six : Bool) (hi lo : Int) (W : World) (hG : G W) (a : 0 ≤ hi ∧ hi < 2 ^ 64) (b : 0 ≤ lo ∧ lo < 2 ^ 64) :
    Calls Tryz.prog 9 #[.agg #[.bool six, .int .u64 hi, .int .u64 lo]] W fun e w' => e = .returned (.bool true) ∧ Below W.heap.size W w' := by
  simp only [Int.reducePow] at a b
  exact nameplatelaw04_AddrBack.calls 400 six hi lo true W ⟨hG⟩ ⟨rfl⟩ (back_f six hi lo a.1 a.2 b.1 b.2)
end Go.Proofs.YtilobbjnmnnmnaaGreatDoor.AddrFns
namespace Go.Proofs.YtilobbjnmnnmnaaGreatDoor.addrBack
open Go.ChangeShapes Go.WideShapes Go.ChangeAt Go.RowKit
open Go.ChangeMaps (open_string shut_string)
set_option linter.unusedVariables false
theorem own : ownKnob Tryz.prog.godebug = none := by kernel_rfl
theorem laidOut : laidOutB Tryz.prog = true := by kernel_rfl
set_option maxRecDepth 100000 in
theorem lifted (os : Os) (started : os.Started) (H : Type) (enc : TypeId × Value → H) :
    ReturnsInHanded {} Tryz.checked os 9 .any (fun w args => (Rows.addrBackSpec.pre enc Tryz.prog Tryz.f9 Rows.addrBackRow.domain false w args ∧ laidMetH Tryz.prog Rows.addrBackRow.laid w) ∧ sizedMet enc Tryz.prog Tryz.f9 (OpenSpec.ofChange Rows.addrBackSpec) false w args) (Rows.addrBackSpec.post enc Tryz.prog Tryz.f9 false true false false) := by
  refine AddrLib.handed_shaped (C := Tryz.checked) (X := (fun w _ => laidMetH Tryz.prog Rows.addrBackRow.laid w)) (fun _ _ _ hh h => h.of_heap hh) own started (by kernel_rfl) Tryz.func9
    (ChangeSpec.witness_shaped (enc := enc) (C := Tryz.checked) (os := os) (X := (fun w _ => laidMetH Tryz.prog Rows.addrBackRow.laid w)) false (World.laidAll Tryz.prog os Rows.addrBackRow.laid) #[.agg #[.bool false, .int .u64 0, .int .u64 0]] 8 (World.laidAll_os _ _ _)
      (World.shaped_of_ZipB (by kernel_rfl) (by kernel_rfl)) (by kernel_rfl) (by kernel_rfl) (by kernel_rfl)
      (by rw [MakeChecks.laidMetH_plain _ _ _ (by kernel_rfl)]; exact laidMet_laidAll _ (by kernel_rfl) (by kernel_rfl))) ?_
  intro W base args ds gs before hval0 hW hcnd hsz0 hL hS _
  have hval : ∀ (j : Nat) t v, Tryz.f9.params[j]? = some t → args[j]? = some v → Value.okWide Tryz.prog W .any base t v := hval0
  have hW' := hW
  obtain ⟨p, q, hA0, hV, rfl, hfz, hnd⟩ := hW
  have hA : DataW.TrodAll enc Tryz.prog W 0 (fun _ => true) true Tryz.f9.params.toList args.toList ds p := hA0
  rw [Tryz.params9] at hA hval
  obtain ⟨v0, vs0, d0, ds0, p0, q0, hargs, rfl, rfl, h0, r0⟩ := trodAll_cons hA
  obtain ⟨rfl, rfl, rfl⟩ := trodAll_nil r0
  obtain rfl : args = #[v0] := by cases args; simp_all
  obtain ⟨rfl, rfl⟩ := trodVars_none hV
  have k0 := h0
  have lt0 : ∀ x ∈ p0, x.block < W.heap.size := by obtain ⟨m, hm⟩ := k0; exact DataW.trod_lt m _ _ _ hm
  obtain ⟨s0, x0, y0, rfl, ux0, uy0⟩ := RangeOpen.open_addr (hval 0 24 v0 rfl rfl) h0
  clear hA0 hval0 hsz0
  refine (AddrFns.calls_row s0 x0 y0 W (AddrLib.G_of hL (by kernel_rfl) (.tail _ (.head _)) (.tail _ (.tail _ (.head _))) hS) ux0 uy0).mono fun e W' ⟨he, bel⟩ => ?_
  subst he
  exact ⟨_, rfl, _, _, _, [], _, [], hW', trodAll_mk1 (shut_bool Tryz.underlying4 _), (trodAll_cons_mk (Below.trod laidOut (by kernel_rfl) (of_decide_eq_true (by kernel_rfl)) k0 bel lt0) trodAll_mk0), rfl, bel.frame _, fun h => by cases h⟩
theorem over : Rows.addrBackRow.holds Tryz.pinned (OpenSpec.ofChange Rows.addrBackSpec) :=
  OpenClaim.holds_of_wide 9 Tryz.f9 rfl rfl rfl rfl rfl rfl rfl ⟨rfl, rfl, rfl, rfl, rfl⟩ rfl rfl rfl rfl rfl (by kernel_rfl) Tryz.func9 (by kernel_rfl)
    (of_decide_eq_true (by kernel_rfl)) (by unfold Func.isWrapper; first | (rw [if_pos (by decide +kernel)]; kernel_rfl) | (rw [if_neg (by decide +kernel)]; exact ⟨rfl, rfl⟩))
    (fun os started H enc _ => lifted os started H enc)
theorem proved : Rows.AddrBackCardSaid :=
  Claim7.holds_tied_plain_at .later [] [.data, .data, .data, .data, .sentinel, .sentinel, .pinned, .pinned] true (true, "dc1db9fd7855f0792e11684efd5e72d0e347d8426c08a81858de443ebdfcabce") true over (fun _ h => by cases h) (by kernel_rfl) (fun _ h => by cases h) addrBack_row_tie rfl ⟨rfl, rfl⟩ (by kernel_rfl) rfl
    (fun f fn hf hfn => by
      obtain rfl : f = 9 := Option.some.inj ((show Tryz.prog.funcNamed "nameplate/nameplatelaw04.AddrBack" = some 9 by kernel_rfl).symm.trans hf) |>.symm
      obtain rfl : fn = Tryz.f9 := (Option.some.inj (Tryz.func9.symm.trans hfn)).symm
      exact ⟨by kernel_rfl, fun j t ht => by
        rw [Tryz.params9] at ht
        have hm : t ∈ ([24] : List Nat) := by simpa using Array.mem_of_getElem? ht
        have hall : (([24] : List Nat).all fun u => !Tryz.prog.wantsStandIn u) = true := by kernel_rfl
        exact (show Tryz.prog.wantsStandIn t = false by simpa using List.all_eq_true.1 hall t hm)⟩)
    (by kernel_rfl)
#print axioms proved
end Go.Proofs.YtilobbjnmnnmnaaGreatDoor.addrBack
namespace Go.Proofs.YtilobbjnmnnmnaaGreatDoor
/-- The card, under a short name, for the claim. -/
theorem addrBack_holds : Rows.AddrBackCardSaid := addrBack.proved
end Go.Proofs.YtilobbjnmnnmnaaGreatDoor
