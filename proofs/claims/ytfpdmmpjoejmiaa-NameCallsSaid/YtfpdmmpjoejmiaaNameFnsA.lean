/- What the functions of names tell, in plain words: of names that are labels from end to end, and of the others. -/
import Derived.Test.YtfpdmmpjoejmiaaOCallsx13
import Derived.Test.YtfpdmmpjoejmiaaNames
namespace Go.Proofs.Ytfpdmmpjoejmiaa.NameFns
open Go.RowKit Go.Proofs.Ytfpdmmpjoejmiaa.OCalls Go.Proofs.YtfpdmmpjoejmiaaW.PrintWords Go.Proofs.YtfpdmmpjoejmiaaW.PrintLast Go.Proofs.YtfpdmmpjoejmiaaW.PrintMore

theorem size_nil {s : ByteArray} : s.toList = ([] : List UInt8) ↔ s.size = 0 := by
  rw [ByteArray.toList_eq]
  constructor
  · intro h
    have : s.data.toList.length = 0 := by rw [h]; rfl
    rw [data_length] at this
    exact this
  · intro h
    apply List.eq_nil_of_length_eq_zero
    rw [data_length]
    exact h
/-! ### The check -/
theorem check_l0 : ∀ (k : Nat) (s : ByteArray), s.size < k → s.size ≤ 1000000 → name_Check.l0 k s = some (if wf s = true then 0 else 4) := by
  intro k
  induction k with
  | zero => intro s h; omega
  | succ k ih =>
    intro s h hs
    simp only [name_Check.l0]
    by_cases h0 : s.size = 0
    · rw [if_pos (size_nil.2 h0), wf_zero h0, if_pos rfl]
    rw [if_neg (fun e => h0 (size_nil.1 e)), cut_eq s (by omega), Option.bind_some]
    unfold cutR
    cases hc : cutS s with
    | none =>
      rw [wf_none hc h0]
      rfl
    | some p =>
      obtain ⟨l, r⟩ := p
      have hz := cutS_sizes hc
      rw [wf_cut hc]
      show (if true = true then name_Check.l0 k r else some 4) = _
      rw [if_pos rfl]
      exact ih r (by omega) (by omega)
theorem check_eq (s : ByteArray) (k : Nat) (hk : 300 ≤ k) : name_Check.f k s = some (chkS s) := by
  unfold name_Check.f chkS
  by_cases h : s.size > 254
  · rw [if_pos (by omega), if_pos h]
  · rw [if_neg (by omega), if_neg h]
    exact check_l0 k s (by omega) (by omega)
/-! ### The labels -/
theorem labels_bad {s : ByteArray} (h : chkS s ≠ 0) (k : Nat) (hk : 300 ≤ k) : name_Labels.f k s = some [] := by
  unfold name_Labels.f
  rw [check_eq s k hk, Option.bind_some, if_neg h]
theorem labels_join {L : List ByteArray} (h : okL L) (hl : (joinI L).length ≤ 254) (k : Nat) (hk : 300 ≤ k) : name_Labels.f k (joinS L) = some L := by
  unfold name_Labels.f
  rw [check_eq _ k hk, Option.bind_some, chkS_join h hl, if_pos rfl, labelsP_join h, if_pos ⟨by rw [joinS_size h]; exact hl, Nat.le_trans (joinI_len L) hl⟩]
/-! ### Make -/
theorem nm_eq {L : List ByteArray} (h : okL L) : (⟨(nmOf L).toArray⟩ : ByteArray) = joinS L := by
  apply bytesOf_inj
  rw [bytesOf_join h]
  show (nmOf L).map _ = _
  induction L with
  | nil => rfl
  | cons x t ih =>
    have h1 := okL_cons.1 h
    rw [joinI_cons]
    simp only [nmOf, List.map_cons, List.map_append]
    rw [ih h1.2]
    congr 1
    simp
    omega
theorem nm_len {L : List ByteArray} (h : okL L) : (nmOf L).length = (joinI L).length := by
  rw [← bytesOf_join h, ← nm_eq h]
  show _ = ((nmOf L).map _).length
  rw [List.length_map]
theorem chkL_ok {L : List ByteArray} (h : okL L) : chkL L = 0 := by
  induction L with
  | nil => rfl
  | cons x t ih =>
    have h1 := okL_cons.1 h
    unfold chkL
    rw [if_neg (by omega), if_neg (by omega)]
    exact ih h1.2
theorem make_join {L : List ByteArray} (h : okL L) (hl : (joinI L).length ≤ 254) : name_Make.f L = some (joinS L, 0) := by
  unfold name_Make.f
  rw [if_pos (by have := joinI_len L; omega), if_pos (chkL_ok h), if_neg (by rw [nm_len h]; omega), nm_eq h]
theorem make_long {L : List ByteArray} (h : okL L) (hl : ¬ (joinI L).length ≤ 254) (hn : L.length ≤ 1000000) : name_Make.f L = some (⟨#[]⟩, 3) := by
  unfold name_Make.f
  rw [if_pos hn, if_pos (chkL_ok h), if_pos (by rw [nm_len h]; omega)]
theorem make_bad {L : List ByteArray} (h : chkL L ≠ 0) (hn : L.length ≤ 1000000) : name_Make.f L = some (⟨#[]⟩, chkL L) := by
  unfold name_Make.f
  rw [if_pos hn, if_neg h]
/-! ### Fold -/
theorem fold_bad {s : ByteArray} (h : chkS s ≠ 0) (k : Nat) (hk : 300 ≤ k) : name_Fold.f k s = some ⟨#[]⟩ := by
  unfold name_Fold.f
  rw [labels_bad h k hk, Option.bind_some]
  rfl
theorem fold_join {L : List ByteArray} (h : okL L) (hl : (joinI L).length ≤ 254) (k : Nat) (hk : 300 ≤ k) : name_Fold.f k (joinS L) = some (joinS (L.map foldS)) := by
  unfold name_Fold.f
  rw [labels_join h hl k hk, Option.bind_some, if_pos (by rw [List.all_eq_true]; intro x hx; have := h x hx; exact decide_eq_true (by omega)), make_join (okL_fold h) (by rw [joinI_fold_len]; exact hl), Option.bind_some]
/-! ### Comparing labels -/
theorem lcmp_eq {a b : ByteArray} (h : a.size ≤ 1000) (h' : b.size ≤ 1000) : label_Compare.f a b = some (cmpI (bytesOf (foldS a)) (bytesOf (foldS b))) := by
  unfold label_Compare.f strings_Compare.f label_Fold.f
  rw [if_pos (by omega), if_pos (by omega)]
  show some _ = _
  rw [cmp_bytes]
theorem lsame_eq {a b : ByteArray} (h : a.size ≤ 1000) (h' : b.size ≤ 1000) : label_Same.f a b = some (decide (foldS a = foldS b)) := by
  unfold label_Same.f
  rw [lcmp_eq h h', Option.bind_some]
  congr 1
  by_cases c : foldS a = foldS b
  · rw [c, cmpI_self, decide_eq_true rfl]
    rfl
  · rw [decide_eq_false c, beq_eq_false_iff_ne]
    intro e
    exact c (bytesOf_inj (cmpI_zero.1 e))
theorem allSame_eq {x y : List ByteArray} (hx : okL x) (hy : okL y) (hl : x.length = y.length) : allSame (x.zip y) = some (decide (x.map foldS = y.map foldS)) := by
  unfold allSame
  have hm : ∀ p ∈ x.zip y, label_Same.f p.1 p.2 = some (decide (foldS p.1 = foldS p.2)) := by
    rintro ⟨p, q⟩ hp
    have h1 := hx p (List.of_mem_zip hp).1
    have h2 := hy q (List.of_mem_zip hp).2
    exact lsame_eq (show p.size ≤ 1000 by omega) (show q.size ≤ 1000 by omega)
  rw [if_pos (by rw [List.all_eq_true]; intro p hp; rw [hm p hp]; rfl)]
  congr 1
  by_cases c : x.map foldS = y.map foldS
  · rw [decide_eq_true c, List.all_eq_true]
    intro p hp
    rw [hm p hp]
    obtain ⟨n, hn, rfl⟩ := List.getElem_of_mem hp
    rw [List.getElem_zip]
    simp only [List.length_zip] at hn
    have h1 : (x.map foldS)[n]'(by rw [List.length_map]; omega) = (y.map foldS)[n]'(by rw [List.length_map]; omega) := by congr 1
    rw [List.getElem_map, List.getElem_map] at h1
    rw [decide_eq_true h1]
    rfl
  · rw [decide_eq_false c]
    rw [← Bool.not_eq_true, List.all_eq_true]
    intro h
    apply c
    apply List.ext_getElem
    · rw [List.length_map, List.length_map]
      exact hl
    · intro n h1 h2
      rw [List.getElem_map, List.getElem_map]
      rw [List.length_map] at h1 h2
      have hp := h _ (List.getElem_mem (l := x.zip y) (n := n) (by rw [List.length_zip]; omega))
      rw [hm _ (List.getElem_mem _), List.getElem_zip] at hp
      simpa using hp
/-! ### Same, Under -/
theorem same_join {L M : List ByteArray} (h : okL L) (hl : (joinI L).length ≤ 254) (g : okL M) (gl : (joinI M).length ≤ 254) (k : Nat) (hk : 300 ≤ k) : name_Same.f k (joinS L) (joinS M) = some (decide (L.map foldS = M.map foldS)) := by
  unfold name_Same.f
  rw [check_eq _ k hk, check_eq _ k hk, chkS_join h hl, chkS_join g gl, Option.bind_some, if_pos rfl, Option.bind_some, if_pos rfl, labels_join h hl k hk, labels_join g gl k hk, Option.bind_some, Option.bind_some]
  by_cases c : L.length = M.length
  · rw [if_pos c]
    exact allSame_eq h g c
  · rw [if_neg c, decide_eq_false]
    intro e
    have := congrArg List.length e
    rw [List.length_map, List.length_map] at this
    exact c this
theorem under_join {L M : List ByteArray} (h : okL L) (hl : (joinI L).length ≤ 254) (g : okL M) (gl : (joinI M).length ≤ 254) (k : Nat) (hk : 300 ≤ k) (d : Decidable (underL L M)) : name_Under.f k (joinS L) (joinS M) = some (@decide (underL L M) d) := by
  unfold name_Under.f
  rw [check_eq _ k hk, check_eq _ k hk, chkS_join h hl, chkS_join g gl, Option.bind_some, if_pos rfl, Option.bind_some, if_pos rfl, labels_join h hl k hk, labels_join g gl k hk, Option.bind_some, Option.bind_some]
  by_cases c : L.length < M.length
  · rw [if_pos c, decide_eq_false]
    intro e
    have := underL_length e
    omega
  · rw [if_neg c]
    unfold pairsU
    rw [allSame_eq g (okL_drop h _) (by rw [List.length_drop]; omega)]
    congr 1
    have : (M.map foldS = (L.drop (L.length - M.length)).map foldS) ↔ underL L M := by
      rw [underL_drop]
      exact ⟨fun e => ⟨by omega, e.symm⟩, fun e => e.2.symm⟩
    exact decide_eq_decide.2 this
/-! ### Parent, Join, Wild, Matches -/
theorem parent_cons {x : ByteArray} {L : List ByteArray} (h : okL (x :: L)) (hl : (joinI (x :: L)).length ≤ 254) (k : Nat) (hk : 300 ≤ k) : name_Parent.f k (joinS (x :: L)) = some (joinS L, true) := by
  unfold name_Parent.f
  rw [check_eq _ k hk, chkS_join h hl, Option.bind_some, if_pos rfl, cut_eq _ (by rw [joinS_size h]; omega), Option.bind_some]
  unfold cutR
  rw [cutS_join h]
  rfl
theorem parent_nil (k : Nat) (hk : 300 ≤ k) : name_Parent.f k ⟨#[]⟩ = some (⟨#[]⟩, false) := by
  unfold name_Parent.f
  rw [check_eq _ k hk, show chkS ⟨#[]⟩ = 0 from chkS_join (L := []) okL_nil (by decide), Option.bind_some, if_pos rfl, cut_eq _ (by decide), Option.bind_some]
  unfold cutR
  rw [cutS_empty]
  rfl
theorem parent_bad {s : ByteArray} (h : chkS s ≠ 0) (k : Nat) (hk : 300 ≤ k) : name_Parent.f k s = some (⟨#[]⟩, false) := by
  unfold name_Parent.f
  rw [check_eq _ k hk, Option.bind_some, if_neg h]
theorem or_two (a b : Int) (k : Nat) (hk : 5 ≤ k) : api_Errno.f k [a, b] = some (if a = 0 then b else a) := by
  obtain ⟨k, rfl⟩ : ∃ m, k = m + 3 := ⟨k - 3, by omega⟩
  unfold api_Errno.f
  show api_Errno.l0 (k + 3) 0 [a, b] 2 0 = _
  simp only [api_Errno.l0]
  rw [if_pos (by decide), if_pos (by decide), if_pos (by show (0 : Int) < 2; decide), show rd [a, b] 0 = a from rfl, show wrap64 (0 + 1) = 1 from wrap_id (by decide) (by decide)]
  by_cases ha : a = 0
  · rw [if_pos ha, if_pos ha, if_pos (by decide), if_pos (by decide), if_pos (by show (1 : Int) < 2; decide), show rd [a, b] 1 = b from rfl, show wrap64 (1 + 1) = 2 from wrap_id (by decide) (by decide)]
    by_cases hb : b = 0
    · rw [if_pos hb, if_neg (by decide), hb]
    · rw [if_neg hb]
  · rw [if_neg ha, if_neg ha]
theorem join_join {L M : List ByteArray} (h : okL L) (hl : (joinI L).length ≤ 254) (g : okL M) (gl : (joinI M).length ≤ 254) (k : Nat) (hk : 300 ≤ k) :
    name_Join.f k (joinS L) (joinS M) = some (if (joinI L).length + (joinI M).length > 254 then (⟨#[]⟩, 3) else (joinS (L ++ M), 0)) := by
  have h1 := joinS_size h
  have h2 := joinS_size g
  unfold name_Join.f
  rw [check_eq _ k hk, check_eq _ k hk, chkS_join h hl, chkS_join g gl, Option.bind_some, Option.bind_some, or_two _ _ k (by omega), Option.bind_some, if_pos rfl, if_pos rfl, wrap_id (by omega) (by omega)]
  by_cases c : (joinI L).length + (joinI M).length > 254
  · rw [if_pos c, if_pos (by omega)]
  · rw [if_neg c, if_neg (by omega), if_pos (by omega), joinS_append]
theorem join_bad {a b : ByteArray} (h : chkS a ≠ 0 ∨ chkS b ≠ 0) (k : Nat) (hk : 300 ≤ k) : name_Join.f k a b = some (⟨#[]⟩, if chkS a = 0 then chkS b else chkS a) := by
  unfold name_Join.f
  rw [check_eq _ k hk, check_eq _ k hk, Option.bind_some, Option.bind_some, or_two _ _ k (by omega), Option.bind_some, if_neg]
  by_cases c : chkS a = 0
  · rw [if_pos c]
    exact h.resolve_left (fun e => e c)
  · rw [if_neg c]
    exact c
def starS : ByteArray := ⟨#[42]⟩
theorem join_okL {L M : List ByteArray} (h : okL L) (g : okL M) : okL (L ++ M) := okL_append.2 ⟨h, g⟩
theorem joinI_app_len (L M : List ByteArray) : (joinI (L ++ M)).length = (joinI L).length + (joinI M).length := by rw [joinI_append, List.length_append]
theorem bytes_ext2 (s : ByteArray) (n : Nat) : (s.extract 0 n).toList = ([1, 42] : List UInt8) ↔ (bytesOf s).take n = [1, 42] := by
  rw [ByteArray.toList_eq]
  constructor
  · intro h
    have := congrArg (List.map fun b : UInt8 => (b.toNat : Int)) h
    have e : bytesOf (s.extract 0 n) = [1, 42] := this
    rw [bytesOf_extract, List.drop_zero] at e
    exact e
  · intro h
    have e : bytesOf (s.extract 0 n) = bytesOf (⟨#[1, 42]⟩ : ByteArray) := by
      rw [bytesOf_extract, List.drop_zero, h]
      rfl
    rw [bytesOf_inj e]
theorem wild_join {L : List ByteArray} (h : okL L) (hl : (joinI L).length ≤ 254) (k : Nat) (hk : 300 ≤ k) : name_Wild.f k (joinS L) = some (decide (L.head? = some starS)) := by
  have hz := joinS_size h
  unfold name_Wild.f strings_HasPrefix.f stringslite_HasPrefix.f
  rw [check_eq _ k hk, chkS_join h hl, Option.bind_some, if_pos rfl]
  rw [show (((⟨#[1, 42]⟩ : ByteArray).size : Nat) : Int) = 2 from rfl, show (⟨#[1, 42]⟩ : ByteArray).toList = [1, 42] by rw [ByteArray.toList_eq]]
  cases L with
  | nil =>
    rw [if_neg (by rw [hz]; decide), decide_eq_false (by simp)]
    rfl
  | cons x t =>
    have h1 := okL_cons.1 h
    rw [joinI_len_cons] at hz
    rw [if_pos (by omega), if_pos (by decide), if_pos (by omega)]
    show some (((joinS (x :: t)).extract 0 2).toList == [1, 42]) = _
    congr 1
    have key : ((joinS (x :: t)).extract 0 2).toList = ([1, 42] : List UInt8) ↔ x = starS := by
      rw [bytes_ext2, bytesOf_join h, joinI_cons]
      constructor
      · intro e
        have e1 : (x.size : Int) = 1 := by injection e
        have e2 : (bytesOf x ++ joinI t).take 1 = [42] := by injection e
        have e3 : (bytesOf x).length = 1 := by rw [bytesOf_length]; omega
        rw [List.take_append_of_le_length (by omega), List.take_of_length_le (by omega)] at e2
        apply bytesOf_inj
        rw [e2]
        rfl
      · rintro rfl
        rfl
    by_cases c : x = starS
    · rw [decide_eq_true (by rw [c]; rfl), beq_iff_eq]
      exact key.2 c
    · rw [decide_eq_false (by simpa using c), beq_eq_false_iff_ne]
      exact fun e => c (key.1 e)
theorem wild_bad {s : ByteArray} (h : chkS s ≠ 0) (k : Nat) (hk : 300 ≤ k) : name_Wild.f k s = some false := by
  unfold name_Wild.f
  rw [check_eq _ k hk, Option.bind_some, if_neg h]
theorem under_bad {a b : ByteArray} (h : chkS a ≠ 0 ∨ chkS b ≠ 0) (k : Nat) (hk : 300 ≤ k) : name_Under.f k a b = some false := by
  unfold name_Under.f
  rw [check_eq _ k hk, check_eq _ k hk, Option.bind_some]
  by_cases c : chkS a = 0
  · rw [if_pos c, Option.bind_some, if_neg (h.resolve_left (fun e => e c))]
  · rw [if_neg c]
theorem same_bad {a b : ByteArray} (h : chkS a ≠ 0 ∨ chkS b ≠ 0) (k : Nat) (hk : 300 ≤ k) : name_Same.f k a b = some false := by
  unfold name_Same.f
  rw [check_eq _ k hk, check_eq _ k hk, Option.bind_some]
  by_cases c : chkS a = 0
  · rw [if_pos c, Option.bind_some, if_neg (h.resolve_left (fun e => e c))]
  · rw [if_neg c]
/-- A wildcard's match, of labels. -/
theorem matches_star {M N : List ByteArray} (h : okL M) (hl : (joinI (starS :: M)).length ≤ 254) (g : okL N) (gl : (joinI N).length ≤ 254) (k : Nat) (hk : 300 ≤ k) (d : Decidable (underL N M ∧ M.length < N.length)) :
    name_Matches.f k (joinS (starS :: M)) (joinS N) = some (@decide (underL N M ∧ M.length < N.length) d) := by
  have hs : okL (starS :: M) := okL_cons.2 ⟨by decide, h⟩
  have hm : (joinI M).length ≤ 254 := by rw [joinI_len_cons] at hl; omega
  haveI d2 : Decidable (underL N M) := Classical.propDecidable _
  unfold name_Matches.f
  rw [parent_cons hs hl k hk, Option.bind_some, wild_join hs hl k hk, Option.bind_some, if_pos (show decide ((starS :: M).head? = some starS) = true from decide_eq_true rfl), under_join g gl h hm k hk d2, Option.bind_some]
  by_cases c : underL N M
  · rw [if_pos (decide_eq_true c), labels_join g gl k hk, Option.bind_some, labels_join h hm k hk, Option.bind_some]
    congr 1
    by_cases e : M.length < N.length
    · rw [decide_eq_true (show ((N.length : Int) > (M.length : Int)) by omega), decide_eq_true ⟨c, e⟩]
    · rw [decide_eq_false (show ¬ ((N.length : Int) > (M.length : Int)) by omega), decide_eq_false (fun q => e q.2)]
  · rw [if_neg (by rw [decide_eq_false c]; decide), decide_eq_false (fun q => c q.1)]
theorem matches_plain {L : List ByteArray} (h : okL L) (hl : (joinI L).length ≤ 254) (hw : L.head? ≠ some starS) (k : Nat) (hk : 300 ≤ k) (n : ByteArray) : name_Matches.f k (joinS L) n = some false := by
  unfold name_Matches.f
  cases L with
  | nil =>
    rw [show joinS [] = ⟨#[]⟩ from rfl, parent_nil k hk, Option.bind_some, show (⟨#[]⟩ : ByteArray) = joinS [] from rfl, wild_join okL_nil (by decide) k hk, Option.bind_some, if_neg (by simp)]
  | cons x t =>
    rw [parent_cons h hl k hk, Option.bind_some, wild_join h hl k hk, Option.bind_some, if_neg (by rw [decide_eq_false hw]; decide)]
theorem matches_bad {a n : ByteArray} (h : chkS a ≠ 0) (k : Nat) (hk : 300 ≤ k) : name_Matches.f k a n = some false := by
  unfold name_Matches.f
  rw [parent_bad h k hk, Option.bind_some, wild_bad h k hk, Option.bind_some, if_neg (by decide)]
/-! ### What the laws ask first -/
theorem lives_ : ∃ k, nameplatelaw02_lives.f k = some true := ⟨300, by decide +kernel⟩
end Go.Proofs.Ytfpdmmpjoejmiaa.NameFns
