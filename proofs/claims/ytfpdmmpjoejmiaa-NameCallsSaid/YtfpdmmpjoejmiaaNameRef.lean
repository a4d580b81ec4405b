/- What the reference's functions of names tell, in plain words, and that they tell what the program's functions tell; for all octets, labels and texts that are no longer than the law lets in. -/
import Derived.Test.YtfpdmmpjoejmiaaOCallsx13
import Derived.Test.YtfpdmmpjoejmiaaNameFnsA
import Derived.Test.YtfpdmmpjoejmiaaNameFnsB
import Derived.Test.YtfpdmmpjoejmiaaNameFnsC
import Derived.Test.YtfpdmmpjoejmiaaLabelRef
namespace Go.Proofs.Ytfpdmmpjoejmiaa.NameFns
open Go.RowKit Go.Proofs.Ytfpdmmpjoejmiaa.OCalls Go.Proofs.YtfpdmmpjoejmiaaW.PrintWords Go.Proofs.YtfpdmmpjoejmiaaW.PrintLast Go.Proofs.YtfpdmmpjoejmiaaW.PrintMore

/-! ### What is left of a string -/
def rest (s : ByteArray) (i : Nat) : ByteArray := s.extract i s.size
theorem bytesOf_rest (s : ByteArray) (i : Nat) : bytesOf (rest s i) = (bytesOf s).drop i := by
  unfold rest
  rw [bytesOf_extract, ← bytesOf_length, List.take_length]
theorem rest_size (s : ByteArray) (i : Nat) : (rest s i).size = s.size - i := by rw [← bytesOf_length, bytesOf_rest, List.length_drop, bytesOf_length]
theorem rest_zero (s : ByteArray) : rest s 0 = s := bytesOf_inj (by rw [bytesOf_rest, List.drop_zero])
theorem rest_rest (s : ByteArray) (i j : Nat) : rest (rest s i) j = rest s (i + j) := bytesOf_inj (by rw [bytesOf_rest, bytesOf_rest, bytesOf_rest, List.drop_drop])
theorem bt_rest (s : ByteArray) (i : Nat) : bt (rest s i) 0 = bt s (i : Int) := by
  rw [bt_rd, bt_rd, bytesOf_rest]
  unfold rd
  rw [List.getD_eq_getElem?_getD, List.getD_eq_getElem?_getD, List.getElem?_drop]
  rfl
theorem cut_rest (s : ByteArray) (i : Nat) (h : i < s.size) : cutS (rest s i) = if 1 ≤ bt s (i : Int) ∧ bt s (i : Int) ≤ 63 ∧ (i : Int) + 1 + bt s (i : Int) ≤ s.size then some (s.extract (i + 1) (i + 1 + (bt s (i : Int)).toNat), rest s (i + 1 + (bt s (i : Int)).toNat)) else none := by
  unfold cutS
  rw [bt_rest, rest_size]
  have hb := bt_range s (i : Int)
  by_cases c : 1 ≤ bt s (i : Int) ∧ bt s (i : Int) ≤ 63 ∧ (i : Int) + 1 + bt s (i : Int) ≤ s.size
  · rw [if_pos c, if_pos (by omega)]
    congr 2
    · apply bytesOf_inj
      rw [bytesOf_extract, bytesOf_extract, bytesOf_rest, List.take_drop, List.drop_drop, show i + (1 + bt s (i : Int)).toNat = i + 1 + (bt s (i : Int)).toNat by omega]
    · apply bytesOf_inj
      rw [← rest_size s i]
      show bytesOf (rest (rest s i) _) = _
      rw [rest_rest, bytesOf_rest, bytesOf_rest]
      congr 1
      omega
  · rw [if_neg c, if_neg (by omega)]

/-! ### The check, the labels -/
theorem rcheck_l0 : ∀ (d k : Nat) (s : ByteArray) (i : Nat), s.size - i ≤ d → i ≤ s.size → d < k → s.size ≤ 1000000 → nameplateref02_Check.l0 k s (i : Int) = some (if wf (rest s i) = true then 0 else 4) := by
  intro d
  induction d with
  | zero =>
    intro k s i h1 h2 hk hs
    obtain ⟨k, rfl⟩ : ∃ m, k = m + 1 := ⟨k - 1, by omega⟩
    simp only [nameplateref02_Check.l0]
    rw [if_neg (by omega), wf_zero (by rw [rest_size]; omega), if_pos rfl]
  | succ d ih =>
    intro k s i h1 h2 hk hs
    obtain ⟨k, rfl⟩ : ∃ m, k = m + 1 := ⟨k - 1, by omega⟩
    simp only [nameplateref02_Check.l0]
    by_cases h : i < s.size
    · have hb := bt_range s (i : Int)
      have hc := cut_rest s i h
      have hz : (rest s i).size ≠ 0 := by rw [rest_size]; omega
      rw [if_pos (by omega), if_pos (by omega), wrap_id (n := bt s (i : Int)) (by omega) (by omega), wrap_id (n := (i : Int) + 1) (by omega) (by omega), wrap_id (n := (i : Int) + 1 + bt s (i : Int)) (by omega) (by omega)]
      by_cases a1 : bt s (i : Int) < 1
      · rw [if_pos a1, wf_none (by rw [hc, if_neg (by omega)]) hz]; rfl
      rw [if_neg a1]
      by_cases a2 : bt s (i : Int) > 63
      · rw [if_pos a2, wf_none (by rw [hc, if_neg (by omega)]) hz]; rfl
      rw [if_neg a2]
      by_cases a3 : (i : Int) + 1 + bt s (i : Int) > s.size
      · rw [if_pos a3, wf_none (by rw [hc, if_neg (by omega)]) hz]; rfl
      rw [if_neg a3, wf_cut (by rw [hc, if_pos ⟨by omega, by omega, by omega⟩])]
      have := ih k s (i + 1 + (bt s (i : Int)).toNat) (by omega) (by omega) (by omega) hs
      rw [show (i : Int) + 1 + bt s (i : Int) = ((i + 1 + (bt s (i : Int)).toNat : Nat) : Int) by omega]
      exact this
    · rw [if_neg (by omega), wf_zero (by rw [rest_size]; omega), if_pos rfl]
theorem rcheck_eq (s : ByteArray) (k : Nat) (hk : 300 ≤ k) : nameplateref02_Check.f k s = some (chkS s) := by
  unfold nameplateref02_Check.f chkS
  by_cases h : s.size > 254
  · rw [if_pos (by omega), if_pos h]
  · rw [if_neg (by omega), if_neg h]
    have := rcheck_l0 s.size k s 0 (by omega) (by omega) (by omega) (by omega)
    rw [rest_zero] at this
    exact this
theorem rlabels_l0 : ∀ (d k : Nat) (s : ByteArray) (i : Nat) (out : List ByteArray), s.size - i ≤ d → i ≤ s.size → d < k → s.size ≤ 1000000 → out.length + d ≤ 1000000 → wf (rest s i) = true →
    nameplateref02_Labels.l0 k s out (i : Int) = some (out ++ labelsP (rest s i)) := by
  intro d
  have stop : ∀ (s : ByteArray) (i : Nat) (out : List ByteArray), s.size ≤ i → some out = some (out ++ labelsP (rest s i)) := by
    intro s i out h
    rw [labelsP_none (by unfold cutS; rw [if_neg (by rw [rest_size]; omega)]), List.append_nil]
  induction d with
  | zero =>
    intro k s i out h1 h2 hk hs ho hw
    obtain ⟨k, rfl⟩ : ∃ m, k = m + 1 := ⟨k - 1, by omega⟩
    simp only [nameplateref02_Labels.l0]
    rw [if_neg (by omega)]
    exact stop s i out (by omega)
  | succ d ih =>
    intro k s i out h1 h2 hk hs ho hw
    obtain ⟨k, rfl⟩ : ∃ m, k = m + 1 := ⟨k - 1, by omega⟩
    simp only [nameplateref02_Labels.l0]
    by_cases h : i < s.size
    · have hb := bt_range s (i : Int)
      have hc := cut_rest s i h
      have hz : (rest s i).size ≠ 0 := by rw [rest_size]; omega
      by_cases a : 1 ≤ bt s (i : Int) ∧ bt s (i : Int) ≤ 63 ∧ (i : Int) + 1 + bt s (i : Int) ≤ s.size
      · rw [if_pos a] at hc
        rw [if_pos (by omega), if_pos (by omega), wrap_id (n := bt s (i : Int)) (by omega) (by omega), wrap_id (n := (i : Int) + 1) (by omega) (by omega), wrap_id (n := (i : Int) + 1 + bt s (i : Int)) (by omega) (by omega)]
        rw [if_pos (by omega), if_pos (by omega), if_pos (by omega), if_pos (by omega), labelsP_cut hc]
        have := ih k s (i + 1 + (bt s (i : Int)).toNat) (out ++ [s.extract (i + 1) (i + 1 + (bt s (i : Int)).toNat)]) (by omega) (by omega) (by omega) hs (by rw [List.length_append, List.length_singleton]; omega) (by rw [← wf_cut hc]; exact hw)
        rw [show (i : Int) + 1 + bt s (i : Int) = ((i + 1 + (bt s (i : Int)).toNat : Nat) : Int) by omega, show ((i : Int) + 1).toNat = i + 1 by omega, Int.toNat_natCast, this, List.append_assoc, List.singleton_append]
      · rw [if_neg a] at hc
        rw [wf_none hc hz] at hw
        cases hw
    · rw [if_neg (by omega)]
      exact stop s i out (by omega)
/-- A name's labels; none, if the name may not be. -/
def lab (s : ByteArray) : List ByteArray := if chkS s = 0 then labelsP s else []
theorem lab_join {L : List ByteArray} (h : okL L) (hl : (joinI L).length ≤ 254) : lab (joinS L) = L := by unfold lab; rw [if_pos (chkS_join h hl), labelsP_join h]
theorem lab_bad {s : ByteArray} (h : chkS s ≠ 0) : lab s = [] := by unfold lab; rw [if_neg h]
theorem lab_ok (s : ByteArray) : okL (lab s) ∧ (joinI (lab s)).length ≤ 254 := by
  by_cases h : chkS s = 0
  · obtain ⟨L, h1, rfl, h2⟩ := chkS_zero.1 h
    rw [lab_join h1 h2]
    exact ⟨h1, h2⟩
  · rw [lab_bad h]
    exact ⟨okL_nil, Nat.zero_le _⟩
theorem lab_len (s : ByteArray) : (lab s).length ≤ 254 := Nat.le_trans (joinI_len _) (lab_ok s).2
theorem labels_eq (s : ByteArray) (k : Nat) (hk : 300 ≤ k) : name_Labels.f k s = some (lab s) := by
  by_cases h : chkS s = 0
  · obtain ⟨L, h1, rfl, h2⟩ := chkS_zero.1 h
    rw [lab_join h1 h2, labels_join h1 h2 k hk]
  · rw [lab_bad h, labels_bad h k hk]
theorem rlabels_eq (s : ByteArray) (k : Nat) (hk : 300 ≤ k) : nameplateref02_Labels.f k s = some (lab s) := by
  unfold nameplateref02_Labels.f
  rw [rcheck_eq s k hk, Option.bind_some]
  by_cases h : chkS s = 0
  · rw [if_pos h]
    have hw : wf s = true ∧ s.size ≤ 254 := by
      unfold chkS at h
      by_cases c : s.size > 254
      · rw [if_pos c] at h; cases h
      · rw [if_neg c] at h
        by_cases e : wf s = true
        · exact ⟨e, by omega⟩
        · rw [if_neg e] at h; cases h
    have := rlabels_l0 s.size k s 0 [] (by omega) (by omega) (by omega) (by omega) (by rw [List.length_nil]; omega) (by rw [rest_zero]; exact hw.1)
    rw [rest_zero, List.nil_append] at this
    unfold lab
    rw [if_pos h]
    exact this
  · rw [if_neg h, lab_bad h]

/-! ### Make -/
def makeP (L : List ByteArray) : ByteArray × Int := if chkL L = 0 then (if (joinI L).length ≤ 254 then (joinS L, 0) else (⟨#[]⟩, 3)) else (⟨#[]⟩, chkL L)
theorem makeP_ok {L : List ByteArray} (h : okL L) : makeP L = if (joinI L).length ≤ 254 then (joinS L, 0) else (⟨#[]⟩, 3) := by unfold makeP; rw [if_pos (chkL_ok h)]
theorem make_eq (L : List ByteArray) (hn : L.length ≤ 1000000) : name_Make.f L = some (makeP L) := by
  unfold makeP
  by_cases c : chkL L = 0
  · have h : okL L := chkL_zero c
    rw [if_pos c]
    by_cases hl : (joinI L).length ≤ 254
    · rw [if_pos hl, make_join h hl]
    · rw [if_neg hl, make_long h hl hn]
  · rw [if_neg c, make_bad c hn]
theorem rcheck1 (s : ByteArray) : nameplateref01_Check.f s = some (if s.size = 0 then 2 else if s.size > 63 then 3 else 0) := by
  rw [ref01_Check_eq]
  by_cases h : s.size = 0
  · rw [label_Check_zero h, if_pos h]
  · rw [if_neg h]
    by_cases h' : s.size > 63
    · rw [label_Check_long h', if_pos h']
    · rw [label_Check_ok (by omega) (by omega), if_neg h']
theorem rmake_no (L : List ByteArray) (x : ByteArray) (hL : L.length ≤ 1000000) : ∀ (d k i : Nat), L.length - i ≤ d → i ≤ L.length → d < k → chkL (L.drop i) ≠ 0 → nameplateref02_Make.l0 k L x (i : Int) = some (⟨#[]⟩, chkL (L.drop i)) := by
  intro d
  induction d with
  | zero =>
    intro k i h1 h2 hk hc
    exact absurd (by rw [List.drop_eq_nil_of_le (by omega)]; rfl) hc
  | succ d ih =>
    intro k i h1 h2 hk hc
    obtain ⟨k, rfl⟩ : ∃ m, k = m + 1 := ⟨k - 1, by omega⟩
    by_cases h : i < L.length
    · simp only [nameplateref02_Make.l0]
      rw [if_pos (by omega), if_pos (by omega), rcheck1, Option.bind_some]
      have e := chkL_drop h
      by_cases a : (rdOf ByteArray.empty L (i : Int)).size = 0
      · rw [if_pos a] at e ⊢
        rw [if_neg (by decide), e]
      rw [if_neg a] at e ⊢
      by_cases b : (rdOf ByteArray.empty L (i : Int)).size > 63
      · rw [if_pos b] at e ⊢
        rw [if_neg (by decide), e]
      rw [if_neg b] at e ⊢
      rw [if_pos rfl, wrap_id (n := (i : Int) + 1) (by omega) (by omega), e]
      rw [e] at hc
      exact ih k (i + 1) (by omega) (by omega) (by omega) hc
    · exact absurd (by rw [List.drop_eq_nil_of_le (by omega)]; rfl) hc
theorem rmake_yes (L : List ByteArray) (x : ByteArray) (hL : L.length ≤ 1000000) (B : Nat) (R : ByteArray × Int) (hR : ∀ k, B < k → nameplateref02_Make.l1 k L x 0 = some R) : ∀ (d k i : Nat), L.length - i ≤ d → i ≤ L.length → d + 1 + B < k → chkL (L.drop i) = 0 → nameplateref02_Make.l0 k L x (i : Int) = some R := by
  intro d
  induction d with
  | zero =>
    intro k i h1 h2 hk hc
    obtain ⟨k, rfl⟩ : ∃ m, k = m + 1 := ⟨k - 1, by omega⟩
    simp only [nameplateref02_Make.l0]
    rw [if_neg (by omega)]
    exact hR k (by omega)
  | succ d ih =>
    intro k i h1 h2 hk hc
    obtain ⟨k, rfl⟩ : ∃ m, k = m + 1 := ⟨k - 1, by omega⟩
    simp only [nameplateref02_Make.l0]
    by_cases h : i < L.length
    · rw [if_pos (by omega), if_pos (by omega), rcheck1, Option.bind_some]
      have e := chkL_drop h
      rw [hc] at e
      by_cases a : (rdOf ByteArray.empty L (i : Int)).size = 0
      · rw [if_pos a] at e; cases e
      rw [if_neg a] at e ⊢
      by_cases b : (rdOf ByteArray.empty L (i : Int)).size > 63
      · rw [if_pos b] at e; cases e
      rw [if_neg b] at e ⊢
      rw [if_pos rfl, wrap_id (n := (i : Int) + 1) (by omega) (by omega)]
      exact ih k (i + 1) (by omega) (by omega) (by omega) e.symm
    · rw [if_neg (by omega)]
      exact hR k (by omega)
theorem joinI_take_len (L : List ByteArray) (i : Nat) : (joinI (L.take i)).length ≤ (joinI L).length := by
  have := congrArg List.length (joinI_append (L.take i) (L.drop i))
  rw [List.take_append_drop, List.length_append] at this
  omega
theorem take_one {L : List ByteArray} {i : Nat} (h : i < L.length) : L.take (i + 1) = L.take i ++ [rdOf ByteArray.empty L (i : Int)] := by
  rw [List.take_succ_eq_append_getElem h, rdOf_get h]
theorem joinS_one (x : ByteArray) : joinS [x] = strOfNums [(x.size : Int)] ++ x := by
  unfold joinS
  rw [joinI_cons]
  show strOfNums ([(x.size : Int)] ++ (bytesOf x ++ joinI [])) = _
  rw [str_append, show joinI [] = [] from rfl, List.append_nil, str_bytesOf]
theorem bytes_size (s : ByteArray) : s.size = (bytesOf s).length := (bytesOf_length s).symm
theorem rmake_l1 {L : List ByteArray} (h : okL L) (hL : L.length ≤ 1000000) : ∀ (d k i : Nat), L.length - i ≤ d → i ≤ L.length → d < k → (joinI (L.take i)).length ≤ 254 →
    nameplateref02_Make.l1 k L (joinS (L.take i)) (i : Int) = some (if (joinI L).length ≤ 254 then (joinS L, 0) else (⟨#[]⟩, 3)) := by
  intro d
  induction d with
  | zero =>
    intro k i h1 h2 hk hl
    obtain ⟨k, rfl⟩ : ∃ m, k = m + 1 := ⟨k - 1, by omega⟩
    simp only [nameplateref02_Make.l1]
    rw [List.take_of_length_le (by omega)] at hl ⊢
    rw [if_neg (by omega), if_pos hl]
  | succ d ih =>
    intro k i h1 h2 hk hl
    obtain ⟨k, rfl⟩ : ∃ m, k = m + 1 := ⟨k - 1, by omega⟩
    simp only [nameplateref02_Make.l1]
    by_cases c : i < L.length
    · have hx : rdOf ByteArray.empty L (i : Int) ∈ L := by rw [rdOf_get c]; exact List.getElem_mem c
      have hz := h _ hx
      have ht : okL (L.take i) := fun y hy => h y (List.mem_of_mem_take hy)
      have ht1 : okL (L.take (i + 1)) := fun y hy => h y (List.mem_of_mem_take hy)
      have e1 : (joinS (L.take i)).size = (joinI (L.take i)).length := joinS_size ht
      have e2 : (joinS (L.take (i + 1))).size = (joinI (L.take (i + 1))).length := joinS_size ht1
      have et := take_one c
      have ej : joinS (L.take i) ++ strOfNums [((rdOf ByteArray.empty L (i : Int)).size : Int)] ++ rdOf ByteArray.empty L (i : Int) = joinS (L.take (i + 1)) := by
        rw [et, joinS_append, joinS_one, ByteArray.append_assoc]
      have el : (joinI (L.take (i + 1))).length = (joinI (L.take i)).length + (1 + (rdOf ByteArray.empty L (i : Int)).size) := by
        rw [et, joinI_append, List.length_append, joinI_len_cons]; rfl
      have e3 : (strOfNums [((rdOf ByteArray.empty L (i : Int)).size : Int)]).size = 1 := by
        rw [bytes_size, bytesOf_str (byt_cons.2 ⟨⟨by omega, by omega⟩, byt_nil⟩)]; rfl
      have em : (((rdOf ByteArray.empty L (i : Int)).size : Int)) % 256 = ((rdOf ByteArray.empty L (i : Int)).size : Int) := by omega
      have e4 := congrArg ByteArray.size ej
      rw [if_pos (by omega), if_pos (by omega), Option.bind_some, em, if_pos (by omega), if_pos (by rw [ByteArray.size_append]; omega), ej]
      by_cases g : ((joinS (L.take (i + 1))).size : Int) > 254
      · have := joinI_take_len L (i + 1)
        rw [if_pos g, if_neg (by omega)]
      · rw [if_neg g, wrap_id (n := (i : Int) + 1) (by omega) (by omega)]
        exact ih k (i + 1) (by omega) (by omega) (by omega) (by omega)
    · rw [List.take_of_length_le (by omega)] at hl ⊢
      rw [if_neg (by omega), if_pos hl]
theorem rmake_eq (L : List ByteArray) (hn : L.length ≤ 10000) (k : Nat) (hk : 2 * L.length + 10 ≤ k) : nameplateref02_Make.f k L = some (makeP L) := by
  unfold nameplateref02_Make.f makeP
  by_cases c : chkL L = 0
  · have h : okL L := chkL_zero c
    rw [if_pos c]
    refine rmake_yes L ⟨#[]⟩ (by omega) L.length _ (fun k' hk' => ?_) L.length k 0 (by omega) (by omega) (by omega) (by rw [List.drop_zero]; exact c)
    have := rmake_l1 h (by omega) L.length k' 0 (by omega) (by omega) hk' (by rw [List.take_zero]; exact Nat.zero_le _)
    rw [List.take_zero] at this
    exact this
  · rw [if_neg c]
    have := rmake_no L ⟨#[]⟩ (by omega) L.length k 0 (by omega) (by omega) (by omega) (by rw [List.drop_zero]; exact c)
    rw [List.drop_zero] at this
    exact this

/-! ### Text -/
theorem rtext_l0 {L : List ByteArray} (h : okL L) (hl : (joinI L).length ≤ 254) : ∀ (d k i : Nat), L.length - i ≤ d → i ≤ L.length → d + 200 < k → nameplateref02_Text.l0 k (strOfNums (txt (L.take i))) L (i : Int) = some (strOfNums (txt L), 0) := by
  intro d
  have hL := joinI_len L
  induction d with
  | zero =>
    intro k i h1 h2 hk
    obtain ⟨k, rfl⟩ : ∃ m, k = m + 1 := ⟨k - 1, by omega⟩
    simp only [nameplateref02_Text.l0]
    rw [if_neg (by omega), List.take_of_length_le (by omega)]
  | succ d ih =>
    intro k i h1 h2 hk
    obtain ⟨k, rfl⟩ : ∃ m, k = m + 1 := ⟨k - 1, by omega⟩
    simp only [nameplateref02_Text.l0]
    by_cases c : i < L.length
    · have hx : rdOf ByteArray.empty L (i : Int) ∈ L := by rw [rdOf_get c]; exact List.getElem_mem c
      have hz := h _ hx
      have et := take_one c
      have b1 := txt_byt (L.take i)
      have b2 := textI_byt (byt_bytesOf (rdOf ByteArray.empty L (i : Int)))
      have n1 := txt_len (L.take i)
      have n2 := joinI_take_len L i
      have n3 := (textI_length (bytesOf (rdOf ByteArray.empty L (i : Int)))).2
      rw [bytesOf_length] at n3
      have s1 : (strOfNums (txt (L.take i))).size = (txt (L.take i)).length := by rw [bytes_size, bytesOf_str b1]
      have s2 : (strOfNums (textI (bytesOf (rdOf ByteArray.empty L (i : Int))))).size = (textI (bytesOf (rdOf ByteArray.empty L (i : Int)))).length := by rw [bytes_size, bytesOf_str b2]
      rw [if_pos (by omega), if_pos (by omega), ref01_Text_eq _ k (by omega), label_Text_ok (by omega) hz.2 k (by omega), Option.bind_some]
      rw [if_pos (by show (strOfNums _).size + (strOfNums _).size ≤ _; omega), if_pos (by show (strOfNums _ ++ strOfNums _).size + 1 ≤ _; rw [ByteArray.size_append]; omega), wrap_id (n := (i : Int) + 1) (by omega) (by omega)]
      have := ih k (i + 1) (by omega) (by omega) (by omega)
      rw [et] at this
      have ex : strOfNums (txt (L.take i ++ [rdOf ByteArray.empty L (i : Int)])) = strOfNums (txt (L.take i)) ++ strOfNums (textI (bytesOf (rdOf ByteArray.empty L (i : Int)))) ++ (⟨#[46]⟩ : ByteArray) := by
        rw [show txt (L.take i ++ [rdOf ByteArray.empty L (i : Int)]) = txt (L.take i) ++ (textI (bytesOf (rdOf ByteArray.empty L (i : Int))) ++ [46]) by
          unfold txt
          rw [List.flatMap_append]
          simp [List.flatMap_cons]]
        rw [str_append, str_append, ByteArray.append_assoc]
        rfl
      rw [ex] at this
      exact this
    · rw [if_neg (by omega), List.take_of_length_le (by omega)]
theorem rtext_eq (s : ByteArray) (k : Nat) (hk : 1000 ≤ k) : ∃ r, name_Text.f k s = some r ∧ nameplateref02_Text.f k s = some r := by
  by_cases h : chkS s = 0
  · obtain ⟨L, h1, rfl, h2⟩ := chkS_zero.1 h
    have hL := joinI_len L
    have hz := joinS_size h1
    by_cases hn : L = []
    · subst hn
      refine ⟨_, text_nil k (by omega), ?_⟩
      unfold nameplateref02_Text.f
      rw [joinS_nil, rcheck_eq _ k (by omega), Option.bind_some, show chkS (⟨#[]⟩ : ByteArray) = 0 from h, if_pos rfl, if_pos (size_nil.2 rfl)]
    · refine ⟨_, text_join h1 h2 hn k (by omega), ?_⟩
      unfold nameplateref02_Text.f
      rw [rcheck_eq _ k (by omega), Option.bind_some, if_pos h, if_neg, rlabels_eq _ k (by omega), Option.bind_some, lab_join h1 h2]
      · have := rtext_l0 h1 h2 L.length k 0 (by omega) (by omega) (by omega)
        rw [List.take_zero] at this
        exact this
      · intro e
        have e1 := size_nil.1 e
        cases L with
        | nil => exact hn rfl
        | cons x t => rw [joinI_len_cons] at hz; omega
  · refine ⟨_, text_bad h k (by omega), ?_⟩
    unfold nameplateref02_Text.f
    rw [rcheck_eq s k (by omega), Option.bind_some, if_neg h]
end Go.Proofs.Ytfpdmmpjoejmiaa.NameFns
