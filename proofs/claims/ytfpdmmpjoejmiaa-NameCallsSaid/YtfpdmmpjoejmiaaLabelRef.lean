/- What the reference's functions of labels tell, in plain words. -/
import Derived.Test.YtfpdmmpjoejmiaaOCallsx13
import Derived.Test.YtfpdmmpjoejmiaaLabelFns
namespace Go.Proofs.Ytfpdmmpjoejmiaa.NameFns
open Go.Proofs.Ytfpdmmpjoejmiaa.OCalls Go.RowKit Go.Proofs.YtfpdmmpjoejmiaaW.PrintWords Go.Proofs.YtfpdmmpjoejmiaaW.PrintLast Go.Proofs.YtfpdmmpjoejmiaaW.PrintMore

theorem size_zero {s : ByteArray} : s.toList = ([] : List UInt8) ↔ s.size = 0 := by
  rw [ByteArray.toList_eq]
  constructor
  · intro h
    have : s.data.toList.length = 0 := by rw [h]; rfl
    rw [data_length] at this
    exact this
  · intro h
    apply List.eq_nil_of_length_eq_zero
    rw [data_length]
    exact h
theorem ref01_Check_eq (s : ByteArray) : nameplateref01_Check.f s = label_Check.f s := by
  unfold nameplateref01_Check.f label_Check.f
  by_cases h : s.size = 0
  · rw [if_pos (size_zero.2 h), if_pos (by omega)]
  · rw [if_neg (fun e => h (size_zero.1 e)), if_neg (show ¬ ((s.size : Int) = 0) by omega)]
theorem ref01_plain_eq (c : Int) : nameplateref01_plain.f c = some (decide (32 < c ∧ c < 127)) := by
  unfold nameplateref01_plain.f
  by_cases h : c ≥ 33
  · rw [if_pos h]
    by_cases h' : c ≤ 126
    · rw [decide_eq_true h', decide_eq_true (by omega)]
    · rw [decide_eq_false h', decide_eq_false (by omega)]
  · rw [if_neg h, decide_eq_false (by omega)]
theorem ref01_digit_eq (c : Int) : nameplateref01_digit.f c = some (isDig c) := by
  unfold nameplateref01_digit.f isDig
  by_cases h : c ≥ 48
  · rw [if_pos h, decide_eq_true (show 48 ≤ c from h), Bool.true_and]
  · rw [if_neg h, decide_eq_false (show ¬ 48 ≤ c from h), Bool.false_and]

theorem ref01_Text_l0 (s : ByteArray) (hl : s.size ≤ 63) (d : Nat) : ∀ (k i : Nat) (out : List Int), i + d = s.size → 2 * d + 8 < k → out.length + 4 * d < 1099511620000 →
    nameplateref01_Text.l0 k s out (i : Int) = some (strOfNums (out ++ textI ((bytesOf s).drop i)), 0) := by
  have hlen := len_bytes s
  induction d with
  | zero =>
    intro k i out hi hk ho
    obtain ⟨k, rfl⟩ : ∃ m, k = m + 1 := ⟨k - 1, by omega⟩
    rw [List.drop_eq_nil_of_le (by omega), textI_nil, List.append_nil]
    simp only [nameplateref01_Text.l0]
    rw [if_neg (by omega)]
  | succ d ih =>
    intro k i out hi hk ho
    obtain ⟨k, rfl⟩ : ∃ m, k = m + 2 := ⟨k - 2, by omega⟩
    have hx := rd_byt (byt_bytesOf s) (i : Int)
    rw [drop_rd (show i < (bytesOf s).length by omega), textI_cons, ← List.append_assoc]
    have ih2 := fun (o : List Int) (h : o.length ≤ out.length + 4) => ih k (i + 1) o (by omega) (by omega) (by omega)
    simp only [nameplateref01_Text.l0]
    rw [if_pos (by omega), if_pos (by omega), bt_rd]
    generalize rd (bytesOf s) (i : Int) = c at hx ⊢
    have hc : ∀ b : Bool, (b = true ↔ (c = 46 ∨ c = 92)) → nameplateref01_Text.j1 (k + 1) s out (i : Int) c b = some (strOfNums (out ++ escI c ++ textI ((bytesOf s).drop (i + 1))), 0) := by
      intro b hb
      simp only [nameplateref01_Text.j1]
      rw [wrap_id (n := (i : Int) + 1) (by omega) (by omega), show ((i : Int) + 1) = ((i + 1 : Nat) : Int) by omega]
      cases b with
      | true =>
        have h46 := hb.1 rfl
        rw [if_pos rfl]
        simp only [Option.bind_some]
        rw [if_pos (by simp; omega)]
        unfold escI
        rw [if_pos h46]
        exact ih2 _ (by simp)
      | false =>
        have h46 : ¬ (c = 46 ∨ c = 92) := fun h => by have := hb.2 h; cases this
        rw [if_neg (by decide), ref01_plain_eq]
        unfold escI
        rw [if_neg h46]
        simp only [Option.bind_some]
        by_cases hp : 32 < c ∧ c < 127
        · rw [decide_eq_true hp, if_pos rfl, if_pos hp, if_pos (by omega)]
          exact ih2 _ (by simp)
        · rw [decide_eq_false hp, if_neg (by decide), if_neg hp]
          have e1 : (48 + Int.tdiv c 100 % 256) % 256 = 48 + c / 100 := by rw [Int.tdiv_eq_ediv_of_nonneg hx.1]; omega
          have e2 : Int.tdiv c 10 % 256 % 10 = c / 10 % 10 := by rw [Int.tdiv_eq_ediv_of_nonneg hx.1]; omega
          have e3 : (48 + Int.tmod c 10) % 256 = 48 + c % 10 := by rw [Int.tmod_eq_emod_of_nonneg hx.1]; omega
          rw [e1, e2, e3, if_pos (by simp; omega)]
          exact ih2 _ (by simp)
    by_cases h46 : c = 46
    · rw [if_pos h46]
      exact hc true ⟨fun _ => .inl h46, fun _ => rfl⟩
    · rw [if_neg h46]
      refine hc _ ⟨fun h => .inr (by simpa using h), fun h => by simpa [h46] using h⟩
theorem ref01_Text_eq (s : ByteArray) (k : Nat) (hk : 200 ≤ k) : nameplateref01_Text.f k s = label_Text.f k s := by
  unfold nameplateref01_Text.f
  rw [ref01_Check_eq]
  by_cases hz : s.size = 0
  · rw [label_Text_zero hz, label_Check_zero hz]; rfl
  by_cases hl : 63 < s.size
  · rw [label_Text_long hl, label_Check_long hl]; rfl
  rw [label_Text_ok (by omega) (by omega) k hk, label_Check_ok (by omega) (by omega)]
  simp only [Option.bind_some, if_true]
  exact ref01_Text_l0 s (by omega) s.size k 0 [] (by omega) (by omega) (by simp; omega)

/-- One octet of a text, at a place. -/
theorem ref01_octet_eq (s : ByteArray) (hs : s.size ≤ 140737488351232) (at_ : Nat) (ha : at_ < s.size) (k : Nat) (hk : 1 < k) (c : Int) (hc : rd (bytesOf s) (at_ : Int) = c) :
    nameplateref01_octet.f k s (at_ : Int) = some (if c = 92 then (if (unescI ((bytesOf s).drop (at_ + 1))).2 = 0 then (0, 0) else ((unescI ((bytesOf s).drop (at_ + 1))).1, 1 + (unescI ((bytesOf s).drop (at_ + 1))).2)) else if 32 < c ∧ c < 127 then (c, 1) else (0, 0)) := by
  have hlen := len_bytes s
  have hcb := rd_byt (byt_bytesOf s) (at_ : Int)
  rw [hc] at hcb
  have hb0 : bt s (at_ : Int) = c := by rw [bt_rd, hc]
  obtain ⟨k, rfl⟩ : ∃ m, k = m + 1 := ⟨k - 1, by omega⟩
  unfold nameplateref01_octet.f
  rw [if_pos (by omega), if_pos (by omega), hb0]
  by_cases h92 : c = 92
  · rw [if_pos h92, if_pos h92, wrap_id (n := (at_ : Int) + 1) (by omega) (by omega)]
    by_cases h1 : s.size ≤ at_ + 1
    · rw [if_pos (by omega), List.drop_eq_nil_of_le (by omega)]
      rfl
    · rw [if_neg (by omega), if_pos (by omega), if_pos (by omega)]
      have e1 := drop_rd (xs := bytesOf s) (i := at_ + 1) (by omega)
      rw [show ((at_ + 1 : Nat) : Int) = (at_ : Int) + 1 by omega] at e1
      have b1 := rd_byt (byt_bytesOf s) ((at_ : Int) + 1)
      rw [e1, bt_rd]
      generalize rd (bytesOf s) ((at_ : Int) + 1) = d at b1 e1 ⊢
      rw [ref01_digit_eq]
      simp only [Option.bind_some]
      cases hd : isDig d with
      | false =>
        simp [unescI, hd]
      | true =>
        have hd' : isDig d = true := hd
        simp [isDig] at hd'
        simp only [if_true]
        rw [wrap_id (n := (at_ : Int) + 3) (by omega) (by omega)]
        by_cases h3 : s.size ≤ at_ + 3
        · rw [if_pos (by omega), nameplateref01_octet.j0, if_pos rfl]
          have hsh : (List.drop (at_ + 1 + 1) (bytesOf s)).length ≤ 1 := by rw [List.length_drop]; omega
          generalize List.drop (at_ + 1 + 1) (bytesOf s) = t at hsh
          cases t with
          | nil => simp [unescI, hd]
          | cons x t =>
            cases t with
            | nil => simp [unescI, hd]
            | cons y t => simp at hsh
        · rw [if_neg (by omega), wrap_id (n := (at_ : Int) + 2) (by omega) (by omega), if_pos (by omega), if_pos (by omega)]
          have e2 := drop_rd (xs := bytesOf s) (i := at_ + 1 + 1) (by omega)
          rw [show ((at_ + 1 + 1 : Nat) : Int) = (at_ : Int) + 2 by omega] at e2
          have e3 := drop_rd (xs := bytesOf s) (i := at_ + 1 + 1 + 1) (by omega)
          rw [show ((at_ + 1 + 1 + 1 : Nat) : Int) = (at_ : Int) + 3 by omega] at e3
          have b2 := rd_byt (byt_bytesOf s) ((at_ : Int) + 2)
          have b3 := rd_byt (byt_bytesOf s) ((at_ : Int) + 3)
          have t2 : bt s ((at_ : Int) + 2) = rd (bytesOf s) ((at_ : Int) + 2) := bt_rd _ _
          have t3 : bt s ((at_ : Int) + 3) = rd (bytesOf s) ((at_ : Int) + 3) := bt_rd _ _
          rw [e2, e3, t2]
          generalize rd (bytesOf s) ((at_ : Int) + 2) = f at b2 t2 ⊢
          generalize rd (bytesOf s) ((at_ : Int) + 3) = g at b3 t3 ⊢
          rw [ref01_digit_eq]
          simp only [Option.bind_some]
          cases hf : isDig f with
          | false =>
            rw [if_neg (by decide), nameplateref01_octet.j0, if_pos rfl]
            simp [unescI, hd, hf]
          | true =>
            have hf' : isDig f = true := hf
            simp [isDig] at hf'
            simp only [if_true]
            rw [if_pos (by omega), if_pos (by omega), t3, ref01_digit_eq]
            simp only [Option.bind_some]
            cases hg : isDig g with
            | false =>
              rw [nameplateref01_octet.j0, if_pos (by decide)]
              simp [unescI, hd, hf, hg]
            | true =>
              have hg' : isDig g = true := hg
              simp [isDig] at hg'
              rw [nameplateref01_octet.j0, if_neg (by decide), wrap_id (n := (at_ : Int) + 2) (by omega) (by omega), wrap_id (n := (at_ : Int) + 3) (by omega) (by omega), if_pos (by omega), if_pos (by omega), if_pos (by omega), if_pos (by omega), t2, t3]
              rw [show (d - 48) % 256 = d - 48 by omega, show (f - 48) % 256 = f - 48 by omega, show (g - 48) % 256 = g - 48 by omega]
              simp only [unescI, hd, hf, hg, Bool.and_self, if_true]
              by_cases hbig : 100 * (d - 48) + 10 * (f - 48) + (g - 48) > 255
              · rw [if_pos hbig, if_pos hbig, if_pos rfl]
              · rw [if_neg hbig, if_neg hbig, if_neg (by simp)]
                congr 2
                omega
  · rw [if_neg h92, if_neg h92, ref01_plain_eq]
    simp only [Option.bind_some]
    by_cases hp : 32 < c ∧ c < 127
    · rw [decide_eq_true hp, if_pos rfl, if_pos hp]
    · rw [decide_eq_false hp, if_neg (by decide), if_neg hp]

theorem ref01_Read_l0 (s : ByteArray) (hs : s.size ≤ 140737488351232) : ∀ (n k at_ : Nat) (out : List Int), at_ ≤ s.size → s.size - at_ < n → 2 * n + 10 < k → out.length ≤ 63 →
    nameplateref01_Read.l0 k s (at_ : Int) out = some (readTo n ((bytesOf s).drop at_) (at_ : Int) out) := by
  intro n
  induction n with
  | zero => intro k at_ out h1 h2; omega
  | succ n ih =>
    intro k at_ out ha hn hk ho
    obtain ⟨k, rfl⟩ : ∃ m, k = m + 2 := ⟨k - 2, by omega⟩
    have hl := len_bytes s
    have stop : ∀ (h : ByteArray × Int × Int), h = (if out.length = 0 then ((⟨#[]⟩ : ByteArray), 0, 2) else (strOfNums out, (at_ : Int), 0)) → nameplateref01_Read.j2 (k + 1) s (at_ : Int) out false = some h := by
      intro h e
      simp only [nameplateref01_Read.j2]
      rw [if_neg (by decide), e]
      by_cases hz : out.length = 0
      · rw [if_pos (by omega), if_pos hz]
      · rw [if_neg (by omega), if_neg hz]
    simp only [nameplateref01_Read.l0]
    by_cases hlt : at_ < s.size
    · rw [if_pos (by omega), if_pos (by omega), drop_rd (show at_ < (bytesOf s).length by omega), bt_rd]
      have hx := rd_byt (byt_bytesOf s) (at_ : Int)
      have hoct := ref01_octet_eq s hs at_ hlt k (by omega) _ rfl
      generalize rd (bytesOf s) (at_ : Int) = c at hx hoct ⊢
      by_cases h46 : c = 46
      · subst h46
        rw [show ((46 : Int) != 46) = false from rfl]
        exact stop _ (by rw [readTo, if_pos rfl])
      · rw [show (c != 46) = true from bne_iff_ne.2 h46]
        simp only [nameplateref01_Read.j2]
        rw [if_pos trivial, hoct, readTo, if_neg h46]
        simp only [Option.bind_some]
        by_cases h92 : c = 92
        · rw [if_pos h92, if_pos h92]
          have hu := unescI_some ((bytesOf s).drop (at_ + 1))
          rw [List.length_drop] at hu
          have hdrop : ∀ m : Nat, ((bytesOf s).drop (at_ + 1)).drop m = (bytesOf s).drop (at_ + 1 + m) := fun m => by rw [List.drop_drop]
          generalize unescI ((bytesOf s).drop (at_ + 1)) = u at hu ⊢
          by_cases hz : u.2 = 0
          · rw [if_pos hz, if_pos hz, if_pos rfl]
          · rw [if_neg hz, if_neg hz, if_neg (by show ¬ (1 + u.2 = 0); omega)]
            by_cases h63 : out.length = 63
            · rw [if_pos (by omega), if_pos h63]
            · rw [if_neg (by omega), if_neg h63, if_pos (by omega)]
              show nameplateref01_Read.l0 k s (wrap64 ((at_ : Int) + (1 + u.2))) (out ++ [u.1]) = _
              rw [wrap_id (n := (at_ : Int) + (1 + u.2)) (by omega) (by omega)]
              have h := ih k (at_ + 1 + u.2.toNat) (out ++ [u.1]) (by omega) (by omega) (by omega) (by simp; omega)
              rw [hdrop, show (at_ : Int) + (1 + u.2) = ((at_ + 1 + u.2.toNat : Nat) : Int) by omega, show (at_ : Int) + 1 + u.2 = ((at_ + 1 + u.2.toNat : Nat) : Int) by omega]
              exact h
        · rw [if_neg h92, if_neg h92]
          by_cases hp : 32 < c ∧ c < 127
          · rw [if_pos hp, if_pos hp, if_neg (by simp)]
            by_cases h63 : out.length = 63
            · rw [if_pos (by omega), if_pos h63]
            · rw [if_neg (by omega), if_neg h63, if_pos (by omega)]
              show nameplateref01_Read.l0 k s (wrap64 ((at_ : Int) + 1)) (out ++ [c]) = _
              rw [wrap_id (n := (at_ : Int) + 1) (by omega) (by omega)]
              have h := ih k (at_ + 1) (out ++ [c]) (by omega) (by omega) (by omega) (by simp; omega)
              rw [show (at_ : Int) + 1 = ((at_ + 1 : Nat) : Int) by omega]
              exact h
          · rw [if_neg hp, if_neg hp, if_pos rfl]
    · rw [if_neg (by omega), List.drop_eq_nil_of_le (by omega)]
      exact stop _ (by rw [readTo])
theorem ref01_Read_eq (s : ByteArray) (hs : s.size ≤ 140737488351232) (at_ : Int) (k : Nat) (hk : 2 * s.size + 30 < k) : ∃ r, label_Read.f k s at_ = some r ∧ nameplateref01_Read.f k s at_ = some r := by
  by_cases h : at_ < 0 ∨ at_ > s.size
  · refine ⟨_, label_Read_out s at_ h k (by omega), ?_⟩
    obtain ⟨k, rfl⟩ : ∃ m, k = m + 1 := ⟨k - 1, by omega⟩
    unfold nameplateref01_Read.f
    by_cases h0 : at_ < 0
    · rw [if_pos h0, nameplateref01_Read.j0, if_pos rfl]
    · rw [if_neg h0, decide_eq_true (by omega), nameplateref01_Read.j0, if_pos rfl]
  · obtain ⟨n, rfl⟩ : ∃ n : Nat, at_ = (n : Int) := ⟨at_.toNat, by omega⟩
    refine ⟨_, label_Read_in s hs n (by omega) k (by omega), ?_⟩
    unfold nameplateref01_Read.f
    rw [if_neg (by omega), decide_eq_false (by omega)]
    obtain ⟨k, rfl⟩ : ∃ m, k = m + 1 := ⟨k - 1, by omega⟩
    rw [nameplateref01_Read.j0, if_neg (by decide)]
    exact ref01_Read_l0 s hs _ k n [] (by omega) (by omega) (by omega) (by simp)

/-! ### Comparing -/
theorem ref01_cmp_l0 (s t : ByteArray) (hs : s.size ≤ 1000) (d : Nat) : ∀ (k i : Nat), i ≤ s.size → i ≤ t.size → s.size - i = d → 2 * d + 4 < k →
    nameplateref01_Compare.l0 k s t (i : Int) = some (cmpI ((bytesOf s).drop i) ((bytesOf t).drop i)) := by
  have ls := len_bytes s
  have lt := len_bytes t
  induction d with
  | zero =>
    intro k i h1 h2 hd hk
    obtain ⟨k, rfl⟩ : ∃ m, k = m + 2 := ⟨k - 2, by omega⟩
    rw [nameplateref01_Compare.l0, if_neg (by omega), nameplateref01_Compare.j1, if_neg (by decide), List.drop_eq_nil_of_le (by omega)]
    by_cases h : i < t.size
    · rw [if_pos (by omega), drop_rd (show i < (bytesOf t).length by omega)]; rfl
    · rw [if_neg (by omega), if_neg (by omega), List.drop_eq_nil_of_le (by omega)]; rfl
  | succ d ih =>
    intro k i h1 h2 hd hk
    obtain ⟨k, rfl⟩ : ∃ m, k = m + 2 := ⟨k - 2, by omega⟩
    rw [nameplateref01_Compare.l0, if_pos (by omega), drop_rd (show i < (bytesOf s).length by omega)]
    by_cases h : i < t.size
    · have hih := ih k (i + 1) (by omega) (by omega) (by omega) (by omega)
      rw [decide_eq_true (by omega), nameplateref01_Compare.j1, if_pos rfl, if_pos (by omega), if_pos (by omega), if_pos (by omega), drop_rd (show i < (bytesOf t).length by omega), bt_rd, bt_rd, cmpI]
      by_cases c1 : rd (bytesOf s) (i : Int) < rd (bytesOf t) (i : Int)
      · rw [if_pos c1, if_pos c1]
      · rw [if_neg c1, if_neg c1]
        by_cases c2 : rd (bytesOf s) (i : Int) > rd (bytesOf t) (i : Int)
        · rw [if_pos c2, if_pos c2]
        · rw [if_neg c2, if_neg c2, wrap_id (by omega) (by omega), show (i : Int) + 1 = ((i + 1 : Nat) : Int) by omega]
          exact hih
    · rw [decide_eq_false (by omega), nameplateref01_Compare.j1, if_neg (by decide), if_neg (by omega), if_pos (by omega), List.drop_eq_nil_of_le (show (bytesOf t).length ≤ i by omega)]
      rfl
/-- How labels compare, folded. -/
def fcmp (a b : ByteArray) : Int := cmpI ((bytesOf a).map foldI) ((bytesOf b).map foldI)
theorem label_Fold_eq {a : ByteArray} (h : a.size ≤ 1000) : label_Fold.f a = some (foldS a) := by unfold label_Fold.f; rw [if_pos (by omega)]
theorem label_Compare_eq {a b : ByteArray} (h : a.size ≤ 1000) (h' : b.size ≤ 1000) : label_Compare.f a b = some (fcmp a b) := by
  unfold label_Compare.f strings_Compare.f fcmp
  rw [label_Fold_eq h, label_Fold_eq h']
  simp only [Option.bind_some]
  rw [cmp_bytes, bytesOf_foldS, bytesOf_foldS]
theorem label_Same_eq {a b : ByteArray} (h : a.size ≤ 1000) (h' : b.size ≤ 1000) : label_Same.f a b = some (fcmp a b == 0) := by
  unfold label_Same.f
  rw [label_Compare_eq h h']
  rfl
theorem ref01_Fold_eq {a : ByteArray} (h : a.size ≤ 1000) : nameplateref01_Fold.f a = some (foldS a) := by unfold nameplateref01_Fold.f; rw [if_pos (by omega)]
theorem ref01_Compare_eq {a b : ByteArray} (h : a.size ≤ 1000) (h' : b.size ≤ 1000) (k : Nat) (hk : 2100 ≤ k) : nameplateref01_Compare.f k a b = some (fcmp a b) := by
  unfold nameplateref01_Compare.f
  rw [ref01_Fold_eq h, ref01_Fold_eq h']
  simp only [Option.bind_some]
  have := ref01_cmp_l0 (foldS a) (foldS b) (by rw [foldS_size]; exact h) (foldS a).size k 0 (by omega) (by omega) (by omega) (by rw [foldS_size]; omega)
  rw [List.drop_zero, List.drop_zero, bytesOf_foldS, bytesOf_foldS] at this
  exact this
theorem ref01_Same_eq {a b : ByteArray} (h : a.size ≤ 1000) (h' : b.size ≤ 1000) : nameplateref01_Same.f a b = some (fcmp a b == 0) := by
  unfold nameplateref01_Same.f
  rw [ref01_Fold_eq h, ref01_Fold_eq h']
  simp only [Option.bind_some]
  congr 1
  rw [Bool.eq_iff_iff, beq_iff_eq, beq_iff_eq, toList_inj]
  unfold fcmp
  rw [cmpI_zero, ← bytesOf_foldS, ← bytesOf_foldS]
  exact ⟨fun e => by rw [e], fun e => bytesOf_inj e⟩
end Go.Proofs.Ytfpdmmpjoejmiaa.NameFns
