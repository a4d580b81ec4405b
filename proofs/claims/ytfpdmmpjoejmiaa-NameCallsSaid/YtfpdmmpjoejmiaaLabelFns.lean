/- What the label's functions tell, in plain words: out of the printed functions alone. -/
import Derived.Test.YtfpdmmpjoejmiaaOCallsx13
import Derived.Test.YtfpdmmpjoejmiaaPlain
namespace Go.Proofs.Ytfpdmmpjoejmiaa.NameFns
open Go.Proofs.Ytfpdmmpjoejmiaa.OCalls Go.RowKit Go.Proofs.YtfpdmmpjoejmiaaW.PrintWords Go.Proofs.YtfpdmmpjoejmiaaW.PrintLast Go.Proofs.YtfpdmmpjoejmiaaW.PrintMore

theorem len_bytes (s : ByteArray) : (bytesOf s).length = s.size := bytesOf_length s

theorem label_Check_ok {s : ByteArray} (h0 : 0 < s.size) (h1 : s.size ≤ 63) : label_Check.f s = some 0 := by
  unfold label_Check.f
  rw [if_neg (by omega), if_neg (by omega)]
theorem label_Check_zero {s : ByteArray} (h0 : s.size = 0) : label_Check.f s = some 2 := by
  unfold label_Check.f
  rw [if_pos (by omega)]
theorem label_Check_long {s : ByteArray} (h1 : 63 < s.size) : label_Check.f s = some 3 := by
  unfold label_Check.f
  rw [if_neg (by omega), if_pos (by omega)]
theorem label_plain_yes {c : Int} (h : 32 < c ∧ c < 127) : label_plain.f c = some true := by
  unfold label_plain.f
  rw [if_pos h.1, decide_eq_true h.2]
theorem label_plain_no {c : Int} (h : ¬ (32 < c ∧ c < 127)) : label_plain.f c = some false := by
  unfold label_plain.f
  by_cases h1 : c > 32
  · rw [if_pos h1, decide_eq_false (fun h2 => h ⟨h1, h2⟩)]
  · rw [if_neg h1]

theorem label_digits_l0 (ds : List Int) (hd : ∀ x ∈ ds, 0 ≤ x ∧ x ≤ 9) (hds : ds.length ≤ 1000) (d : Nat) : ∀ (k i : Nat) (out : List Int), i + d = ds.length → d < k → out.length + d < 1099511627776 →
    label_digits.l0 k out ds (ds.length : Int) (i : Int) = some (out ++ (ds.drop i).map (48 + ·)) := by
  induction d with
  | zero =>
    intro k i out hi hk ho
    obtain ⟨k, rfl⟩ : ∃ m, k = m + 1 := ⟨k - 1, by omega⟩
    rw [List.drop_eq_nil_of_le (by omega)]
    simp only [label_digits.l0]
    rw [if_neg (by omega)]
    simp
  | succ d ih =>
    intro k i out hi hk ho
    obtain ⟨k, rfl⟩ : ∃ m, k = m + 1 := ⟨k - 1, by omega⟩
    have hx : 0 ≤ rd ds (i : Int) ∧ rd ds (i : Int) ≤ 9 := by
      rw [rd_getD, List.getD_eq_getElem?_getD, List.getElem?_eq_getElem (show i < ds.length by omega)]
      exact hd _ (List.getElem_mem _)
    rw [drop_rd (show i < ds.length by omega)]
    have h := ih k (i + 1) (out ++ [48 + rd ds (i : Int)]) (by omega) (by omega) (by simp; omega)
    simp only [label_digits.l0]
    rw [if_pos (by omega), if_pos (by omega), if_pos (by omega), if_pos (by omega), wrap_id (by omega) (by omega), show (48 + rd ds (i : Int)) % 256 = 48 + rd ds (i : Int) by omega]
    rw [show ((i : Int) + 1) = ((i + 1 : Nat) : Int) by omega, h]
    simp
theorem label_digits_three (k : Nat) (out : List Int) (a b c : Int) (ha : 0 ≤ a ∧ a ≤ 9) (hb : 0 ≤ b ∧ b ≤ 9) (hc : 0 ≤ c ∧ c ≤ 9) (hk : 3 < k) (ho : out.length < 1099511627000) :
    label_digits.f k out [a, b, c] = some (out ++ [48 + a, 48 + b, 48 + c]) := by
  have h := label_digits_l0 [a, b, c] (by intro x hx; simp at hx; rcases hx with rfl | rfl | rfl <;> assumption) (by simp) 3 k 0 out (by simp) hk (by omega)
  exact h

theorem label_Text_l0 (ys : List Int) (hy : Byt ys) (hl : ys.length ≤ 63) (d : Nat) : ∀ (k i : Nat) (out : List Int), i + d = ys.length → 2 * d + 8 < k → out.length + 4 * d < 1099511620000 →
    label_Text.l0 k out ys (ys.length : Int) (i : Int) = some (strOfNums (out ++ textI (ys.drop i)), 0) := by
  induction d with
  | zero =>
    intro k i out hi hk ho
    obtain ⟨k, rfl⟩ : ∃ m, k = m + 1 := ⟨k - 1, by omega⟩
    rw [List.drop_eq_nil_of_le (by omega), textI_nil, List.append_nil]
    simp only [label_Text.l0]
    rw [if_neg (by omega)]
  | succ d ih =>
    intro k i out hi hk ho
    obtain ⟨k, rfl⟩ : ∃ m, k = m + 2 := ⟨k - 2, by omega⟩
    have hx := rd_byt hy (i : Int)
    rw [drop_rd (show i < ys.length by omega), textI_cons, ← List.append_assoc]
    have ih2 := fun (o : List Int) (h : o.length ≤ out.length + 4) => ih k (i + 1) o (by omega) (by omega) (by omega)
    simp only [label_Text.l0]
    rw [if_pos (by omega), if_pos (by omega), if_pos (by omega)]
    generalize rd ys (i : Int) = c at hx ⊢
    have hc : ∀ b : Bool, (b = true ↔ (c = 46 ∨ c = 92)) → label_Text.j1 (k + 1) out c ys (ys.length : Int) (i : Int) b = some (strOfNums (out ++ escI c ++ textI (ys.drop (i + 1))), 0) := by
      intro b hb
      simp only [label_Text.j1]
      rw [wrap_id (n := (i : Int) + 1) (by omega) (by omega), show ((i : Int) + 1) = ((i + 1 : Nat) : Int) by omega]
      cases b with
      | true =>
        have h46 := hb.1 rfl
        rw [if_pos rfl]
        simp only [Option.bind_some]
        rw [if_pos (by simp; omega)]
        unfold escI
        rw [if_pos h46]
        exact ih2 _ (by simp)
      | false =>
        have h46 : ¬ (c = 46 ∨ c = 92) := fun h => by have := hb.2 h; cases this
        rw [if_neg (by decide)]
        unfold escI
        rw [if_neg h46]
        by_cases hp : 32 < c ∧ c < 127
        · rw [label_plain_yes hp, if_pos hp]
          simp only [Option.bind_some, if_true]
          rw [if_pos (by omega)]
          exact ih2 _ (by simp)
        · rw [label_plain_no hp, if_neg hp]
          simp only [Option.bind_some, Bool.false_eq_true, if_false]
          rw [if_pos (by omega)]
          have e1 : Int.tdiv c 100 % 256 = c / 100 := by rw [Int.tdiv_eq_ediv_of_nonneg hx.1]; omega
          have e2 : Int.tdiv c 10 % 256 % 10 = c / 10 % 10 := by rw [Int.tdiv_eq_ediv_of_nonneg hx.1]; omega
          have e3 : Int.tmod c 10 = c % 10 := Int.tmod_eq_emod_of_nonneg hx.1
          rw [e1, e2, e3, label_digits_three k (out ++ [92]) _ _ _ (by omega) (by omega) (by omega) (by omega) (by simp; omega)]
          simp only [Option.bind_some]
          have := ih2 (out ++ [92] ++ [48 + c / 100, 48 + c / 10 % 10, 48 + c % 10]) (by simp)
          rw [this]
          simp
    by_cases h46 : c = 46
    · rw [if_pos h46]
      exact hc true ⟨fun _ => .inl h46, fun _ => rfl⟩
    · rw [if_neg h46]
      refine hc _ ⟨fun h => .inr (by simpa using h), fun h => by simpa [h46] using h⟩

theorem label_Text_ok {s : ByteArray} (h0 : 0 < s.size) (h1 : s.size ≤ 63) (k : Nat) (hk : 200 ≤ k) : label_Text.f k s = some (strOfNums (textI (bytesOf s)), 0) := by
  unfold label_Text.f
  rw [label_Check_ok h0 h1]
  simp only [Option.bind_some, if_true]
  rw [if_pos (by omega)]
  have h := label_Text_l0 (bytesOf s) (byt_bytesOf s) (by rw [len_bytes]; exact h1) s.size k 0 [] (by rw [len_bytes]; omega) (by omega) (by simp; omega)
  exact h
theorem label_Text_zero {s : ByteArray} (h0 : s.size = 0) (k : Nat) : label_Text.f k s = some (⟨#[]⟩, 2) := by
  unfold label_Text.f
  rw [label_Check_zero h0]
  rfl
theorem label_Text_long {s : ByteArray} (h1 : 63 < s.size) (k : Nat) : label_Text.f k s = some (⟨#[]⟩, 3) := by
  unfold label_Text.f
  rw [label_Check_long h1]
  rfl

theorem label_digit_eq {c : Int} (h : 0 ≤ c ∧ c ≤ 255) : label_digit.f c = some (c - 48, isDig c) := by
  unfold label_digit.f isDig
  rw [wrap_id (n := c) (by omega) (by omega), wrap_id (n := c - 48) (by omega) (by omega)]
  by_cases h1 : c ≥ 48
  · rw [if_pos h1, decide_eq_true (show 48 ≤ c from h1), Bool.true_and]
  · rw [if_neg h1, decide_eq_false (show ¬ 48 ≤ c from h1), Bool.false_and]

theorem label_escaped_eq (s : ByteArray) (k : Nat) (hk : 8 ≤ k) : label_escaped.f k s = some (unescI (bytesOf s)) := by
  have hb := byt_bytesOf s
  have hl := len_bytes s
  unfold label_escaped.f
  cases e : bytesOf s with
  | nil =>
    rw [e] at hl
    have hs : s = ⟨#[]⟩ := by apply bytesOf_inj; rw [e]; rfl
    subst hs
    rw [if_pos (by rw [ByteArray.toList_eq])]
    rfl
  | cons c t =>
    rw [e] at hl hb
    simp only [List.length_cons] at hl
    have hne : ¬ s.toList = ([] : List UInt8) := by
      rw [ByteArray.toList_eq]
      intro h
      have h2 : bytesOf s = [] := by unfold bytesOf; rw [h]; rfl
      rw [e] at h2
      cases h2
    have hc := (byt_cons.1 hb).1
    have h0 : bt s 0 = c := by rw [bt_rd, e]; rfl
    rw [if_neg hne, if_pos (by omega), h0, label_digit_eq hc]
    simp only [Option.bind_some]
    unfold unescI
    cases hdc : isDig c with
    | false => simp [hdc]
    | true =>
      simp only [if_true]
      cases t with
      | nil =>
        rw [if_pos (by simp at hl; omega)]
        simp [hdc]
      | cons d t =>
        cases t with
        | nil =>
          rw [if_pos (by simp at hl; omega)]
          simp [hdc]
        | cons f r =>
          simp only [List.length_cons] at hl
          have hd := (byt_cons.1 (byt_cons.1 hb).2).1
          have hf := (byt_cons.1 (byt_cons.1 (byt_cons.1 hb).2).2).1
          rw [if_neg (by omega)]
          obtain ⟨k, rfl⟩ : ∃ m, k = m + 4 := ⟨k - 4, by omega⟩
          have b1 : bt s 1 = d := by rw [bt_rd, e]; rfl
          have b2 : bt s 2 = f := by rw [bt_rd, e]; rfl
          have hi : isDig c = true := hdc
          simp [isDig] at hi
          rw [label_escaped.l0, if_pos (by omega), if_pos (by omega), if_pos (by omega), h0, label_digit_eq hc]
          simp only [Option.bind_some, hdc, if_true]
          rw [wrap_id (n := 10 * 0) (by omega) (by omega), wrap_id (by omega) (by omega), wrap_id (n := 0 + 1) (by omega) (by omega)]
          rw [label_escaped.l0, if_pos (by omega), if_pos (by omega), if_pos (by omega), show (0 : Int) + 1 = 1 from rfl, b1, label_digit_eq hd]
          simp only [Option.bind_some]
          cases hdd : isDig d with
          | false => simp
          | true =>
            have hi2 : isDig d = true := hdd
            simp [isDig] at hi2
            simp only [if_true, Bool.true_and]
            rw [wrap_id (n := 10 * (10 * 0 + (c - 48))) (by omega) (by omega), wrap_id (by omega) (by omega), wrap_id (n := 1 + 1) (by omega) (by omega)]
            rw [label_escaped.l0, if_pos (by omega), if_pos (by omega), if_pos (by omega), show (1 : Int) + 1 = 2 from rfl, b2, label_digit_eq hf]
            simp only [Option.bind_some]
            cases hdf : isDig f with
            | false => simp
            | true =>
              have hi3 : isDig f = true := hdf
              simp [isDig] at hi3
              simp only [if_true]
              rw [wrap_id (n := 10 * (10 * (10 * 0 + (c - 48)) + (d - 48))) (by omega) (by omega), wrap_id (by omega) (by omega), wrap_id (n := 2 + 1) (by omega) (by omega)]
              rw [label_escaped.l0, if_neg (by omega)]
              have ev : 10 * (10 * (10 * 0 + (c - 48)) + (d - 48)) + (f - 48) = 100 * (c - 48) + 10 * (d - 48) + (f - 48) := by omega
              rw [ev]
              by_cases hbig : 100 * (c - 48) + 10 * (d - 48) + (f - 48) > 255
              · rw [if_pos hbig, if_pos hbig]
              · rw [if_neg hbig, if_neg hbig]
                congr 2
                omega

theorem label_Read_l0 (s : ByteArray) (hs : s.size ≤ 140737488351232) : ∀ (n k at_ : Nat) (out : List Int), at_ ≤ s.size → s.size - at_ < n → 2 * n + 10 < k → out.length ≤ 63 →
    label_Read.l0 k s (at_ : Int) out = some (readTo n ((bytesOf s).drop at_) (at_ : Int) out) := by
  intro n
  induction n with
  | zero => intro k at_ out h1 h2; omega
  | succ n ih =>
    intro k at_ out ha hn hk ho
    obtain ⟨k, rfl⟩ : ∃ m, k = m + 2 := ⟨k - 2, by omega⟩
    have hl := len_bytes s
    have stop : ∀ (h : ByteArray × Int × Int), h = (if out.length = 0 then ((⟨#[]⟩ : ByteArray), 0, 2) else (strOfNums out, (at_ : Int), 0)) → label_Read.j2 (k + 1) s (at_ : Int) out false = some h := by
      intro h e
      simp only [label_Read.j2]
      rw [if_neg (by decide), e]
      by_cases hz : out.length = 0
      · rw [if_pos (by omega), if_pos hz]
      · rw [if_neg (by omega), if_neg hz]
    simp only [label_Read.l0]
    by_cases hlt : at_ < s.size
    · rw [if_pos (by omega), if_pos (by omega), drop_rd (show at_ < (bytesOf s).length by omega), bt_rd]
      have hx := rd_byt (byt_bytesOf s) (at_ : Int)
      have hbt : bt s (at_ : Int) = rd (bytesOf s) (at_ : Int) := bt_rd _ _
      generalize rd (bytesOf s) (at_ : Int) = c at hx hbt ⊢
      by_cases h46 : c = 46
      · subst h46
        rw [show ((46 : Int) != 46) = false from rfl]
        exact stop _ (by rw [readTo, if_pos rfl])
      · rw [show (c != 46) = true from bne_iff_ne.2 h46]
        simp only [label_Read.j2]
        rw [if_pos trivial, if_pos (by omega), if_pos (by omega), hbt, readTo, if_neg h46]
        by_cases h92 : c = 92
        · rw [if_pos h92, if_pos h92, wrap_id (n := (at_ : Int) + 1) (by omega) (by omega), if_pos (by omega), if_pos (by omega), label_escaped_eq _ _ (by omega)]
          simp only [Option.bind_some]
          have ed : bytesOf (s.extract ((at_ : Int) + 1).toNat s.size) = (bytesOf s).drop (at_ + 1) := by
            rw [bytesOf_extract, show ((at_ : Int) + 1).toNat = at_ + 1 by omega, List.take_of_length_le (by omega)]
          rw [ed]
          have hu := unescI_some ((bytesOf s).drop (at_ + 1))
          rw [List.length_drop] at hu
          have hdrop : ∀ m : Nat, ((bytesOf s).drop (at_ + 1)).drop m = (bytesOf s).drop (at_ + 1 + m) := fun m => by rw [List.drop_drop]
          generalize unescI ((bytesOf s).drop (at_ + 1)) = u at hu ⊢
          by_cases hz : u.2 = 0
          · rw [if_pos hz, if_pos hz]
          · rw [if_neg hz, if_neg hz]
            by_cases h63 : out.length = 63
            · rw [if_pos (by omega), if_pos h63]
            · rw [if_neg (by omega), if_neg h63, if_pos (by omega), wrap_id (n := 1 + u.2) (by omega) (by omega), wrap_id (n := (at_ : Int) + (1 + u.2)) (by omega) (by omega)]
              have h := ih k (at_ + 1 + u.2.toNat) (out ++ [u.1]) (by omega) (by omega) (by omega) (by simp; omega)
              rw [hdrop, show (at_ : Int) + (1 + u.2) = ((at_ + 1 + u.2.toNat : Nat) : Int) by omega, show (at_ : Int) + 1 + u.2 = ((at_ + 1 + u.2.toNat : Nat) : Int) by omega]
              exact h
        · rw [if_neg h92, if_neg h92]
          by_cases hp : 32 < c ∧ c < 127
          · rw [label_plain_yes hp, if_pos hp]
            simp only [Option.bind_some, if_true]
            by_cases h63 : out.length = 63
            · rw [if_pos (by omega), if_pos h63]
            · rw [if_neg (by omega), if_neg h63, if_pos (by omega), wrap_id (n := (at_ : Int) + 1) (by omega) (by omega)]
              have h := ih k (at_ + 1) (out ++ [c]) (by omega) (by omega) (by omega) (by simp; omega)
              rw [show (at_ : Int) + 1 = ((at_ + 1 : Nat) : Int) by omega]
              exact h
          · rw [label_plain_no hp, if_neg hp]
            rfl
    · rw [if_neg (by omega), List.drop_eq_nil_of_le (by omega)]
      exact stop _ (by rw [readTo])

theorem label_Read_in (s : ByteArray) (hs : s.size ≤ 140737488351232) (at_ : Nat) (ha : at_ ≤ s.size) (k : Nat) (hk : 2 * (s.size - at_) + 20 < k) :
    label_Read.f k s (at_ : Int) = some (readTo (s.size - at_ + 1) ((bytesOf s).drop at_) (at_ : Int) []) := by
  unfold label_Read.f
  rw [if_neg (by omega), decide_eq_false (by omega)]
  obtain ⟨k, rfl⟩ : ∃ m, k = m + 1 := ⟨k - 1, by omega⟩
  rw [label_Read.j0, if_neg (by decide)]
  exact label_Read_l0 s hs _ k at_ [] ha (by omega) (by omega) (by simp)
theorem label_Read_out (s : ByteArray) (at_ : Int) (h : at_ < 0 ∨ at_ > s.size) (k : Nat) (hk : 1 < k) : label_Read.f k s at_ = some (⟨#[]⟩, 0, 2) := by
  obtain ⟨k, rfl⟩ : ∃ m, k = m + 1 := ⟨k - 1, by omega⟩
  unfold label_Read.f
  by_cases h0 : at_ < 0
  · rw [if_pos h0, label_Read.j0, if_pos rfl]
  · rw [if_neg h0, decide_eq_true (by omega), label_Read.j0, if_pos rfl]
/-- A label's text is read, up to the end or to a dot. -/
theorem label_Read_text {s l : ByteArray} (hs : s.size ≤ 140737488351232) (h0 : 0 < l.size) (h1 : l.size ≤ 63) (at_ : Nat) (ha : at_ ≤ s.size) (r : List Int) (hr : r = [] ∨ ∃ t, r = 46 :: t)
    (e : (bytesOf s).drop at_ = textI (bytesOf l) ++ r) (k : Nat) (hk : 2 * (s.size - at_) + 20 < k) :
    label_Read.f k s (at_ : Int) = some (l, (at_ : Int) + (textI (bytesOf l)).length, 0) := by
  have hl := len_bytes l
  have ht := textI_length (bytesOf l)
  have hd : ((bytesOf s).drop at_).length = s.size - at_ := by rw [List.length_drop, len_bytes]
  rw [e, List.length_append] at hd
  rw [label_Read_in s hs at_ ha k hk, e, readTo_text (byt_bytesOf l) _ r _ [] (by simp; omega) (by omega) hr, List.nil_append, readEnd_some (by omega), str_bytesOf]
end Go.Proofs.Ytfpdmmpjoejmiaa.NameFns
