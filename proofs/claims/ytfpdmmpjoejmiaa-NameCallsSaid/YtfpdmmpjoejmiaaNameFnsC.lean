/- What name.Text and name.Read tell, in plain words: the text of a name's labels, and the name that such a text is read as. -/
import Derived.Test.YtfpdmmpjoejmiaaNameFnsA
import Derived.Test.YtfpdmmpjoejmiaaOCallsx13
import Derived.Test.YtfpdmmpjoejmiaaLabelFns
namespace Go.Proofs.Ytfpdmmpjoejmiaa.NameFns
open Go.RowKit Go.Proofs.Ytfpdmmpjoejmiaa.OCalls Go.Proofs.YtfpdmmpjoejmiaaW.PrintWords Go.Proofs.YtfpdmmpjoejmiaaW.PrintLast Go.Proofs.YtfpdmmpjoejmiaaW.PrintMore

/-- A name's text, as numbers. -/
def txt (L : List ByteArray) : List Int := L.flatMap fun x => textI (bytesOf x) ++ [46]
theorem txt_cons (x : ByteArray) (L : List ByteArray) : txt (x :: L) = textI (bytesOf x) ++ 46 :: txt L := by
  unfold txt
  rw [List.flatMap_cons, List.append_assoc]
  rfl
theorem txt_byt (L : List ByteArray) : Byt (txt L) := by
  induction L with
  | nil => exact byt_nil
  | cons x t ih =>
    rw [txt_cons, byt_append, byt_cons]
    exact ⟨textI_byt (byt_bytesOf x), ⟨by decide, by decide⟩, ih⟩
theorem txt_len (L : List ByteArray) : (txt L).length ≤ 4 * (joinI L).length := by
  induction L with
  | nil => exact Nat.le_refl _
  | cons x t ih =>
    have := (textI_length (bytesOf x)).2
    rw [bytesOf_length] at this
    rw [txt_cons, joinI_len_cons, List.length_append, List.length_cons]
    omega
theorem txt_ne {L : List ByteArray} (h : L ≠ []) : txt L ≠ [] := by
  cases L with
  | nil => exact absurd rfl h
  | cons x t =>
    rw [txt_cons]
    simp
theorem txt_last {L : List ByteArray} (h : L ≠ []) : txt L = (txt L).dropLast ++ [46] := by
  induction L with
  | nil => exact absurd rfl h
  | cons x t ih =>
    rw [txt_cons]
    cases t with
    | nil =>
      rw [show txt [] = [] from rfl, List.dropLast_append_of_ne_nil (by simp)]
      simp
    | cons y t =>
      have := ih (by simp)
      have hne := txt_ne (L := y :: t) (by simp)
      rw [List.dropLast_append_of_ne_nil (by simp), List.dropLast_cons_of_ne_nil hne, List.append_assoc, List.cons_append, ← this]
theorem txAll_eq {L : List ByteArray} (h : okL L) (k : Nat) (hk : 200 ≤ k) : ∃ q, txAll k L = some q ∧ q.map (fun b : UInt8 => (b.toNat : Int)) = txt L := by
  induction L with
  | nil => exact ⟨[], rfl, rfl⟩
  | cons x t ih =>
    have h1 := okL_cons.1 h
    obtain ⟨q, hq, eq⟩ := ih h1.2
    have hb := textI_byt (byt_bytesOf x)
    have hl := (textI_length (bytesOf x)).2
    have hs : (strOfNums (textI (bytesOf x))).size = (textI (bytesOf x)).length := by rw [← bytesOf_length, bytesOf_str hb]
    rw [bytesOf_length] at hl
    refine ⟨(strOfNums (textI (bytesOf x))).data.toList ++ 46 :: q, ?_, ?_⟩
    · unfold txAll
      rw [label_Text_ok (by omega) h1.1.2 k hk, Option.bind_some, hq, Option.bind_some, if_pos (show (strOfNums (textI (bytesOf x))).size ≤ 1000 by omega)]
    · rw [List.map_append, List.map_cons, eq, txt_cons]
      have e : (strOfNums (textI (bytesOf x))).data.toList.map (fun b : UInt8 => (b.toNat : Int)) = textI (bytesOf x) := bytesOf_str hb
      rw [e]
      rfl
theorem text_nil (k : Nat) (hk : 300 ≤ k) : name_Text.f k ⟨#[]⟩ = some (⟨#[46]⟩, 0) := by
  unfold name_Text.f
  rw [check_eq _ k hk, show chkS ⟨#[]⟩ = 0 from chkS_join (L := []) okL_nil (by decide), Option.bind_some, if_pos rfl, if_pos (show (⟨#[]⟩ : ByteArray).size = 0 from rfl)]
theorem text_bad {s : ByteArray} (h : chkS s ≠ 0) (k : Nat) (hk : 300 ≤ k) : name_Text.f k s = some (⟨#[]⟩, chkS s) := by
  unfold name_Text.f
  rw [check_eq _ k hk, Option.bind_some, if_neg h]
theorem text_join {L : List ByteArray} (h : okL L) (hl : (joinI L).length ≤ 254) (hn : L ≠ []) (k : Nat) (hk : 300 ≤ k) : name_Text.f k (joinS L) = some (strOfNums (txt L), 0) := by
  obtain ⟨q, hq, eq⟩ := txAll_eq h k (by omega)
  have hz := joinS_size h
  have hn2 := joinI_len L
  have hp : 0 < L.length := List.length_pos_iff.2 hn
  unfold name_Text.f
  rw [check_eq _ k hk, chkS_join h hl, Option.bind_some, if_pos rfl, if_neg (by omega), labelsP_join h, if_pos ⟨by omega, by omega⟩, hq, Option.bind_some]
  congr 2
  apply bytesOf_inj
  rw [bytesOf_str (txt_byt L)]
  exact eq
/-! ### Read -/
theorem read_l0 {s : ByteArray} (hs : s.size ≤ 2000) (B : Nat) (hB : 5000 ≤ B) : ∀ (R M : List ByteArray) (at_ : Nat), okL (M ++ R) → (joinI (M ++ R)).length ≤ 254 →
    ((bytesOf s).drop at_ = txt R ∨ (R ≠ [] ∧ (bytesOf s).drop at_ = (txt R).dropLast)) → (R ≠ [] → at_ ≤ s.size) → at_ ≤ s.size + 1 → ∀ k, B + R.length ≤ k →
    name_Read.l0 k s M (at_ : Int) = some (joinS (M ++ R), 0) := by
  intro R
  have hb := bytesOf_length s
  induction R with
  | nil =>
    intro M at_ hM lM hd _ _ k hk
    obtain ⟨k, rfl⟩ : ∃ m, k = m + 1 := ⟨k - 1, by omega⟩
    have h0 : (bytesOf s).drop at_ = [] := by
      rcases hd with h | h
      · exact h
      · exact absurd rfl h.1
    have h1 : s.size ≤ at_ := by
      have := List.drop_eq_nil_iff.1 h0
      omega
    simp only [name_Read.l0]
    rw [List.append_nil] at hM lM ⊢
    rw [if_neg (by omega), make_join hM lM, Option.bind_some]
  | cons x t ih =>
    intro M at_ hM lM hd ha _ k hk
    obtain ⟨k, rfl⟩ : ∃ m, k = m + 1 := ⟨k - 1, by omega⟩
    have ha := ha (by simp)
    have hx := (okL_cons.1 (okL_append.1 hM).2).1
    have tl := textI_length (bytesOf x)
    rw [bytesOf_length] at tl
    have hn := joinI_len (M ++ x :: t)
    rw [List.length_append, List.length_cons] at hn
    have hn2 : M.length + (t.length + 1) ≤ 254 := Nat.le_trans hn lM
    clear hn
    have eM : M ++ x :: t = (M ++ [x]) ++ t := by simp
    rw [eM] at hM lM ⊢
    simp only [List.length_cons] at hk
    -- what is behind the label
    have hr : ∃ r, (r = [] ∨ ∃ u, r = 46 :: u) ∧ (bytesOf s).drop at_ = textI (bytesOf x) ++ r ∧ (r.drop 1 = txt t ∨ (t ≠ [] ∧ r.drop 1 = (txt t).dropLast)) ∧ (t ≠ [] → r ≠ []) := by
      rcases hd with h | ⟨_, h⟩
      · rw [txt_cons] at h
        exact ⟨46 :: txt t, .inr ⟨_, rfl⟩, h, .inl rfl, fun _ => by simp⟩
      · rw [txt_cons, List.dropLast_append_of_ne_nil (by simp)] at h
        cases t with
        | nil => exact ⟨[], .inl rfl, h, .inl rfl, fun h => absurd rfl h⟩
        | cons y t =>
          rw [List.dropLast_cons_of_ne_nil (txt_ne (by simp))] at h
          exact ⟨46 :: (txt (y :: t)).dropLast, .inr ⟨_, rfl⟩, h, .inr ⟨by simp, rfl⟩, fun _ => by simp⟩
    obtain ⟨r, r1, r2, r3, r4⟩ := hr
    have hlen := congrArg List.length r2
    rw [List.length_drop, List.length_append, hb] at hlen
    have hz : at_ + ((textI (bytesOf x)).length + 1) ≤ s.size + 1 := by omega
    have hp : t ≠ [] → at_ + ((textI (bytesOf x)).length + 1) ≤ s.size := fun ht => by
      have := List.length_pos_iff.2 (r4 ht)
      omega
    have hk2 : B + t.length ≤ k := by omega
    have e := label_Read_text (by omega) (by omega) hx.2 at_ ha r r1 r2 k (by omega)
    simp only [name_Read.l0]
    rw [if_pos (by omega), e, Option.bind_some, if_pos rfl, if_pos (by omega)]
    have hw := wrap_id (n := (at_ : Int) + (textI (bytesOf x)).length + 1) (by omega) (by omega)
    show name_Read.l0 k s (M ++ [x]) (wrap64 ((at_ : Int) + (textI (bytesOf x)).length + 1)) = _
    rw [hw, show (at_ : Int) + (textI (bytesOf x)).length + 1 = ((at_ + ((textI (bytesOf x)).length + 1) : Nat) : Int) by omega]
    have hdr : (bytesOf s).drop (at_ + ((textI (bytesOf x)).length + 1)) = r.drop 1 := by
      rw [← List.drop_drop, r2, ← List.drop_drop, List.drop_left]
    refine ih (M ++ [x]) (at_ + ((textI (bytesOf x)).length + 1)) hM lM (by rw [hdr]; exact r3) hp hz k hk2
theorem textI_head {c : Int} {xs r : List Int} : textI (c :: xs) ++ r ≠ [46] ∧ textI (c :: xs) ++ r ≠ [] := by
  rw [textI_cons]
  unfold escI
  by_cases h1 : c = 46 ∨ c = 92
  · rw [if_pos h1]; simp
  · rw [if_neg h1]
    by_cases h2 : 32 < c ∧ c < 127
    · rw [if_pos h2]
      simp only [List.cons_append, ne_eq, List.cons.injEq, not_and, reduceCtorEq, not_false_eq_true, and_true]
      intro h
      exact absurd (.inl h) h1
    · rw [if_neg h2]; simp
theorem toList_46 {s : ByteArray} : s.toList = ([46] : List UInt8) ↔ bytesOf s = [46] := by
  rw [show ([46] : List UInt8) = (⟨#[46]⟩ : ByteArray).toList by rw [ByteArray.toList_eq], toList_inj]
  constructor
  · rintro rfl
    rfl
  · intro h
    apply bytesOf_inj
    rw [h]
    rfl
theorem toList_nil {s : ByteArray} : s.toList = ([] : List UInt8) ↔ bytesOf s = [] := by
  rw [size_nil, ← bytesOf_length, List.length_eq_zero_iff]
theorem read_text {L : List ByteArray} {s : ByteArray} (h : okL L) (hl : (joinI L).length ≤ 254) (hn : L ≠ []) (e : bytesOf s = txt L ∨ bytesOf s = (txt L).dropLast) (k : Nat) (hk : 6000 ≤ k) : name_Read.f k s = some (joinS L, 0) := by
  have hb := bytesOf_length s
  have ht := txt_len L
  have hs : s.size ≤ 2000 := by
    rcases e with e | e
    · rw [e] at hb; omega
    · rw [e, List.length_dropLast] at hb; omega
  have hne : bytesOf s ≠ [46] ∧ bytesOf s ≠ [] := by
    cases L with
    | nil => exact absurd rfl hn
    | cons x t =>
      have hx := (okL_cons.1 h).1
      cases hc : bytesOf x with
      | nil => have := bytesOf_length x; rw [hc] at this; simp at this; omega
      | cons c u =>
        rw [txt_cons, hc] at e
        rcases e with e | e
        · rw [e]
          exact textI_head
        · rw [e, List.dropLast_append_of_ne_nil (by simp)]
          exact textI_head
  unfold name_Read.f
  rw [if_neg (fun c => hne.2 (toList_nil.1 c)), if_neg (fun c => hne.1 (toList_46.1 c))]
  have n1 := joinI_len L
  have := read_l0 hs 5000 (Nat.le_refl _) L [] 0 h hl (by
    rw [List.drop_zero]
    rcases e with e | e
    · exact .inl e
    · exact .inr ⟨hn, e⟩) (fun _ => Nat.zero_le _) (Nat.zero_le _) k (by omega)
  exact this
end Go.Proofs.Ytfpdmmpjoejmiaa.NameFns
