/- What addr.elder comes to, whatever octets a text has: four numbers of at most three digits with points between. -/
import Derived.Test.YtbalmnkbodcigaaGreatDoorAddrG
set_option linter.unusedSimpArgs false
set_option linter.unusedVariables false
namespace Go.Proofs.YtbalmnkbodcigaaGreatDoor.AddrLib
open Go.Shelf Go.RowKit Go.Lib Go.Proofs.YtbalmnkbodcigaaGreatDoorW.PrintWords Go.Proofs.YtbalmnkbodcigaaGreatDoorW.PrintLast Go.Proofs.YtbalmnkbodcigaaGreatDoorW.PrintMore

def numP (most B : Int) (s : ByteArray) : Option (Int × Bool) :=
  if s.size = 0 ∨ (s.size : Int) > most then some (0, false) else if ascii s = true then some (if (∀ x ∈ bytesOf s, digI x < B) then (valI B (bytesOf s), true) else (0, false)) else some (0, false)
theorem number_no (most B : Int) (s : ByteArray) (h : s.size = 0 ∨ (s.size : Int) > most) (w : World) :
    Calls Tryz.prog 67 #[.string s, .int .i64 most, .int .i64 B] w fun e w' => e = .returned (.tuple #[.int .i64 0, .bool false]) ∧ Below w.heap.size w w' := by
  by_cases h0 : s.size = 0
  · have he : s.toList = ([] : List UInt8) := by
      rw [ByteArray.toList_eq]
      apply List.eq_nil_of_length_eq_zero
      rw [data_length]
      exact h0
    clear h
    go_enter Tryz.func67, Tryz.ntmps67
    go_wp2
    go_ret2
    exact ⟨rfl, Below.refl _ _⟩
  · have he : s.toList.isEmpty = false := by
      cases hl : s.toList with
      | nil =>
        rw [ByteArray.toList_eq] at hl
        have : s.data.toList.length = 0 := by rw [hl]; rfl
        rw [data_length] at this
        omega
      | cons _ _ => rfl
    have hm : decide (most < (s.size : Int)) = true := decide_eq_true (by omega)
    clear h h0
    go_enter Tryz.func67, Tryz.ntmps67
    go_wp2
    go_ret2
    exact ⟨rfl, Below.refl _ _⟩
theorem numP_calls (B most : Int) (hB : B = 10 ∨ B = 16) (hm : most ≤ 4) (s : ByteArray) (r : Int × Bool) (h : numP most B s = some r) (w : World) (hgg : AddrLib.G w) :
    Calls Tryz.prog 67 #[.string s, .int .i64 most, .int .i64 B] w fun e w' => e = .returned (.tuple #[.int .i64 r.1, .bool r.2]) ∧ Below w.heap.size w w' := by
  unfold numP at h
  by_cases c : s.size = 0 ∨ (s.size : Int) > most
  · rw [if_pos c] at h
    obtain rfl := Option.some.inj h
    exact number_no most B s c w
  · rw [if_neg c] at h
    by_cases a : ascii s = true
    · rw [if_pos a] at h
      exact number_ B most hB s (by omega) (by omega) (by omega) a r (Option.some.inj h).symm w
    · rw [if_neg a] at h
      obtain rfl := Option.some.inj h
      exact number_bad B most hB s (by omega) (by omega) (by omega) a w hgg
def ArrI (W : World) (T g : Nat) (xs : List Int) : Prop := W.heap[g]? = some (.cells (xs.map (Value.int .u8)).toArray T (0, 0))
theorem ArrI.cell {W : World} {T g : Nat} {xs : List Int} (h : ArrI W T g xs) (i : Nat) (hi : i < xs.length) : W.cell? ⟨g, i, none⟩ = some (.int .u8 (xs.getD i 0)) := by
  unfold ArrI at h
  simp [World.cell?, h, List.getD_eq_getElem?_getD, hi]
theorem ArrI.free {W : World} {T g : Nat} {xs : List Int} (h : ArrI W T g xs) (i : Nat) : W.frozen? ⟨g, i, none⟩ = false := by
  unfold ArrI at h
  simp [World.frozen?, h]
theorem ArrI.set {W : World} {T g : Nat} {xs : List Int} (h : ArrI W T g xs) (i : Nat) (x : Int) : ArrI (W.setCell ⟨g, i, none⟩ (.int .u8 x)) T g (xs.set i x) := by
  unfold ArrI at h ⊢
  simp [World.setCell, Array.getElem?_modify, h, List.map_set]
theorem ArrI.below {W W' : World} {T g : Nat} {xs : List Int} (h : ArrI W T g xs) (hb : Below W.heap.size W W') : ArrI W' T g xs := (hb.block g (blk_lt h)).trans h
/-- Three cells of a struct that nothing has been written to yet. -/
def NoAddr (W : World) (g : Nat) : Prop := W.heap[g]? = some (.cells #[.bool false, .int .u64 0, .int .u64 0] 24 (0, 0))
theorem NoAddr.cells {W : World} {g : Nat} (h : NoAddr W g) : W.cell? ⟨g, 0, none⟩ = some (.bool false) ∧ W.cell? ⟨g, 1, none⟩ = some (.int .u64 0) ∧ W.cell? ⟨g, 2, none⟩ = some (.int .u64 0) ∧ W.frozen? ⟨g, 0, none⟩ = false ∧ W.frozen? ⟨g, 1, none⟩ = false ∧ W.frozen? ⟨g, 2, none⟩ = false := by
  unfold NoAddr at h
  refine ⟨?_, ?_, ?_, ?_, ?_, ?_⟩ <;> simp [World.cell?, World.frozen?, h]
theorem NoAddr.below {W W' : World} {g : Nat} (h : NoAddr W g) (hb : Below W.heap.size W W') : NoAddr W' g := (hb.block g (blk_lt h)).trans h
theorem NoAddr.set {W : World} {g g' : Nat} (h : NoAddr W g) (hne : g' ≠ g) (i : Nat) (v : Value) : NoAddr (W.setCell ⟨g', i, none⟩ v) g := by
  unfold NoAddr at h ⊢
  simp [World.setCell, Array.getElem?_modify, hne, h]
theorem numP_nonneg {most B : Int} (h2 : 2 ≤ B) (h16 : B ≤ 16) {s : ByteArray} {p : Int × Bool} (h : numP most B s = some p) : 0 ≤ p.1 := by
  unfold numP at h
  split at h
  · obtain rfl := Option.some.inj h; exact Int.le_refl _
  · split at h
    · obtain rfl := Option.some.inj h
      split
      · rename_i hd; exact (valI_bound h2 h16 _ hd).1
      · exact Int.le_refl _
    · obtain rfl := Option.some.inj h; exact Int.le_refl _
theorem set_take {bs : List Int} {k : Nat} (n : Int) (h : k < bs.length) : (bs.set k n).take (k + 1) = bs.take k ++ [n] := by
  rw [List.take_succ_eq_append_getElem (by rw [List.length_set]; exact h), List.getElem_set_self, List.take_set_of_le (Nat.le_refl _)]
def badO (p : Int × Bool) (x : ByteArray) : Bool := !p.2 || decide (p.1 > 255) || (decide (x.size > 1) && decide (bt x 0 = 48))
def elderK (four : Int → Int → Int → Int → Option (Bool × Int × Int)) : List ByteArray → List Int → Option (Bool × Int × Int × Bool)
  | [], [a, b, c, d] => (four a b c d).bind fun t => some (t.1, t.2.1, t.2.2, true)
  | [], _ => none
  | x :: t, acc => (numP 3 10 x).bind fun p => if badO p x = true then some (false, 0, 0, false) else elderK four t (acc ++ [p.1])
def elderF (four : Int → Int → Int → Int → Option (Bool × Int × Int)) (s : ByteArray) : Option (Bool × Int × Int × Bool) :=
  if s.size ≤ 100000 then (if Lib.countB s (oneS 46) + 1 = 4 then elderK four (Lib.splitB (oneS 46) 0 (Lib.countB s (oneS 46)) s) [] else some (false, 0, 0, false)) else none
theorem below_fin {G : Nat} {w wr w4 : World} (h : ∀ W, Below G wr W → Below w.heap.size w W) (hg : G ≤ wr.heap.size) (h4 : Below wr.heap.size wr w4) : Below w.heap.size w w4 := h _ (h4.mono hg)
set_option maxHeartbeats 4000000 in
set_option maxRecDepth 100000 in
theorem elder_calls (four : Int → Int → Int → Int → Option (Bool × Int × Int)) (hfour : ∀ a b c d t w, four a b c d = some t → Calls Tryz.prog 25 #[.int .u8 a, .int .u8 b, .int .u8 c, .int .u8 d] w fun e w' => e = .returned (.agg #[.bool t.1, .int .u64 t.2.1, .int .u64 t.2.2]) ∧ Below w.heap.size w w')
    (s : ByteArray) (r : Bool × Int × Int × Bool) (h : elderF four s = some r) (w : World) (hgg : AddrLib.G w) :
    Calls Tryz.prog 45 #[.string s] w fun e w' => e = .returned (.tuple #[.agg #[.bool r.1, .int .u64 r.2.1, .int .u64 r.2.2.1], .bool r.2.2.2]) ∧ Below w.heap.size w w' := by
  unfold elderF at h
  by_cases c0 : s.size ≤ 100000
  · rw [if_pos c0] at h
    have HB0 := Aside0.mk (Below.refl w.heap.size w)
    have HGG := Aside0.mk hgg
    clear hgg
    have HSP := Aside0.mk (show ∀ W, Calls Tryz.prog 66 #[.string s, .string ⟨#[46]⟩] W fun e w' => ∃ v0_ : Value, e = .returned (v0_) ∧ Kd.R Kd.string 9 w' W.heap.size (fun _ => True) v0_ (Lib.splitB (oneS 46) 0 (Lib.countB s (oneS 46)) s) ∧ Below W.heap.size W w' from fun W => split_row s 46 W (by omega))
    have hlen := Lib.splitB_all (oneS 46) (Nat.le_refl _) 0 _ s rfl
    by_cases c1 : Lib.countB s (oneS 46) + 1 = 4
    · rw [if_pos c1] at h
      rw [c1] at hlen
      obtain ⟨l, hl⟩ : ∃ l, l = Lib.splitB (oneS 46) 0 (Lib.countB s (oneS 46)) s := ⟨_, rfl⟩
      rw [← hl] at h HSP hlen
      have HL := Aside0.mk hlen
      have HK := Aside0.mk h
      clear hl h hlen c1
      go_enter Tryz.func45, Tryz.ntmps45
      go_wp2_with (go_at_call 66; (with_reducible refine (HSP.out _).mono ?_); rintro e w3 ⟨v3, rfl, hrow, hb3⟩; have HROW := Aside0.mk hrow; have HB3 := Aside0.mk hb3; clear hrow hb3; obtain ⟨A, cp, e3⟩ := Kd.R_slice HROW.out; subst e3; rw [HL.out])
      have HA := Aside0.mk (Kd.R_reads' HROW.out).2.2
      have HBW := Aside0.mk (below_then (below_alloc (Below.refl w.heap.size w) _) (by simp) HB3.out)
      have HNA : Aside0 (NoAddr w3 w.heap.size) := ⟨NoAddr.below (heap_alloc_new w _) HB3.out⟩
      have hsz : w.heap.size < w3.heap.size := by have := HB3.out.size; simp at this; omega
      have HARR : Aside0 (ArrI (w3.alloc (.cells #[.int .u8 0, .int .u8 0, .int .u8 0, .int .u8 0] 95)) 95 w3.heap.size [0, 0, 0, 0]) := ⟨heap_alloc_new w3 _⟩
      have HB4 : Aside0 (Below w3.heap.size w3 (w3.alloc (.cells #[.int .u8 0, .int .u8 0, .int .u8 0, .int .u8 0] 95))) := ⟨below_alloc (Below.refl _ _) _⟩
      obtain ⟨G, hG⟩ : ∃ G, G = w3.heap.size := ⟨_, rfl⟩
      obtain ⟨R, hR⟩ : ∃ R, R = w.heap.size := ⟨_, rfl⟩
      rw [← hG] at HARR hsz HB4 ⊢
      rw [← hR] at HNA hsz ⊢
      have HRW := Aside0.mk hR
      have HGW := Aside0.mk hG
      have HRL : Aside0 (w.heap.size ≤ R) := ⟨by rw [hR]; exact Nat.le_refl _⟩
      clear hG hR HROW HB3 HB0
      go_loopw [18] (fun i wr => ∃ (k : Nat) (bs : List Int), k ≤ 4 ∧ i = .int .i64 k ∧ Aside0 (bs.length = 4) ∧ Aside0 (elderK four (l.drop k) (bs.take k) = some r) ∧ Aside0 (ArrI wr 95 G bs) ∧ Aside0 (Below G w3 wr)) (fun i _ => 4 - (RowKit.intOf i).toNat)
      case atStart => exact ⟨0, [0, 0, 0, 0], by omega, rfl, ⟨rfl⟩, HK, HARR, HB4⟩
      case round =>
        clear HK HARR HB4
        obtain ⟨k, bs, hk, rfl, HBL, HK, HARR, HB⟩ := hrel
        have HGE : Aside0 (G ≤ wr.heap.size) := ⟨by have := HB.out.size; rw [← HGW.out] at this; exact this⟩
        have HFIN := Aside0.mk (show ∀ W, Below G wr W → Below w.heap.size w W from fun W hb => HBW.out.trans ((HB.out.trans hb).mono (by rw [← HRW.out]; exact Nat.le_of_lt hsz)))
        have HX := Aside0.mk (show ∀ W, Below wr.heap.size wr W → (W.cell? ⟨R, 0, none⟩ = some (.bool false) ∧ W.cell? ⟨R, 1, none⟩ = some (.int .u64 0) ∧ W.cell? ⟨R, 2, none⟩ = some (.int .u64 0) ∧ W.frozen? ⟨R, 0, none⟩ = false ∧ W.frozen? ⟨R, 1, none⟩ = false ∧ W.frozen? ⟨R, 2, none⟩ = false) ∧ ArrI W 95 G bs from fun W hb => by
          have h1 : NoAddr wr R := (HB.out.block R hsz).trans HNA.out
          exact ⟨(h1.below hb).cells, HARR.out.below hb⟩)
        by_cases hlt : k < 4
        · have hkl : k < l.length := by rw [HL.out]; exact hlt
          obtain ⟨ad, had, hcell⟩ := Kd.at_string HA.out (k : Int) (by omega) (by omega)
          subst had
          rw [Int.toNat_natCast] at hcell
          replace hcell := (HB.out.cell (by rw [HGW.out]; exact World.block_lt_of_cell? w3 _ hcell)).trans hcell
          have hkk := HK.out
          rw [List.drop_eq_getElem_cons hkl] at hkk
          unfold elderK at hkk
          rw [show rdOf ByteArray.empty l (k : Int) = l[k] by unfold rdOf; rw [Int.toNat_natCast, List.getD_eq_getElem?_getD, List.getElem?_eq_getElem hkl]; rfl] at hcell
          generalize l[k] = x at hcell hkk
          obtain ⟨p, hp, hkk⟩ := Option.bind_eq_some_iff.mp hkk
          obtain ⟨n, ok⟩ := p
          have hn0 : 0 ≤ n := numP_nonneg (by omega) (by omega) hp
          have HN := Aside0.mk (fun W hW => numP_calls 10 3 (.inl rfl) (by omega) x (n, ok) hp W (HGG.out.below (HFIN.out W hW)))
          clear hp hkl HK
          have HKK := Aside0.mk hkk
          clear hkk
          by_cases c2 : ok = true
          · subst c2
            by_cases c3 : n ≤ 255
            · have d3 : decide (255 < n) = false := decide_eq_false (by omega)
              by_cases c4 : 1 < x.size
              · have d4 : decide (1 < (x.size : Int)) = true := decide_eq_true (by omega)
                have d6 : 0 < x.size := by omega
                have HX0 := Aside0.mk (show ((x[0]'d6).toNat : Int) = bt x 0 from bt_at x 0 d6)
                by_cases c5 : bt x 0 = 48
                · have C5 := Aside0.mk c5
                  have d5 : (((x[0]'d6).toNat : Int) == 48) = true := by rw [HX0.out]; exact beq_iff_eq.2 c5
                  have HRR := Aside0.mk (show r = (false, 0, 0, false) by have h := HKK.out; rw [if_pos (by unfold badO; rw [decide_eq_true c5, decide_eq_true (show x.size > 1 from c4)]; simp)] at h; exact (Option.some.inj h).symm)
                  clear HKK
                  go_wp2_with (first | (go_at_call 67; (with_reducible refine (HN.out _ (Below.refl _ _)).mono ?_); rintro e w4 ⟨rfl, hb4⟩; have HB4 := Aside0.mk hb4; obtain ⟨⟨z0, z1, z2, f0, f1, f2⟩, harr⟩ := HX.out w4 hb4; have HARR4 := Aside0.mk harr; have ha := harr.cell k (by rw [HBL.out]; exact hlt); have hf := harr.free k; clear hb4 harr))
                  exact bodyPost_ret (v := .tuple #[.agg #[.bool false, .int .u64 0, .int .u64 0], .bool false]) (by simp [results, Tryz.results45, go_sem, z0, z1, z2, f0, f1, f2]) rfl ⟨by rw [HRR.out], (((below_fin HFIN.out HGE.out HB4.out).setCell HRL.out _).setCell HRL.out _).setCell HRL.out _⟩
                · have C5 := Aside0.mk c5
                  have d5 : (((x[0]'d6).toNat : Int) == 48) = false := by rw [HX0.out]; exact beq_eq_false_iff_ne.2 c5
                  have HKN := Aside0.mk (show elderK four (l.drop (k + 1)) ((bs.set k n).take (k + 1)) = some r by have h := HKK.out; rw [if_neg (by unfold badO; rw [decide_eq_false c5, decide_eq_false (show ¬ n > 255 by omega)]; simp)] at h; rw [set_take n (by rw [HBL.out]; exact hlt)]; exact h)
                  clear HKK
                  go_wp2_with (first | (go_at_call 67; (with_reducible refine (HN.out _ (Below.refl _ _)).mono ?_); rintro e w4 ⟨rfl, hb4⟩; have HB4 := Aside0.mk hb4; obtain ⟨⟨z0, z1, z2, f0, f1, f2⟩, harr⟩ := HX.out w4 hb4; have HARR4 := Aside0.mk harr; have ha := harr.cell k (by rw [HBL.out]; exact hlt); have hf := harr.free k; clear hb4 harr))
                  go_roundw
                  case rel => exact ⟨k + 1, bs.set k n, by omega, by go_num, ⟨by rw [List.length_set]; exact HBL.out⟩, HKN, ⟨HARR4.out.set k n⟩, ⟨((HB.out.trans (HB4.out.mono HGE.out)).setCell (Nat.le_refl _) _)⟩⟩
                  case measure => simp [RowKit.intOf]; omega
              · have d4 : decide (1 < (x.size : Int)) = false := decide_eq_false (by omega)
                have HKN := Aside0.mk (show elderK four (l.drop (k + 1)) ((bs.set k n).take (k + 1)) = some r by have h := HKK.out; rw [if_neg (by unfold badO; rw [decide_eq_false (show ¬ x.size > 1 from c4), decide_eq_false (show ¬ n > 255 by omega)]; simp)] at h; rw [set_take n (by rw [HBL.out]; exact hlt)]; exact h)
                clear HKK
                go_wp2_with (first | (go_at_call 67; (with_reducible refine (HN.out _ (Below.refl _ _)).mono ?_); rintro e w4 ⟨rfl, hb4⟩; have HB4 := Aside0.mk hb4; obtain ⟨⟨z0, z1, z2, f0, f1, f2⟩, harr⟩ := HX.out w4 hb4; have HARR4 := Aside0.mk harr; have ha := harr.cell k (by rw [HBL.out]; exact hlt); have hf := harr.free k; clear hb4 harr))
                go_roundw
                case rel => exact ⟨k + 1, bs.set k n, by omega, by go_num, ⟨by rw [List.length_set]; exact HBL.out⟩, HKN, ⟨HARR4.out.set k n⟩, ⟨((HB.out.trans (HB4.out.mono HGE.out)).setCell (Nat.le_refl _) _)⟩⟩
                case measure => simp [RowKit.intOf]; omega
            · have d3 : decide (255 < n) = true := decide_eq_true (by omega)
              have HRR := Aside0.mk (show r = (false, 0, 0, false) by have h := HKK.out; rw [if_pos (by unfold badO; rw [decide_eq_true (show n > 255 by omega)]; simp)] at h; exact (Option.some.inj h).symm)
              clear HKK
              go_wp2_with (first | (go_at_call 67; (with_reducible refine (HN.out _ (Below.refl _ _)).mono ?_); rintro e w4 ⟨rfl, hb4⟩; have HB4 := Aside0.mk hb4; obtain ⟨⟨z0, z1, z2, f0, f1, f2⟩, harr⟩ := HX.out w4 hb4; have HARR4 := Aside0.mk harr; have ha := harr.cell k (by rw [HBL.out]; exact hlt); have hf := harr.free k; clear hb4 harr))
              exact bodyPost_ret (v := .tuple #[.agg #[.bool false, .int .u64 0, .int .u64 0], .bool false]) (by simp [results, Tryz.results45, go_sem, z0, z1, z2, f0, f1, f2]) rfl ⟨by rw [HRR.out], (((below_fin HFIN.out HGE.out HB4.out).setCell HRL.out _).setCell HRL.out _).setCell HRL.out _⟩
          · have c2 := Bool.eq_false_iff.mpr c2
            subst c2
            have HRR := Aside0.mk (show r = (false, 0, 0, false) by have h := HKK.out; rw [if_pos (by unfold badO; simp)] at h; exact (Option.some.inj h).symm)
            clear HKK
            go_wp2_with (first | (go_at_call 67; (with_reducible refine (HN.out _ (Below.refl _ _)).mono ?_); rintro e w4 ⟨rfl, hb4⟩; have HB4 := Aside0.mk hb4; obtain ⟨⟨z0, z1, z2, f0, f1, f2⟩, harr⟩ := HX.out w4 hb4; have HARR4 := Aside0.mk harr; have ha := harr.cell k (by rw [HBL.out]; exact hlt); have hf := harr.free k; clear hb4 harr))
            exact bodyPost_ret (v := .tuple #[.agg #[.bool false, .int .u64 0, .int .u64 0], .bool false]) (by simp [results, Tryz.results45, go_sem, z0, z1, z2, f0, f1, f2]) rfl ⟨by rw [HRR.out], (((below_fin HFIN.out HGE.out HB4.out).setCell HRL.out _).setCell HRL.out _).setCell HRL.out _⟩
        · have hk4 : k = 4 := by omega
          subst hk4
          obtain ⟨a, b, c, d, rfl⟩ : ∃ a b c d, bs = [a, b, c, d] := by
            have := HBL.out
            match bs, this with
            | [a, b, c, d], _ => exact ⟨a, b, c, d, rfl⟩
          have hkk := HK.out
          rw [List.drop_eq_nil_of_le (by rw [HL.out]; exact Nat.le_refl _)] at hkk
          have hkk : (four a b c d).bind (fun t => some (t.1, t.2.1, t.2.2, true)) = some r := hkk
          obtain ⟨t, ht, hr⟩ := Option.bind_eq_some_iff.mp hkk
          have HRR := Aside0.mk (Option.some.inj hr)
          have HF4 := Aside0.mk (fun W => hfour a b c d t W ht)
          clear hkk ht hr HK
          have a0 := HARR.out.cell 0 (by simp)
          have a1 := HARR.out.cell 1 (by simp)
          have a2 := HARR.out.cell 2 (by simp)
          have a3 := HARR.out.cell 3 (by simp)
          simp only [List.getD_cons_zero, List.getD_cons_succ] at a0 a1 a2 a3
          obtain ⟨t1, t2, t3⟩ := t
          go_wp2_with (first | (go_at_call 25; (with_reducible refine (HF4.out _).mono ?_); rintro e w4 ⟨rfl, hb4⟩; have HB4 := Aside0.mk hb4; obtain ⟨⟨z0, z1, z2, f0, f1, f2⟩, _⟩ := HX.out w4 hb4; clear hb4))
          exact bodyPost_ret (v := .tuple #[.agg #[.bool t1, .int .u64 t2, .int .u64 t3], .bool true]) (by simp [results, Tryz.results45, go_sem, z0, z1, z2, f0, f1, f2]) rfl ⟨by rw [← HRR.out], (((below_fin HFIN.out HGE.out HB4.out).setCell HRL.out _).setCell HRL.out _).setCell HRL.out _⟩
    · rw [if_neg c1] at h
      have HRR := Aside0.mk (Option.some.inj h)
      obtain ⟨l, hl⟩ : ∃ l, l = Lib.splitB (oneS 46) 0 (Lib.countB s (oneS 46)) s := ⟨_, rfl⟩
      rw [← hl] at HSP hlen
      have d1 : ((l.length : Int) != 4) = true := by rw [bne_iff_ne]; omega
      clear hl h c1 hlen
      go_enter Tryz.func45, Tryz.ntmps45
      go_wp2_with (go_at_call 66; (with_reducible refine (HSP.out _).mono ?_); rintro e w3 ⟨v3, rfl, hrow, hb3⟩; have HB3 := Aside0.mk hb3; obtain ⟨A, cp, e3⟩ := Kd.R_slice hrow; subst e3; obtain ⟨z0, z1, z2, f0, f1, f2⟩ := (NoAddr.below (heap_alloc_new w _) hb3).cells; clear hrow hb3)
      exact bodyPost_ret (v := .tuple #[.agg #[.bool false, .int .u64 0, .int .u64 0], .bool false]) (by simp [results, Tryz.results45, go_sem, z0, z1, z2, f0, f1, f2]) rfl ⟨by rw [← HRR.out], (((below_then (below_alloc (Below.refl w.heap.size w) _) (by simp) HB3.out).setCell (Nat.le_refl _) _).setCell (Nat.le_refl _) _).setCell (Nat.le_refl _) _⟩
  · rw [if_neg c0] at h; cases h
end Go.Proofs.YtbalmnkbodcigaaGreatDoor.AddrLib
