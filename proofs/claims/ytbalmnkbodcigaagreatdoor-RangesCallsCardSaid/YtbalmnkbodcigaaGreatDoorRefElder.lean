/- The document's elder address: nameplateref04.elder. -/
import Derived.Test.YtbalmnkbodcigaaGreatDoorAddrElder
set_option linter.unusedSimpArgs false
set_option linter.unusedVariables false
namespace Go.Proofs.YtbalmnkbodcigaaGreatDoor.AddrLib
open Go.Shelf Go.RowKit Go.Lib Go.Proofs.YtbalmnkbodcigaaGreatDoorW.PrintWords Go.Proofs.YtbalmnkbodcigaaGreatDoorW.PrintLast Go.Proofs.YtbalmnkbodcigaaGreatDoorW.PrintMore

def refK (small : ByteArray → Option Int) (four : Int → Int → Int → Int → Option (Bool × Int × Int)) : List ByteArray → List Int → Option (Bool × Int × Int × Bool)
  | [], [a, b, c, d] => (four a b c d).bind fun t => some (t.1, t.2.1, t.2.2, true)
  | [], _ => none
  | x :: t, acc => (small x).bind fun n => if n < 0 then some (false, 0, 0, false) else refK small four t (acc ++ [IntKind.u8.wrap n])
def refElderF (parts : ByteArray → Option (List ByteArray)) (small : ByteArray → Option Int) (four : Int → Int → Int → Int → Option (Bool × Int × Int)) (s : ByteArray) : Option (Bool × Int × Int × Bool) :=
  (parts s).bind fun l => if l.length = 4 then refK small four l [] else some (false, 0, 0, false)
theorem refK_mono {sm sm' : ByteArray → Option Int} {f g : Int → Int → Int → Int → Option (Bool × Int × Int)} (h1 : ∀ s, LeO (sm s) (sm' s)) (h2 : ∀ a b c d, LeO (f a b c d) (g a b c d)) : ∀ (l : List ByteArray) (acc : List Int), LeO (refK sm f l acc) (refK sm' g l acc)
  | [], acc => by
    match acc with
    | [] => exact LeO.refl _
    | [a] => exact LeO.refl _
    | [a, b] => exact LeO.refl _
    | [a, b, c] => exact LeO.refl _
    | [a, b, c, d] => exact LeO.bind (h2 _ _ _ _) (fun _ => LeO.refl _)
    | _ :: _ :: _ :: _ :: _ :: _ => exact LeO.refl _
  | x :: t, acc => by
    unfold refK
    exact LeO.bind (h1 _) (fun _ => LeO.ite (LeO.refl _) (refK_mono h1 h2 t _))
theorem refElderF_mono {p p' : ByteArray → Option (List ByteArray)} {sm sm' : ByteArray → Option Int} {f g : Int → Int → Int → Int → Option (Bool × Int × Int)} (h0 : ∀ s, LeO (p s) (p' s)) (h1 : ∀ s, LeO (sm s) (sm' s)) (h2 : ∀ a b c d, LeO (f a b c d) (g a b c d)) (s : ByteArray) : LeO (refElderF p sm f s) (refElderF p' sm' g s) := by
  unfold refElderF
  exact LeO.bind (h0 _) (fun _ => LeO.ite (refK_mono h1 h2 _ _) (LeO.refl _))
set_option maxHeartbeats 4000000 in
set_option maxRecDepth 100000 in
theorem refElder_calls (parts : ByteArray → Option (List ByteArray)) (small : ByteArray → Option Int) (four : Int → Int → Int → Int → Option (Bool × Int × Int))
    (hparts : ∀ s l w, parts s = some l → Calls Tryz.prog 71 #[.string s, .int .u8 46] w fun e w' => ∃ v0_ : Value, e = .returned (v0_) ∧ Kd.R Kd.string 9 w' w.heap.size (fun _ => True) v0_ l ∧ Below w.heap.size w w')
    (hsmall : ∀ s n w, small s = some n → Calls Tryz.prog 72 #[.string s] w fun e w' => e = .returned (.int .i64 n) ∧ Drawn0 w w')
    (hfour : ∀ a b c d t w, four a b c d = some t → Calls Tryz.prog 73 #[.int .u8 a, .int .u8 b, .int .u8 c, .int .u8 d] w fun e w' => e = .returned (.agg #[.bool t.1, .int .u64 t.2.1, .int .u64 t.2.2]) ∧ Below w.heap.size w w')
    (s : ByteArray) (r : Bool × Int × Int × Bool) (h : refElderF parts small four s = some r) (w : World) :
    Calls Tryz.prog 49 #[.string s] w fun e w' => e = .returned (.tuple #[.agg #[.bool r.1, .int .u64 r.2.1, .int .u64 r.2.2.1], .bool r.2.2.2]) ∧ Below w.heap.size w w' := by
  unfold refElderF at h
  obtain ⟨l, hl, h⟩ := Option.bind_eq_some_iff.1 h
  have HSP := Aside0.mk (fun W => hparts s l W hl)
  clear hl hparts
  by_cases c1 : l.length = 4
  · rw [if_pos c1] at h
    have HL := Aside0.mk c1
    have HK := Aside0.mk h
    clear h c1
    go_enter Tryz.func49, Tryz.ntmps49
    go_wp2_with (go_at_call 71; (with_reducible refine (HSP.out _).mono ?_); rintro e w3 ⟨v3, rfl, hrow, hb3⟩; have HROW := Aside0.mk hrow; have HB3 := Aside0.mk hb3; clear hrow hb3; obtain ⟨A, cp, e3⟩ := Kd.R_slice HROW.out; subst e3; rw [HL.out])
    have HA := Aside0.mk (Kd.R_reads' HROW.out).2.2
    have HBW := Aside0.mk (below_then (below_alloc (Below.refl w.heap.size w) _) (by simp) HB3.out)
    have HNA : Aside0 (NoAddr w3 w.heap.size) := ⟨NoAddr.below (heap_alloc_new w _) HB3.out⟩
    have hsz : w.heap.size < w3.heap.size := by have := HB3.out.size; simp at this; omega
    have HARR : Aside0 (ArrI (w3.alloc (.cells #[.int .u8 0, .int .u8 0, .int .u8 0, .int .u8 0] 95)) 95 w3.heap.size [0, 0, 0, 0]) := ⟨heap_alloc_new w3 _⟩
    have HB4 : Aside0 (Below w3.heap.size w3 (w3.alloc (.cells #[.int .u8 0, .int .u8 0, .int .u8 0, .int .u8 0] 95))) := ⟨below_alloc (Below.refl _ _) _⟩
    obtain ⟨G, hG⟩ : ∃ G, G = w3.heap.size := ⟨_, rfl⟩
    obtain ⟨R, hR⟩ : ∃ R, R = w.heap.size := ⟨_, rfl⟩
    rw [← hG] at HARR hsz HB4 ⊢
    rw [← hR] at HNA hsz ⊢
    have HRW := Aside0.mk hR
    have HGW := Aside0.mk hG
    have HRL : Aside0 (w.heap.size ≤ R) := ⟨by rw [hR]; exact Nat.le_refl _⟩
    clear hG hR HROW HB3
    go_loopw [6, 7] (fun i _ wr => ∃ (k : Nat) (bs : List Int), k ≤ 4 ∧ i = .int .i64 k ∧ Aside0 (bs.length = 4) ∧ Aside0 (refK small four (l.drop k) (bs.take k) = some r) ∧ Aside0 (ArrI wr 95 G bs) ∧ Aside0 (Below G w3 wr)) (fun i _ _ => 4 - (RowKit.intOf i).toNat)
    case atStart => exact ⟨0, [0, 0, 0, 0], by omega, rfl, ⟨rfl⟩, HK, HARR, HB4⟩
    case round =>
      clear HK HARR HB4
      obtain ⟨k, bs, hk, rfl, HBL, HK, HARR, HB⟩ := hrel
      have HGE : Aside0 (G ≤ wr.heap.size) := ⟨by have := HB.out.size; rw [← HGW.out] at this; exact this⟩
      have HFIN := Aside0.mk (show ∀ W, Below G wr W → Below w.heap.size w W from fun W hb => HBW.out.trans ((HB.out.trans hb).mono (by rw [← HRW.out]; exact Nat.le_of_lt hsz)))
      have HX := Aside0.mk (show ∀ W, Below wr.heap.size wr W → (W.cell? ⟨R, 0, none⟩ = some (.bool false) ∧ W.cell? ⟨R, 1, none⟩ = some (.int .u64 0) ∧ W.cell? ⟨R, 2, none⟩ = some (.int .u64 0) ∧ W.frozen? ⟨R, 0, none⟩ = false ∧ W.frozen? ⟨R, 1, none⟩ = false ∧ W.frozen? ⟨R, 2, none⟩ = false) ∧ ArrI W 95 G bs from fun W hb => by
        have h1 : NoAddr wr R := (HB.out.block R hsz).trans HNA.out
        exact ⟨(h1.below hb).cells, HARR.out.below hb⟩)
      by_cases hlt : k < 4
      · have hkl : k < l.length := by rw [HL.out]; exact hlt
        obtain ⟨ad, had, hcell⟩ := Kd.at_string HA.out (k : Int) (by omega) (by omega)
        subst had
        rw [Int.toNat_natCast] at hcell
        replace hcell := (HB.out.cell (by rw [HGW.out]; exact World.block_lt_of_cell? w3 _ hcell)).trans hcell
        have hkk := HK.out
        rw [List.drop_eq_getElem_cons hkl] at hkk
        unfold refK at hkk
        rw [show rdOf ByteArray.empty l (k : Int) = l[k] by unfold rdOf; rw [Int.toNat_natCast, List.getD_eq_getElem?_getD, List.getElem?_eq_getElem hkl]; rfl] at hcell
        generalize l[k] = x at hcell hkk
        obtain ⟨n, hp, hkk⟩ := Option.bind_eq_some_iff.mp hkk
        have HN := Aside0.mk (fun W => hsmall x n W hp)
        clear hp hkl HK
        have HKK := Aside0.mk hkk
        clear hkk
        by_cases c2 : n < 0
        · have d2 : decide (n < 0) = true := decide_eq_true c2
          have HRR := Aside0.mk (show r = (false, 0, 0, false) by have h := HKK.out; rw [if_pos c2] at h; exact (Option.some.inj h).symm)
          clear HKK
          go_wp2_with (first | (go_at_call 72; (with_reducible refine (HN.out _).mono ?_); rintro e w4 ⟨rfl, ⟨nd, rfl⟩⟩; have hb4 : Below wr.heap.size wr (wr.drewN nd) := pw_below_drewN (Below.refl _ _) _; have HB4 := Aside0.mk hb4; obtain ⟨⟨z0, z1, z2, f0, f1, f2⟩, harr⟩ := HX.out _ hb4; clear hb4 harr))
          exact bodyPost_ret (v := .tuple #[.agg #[.bool false, .int .u64 0, .int .u64 0], .bool false]) (by simp [results, Tryz.results49, go_sem, z0, z1, z2, f0, f1, f2]) rfl ⟨by rw [HRR.out], (((below_fin HFIN.out HGE.out HB4.out).setCell HRL.out _).setCell HRL.out _).setCell HRL.out _⟩
        · have d2 : decide (n < 0) = false := decide_eq_false c2
          have HKN := Aside0.mk (show refK small four (l.drop (k + 1)) ((bs.set k (IntKind.u8.wrap n)).take (k + 1)) = some r by have h := HKK.out; rw [if_neg c2] at h; rw [set_take _ (by rw [HBL.out]; exact hlt)]; exact h)
          clear HKK
          go_wp2_with (first | (go_at_call 72; (with_reducible refine (HN.out _).mono ?_); rintro e w4 ⟨rfl, ⟨nd, rfl⟩⟩; have hb4 : Below wr.heap.size wr (wr.drewN nd) := pw_below_drewN (Below.refl _ _) _; have HB4 := Aside0.mk hb4; obtain ⟨⟨z0, z1, z2, f0, f1, f2⟩, harr⟩ := HX.out _ hb4; have HARR4 := Aside0.mk harr; have ha := harr.cell k (by rw [HBL.out]; exact hlt); have hf := harr.free k; clear hb4 harr))
          go_roundw
          case rel => exact ⟨k + 1, bs.set k (IntKind.u8.wrap n), by omega, by go_num, ⟨by rw [List.length_set]; exact HBL.out⟩, HKN, ⟨HARR4.out.set k _⟩, ⟨((HB.out.trans (HB4.out.mono HGE.out)).setCell (Nat.le_refl _) _)⟩⟩
          case measure => simp [RowKit.intOf]; omega
      · have hk4 : k = 4 := by omega
        subst hk4
        obtain ⟨a, b, c, d, rfl⟩ : ∃ a b c d, bs = [a, b, c, d] := by
          have := HBL.out
          match bs, this with
          | [a, b, c, d], _ => exact ⟨a, b, c, d, rfl⟩
        have hkk := HK.out
        rw [List.drop_eq_nil_of_le (by rw [HL.out]; exact Nat.le_refl _)] at hkk
        have hkk : (four a b c d).bind (fun t => some (t.1, t.2.1, t.2.2, true)) = some r := hkk
        obtain ⟨t, ht, hr⟩ := Option.bind_eq_some_iff.mp hkk
        have HRR := Aside0.mk (Option.some.inj hr)
        have HF4 := Aside0.mk (fun W => hfour a b c d t W ht)
        clear hkk ht hr HK
        have a0 := HARR.out.cell 0 (by simp)
        have a1 := HARR.out.cell 1 (by simp)
        have a2 := HARR.out.cell 2 (by simp)
        have a3 := HARR.out.cell 3 (by simp)
        simp only [List.getD_cons_zero, List.getD_cons_succ] at a0 a1 a2 a3
        obtain ⟨t1, t2, t3⟩ := t
        go_wp2_with (first | (go_at_call 73; (with_reducible refine (HF4.out _).mono ?_); rintro e w4 ⟨rfl, hb4⟩; have HB4 := Aside0.mk hb4; obtain ⟨⟨z0, z1, z2, f0, f1, f2⟩, _⟩ := HX.out w4 hb4; clear hb4))
        exact bodyPost_ret (v := .tuple #[.agg #[.bool t1, .int .u64 t2, .int .u64 t3], .bool true]) (by simp [results, Tryz.results49, go_sem, z0, z1, z2, f0, f1, f2]) rfl ⟨by rw [← HRR.out], (((below_fin HFIN.out HGE.out HB4.out).setCell HRL.out _).setCell HRL.out _).setCell HRL.out _⟩
  · rw [if_neg c1] at h
    have HRR := Aside0.mk (Option.some.inj h)
    have d1 : ((l.length : Int) != 4) = true := by rw [bne_iff_ne]; omega
    clear h c1
    go_enter Tryz.func49, Tryz.ntmps49
    go_wp2_with (go_at_call 71; (with_reducible refine (HSP.out _).mono ?_); rintro e w3 ⟨v3, rfl, hrow, hb3⟩; have HB3 := Aside0.mk hb3; obtain ⟨A, cp, e3⟩ := Kd.R_slice hrow; subst e3; obtain ⟨z0, z1, z2, f0, f1, f2⟩ := (NoAddr.below (heap_alloc_new w _) hb3).cells; clear hrow hb3)
    exact bodyPost_ret (v := .tuple #[.agg #[.bool false, .int .u64 0, .int .u64 0], .bool false]) (by simp [results, Tryz.results49, go_sem, z0, z1, z2, f0, f1, f2]) rfl ⟨by rw [← HRR.out], (((below_then (below_alloc (Below.refl w.heap.size w) _) (by simp) HB3.out).setCell (Nat.le_refl _) _).setCell (Nat.le_refl _) _).setCell (Nat.le_refl _) _⟩
end Go.Proofs.YtbalmnkbodcigaaGreatDoor.AddrLib
