/- What an lru list's nodes and Keys answer. -/
import Derived.Test.YtfmaoaigljjhgaaLru6
import Derived.LaidEqlPtr
namespace Go.Proofs.Ytfmaoaigljjhgaa.Lru
open Go Go.RowKit Go.Maps Go.Proofs.YtfmaoaigljjhgaaW.PrintWords

structure SN where
  key : ByteArray
  val : Int
  nx : Option Addr
  pv : Option Addr
def ptrKd : Kd (Option Addr) := Kd.scalar Value.pointer (fun _ => rfl)
def kN : Kd SN := Kd.iso (Kd.pair Kd.string (Kd.pair (Kd.int .i64) (Kd.pair ptrKd ptrKd))) (fun x : SN => (x.key, x.val, x.nx, x.pv))
def zN : SN := ⟨⟨#[]⟩, 0, none, none⟩
theorem kN_open {w : World} {x : SN} {cs : List Value} (h : kN.K w x cs) : cs = [.string x.key, vl x.val, .pointer x.nx, .pointer x.pv] := by
  obtain ⟨_, _, rfl, rfl, _, _, rfl, rfl, _, _, rfl, rfl, rfl⟩ := h
  rfl
theorem kN_mkM (w : World) (base : Nat) (ok : Nat → Prop) (x : SN) : kN.M w base ok x [.string x.key, vl x.val, .pointer x.nx, .pointer x.pv] := ⟨[.string x.key], [vl x.val, .pointer x.nx, .pointer x.pv], rfl, rfl, [vl x.val], [.pointer x.nx, .pointer x.pv], rfl, rfl, [.pointer x.nx], [.pointer x.pv], rfl, rfl, rfl⟩
theorem infoN : (Try.prog.info? NT).map (fun i => (i.zero, i.size, i.bytes)) = some (some (.agg #[.string ⟨#[]⟩, vl 0, .pointer none, .pointer none]), 4, 40) := by kernel_rfl
def rd_N (xs : List SN) (i : Int) : SN := xs.getD i.toNat zN
theorem at_N {w : World} {A : Option Addr} {n : Nat} {xs : List SN} (h : Kd.C kN w A n xs) (i : Int) (h0 : 0 ≤ i) (h1 : i < n) : ∃ ad , A = some ad ∧ w.cell? (ad.add (i.toNat * 4)) = some (.string (rd_N xs i).key) ∧ w.cell? ⟨(ad.add (i.toNat * 4)).block, (ad.add (i.toNat * 4)).off + 1, none⟩ = some (vl (rd_N xs i).val) ∧
    w.cell? ⟨(ad.add (i.toNat * 4)).block, (ad.add (i.toNat * 4)).off + 2, none⟩ = some (.pointer (rd_N xs i).nx) ∧ w.cell? ⟨(ad.add (i.toNat * 4)).block, (ad.add (i.toNat * 4)).off + 3, none⟩ = some (.pointer (rd_N xs i).pv) := by
  obtain ⟨ad, c, e, _, hK, hc0⟩ := Kd.C_get h zN i h0 h1
  have hc : ∀ j u, c[j]? = some u → w.cell? (ad.add (i.toNat * 4 + j)) = some u := hc0
  obtain rfl := kN_open hK
  exact ⟨ad, e, hc 0 _ rfl, by rw [← add_field _ _ 1 (by omega)]; exact hc 1 _ rfl, by rw [← add_field _ _ 2 (by omega)]; exact hc 2 _ rfl, by rw [← add_field _ _ 3 (by omega)]; exact hc 3 _ rfl⟩
/-- The ring's i-th address behind the list's own. -/
def adr (b : Nat) (E : List Ent) (i : Nat) : Addr := match E[i]? with
  | some e => nd e.blk
  | none => rg b
theorem adr_in {b : Nat} {E : List Ent} {i : Nat} (h : i < E.length) : adr b E i = nd E[i].blk := by unfold adr; rw [List.getElem?_eq_getElem h]
theorem adr_end {b : Nat} {E : List Ent} {i : Nat} (h : E.length ≤ i) : adr b E i = rg b := by unfold adr; rw [List.getElem?_eq_none h]
theorem adr_head (b : Nat) (E : List Ent) (i : Nat) : ∃ r, (E.drop i).map (fun e => nd e.blk) ++ [rg b] = adr b E i :: r := by
  by_cases h : i < E.length
  · rw [List.drop_eq_getElem_cons h, adr_in h]
    exact ⟨_, rfl⟩
  · rw [List.drop_eq_nil_of_le (by omega), adr_end (by omega)]
    exact ⟨[], rfl⟩
theorem Lru.first {w : World} {b mb : Nat} {most : Int} {E : List Ent} (h : Lru w b mb most E) : w.cell? ⟨b, 4, none⟩ = some (.pointer (some (adr b E 0))) := by
  have hl := h.links
  obtain ⟨r, hr⟩ := adr_head b E 0
  rw [List.drop_zero] at hr
  unfold ring at hl
  rw [hr] at hl
  exact hl.1.1
theorem Lru.node {w : World} {b mb : Nat} {most : Int} {E : List Ent} (h : Lru w b mb most E) {i : Nat} (hi : i < E.length) :
    ∃ p, w.cell? ⟨E[i].blk, 0, none⟩ = some (.string E[i].key) ∧ w.cell? ⟨E[i].blk, 1, none⟩ = some (vl E[i].val) ∧ w.cell? ⟨E[i].blk, 2, none⟩ = some (.pointer (some (adr b E (i + 1)))) ∧ w.cell? ⟨E[i].blk, 3, none⟩ = some (.pointer (some p)) := by
  have hn := h.nodes E[i] (List.getElem_mem hi)
  have hl := h.links
  have e : ring b E = (rg b :: (E.take i).map (fun e => nd e.blk)) ++ nd E[i].blk :: ((E.drop (i + 1)).map (fun e => nd e.blk) ++ [rg b]) := by
    unfold ring
    conv => lhs; rw [← List.take_append_drop i E, List.drop_eq_getElem_cons hi]
    rw [List.map_append, List.map_cons, List.append_assoc]
    rfl
  obtain ⟨r, hr⟩ := adr_head b E (i + 1)
  rw [e, hr, Links.append] at hl
  obtain ⟨A', p, hA⟩ : ∃ A' p, rg b :: (E.take i).map (fun e => nd e.blk) = A' ++ [p] := ⟨_, _, (List.dropLast_concat_getLast (by simp)).symm⟩
  have h1 := hl.1
  rw [hA, List.append_assoc, List.singleton_append, Links.append] at h1
  have c2 := hl.2.1.1
  have c3 := h1.2.1.2
  exact ⟨p, hn.key, hn.val, by simpa [fa, nd] using c2, by simpa [fa, nd] using c3⟩
section
variable {P : Program} (w : World)
theorem run_neq_ptr_same {tp te : TypeId} {j : TypeInfo} (a : Addr) (hp : P.underlying tp = some (.pointer te)) (hte : P.info? te = some j) :
    (binOp .neq tp (.pointer (some a)) (.pointer (some a))).run P w = .ok (.bool false) w := by
  have h : ∀ d : Nat, (Op.equalIn (d + 1) tp (.pointer (some a)) (.pointer (some a))).run P w = .ok true w := fun d => by
    simp [Op.equalIn, run_underlying hp, sizeOf, typeInfo, hte, run_sameAddr_same]
  simp only [binOp]
  simp [Op.equal, Op.maxDepth, h 9999]
theorem run_neq_ptr_other {tp te : TypeId} {j : TypeInfo} {a b : Addr} {ca cb : Array Value} {ta tb : TypeId} (hp : P.underlying tp = some (.pointer te)) (hte : P.info? te = some j) (hsz : j.size ≠ 0)
    (hne : a ≠ b) (ha : w.heap[a.block]? = some (.cells ca ta (0, 0))) (hb : w.heap[b.block]? = some (.cells cb tb (0, 0))) :
    (binOp .neq tp (.pointer (some a)) (.pointer (some b))).run P w = .ok (.bool true) w := by
  have h : ∀ d : Nat, (Op.equalIn (d + 1) tp (.pointer (some a)) (.pointer (some b))).run P w = .ok false w := fun d => by
    simp [Op.equalIn, run_underlying hp, sizeOf, typeInfo, hte, hsz, run_sameAddr_other w hne ha hb]
  simp only [binOp]
  simp [Op.equal, Op.maxDepth, h 9999]
end
theorem info_node : ∃ j, Try.prog.info? NT = some j ∧ j.size ≠ 0 := by
  have h := infoN
  cases hj : Try.prog.info? NT with
  | none => rw [hj] at h; cases h
  | some j =>
    rw [hj] at h
    simp only [Option.map_some, Option.some.injEq, Prod.mk.injEq] at h
    exact ⟨j, rfl, by omega⟩
theorem ne_end {w : World} {b mb : Nat} {most : Int} {E : List Ent} (h : Lru w b mb most E) {i : Nat} (hi : i < E.length) :
    (binOp .neq PT (.pointer (some ⟨E[i].blk, 0, none⟩)) (.pointer (some ⟨b, 2, none⟩))).run Try.prog w = .ok (.bool true) w := by
  obtain ⟨j, hj, hs⟩ := info_node
  obtain ⟨_, _, _, _, h1⟩ := h.head
  obtain ⟨_, _, h2⟩ := h.nodes E[i] (List.getElem_mem hi)
  exact run_neq_ptr_other w (ca := _) (cb := _) Try.underlying63 hj hs (by intro c; injection c with _ c; omega) h2 h1
theorem eq_end (w : World) (b : Nat) : (binOp .neq PT (.pointer (some ⟨b, 2, none⟩)) (.pointer (some ⟨b, 2, none⟩))).run Try.prog w = .ok (.bool false) w := by
  obtain ⟨j, hj, hs⟩ := info_node
  exact run_neq_ptr_same w _ Try.underlying63 hj
/-- What is gone through of a list. -/
def kv (E : List Ent) : List (ByteArray × Int) := E.map fun e => (e.key, e.val)
def nkv (N : List SN) : List (ByteArray × Int) := N.map fun n => (n.key, n.val)
set_option maxHeartbeats 8000000 in
set_option maxRecDepth 100000 in
theorem nodes_calls {w : World} {b mb : Nat} {most : Int} {E : List Ent} (h : Lru w b mb most E) (hE : E.length ≤ 100000) :
    Calls Try.prog 36 #[.pointer (some ⟨b, 0, none⟩)] w fun e w' => ∃ v ns, e = .returned v ∧ Kd.R kN NT w' w.heap.size (fun _ => True) v ns ∧ nkv ns = kv E ∧ Below w.heap.size w w' := by
  have hf := h.first
  have hlt := h.lt (.inl rfl)
  have HL := Aside0.mk h
  have HE := Aside0.mk hE
  have HT := Aside0.mk hlt
  clear h hE hlt
  have HB := Aside0.mk (Below.refl w.heap.size w)
  go_enter Try.func36, Try.ntmps36
  go_wp2
  go_loopg [2, 3] E.length (fun kq v2 v3 w' => ∃ (n : Nat) (ns : List SN), v3 = .pointer (some (adr b E n)) ∧ Aside0 (n + kq = E.length) ∧ Aside0 (Kd.R kN NT w' w.heap.size (fun _ => True) v2 ns) ∧ Aside0 (nkv ns = (kv E).take n) ∧ Aside0 (Below w.heap.size w w'))
  case atStart => exact ⟨0, [], rfl, ⟨by omega⟩, ⟨Kd.R_nil _ _ _ _ _⟩, ⟨rfl⟩, HB⟩
  case round =>
    clear HB
    obtain ⟨n, ns, rfl, HN, HR, HV, HB⟩ := hrel
    have hN := HN.out
    have hL := HL.out.below HB.out
    by_cases hn : n < E.length
    · rw [adr_in hn]
      obtain ⟨p, k0, k1, k2, k3⟩ := hL.node hn
      have hcm := ne_end hL hn
      obtain ⟨key, hkey⟩ : ∃ key, E[n].key = key := ⟨_, rfl⟩
      obtain ⟨val, hval⟩ : ∃ val, E[n].val = val := ⟨_, rfl⟩
      obtain ⟨blk, hblk⟩ : ∃ blk, E[n].blk = blk := ⟨_, rfl⟩
      obtain ⟨q, hq⟩ : ∃ q, adr b E (n + 1) = q := ⟨_, rfl⟩
      rw [hkey, hblk] at k0
      rw [hval, hblk] at k1
      rw [hq, hblk] at k2
      rw [hblk] at k3 hcm ⊢
      have HKEY := Aside0.mk hkey
      have HVAL := Aside0.mk hval
      have HQ := Aside0.mk hq
      have HS := Aside0.mk HB.out.size
      have hlen : ns.length = n := by
        have := congrArg List.length HV.out
        unfold nkv kv at this
        rw [List.length_map, List.length_take, List.length_map] at this
        omega
      have HM := Aside0.mk hlen
      have HBL : Aside0 (blk < w.heap.size) := ⟨by rw [← hblk]; exact HL.out.lt (.inr (.inr ⟨_, List.getElem_mem hn, rfl⟩))⟩
      have HK2 := Aside0.mk k2
      clear hkey hval hq hblk hL hlen
      unfold nd
      unfold vl at k1
      go_wp2_with (first | (at_builtin; refine Kd.R_append kN w.heap.size rfl (.tmp 20) (.tmp 24) 69 NT (.agg #[.string ⟨#[]⟩, vl 0, .pointer none, .pointer none]) 40 rfl Try.underlying69 infoN rfl (by decide) (by omega) u2 ns ⟨key, val, some q, some p⟩ [.string key, vl val, .pointer (some q), .pointer (some p)] (fun _ => True) (fun _ => False) rfl rfl ?aP (fun _ hk => hk.elim) ?aF ?aO (Below.refl _ _) ?aS ?aL ?_; (case aP => exact kN_mkM _ _ _ ⟨key, val, some q, some p⟩); (case aF => exact (fun _ _ => trivial)); (case aO => exact (by (with_reducible repeat (first | apply Kd.R_alloc | apply Kd.R_drewN | apply Kd.R_drew)); exact HR.out)); (case aS => exact HS.out); (case aL => have := HM.out; have := HE.out; omega); intro v5 w6 ho hb hg hat; have HO := Aside0.mk ho; have HG := Aside0.mk hg; have HH := Aside0.mk hb; have k6 : w6.cell? ⟨blk, 2, none⟩ = some (.pointer (some q)) := (hb.cell (p := ⟨blk, 2, none⟩) HBL.out).trans HK2.out; clear ho hg hb hat))
      go_roundg (gk - 1)
      case measure => omega
      case rel =>
        refine ⟨n + 1, ns ++ [⟨key, val, some q, some p⟩], by rw [HQ.out], ⟨by omega⟩, HO, ⟨?_⟩, ⟨?_⟩⟩
        · have hv := HV.out
          unfold nkv kv at hv ⊢
          rw [List.map_append, hv, List.take_succ_eq_append_getElem (by rw [List.length_map]; omega)]
          simp [HKEY.out, HVAL.out]
        · exact HB.out.trans (by have := HG.out; exact HH.out)
    · have hcm := eq_end wr b
      rw [adr_end (by omega)]
      unfold rg
      go_wp2
      go_ret
      refine ⟨_, _, rfl, HR.out, ?_, HB.out⟩
      have hv := HV.out
      rw [List.take_of_length_le (by unfold kv; rw [List.length_map]; omega)] at hv
      exact hv
theorem info_str : (Try.prog.info? 9).map (fun i => (i.zero, i.size, i.bytes)) = some (some (.string ⟨#[]⟩), 1, 16) := by kernel_rfl
theorem rd_N_key (ns : List SN) {n : Nat} (h : n < ns.length) : (ns.map (·.key)).take (n + 1) = (ns.map (·.key)).take n ++ [(rd_N ns (n : Int)).key] := by
  rw [List.take_succ_eq_append_getElem (by rw [List.length_map]; exact h)]
  congr 2
  rw [List.getElem_map]
  unfold rd_N
  rw [Int.toNat_natCast, List.getD_eq_getElem?_getD, List.getElem?_eq_getElem h]
  rfl
set_option maxHeartbeats 8000000 in
set_option maxRecDepth 100000 in
theorem Keys_calls {w : World} {b mb : Nat} {most : Int} {E : List Ent} (h : Lru w b mb most E) (hE : E.length ≤ 100000) :
    Calls Try.prog 12 #[.pointer (some ⟨b, 0, none⟩)] w fun e w' => ∃ v, e = .returned v ∧ Kd.R Kd.string 9 w' w.heap.size (fun _ => True) v (E.map (·.key)) ∧ Below w.heap.size w w' := by
  have hnod := nodes_calls h hE
  have HN := Aside0.mk hnod
  have HE := Aside0.mk hE
  clear h hnod hE
  go_enter Try.func12, Try.ntmps12
  go_wp2_with (go_at_call 36; (with_reducible refine (HN.out).mono ?_); rintro e w5 ⟨v, ns, rfl, hr, hv, hb⟩; obtain ⟨A5, c5, rfl, hl5, hC5⟩ := Kd.R_reads hr; have HR5 := Aside0.mk hr; have HV5 := Aside0.mk hv; have HB5 := Aside0.mk hb; have HC5 := Aside0.mk hC5; clear hr hv hb hl5 hC5)
  have hlen : ns.length = E.length := by
    have := congrArg List.length HV5.out
    unfold nkv kv at this
    rw [List.length_map, List.length_map] at this
    exact this
  have HLEN := Aside0.mk hlen
  clear hlen
  have HB := Aside0.mk (Below.refl w5.heap.size w5)
  go_loopg [3, 9] ns.length (fun kq v3 v9 w' => ∃ n : Nat, v9 = .int .i64 (n : Int) ∧ Aside0 (n + kq = ns.length) ∧ Aside0 (Kd.R Kd.string 9 w' w5.heap.size (fun _ => True) v3 ((ns.map (·.key)).take n)) ∧ Aside0 (Below w5.heap.size w5 w'))
  case atStart => exact ⟨0, rfl, ⟨by omega⟩, ⟨Kd.R_nil _ _ _ _ _⟩, HB⟩
  case round =>
    clear HB
    obtain ⟨n, rfl, HK, HR, HB⟩ := hrel
    have hK := HK.out
    by_cases hn : n < ns.length
    · have hC := Kd.C_below HC5.out HB.out
      obtain ⟨ad, e5, x0, x1, x2, x3⟩ := at_N hC (n : Int) (by omega) (by omega)
      subst e5
      rw [Int.toNat_natCast] at x0 x1 x2 x3
      have hsn := rd_N_key ns hn
      obtain ⟨s, hs⟩ : ∃ s, rd_N ns (n : Int) = s := ⟨_, rfl⟩
      rw [hs] at x0 x1 x2 x3 hsn
      have HSN := Aside0.mk hsn
      have HS := Aside0.mk HB.out.size
      have q1 : (n : Int) < (ns.length : Int) := by omega
      have HT : Aside0 (((ns.map (·.key)).take n).length ≤ 100000) := ⟨by have := HE.out; have := HLEN.out; rw [List.length_take, List.length_map]; omega⟩
      clear hsn hs hC
      unfold vl at x1
      go_wp2_with (first | (at_builtin; refine Kd.R_append Kd.string w5.heap.size rfl (.tmp 13) (.tmp 16) 31 9 (.string ⟨#[]⟩) 16 rfl Try.underlying31 info_str rfl (by decide) (by omega) u3 ((ns.map (·.key)).take n) s.key [.string s.key] (fun _ => True) (fun _ => False) rfl (by first | rfl | (simp only [World.size_alloc]; rfl)) ?aP (fun _ hk => hk.elim) ?aF ?aO (Below.refl _ _) ?aS ?aL ?_; (case aP => exact rfl); (case aF => exact (fun _ _ => trivial)); (case aO => exact (by (with_reducible repeat (first | apply Kd.R_alloc | apply Kd.R_drewN | apply Kd.R_drew)); exact HR.out)); (case aS => exact (by have := HS.out; simp; omega)); (case aL => have := HT.out; omega); intro v7 w6 ho hb hg hat; have HO := Aside0.mk ho; have HH := Aside0.mk hb; clear ho hg hb hat))
      go_roundg (gk - 1)
      case measure => omega
      case rel =>
        refine ⟨n + 1, by (have h1 := HE.out; have h2 := HLEN.out; simp; unfold wrap64; omega), ⟨by omega⟩, ⟨?_⟩, ⟨?_⟩⟩
        · rw [HSN.out]
          exact HO.out
        · exact HB.out.trans ((Below.alloc (Below.refl _ _) HS.out _).trans HH.out)
    · go_wp2
      go_ret
      refine ⟨_, rfl, ?_, HB5.out.trans (HB.out.mono HB5.out.size)⟩
      have hv := HV5.out
      have e1 : ns.map (·.key) = E.map (·.key) := by
        have := congrArg (List.map Prod.fst) hv
        unfold nkv kv at this
        rw [List.map_map, List.map_map] at this
        exact this
      have hr := HR.out
      rw [List.take_of_length_le (by rw [List.length_map]; omega), e1] at hr
      exact Kd.R_lower hr HB5.out.size
end Go.Proofs.Ytfmaoaigljjhgaa.Lru
