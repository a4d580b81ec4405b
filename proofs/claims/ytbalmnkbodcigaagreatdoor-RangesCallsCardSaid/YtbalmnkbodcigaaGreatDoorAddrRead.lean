/- What addr.Read comes to where the text is an elder address. -/
import Derived.Test.YtbalmnkbodcigaaGreatDoorAddrAdd
set_option linter.unusedSimpArgs false
set_option linter.unusedVariables false
namespace Go.Proofs.YtbalmnkbodcigaaGreatDoor.AddrLib
open Go.Shelf Go.RowKit Go.Lib Go.Proofs.YtbalmnkbodcigaaGreatDoorW.PrintWords Go.Proofs.YtbalmnkbodcigaaGreatDoorW.PrintLast Go.Proofs.YtbalmnkbodcigaaGreatDoorW.PrintMore

theorem elderK_mono {f g : Int → Int → Int → Int → Option (Bool × Int × Int)} (h : ∀ a b c d, LeO (f a b c d) (g a b c d)) : ∀ (l : List ByteArray) (acc : List Int), LeO (elderK f l acc) (elderK g l acc) := by
  intro l
  induction l with
  | nil =>
    intro acc
    match acc with
    | [a, b, c, d] => exact LeO.bind (h a b c d) (fun _ => LeO.refl _)
    | [] => exact LeO.none _
    | [_] => exact LeO.none _
    | [_, _] => exact LeO.none _
    | [_, _, _] => exact LeO.none _
    | _ :: _ :: _ :: _ :: _ :: _ => exact LeO.none _
  | cons x t ih =>
    intro acc
    unfold elderK
    refine LeO.bind (LeO.refl _) (fun p => ?_)
    exact LeO.ite (LeO.refl _) (ih _)
theorem elderF_mono {f g : Int → Int → Int → Int → Option (Bool × Int × Int)} (h : ∀ a b c d, LeO (f a b c d) (g a b c d)) (s : ByteArray) : LeO (elderF f s) (elderF g s) := by
  unfold elderF
  exact LeO.ite (LeO.ite (elderK_mono h _ _) (LeO.refl _)) (LeO.refl _)
set_option maxHeartbeats 4000000 in
set_option maxRecDepth 100000 in
theorem read_elder (s : ByteArray) (t1 : Bool) (t2 t3 : Int) (hel : ∀ w, Calls Tryz.prog 45 #[.string s] w fun e w' => e = .returned (.tuple #[.agg #[.bool t1, .int .u64 t2, .int .u64 t3], .bool true]) ∧ Below w.heap.size w w') (w : World) :
    Calls Tryz.prog 27 #[.string s] w fun e w' => e = .returned (.tuple #[.agg #[.bool t1, .int .u64 t2, .int .u64 t3], .int .i64 0]) ∧ Below w.heap.size w w' := by
  have HE := Aside0.mk hel
  clear hel
  go_enter Tryz.func27, Tryz.ntmps27
  go_wp2_with (first | (go_at_call 45; (with_reducible refine (HE.out _).mono ?_); rintro e w4 ⟨rfl, hb4⟩; have HBB := Aside0.mk (below_then (below_alloc (Below.refl w.heap.size w) _) (by simp) hb4); have hsz : w.heap.size < w4.heap.size := (by have := hb4.size; simp at this; omega); obtain ⟨z0, z1, z2, f0, f1, f2⟩ := ((Addr3.new w false 0 0).below hb4).cells; clear hb4))
  exact bodyPost_ret (v := .tuple #[.agg #[.bool t1, .int .u64 t2, .int .u64 t3], .int .i64 0]) (by simp [results, Tryz.results27, go_sem, z0, z1, z2, f0, f1, f2, hsz]) rfl ⟨rfl, below_alloc (((HBB.out.setCell (by simp) _).setCell (by simp) _).setCell (by simp) _) _⟩
end Go.Proofs.YtbalmnkbodcigaaGreatDoor.AddrLib
