/-
  No cell of these rows narrows 'for every input' (looked for: loops, veiled, ifaces, maps, wideKeys, modest, calm, conditions, laid).
  DERIVED. THE GIVEN ROWS OF THIS SEAT. 6 by the template 'for every input the law returns true; each argument reads behind the call as it read before'; 0 by the template 'total and deterministic' (their statements: YtfmaoaigljjhgaaTotals.lean).
  GIVEN WITH THE SEED: the statements are not yours to turn. If you find one false, say at which input.
  Laid BY PROGRAM, IN A SANDBOX (cutbox-rows.mjs): the forced cells as the released guide's own fill.sh prints them over the translation db08a2798ffa9e3f… (all of the seat's roots in one cut). By AI agents, Wed Nov 11 2026. No macro, syntax, notation, axiom, sorry.
-/
import Derived.Test.YtfmaoaigljjhgaaChecked
import GoSem.Claim
import GoSem.ClaimJoined
import GoSem.ClaimMapViews
import Derived.JoinedTies
import Derived.KernelRfl
namespace Go.Proofs.Ytfmaoaigljjhgaa
/- THE CELL 'sum', in the pinned program and in every row, IS THE sha256 OF THE DUMP (.gsa) THAT YtfmaoaigljjhgaaProg.lean LOADS. Nothing in Lean hashes anything: it is a label: what it is worth is what the hold of that sum in a sandbox is worth. -/
noncomputable def Try.pinned : Pinned := { name := "ytfmaoaigljjhgaa", sum := "db08a2798ffa9e3f16630d8a07de01ca77010bee71cbbde75a68944be07293c0", checked := Try.checked }
namespace Rows
def none {H : Type} : Left H := { results := [], args := [] }

/-- 'nameplatelaw15.LruRooms': WHATEVER THE INPUT: true; the input reads as it did. -/
def lruRoomsSpec : ChangeSpec := { name := "lruRooms", fn := fun _ => fun
  | [d1, d2, d3] => { results := [.lit (.bool true)], args := [d1, d2, d3] }
  | _ => none }
def lruRoomsRow : OpenClaim := { program := "ytfmaoaigljjhgaa", sum := "db08a2798ffa9e3f16630d8a07de01ca77010bee71cbbde75a68944be07293c0", func := "nameplate/nameplatelaw15.LruRooms", spec := "lruRooms", apart := false }
def LruRoomsSaid : Prop := lruRoomsRow.holds Try.pinned (OpenSpec.ofChange lruRoomsSpec)

/-- ITS FALSE NEIGHBOUR: 'it returns false'. Refute it at one input. -/
def lruRoomsWrong : ChangeSpec := { name := "lruRooms", fn := fun _ => fun
  | [d1, d2, d3] => { results := [.lit (.bool false)], args := [d1, d2, d3] }
  | _ => none }
def LruRoomsWrongFalsely : Prop := lruRoomsRow.holds Try.pinned (OpenSpec.ofChange lruRoomsWrong)

/-- 'nameplatelaw15.LruLast': WHATEVER THE INPUT: true; the input reads as it did. -/
def lruLastSpec : ChangeSpec := { name := "lruLast", fn := fun _ => fun
  | [d1, d2] => { results := [.lit (.bool true)], args := [d1, d2] }
  | _ => none }
def lruLastRow : OpenClaim := { program := "ytfmaoaigljjhgaa", sum := "db08a2798ffa9e3f16630d8a07de01ca77010bee71cbbde75a68944be07293c0", func := "nameplate/nameplatelaw15.LruLast", spec := "lruLast", apart := false }
def LruLastSaid : Prop := lruLastRow.holds Try.pinned (OpenSpec.ofChange lruLastSpec)

/-- ITS FALSE NEIGHBOUR: 'it returns false'. Refute it at one input. -/
def lruLastWrong : ChangeSpec := { name := "lruLast", fn := fun _ => fun
  | [d1, d2] => { results := [.lit (.bool false)], args := [d1, d2] }
  | _ => none }
def LruLastWrongFalsely : Prop := lruLastRow.holds Try.pinned (OpenSpec.ofChange lruLastWrong)

/-- 'nameplatelaw15.LruSnap': WHATEVER THE INPUT: true; the input reads as it did. -/
def lruSnapSpec : ChangeSpec := { name := "lruSnap", fn := fun _ => fun
  | [d1, d2] => { results := [.lit (.bool true)], args := [d1, d2] }
  | _ => none }
def lruSnapRow : OpenClaim := { program := "ytfmaoaigljjhgaa", sum := "db08a2798ffa9e3f16630d8a07de01ca77010bee71cbbde75a68944be07293c0", func := "nameplate/nameplatelaw15.LruSnap", spec := "lruSnap", unfollowed := true, recurses := true, apart := false }
def LruSnapSaid : Prop := lruSnapRow.holds Try.pinned (OpenSpec.ofChange lruSnapSpec)

/-- ITS FALSE NEIGHBOUR: 'it returns false'. Refute it at one input. -/
def lruSnapWrong : ChangeSpec := { name := "lruSnap", fn := fun _ => fun
  | [d1, d2] => { results := [.lit (.bool false)], args := [d1, d2] }
  | _ => none }
def LruSnapWrongFalsely : Prop := lruSnapRow.holds Try.pinned (OpenSpec.ofChange lruSnapWrong)

/-- 'nameplatelaw15.LruNames': WHATEVER THE INPUT: true; the input reads as it did. -/
def lruNamesSpec : ChangeSpec := { name := "lruNames", fn := fun _ => fun
  | [] => { results := [.lit (.bool true)], args := [] }
  | _ => none }
def lruNamesRow : OpenClaim := { program := "ytfmaoaigljjhgaa", sum := "db08a2798ffa9e3f16630d8a07de01ca77010bee71cbbde75a68944be07293c0", func := "nameplate/nameplatelaw15.LruNames", spec := "lruNames", unfollowed := true, recurses := true, apart := false }
def LruNamesSaid : Prop := lruNamesRow.holds Try.pinned (OpenSpec.ofChange lruNamesSpec)

/-- ITS FALSE NEIGHBOUR: 'it returns false'. Refute it at one input. -/
def lruNamesWrong : ChangeSpec := { name := "lruNames", fn := fun _ => fun
  | [] => { results := [.lit (.bool false)], args := [] }
  | _ => none }
def LruNamesWrongFalsely : Prop := lruNamesRow.holds Try.pinned (OpenSpec.ofChange lruNamesWrong)

/-- 'nameplatelaw15.LruScript': WHATEVER THE INPUT: true; the input reads as it did. -/
def lruScriptSpec : ChangeSpec := { name := "lruScript", fn := fun _ => fun
  | [d1, d2] => { results := [.lit (.bool true)], args := [d1, d2] }
  | _ => none }
def lruScriptRow : OpenClaim := { program := "ytfmaoaigljjhgaa", sum := "db08a2798ffa9e3f16630d8a07de01ca77010bee71cbbde75a68944be07293c0", func := "nameplate/nameplatelaw15.LruScript", spec := "lruScript", unfollowed := true, recurses := true, apart := false }
def LruScriptSaid : Prop := lruScriptRow.holds Try.pinned (OpenSpec.ofChange lruScriptSpec)

/-- ITS FALSE NEIGHBOUR: 'it returns false'. Refute it at one input. -/
def lruScriptWrong : ChangeSpec := { name := "lruScript", fn := fun _ => fun
  | [d1, d2] => { results := [.lit (.bool false)], args := [d1, d2] }
  | _ => none }
def LruScriptWrongFalsely : Prop := lruScriptRow.holds Try.pinned (OpenSpec.ofChange lruScriptWrong)

/-- 'nameplatelaw15.LruNil': WHATEVER THE INPUT: true; the input reads as it did. -/
def lruNilSpec : ChangeSpec := { name := "lruNil", fn := fun _ => fun
  | [d1, d2] => { results := [.lit (.bool true)], args := [d1, d2] }
  | _ => none }
def lruNilRow : OpenClaim := { program := "ytfmaoaigljjhgaa", sum := "db08a2798ffa9e3f16630d8a07de01ca77010bee71cbbde75a68944be07293c0", func := "nameplate/nameplatelaw15.LruNil", spec := "lruNil", unfollowed := true, recurses := true, apart := false }
def LruNilSaid : Prop := lruNilRow.holds Try.pinned (OpenSpec.ofChange lruNilSpec)

/-- ITS FALSE NEIGHBOUR: 'it returns false'. Refute it at one input. -/
def lruNilWrong : ChangeSpec := { name := "lruNil", fn := fun _ => fun
  | [d1, d2] => { results := [.lit (.bool false)], args := [d1, d2] }
  | _ => none }
def LruNilWrongFalsely : Prop := lruNilRow.holds Try.pinned (OpenSpec.ofChange lruNilWrong)

/- THE SECOND FORM. 'bulk': how many values and letters a reading holds, each counted each time it is reached (what is shared counts as often as it is met; a slice's spare places count too). A statement '..UptoSaid' is the law's where the arguments, and the package variables that the reading takes, are together of bulk at most 1048576: NARROWER than '..Said'. Prove '..Said' where nothing that the law and all that it calls make is longer than what came in: it says more and counts as full. Else prove '..UptoSaid'. A law counts once. -/
mutual
def uptoBulk {H : Type} : DataW H → Nat
  | .lit (.string bytes) => bytes.length + 1
  | .lit _ => 1
  | .nil => 1
  | .ptr d => uptoBulk d + 1
  | .slice elems spare => uptoBulkAll elems + uptoBulkAll spare + 1
  | .agg parts => uptoBulkAll parts + 1
  | .iface _ d => uptoBulk d + 1
  | .map entries => uptoBulkEntries entries + 1
  | .held _ => 1
def uptoBulkAll {H : Type} : List (DataW H) → Nat
  | [] => 0
  | d :: r => uptoBulk d + uptoBulkAll r
def uptoBulkEntries {H : Type} : List (Lit × DataW H) → Nat
  | [] => 0
  | x :: r => uptoBulkEntry x + uptoBulkEntries r
def uptoBulkEntry {H : Type} : Lit × DataW H → Nat
  | (.string bytes, d) => bytes.length + uptoBulk d + 1
  | (_, d) => uptoBulk d + 1
 end
def uptoSmall : (H : Type) → List (DataW H) → Bool := fun _ ds => decide (uptoBulkAll ds ≤ 1048576)
def OpenSpec.upto (s : _root_.Go.ChangeSpec) : _root_.Go.OpenSpec := { _root_.Go.OpenSpec.ofChange s with cond := some uptoSmall }

/-- 'nameplatelaw15.LruRooms', WHERE WHAT IT READS IS OF BULK AT MOST 1048576: true; the input reads as it did. -/
def lruRoomsUptoRow : OpenClaim := { program := "ytfmaoaigljjhgaa", sum := "db08a2798ffa9e3f16630d8a07de01ca77010bee71cbbde75a68944be07293c0", func := "nameplate/nameplatelaw15.LruRooms", spec := "lruRooms", apart := false, narrowed := true }
def LruRoomsUptoSaid : Prop := lruRoomsUptoRow.holds Try.pinned (OpenSpec.upto lruRoomsSpec)

/-- 'nameplatelaw15.LruLast', WHERE WHAT IT READS IS OF BULK AT MOST 1048576: true; the input reads as it did. -/
def lruLastUptoRow : OpenClaim := { program := "ytfmaoaigljjhgaa", sum := "db08a2798ffa9e3f16630d8a07de01ca77010bee71cbbde75a68944be07293c0", func := "nameplate/nameplatelaw15.LruLast", spec := "lruLast", apart := false, narrowed := true }
def LruLastUptoSaid : Prop := lruLastUptoRow.holds Try.pinned (OpenSpec.upto lruLastSpec)

/-- 'nameplatelaw15.LruSnap', WHERE WHAT IT READS IS OF BULK AT MOST 1048576: true; the input reads as it did. -/
def lruSnapUptoRow : OpenClaim := { program := "ytfmaoaigljjhgaa", sum := "db08a2798ffa9e3f16630d8a07de01ca77010bee71cbbde75a68944be07293c0", func := "nameplate/nameplatelaw15.LruSnap", spec := "lruSnap", unfollowed := true, recurses := true, apart := false, narrowed := true }
def LruSnapUptoSaid : Prop := lruSnapUptoRow.holds Try.pinned (OpenSpec.upto lruSnapSpec)

/-- 'nameplatelaw15.LruNames', WHERE WHAT IT READS IS OF BULK AT MOST 1048576: true; the input reads as it did. -/
def lruNamesUptoRow : OpenClaim := { program := "ytfmaoaigljjhgaa", sum := "db08a2798ffa9e3f16630d8a07de01ca77010bee71cbbde75a68944be07293c0", func := "nameplate/nameplatelaw15.LruNames", spec := "lruNames", unfollowed := true, recurses := true, apart := false, narrowed := true }
def LruNamesUptoSaid : Prop := lruNamesUptoRow.holds Try.pinned (OpenSpec.upto lruNamesSpec)

/-- 'nameplatelaw15.LruScript', WHERE WHAT IT READS IS OF BULK AT MOST 1048576: true; the input reads as it did. -/
def lruScriptUptoRow : OpenClaim := { program := "ytfmaoaigljjhgaa", sum := "db08a2798ffa9e3f16630d8a07de01ca77010bee71cbbde75a68944be07293c0", func := "nameplate/nameplatelaw15.LruScript", spec := "lruScript", unfollowed := true, recurses := true, apart := false, narrowed := true }
def LruScriptUptoSaid : Prop := lruScriptUptoRow.holds Try.pinned (OpenSpec.upto lruScriptSpec)

/-- 'nameplatelaw15.LruNil', WHERE WHAT IT READS IS OF BULK AT MOST 1048576: true; the input reads as it did. -/
def lruNilUptoRow : OpenClaim := { program := "ytfmaoaigljjhgaa", sum := "db08a2798ffa9e3f16630d8a07de01ca77010bee71cbbde75a68944be07293c0", func := "nameplate/nameplatelaw15.LruNil", spec := "lruNil", unfollowed := true, recurses := true, apart := false, narrowed := true }
def LruNilUptoSaid : Prop := lruNilUptoRow.holds Try.pinned (OpenSpec.upto lruNilSpec)

end Rows
end Go.Proofs.Ytfmaoaigljjhgaa
