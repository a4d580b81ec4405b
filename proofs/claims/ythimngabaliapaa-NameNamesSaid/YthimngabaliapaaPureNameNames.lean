/- This text proves what the law NameNames asks: the chapter's examples come out as it tells. -/
import Derived.Test.YthimngabaliapaaOSevenx12
import Derived.Test.YthimngabaliapaaNameFnsA
namespace Go.Proofs.Ythimngabaliapaa.Pure
open Go.RowKit Go.Proofs.Ythimngabaliapaa.OSeven Go.Proofs.YthimngabaliapaaW.PrintWords Go.Proofs.YthimngabaliapaaW.PrintLast Go.Proofs.Ythimngabaliapaa.NameFns

def t127 : ByteArray := ⟨((List.replicate 127 [(97 : UInt8), 46]).flatten).toArray⟩
def t128 : ByteArray := ⟨((List.replicate 128 [(97 : UInt8), 46]).flatten).toArray⟩
def l127 : List ByteArray := List.replicate 127 ⟨#[97]⟩
def n127 : ByteArray := ⟨((List.replicate 127 [(1 : UInt8), 97]).flatten).toArray⟩
theorem n127_join : n127 = joinS l127 := by decide +kernel
theorem l127_ok : okL l127 := by
  intro x hx
  rw [List.eq_of_mem_replicate hx]
  decide
theorem joins_long (k : Nat) (hk : 300 ≤ k) : name_Join.f k n127 (⟨#[1, 98]⟩ : ByteArray) = some (⟨#[]⟩, 3) := by
  rw [n127_join, show (⟨#[1, 98]⟩ : ByteArray) = joinS [⟨#[98]⟩] by decide +kernel, join_join l127_ok (by decide +kernel) (okL_cons.2 ⟨by decide, okL_nil⟩) (by decide) k hk, if_pos (by decide +kernel)]
theorem NameNames : nameplatelaw02_NameNames.Pure := by
  refine ⟨3000, ?_⟩
  unfold nameplatelaw02_NameNames.f
  rw [show nameplatelaw02_lives.f 3000 = some true by decide +kernel, Option.bind_some, if_pos rfl,
    show name_Read.f 3000 (⟨#[]⟩ : ByteArray) = some (⟨#[]⟩, 2) by decide +kernel, Option.bind_some,
    show name_Read.f 3000 (⟨#[46]⟩ : ByteArray) = some (⟨#[]⟩, 0) by decide +kernel, Option.bind_some,
    show name_Read.f 3000 (⟨#[97, 46, 46, 98]⟩ : ByteArray) = some (⟨#[]⟩, 2) by decide +kernel, Option.bind_some,
    show nameplatekit_Times.f 3000 (⟨#[97, 46]⟩ : ByteArray) 128 = some t128 by decide +kernel, Option.bind_some,
    show name_Read.f 3000 t128 = some (⟨#[]⟩, 3) by decide +kernel, Option.bind_some,
    show nameplatekit_Times.f 3000 (⟨#[97, 46]⟩ : ByteArray) 127 = some t127 by decide +kernel, Option.bind_some,
    show name_Read.f 3000 t127 = some (n127, 0) by decide +kernel, Option.bind_some,
    show name_Text.f 3000 (⟨#[]⟩ : ByteArray) = some (⟨#[46]⟩, 0) by decide +kernel, Option.bind_some,
    show name_Text.f 3000 (⟨#[3, 97, 46, 98, 1, 67]⟩ : ByteArray) = some (⟨#[97, 92, 46, 98, 46, 67, 46]⟩, 0) by decide +kernel, Option.bind_some,
    show name_Text.f 3000 (⟨#[2, 97]⟩ : ByteArray) = some (⟨#[]⟩, 4) by decide +kernel, Option.bind_some,
    show name_Parent.f 3000 (⟨#[1, 97, 1, 98]⟩ : ByteArray) = some (⟨#[1, 98]⟩, true) by decide +kernel, Option.bind_some,
    show name_Parent.f 3000 (⟨#[]⟩ : ByteArray) = some (⟨#[]⟩, false) by decide +kernel, Option.bind_some]
  rw [show ((n127, (0 : Int)).1) = n127 from rfl, joins_long 3000 (by decide), Option.bind_some]
  decide +kernel
end Go.Proofs.Ythimngabaliapaa.Pure
