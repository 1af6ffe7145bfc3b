/-
  A part of the proof: EvMB.
-/
import Derived.Test.YtpbmmoneeoijaaaGreatDoorP21
namespace Go.Proofs.YtpbmmoneeoijaaaGreatDoor.Ev
open Go Go.RowKit Go.Shelf
set_option maxRecDepth 100000
def memo3:Memo:=⟨98,[(i6 16),(i6 256),(i6 1000)],698,[],(tp [(pt 699 0),(i6 0)]),701,[(698,some (ob (rp 16 (i6 0) []) 3)),(699,some (ob [(i6 256),(i6 1000),(sl 700 0 4096 1),(sl 698 0 16 1),(.bool true),(.bool false),(i6 0),(i4 0),(i6 0)] 220)),(700,some (tr (tp (rp 16 (tp (rp 16 (tp (rp 16 (i4 4294967295) [])) [])) [])) 39))]⟩
theorem zBq:za7 Tryz.prog TabF memo3:=za5 (kn:=kn) (fuel:=100000) (n:=20) (by kernel_rfl) (by kernel_rfl) (fun _ h=>zbd h) (by kernel_rfl)
end Go.Proofs.YtpbmmoneeoijaaaGreatDoor.Ev
