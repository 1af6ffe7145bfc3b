/-
  A part of the proof: EvTz.
-/
import Derived.Test.YtpbmmoneeoijaaaGreatDoorP19
import Derived.Test.YtpbmmoneeoijaaaGreatDoorProg
import Derived.WalkKit
import Derived.Lib.Bytealg
import Derived.Shelf.Spec.TrailingZeros
namespace Go.Proofs.YtpbmmoneeoijaaaGreatDoor
open Go.RowKit Go.Shelf
attribute [local go_sem] Oper.semAt_some
def TabZ (w:World):Prop:=TabAt 0 Lib.deBruijn32tab w
theorem tzz_core (x k idx:Nat) (w:World) (hx0:((x:Int) == 0)=false)
  (key:bits BinOp.and IntKind.u32 (x:Int) (-(x:Int) % 4294967296) * 125613361 % 4294967296 / 134217728=(idx:Int))
  (hi:idx < 32) (hk:k < 32) (hcell:w.cell? ⟨0,idx,none⟩=some (.int .u8 k)):
  Calls Tryz.prog 222 #[.int .u32 x] w fun e w'=>e=.returned (.int .i64 k)∧w'=w:=by
 go_enter Tryz.func222,Tryz.ntmps222
 go_wp2_with (simp only [key])
 go_ret;exact⟨rfl,rfl⟩
theorem tzz_any (x:Nat) (hx:x < 4294967296) (hx0:x≠0) (w:World) (hT:TabZ w):
  Calls Tryz.prog 222 #[.int .u32 x] w fun e w'=>e=.returned (.int .i64 (Lib.ctz 32 x))∧w'=w:=by
 obtain⟨hlow,hk⟩:=Lib.lowest_bit 32 x hx0 hx;obtain⟨hi,htab⟩:=Lib.deBruijn32_at _ hk;have hcell:=hT _ hi;rw [htab] at hcell;exact tzz_core x _ _ w (by simp;omega) (tz32_key x _ hx hx0 hlow) hi hk hcell
set_option maxHeartbeats 1000000 in
set_option maxRecDepth 100000 in
theorem idx_in (s:ByteArray) (c:Int) (w:World):
  Calls Tryz.prog 304 #[.string s,.int .u8 c] w fun e w'=>e=.returned (.int .i64 (Lib.indexByte s.data.toList c.toNat.toUInt8))∧w'=w:=by
 go_enter Tryz.func304,Tryz.ntmps304;go_wp2;rw [run_callFunc_extern (show Tryz.prog.funcs[311]? =some ((Tryz.prog.funcs[311]?).getD default) from by kernel_rfl) (by kernel_rfl) (by kernel_rfl) (by kernel_rfl) (e:=Extern.BytealgIndexByte.indexByte) (by kernel_rfl),Lib.run_indexByteString];simp only [Result.andThen];rw [Oper.upon_value];go_wp2;go_ret;exact⟨rfl,rfl⟩
end Go.Proofs.YtpbmmoneeoijaaaGreatDoor
