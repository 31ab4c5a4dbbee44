/- Contracts of share. -/
import Derived.Test.YtblpnekjnaaeoaaGreatDoorMqRa
import Derived.Test.YtblpnekjnaaeoaaGreatDoorMqU
import Derived.Test.YtblpnekjnaaeoaaGreatDoorMqL
set_option linter.unusedVariables false
set_option linter.unusedSimpArgs false
namespace Go.Proofs.YtblpnekjnaaeoaaGreatDoor
open Go.RowKit

theorem shr_later {x y : Int} {p q : Rat} {w : World} (hL : LawM w) (h : ∀ (w : World) (_ : LawM w), Calls Tryz.prog 25 #[.int .u8 x, .int .u8 y] w fun e w' => e = .returned (.tuple #[.agg #[.bool (rqM p).1, .string (rqM p).2.1, .string (rqM p).2.2], .agg #[.bool (rqM q).1, .string (rqM q).2.1, .string (rqM q).2.2]]) ∧ Below w.heap.size w w') : KShr w x y (rqM p) (rqM q) := fun W hW => h W (hL.below hW)
theorem Shr.flip {p q : Rat} (h : Shr p q) : Shr q p := ⟨by rw [Rat.add_comm]; exact h.sum, h.q0, h.p0, h.qs, h.ps⟩
end Go.Proofs.YtblpnekjnaaeoaaGreatDoor
