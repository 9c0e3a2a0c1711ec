/- PutLe of the program. -/
import Derived.Test.YtpecmkkcepnpeaaDoorNumC
namespace Go.Proofs.YtpecmkkcepnpeaaDoor
set_option linter.unusedVariables false
set_option linter.unusedSimpArgs false
open Go.RowKit

section
variable {w : World} {L : List HP}

def PutPost (T : Nat) (L : List HP) (bs : List UInt8) (v : Value) (w : World) : Prop := ∃ v', v = .tuple #[v', .int .i64 0] ∧ SatL w (SlB T v' bs :: L)

end
end Go.Proofs.YtpecmkkcepnpeaaDoor
