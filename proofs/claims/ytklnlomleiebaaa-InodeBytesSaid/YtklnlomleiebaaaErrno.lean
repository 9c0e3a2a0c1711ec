/- An error that is a number. -/
import Derived.Test.YtklnlomleiebaaaChecked
import Derived.Test.YtklnlomleiebaaaSl
namespace Go.Proofs.Ytklnlomleiebaaa
open Go.RowKit
abbrev errno (n : Int) : Value := .iface 48 (.int .i64 n)
end Go.Proofs.Ytklnlomleiebaaa
