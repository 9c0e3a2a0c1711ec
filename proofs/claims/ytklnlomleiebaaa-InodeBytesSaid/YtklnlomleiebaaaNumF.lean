/- Be, Le of the document. -/
import Derived.Test.YtklnlomleiebaaaNumE
import Derived.Test.YtklnlomleiebaaaNumD
namespace Go.Proofs.Ytklnlomleiebaaa
set_option linter.unusedVariables false
set_option linter.unusedSimpArgs false
open Go.RowKit

section
variable {w : World}
theorem leN_rev_snoc {r : List UInt8} {j : Nat} (hj : j < r.length) : leN (r.take (j + 1)).reverse = (r.getD j 0).toNat + 256 * leN (r.take j).reverse := by
  rw [take_byte hj, List.reverse_append]; rfl

theorem leN_mod (b : UInt8) (l : List UInt8) : leN (b :: l) % 256 = b.toNat ∧ leN (b :: l) / 256 = leN l := by
  have := u8_lt b
  rw [show leN (b :: l) = b.toNat + 256 * leN l from rfl]; omega
theorem and255_u64 (y : Nat) (hy : y < 18446744073709551616) : bits .and .u64 (y : Int) 255 = ((y % 256 : Nat) : Int) := by
  rw [u64_and _ _ (by omega) (by omega) (by omega) (by omega)]
  have : ((y : Int).toNat &&& (255 : Int).toNat) = y % 256 := by
    show y &&& 255 = y % 256
    exact Nat.and_two_pow_sub_one_eq_mod y 8
  rw [this]

end
end Go.Proofs.Ytklnlomleiebaaa
