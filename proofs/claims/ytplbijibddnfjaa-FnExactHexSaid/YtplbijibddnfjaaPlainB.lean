import Derived.Lib.HexFns

namespace Go.Proofs.Ytplbijibddnfjaa
/-! ### hexadecimal -/
theorem hexDigit_low : ∀ d : Nat, d < 10 → ((Lib.Hx.digit d).toNat : Int) = (d : Int) + 48 := by decide
theorem hexDigit_high : ∀ d : Nat, d < 16 → ¬ d < 10 → ((Lib.Hx.digit d).toNat : Int) = (d : Int) - 10 + 97 := by decide
theorem hexEnc_take {l : List UInt8} {k : Nat} (hk : k < l.length) : Lib.Hx.encode (l.take (k + 1)) = Lib.Hx.encode (l.take k) ++ [Lib.Hx.digit (l[k].toNat / 16), Lib.Hx.digit (l[k].toNat % 16)] := by
  unfold Lib.Hx.encode
  rw [List.take_succ_eq_append_getElem hk, List.flatMap_append]
  rfl
end Go.Proofs.Ytplbijibddnfjaa
