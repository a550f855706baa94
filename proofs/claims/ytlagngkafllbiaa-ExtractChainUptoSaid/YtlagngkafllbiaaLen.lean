/- How many bits a byte has: math/bits. -/
import Derived.Test.YtlagngkafllbiaaConv
import Derived.Lib.BitFns
import Derived.BigQuiet
import Derived.BigRegion
set_option linter.unusedSimpArgs false
set_option linter.unusedVariables false
namespace Go.Proofs.Ytlagngkafllbiaa
open Go Go.RowKit
set_option maxHeartbeats 1000000 in
set_option maxRecDepth 100000 in
theorem len8_any (x : Int) (w : World) (h0 : 0 ≤ x) (h1 : x ≤ 255) : Calls Try.prog 102 #[.int .u8 x] w fun e w' => e = .returned (.int .i64 (Lib.bitLen x.toNat)) ∧ w' = w := by
  rw [← Lib.len8_int x h0 h1]
  go_enter Try.func102, Try.ntmps102
  go_wp2
  go_ret
  refine ⟨?_, rfl⟩
  generalize Lib.len8 x = y
  have e : wrap64 y = (y + 9223372036854775808) % 18446744073709551616 - 9223372036854775808 := by unfold wrap64; rfl
  show Ending.returned (.int .i64 (wrap64 y)) = _
  rw [e]
theorem len8_v (c : UInt8) : VC Try.prog 102 [.v (B8 c)] [] (.v (.int .i64 (Lib.bitLen c.toNat))) := by
  refine VC.ofA ⟨_, Try.func102, by kernel_rfl, by kernel_rfl⟩ fun w N vs hM hl hv => ?_
  obtain ⟨u, rfl, h1⟩ := one_ hl hv
  have e1 := h1.v_inv
  subst e1
  have hc := c.toNat_lt
  refine (len8_any c.toNat w (by omega) (by omega)).mono fun e w' hp => ?_
  obtain ⟨rfl, rfl⟩ := hp
  exact ⟨_, rfl, Below.refl _ _, by rw [Int.toNat_natCast]; exact RV.v_of rfl⟩
end Go.Proofs.Ytlagngkafllbiaa
