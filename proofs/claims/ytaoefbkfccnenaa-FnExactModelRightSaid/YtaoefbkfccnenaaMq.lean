/- Walk: are a provider's views those of its changes. -/
import Derived.Test.YtaoefbkfccnenaaMp
import Derived.Test.YtaoefbkfccnenaaOq
import Derived.Deep.RegionHeld3
import Derived.BigQuiet
set_option linter.unusedVariables false
set_option linter.unusedSimpArgs false
namespace Go.Proofs.Ytaoefbkfccnenaa
open Go.RowKit Lay Mk
theorem house_parts {w : World} {x : House} {cs : List Value} {S : Blks} (hx : rd false w cs x S) : ∃ A6 k6 S6, cs[11]? = some (.slice A6 x.servers.length k6) ∧ x.servers.length ≤ k6 ∧ k6 ≤ maxLen ∧ Row false w A6 k6 x.servers S6 := by
  obtain ⟨A0, k0, S0, A1, k1, S1, A2, k2, S2, A3, k3, S3, A4, k4, S4, A5, k5, S5, A6, k6, S6, A7, k7, S7, A8, k8, S8, rfl, -, -, -, -, -, -, -, -, -, -, -, -, -, -, -, -, -, -, -, -, -, -, -, -, -, -, -, a6, b6, r6, -⟩ := House.open hx
  exact ⟨A6, k6, S6, rfl, a6, b6, r6⟩
theorem server_parts {w : World} {x : Server} {cs : List Value} {S : Blks} (hx : rd false w cs x S) : ∃ A1 k1 S1 A2 k2 S2 A3 k3 S3, cs[5]? = some (.slice A1 x.views.length k1) ∧ cs[6]? = some (.slice A2 x.taken.length k2) ∧ cs[7]? = some (.slice A3 x.all.length k3) ∧ Row false w A1 k1 x.views S1 ∧ Row false w A2 k2 x.taken S2 ∧ x.all.length ≤ k3 ∧ k3 ≤ maxLen ∧ Row false w A3 k3 x.all S3 := by
  obtain ⟨A0, k0, S0, A1, k1, S1, A2, k2, S2, A3, k3, S3, rfl, -, -, -, -, -, -, -, -, -, -, a1, b1, r1, -, a2, b2, r2, -, a3, b3, r3, -, -⟩ := Server.open hx
  exact ⟨A1, k1, S1, A2, k2, S2, A3, k3, S3, rfl, rfl, rfl, r1, r2, a3, b3, r3⟩
end Go.Proofs.Ytaoefbkfccnenaa
