/- Walks: the reference's Add (layer 13). Walks: the reference's Next (layer 24). -/
import Derived.Test.YtpkkfdmhbbipoaaGreatFb
import Derived.Test.YtpkkfdmhbbipoaaGreatFc
import Derived.Test.YtpkkfdmhbbipoaaGreatMh
import Derived.Test.YtpkkfdmhbbipoaaGreatRc
namespace Go.Proofs.YtpkkfdmhbbipoaaGreat
open Go.RowKit PopT
structure RefIn (p : ProgV) (A : Option Addr) (w : World) : Prop where
 ops : OpsIn w A p.ops
 ok : ProgOk p
 pat : ∀ o ∈ p.ops, ∀ a ∈ o.arms, a.pat.size ≤ 1000000
 few : ∀ o ∈ p.ops, o.arms.length ≤ 900
 n : p.ops.length ≤ 900
section
variable {p : ProgV} {A : Option Addr} {c : Nat} {w : World}
end
end Go.Proofs.YtpkkfdmhbbipoaaGreat
