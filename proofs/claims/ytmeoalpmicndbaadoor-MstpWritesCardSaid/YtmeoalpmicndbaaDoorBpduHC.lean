/- bpdu.head: what it returns. Conditions: none. -/
import Derived.Test.YtmeoalpmicndbaaDoorWireC
namespace Go.Proofs.YtmeoalpmicndbaaDoor
open Go.Sx
set_option maxRecDepth 100000
set_option maxHeartbeats 8000000
attribute [local irreducible] Meets

def headS (k : Int) : ByteArray := if k = 2 then ⟨#[0, 0, 0, 128]⟩ else if k = 1 then ⟨#[0, 0, 0, 0]⟩ else ⟨#[0, 0, 2, 2]⟩
end Go.Proofs.YtmeoalpmicndbaaDoor
