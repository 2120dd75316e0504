/- A verdict compared, as one Bool. Conditions: none. -/
import Derived.Test.YtflnpoahceebbaaVerH
import Derived.Test.YtflnpoahceebbaaVerF
namespace Go.Proofs.Ytflnpoahceebbaa
open Go.Sx
def verdictEq (x y : VerdictV) : Bool := (x.kind == y.kind) && ((x.err == y.err) && ((x.place == y.place) && ((frameEq x.frame y.frame) && ((x.arp.eq y.arp) && ((x.pause.eq y.pause) && ((x.bpdu.eq y.bpdu) && ((x.lacp.eq y.lacp) && ((x.marker.eq y.marker) && ((x.mst.base.eq y.mst.base) && ((eqS x.mst.name y.mst.name) && ((x.mst.rev == y.mst.rev) && ((eqS x.mst.digest y.mst.digest) && ((x.mst.cost == y.mst.cost) && ((x.mst.bridge.eq y.mst.bridge) && ((x.mst.hops == y.mst.hops) && ((eqL InstV.eq x.mst.insts.l y.mst.insts.l) && ((x.lldp.chassis.eq y.lldp.chassis) && ((x.lldp.port.eq y.lldp.port) && ((x.lldp.ttl == y.lldp.ttl) && ((eqL eqS x.lldp.desc.l y.lldp.desc.l) && ((eqL eqS x.lldp.host.l y.lldp.host.l) && ((eqL eqS x.lldp.system.l y.lldp.system.l) && ((eqL CapsV.eq x.lldp.caps.l y.lldp.caps.l) && ((eqL ManageV.eq x.lldp.manage.l y.lldp.manage.l) && ((eqL OrgV.eq x.lldp.orgs.l y.lldp.orgs.l) && (eqL attrEq x.mvrp.l y.mvrp.l))))))))))))))))))))))))))
end Go.Proofs.Ytflnpoahceebbaa
