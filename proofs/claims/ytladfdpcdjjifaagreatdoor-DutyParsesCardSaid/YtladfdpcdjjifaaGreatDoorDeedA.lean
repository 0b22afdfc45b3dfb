/- Law 07: awake. -/
import Derived.Test.YtladfdpcdjjifaaGreatDoorDeedS
namespace Go.Proofs.YtladfdpcdjjifaaGreatDoor
open Go.RowKit

end Go.Proofs.YtladfdpcdjjifaaGreatDoor
