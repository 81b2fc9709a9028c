/- The engine: the package variables of the program that are told. -/
import Derived.Test.YtcjbjmbialienaaGreatDoorK1
namespace Go.Proofs.YtcjbjmbialienaaGreatDoor
def gtab : List (Nat × GF) := [
 (0, .row (.pair (.int .i64) (.int .i64)) ((0 : Int), (1 : Int))),
 ]
end Go.Proofs.YtcjbjmbialienaaGreatDoor
