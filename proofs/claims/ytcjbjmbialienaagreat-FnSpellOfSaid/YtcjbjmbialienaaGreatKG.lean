/- The engine: the package variables of the program that are told. -/
import Derived.Test.YtcjbjmbialienaaGreatK1
namespace Go.Proofs.YtcjbjmbialienaaGreat
def gtab : List (Nat × GF) := [
  ]
end Go.Proofs.YtcjbjmbialienaaGreat
