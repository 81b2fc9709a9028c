/- Plain laws: what is drawn. -/
import Derived.Test.YtcinmmojlcchfaaGreatDoorG1
set_option linter.unusedVariables false
set_option linter.unusedSimpArgs false
namespace Go.Proofs.YtcinmmojlcchfaaGreatDoor
open Go.RowKit
theorem wrap64 {n:Int} (h0:0<=n) (h1:n<9223372036854775808):IntKind.i64.wrap n=n:=by
 simp only[IntKind.wrap,IntKind.bits,IntKind.signed]
 simp only[show((2:Int)^64)=18446744073709551616 by rfl,show((2:Int)^(64-1))=9223372036854775808 by rfl]
 have e:n%18446744073709551616=n:=Int.emod_eq_of_lt h0 (by omega)
 rw[e]
 have:¬(n≥9223372036854775808):=by omega
 simp[this]
end Go.Proofs.YtcinmmojlcchfaaGreatDoor
