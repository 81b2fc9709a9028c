/- The table of types, by program. -/
import Derived.Test.YtokkfonfajgomaaDoorKX
import Derived.Test.YtokkfonfajgomaaDoorProg
import Derived.KernelRfl
set_option linter.unusedSimpArgs false
set_option linter.unusedVariables false
namespace Go.Proofs.YtokkfonfajgomaaDoor
open Go.RowKit
set_option maxRecDepth 100000
def ty2 : Ty := ⟨false, 1, [.pv (.int .i64) 0], none, [], false, false, some .i64, none, none, false, [], none⟩
theorem tyOk2 : TyOk Tryd.prog 2 ty2 := ⟨⟨_, Tryd.underlying2, rfl⟩, ⟨_, _, rfl, rfl, rfl, rfl, fun c => ⟨⟨⟨_, rfl, Rep.int _ _⟩, rfl⟩, True.intro⟩⟩, nofun, fun h => absurd rfl h, nofun, nofun, fun k h => by cases h; exact Tryd.underlying2, nofun, nofun, nofun, fun h => absurd rfl h, nofun⟩
def ty3 : Ty := ⟨false, 1, [.pv (.int .i64) 0], none, [], false, false, some .i64, none, none, false, [], none⟩
theorem tyOk3 : TyOk Tryd.prog 3 ty3 := ⟨⟨_, Tryd.underlying3, rfl⟩, ⟨_, _, rfl, rfl, rfl, rfl, fun c => ⟨⟨⟨_, rfl, Rep.int _ _⟩, rfl⟩, True.intro⟩⟩, nofun, fun h => absurd rfl h, nofun, nofun, fun k h => by cases h; exact Tryd.underlying3, nofun, nofun, nofun, fun h => absurd rfl h, nofun⟩
def ty4 : Ty := ⟨false, 1, [.pv .bool false], none, [], false, true, none, none, none, false, [], none⟩
theorem tyOk4 : TyOk Tryd.prog 4 ty4 := ⟨⟨_, Tryd.underlying4, rfl⟩, ⟨_, _, rfl, rfl, rfl, rfl, fun c => ⟨⟨⟨_, rfl, Rep.bool _⟩, rfl⟩, True.intro⟩⟩, nofun, fun h => absurd rfl h, nofun, fun _ => Tryd.underlying4, nofun, nofun, nofun, nofun, fun h => absurd rfl h, nofun⟩
def ty5 : Ty := ⟨false, 1, [.pv (.int .u8) 0], none, [], false, false, some .u8, none, none, false, [], none⟩
theorem tyOk5 : TyOk Tryd.prog 5 ty5 := ⟨⟨_, Tryd.underlying5, rfl⟩, ⟨_, _, rfl, rfl, rfl, rfl, fun c => ⟨⟨⟨_, rfl, Rep.int _ _⟩, rfl⟩, True.intro⟩⟩, nofun, fun h => absurd rfl h, nofun, nofun, fun k h => by cases h; exact Tryd.underlying5, nofun, nofun, nofun, fun h => absurd rfl h, nofun⟩
def ty6 : Ty := ⟨false, 1, [.pv (.int .u8) 0], none, [], false, false, some .u8, none, none, false, [], none⟩
theorem tyOk6 : TyOk Tryd.prog 6 ty6 := ⟨⟨_, Tryd.underlying6, rfl⟩, ⟨_, _, rfl, rfl, rfl, rfl, fun c => ⟨⟨⟨_, rfl, Rep.int _ _⟩, rfl⟩, True.intro⟩⟩, nofun, fun h => absurd rfl h, nofun, nofun, fun k h => by cases h; exact Tryd.underlying6, nofun, nofun, nofun, fun h => absurd rfl h, nofun⟩
def ty7 : Ty := ⟨true, 4, [.pv (.int .i64) 0, .pv (.int .i64) 0, .pv .bool false, .pv (.int .u8) 0], none, [(0, 1), (1, 1), (2, 1), (3, 1)], false, false, none, none, none, false, [(2, 0), (3, 1), (4, 2), (6, 3)], none⟩
theorem tyOk7 : TyOk Tryd.prog 7 ty7 := ⟨⟨_, Tryd.underlying7, rfl⟩, ⟨_, _, rfl, rfl, rfl, rfl, fun c => ⟨⟨⟨_, rfl, Rep.int _ _⟩, rfl⟩, ⟨⟨_, rfl, Rep.int _ _⟩, rfl⟩, ⟨⟨_, rfl, Rep.bool _⟩, rfl⟩, ⟨⟨_, rfl, Rep.int _ _⟩, rfl⟩, True.intro⟩⟩, nofun, fun _ => ⟨_, Tryd.underlying7, by kernel_rfl⟩, nofun, nofun, nofun, nofun, nofun, nofun, fun _ => ⟨_, Tryd.underlying7, by kernel_rfl⟩, nofun⟩
def ty9 : Ty := ⟨false, 1, [.pv .str []], none, [], true, false, none, none, none, false, [], none⟩
theorem tyOk9 : TyOk Tryd.prog 9 ty9 := ⟨⟨_, Tryd.underlying9, rfl⟩, ⟨_, _, rfl, rfl, rfl, rfl, fun c => ⟨⟨⟨_, rfl, Rep.str _⟩, rfl⟩, True.intro⟩⟩, nofun, fun h => absurd rfl h, fun _ => Tryd.underlying9, nofun, nofun, nofun, nofun, nofun, fun h => absurd rfl h, nofun⟩
def ty22 : Ty := ⟨false, 1, [.nils], some (35, .pair .str .q, 104), [], false, false, none, none, none, false, [], none⟩
theorem tyOk22 : TyOk Tryd.prog 22 ty22 := ⟨⟨_, Tryd.underlying22, rfl⟩, ⟨_, _, rfl, rfl, rfl, rfl, fun c => ⟨⟨rfl, rfl⟩, True.intro⟩⟩, fun e r b h => by cases h; exact ⟨Tryd.underlying22, by decide, _, _, rfl, rfl, rfl, rfl, rfl⟩, fun h => absurd rfl h, nofun, nofun, nofun, nofun, nofun, nofun, fun h => absurd rfl h, nofun⟩
def ty25 : Ty := ⟨false, 1, [.nils], some (40, .pair .str .q, 104), [], false, false, none, none, none, false, [], none⟩
theorem tyOk25 : TyOk Tryd.prog 25 ty25 := ⟨⟨_, Tryd.underlying25, rfl⟩, ⟨_, _, rfl, rfl, rfl, rfl, fun c => ⟨⟨rfl, rfl⟩, True.intro⟩⟩, fun e r b h => by cases h; exact ⟨Tryd.underlying25, by decide, _, _, rfl, rfl, rfl, rfl, rfl⟩, fun h => absurd rfl h, nofun, nofun, nofun, nofun, nofun, nofun, fun h => absurd rfl h, nofun⟩
def ty30 : Ty := ⟨false, 1, [.nils], some (9, .str, 16), [], false, false, none, none, none, false, [], none⟩
theorem tyOk30 : TyOk Tryd.prog 30 ty30 := ⟨⟨_, Tryd.underlying30, rfl⟩, ⟨_, _, rfl, rfl, rfl, rfl, fun c => ⟨⟨rfl, rfl⟩, True.intro⟩⟩, fun e r b h => by cases h; exact ⟨Tryd.underlying30, by decide, _, _, rfl, rfl, rfl, rfl, rfl⟩, fun h => absurd rfl h, nofun, nofun, nofun, nofun, nofun, nofun, fun h => absurd rfl h, nofun⟩
def ty31 : Ty := ⟨false, 1, [.nils], some (33, .q, 88), [], false, false, none, none, none, false, [], none⟩
theorem tyOk31 : TyOk Tryd.prog 31 ty31 := ⟨⟨_, Tryd.underlying31, rfl⟩, ⟨_, _, rfl, rfl, rfl, rfl, fun c => ⟨⟨rfl, rfl⟩, True.intro⟩⟩, fun e r b h => by cases h; exact ⟨Tryd.underlying31, by decide, _, _, rfl, rfl, rfl, rfl, rfl⟩, fun h => absurd rfl h, nofun, nofun, nofun, nofun, nofun, nofun, fun h => absurd rfl h, nofun⟩
def ty32 : Ty := ⟨true, 6, [.pv (.int .i64) 0, .pv .str [], .nils, .pv (.int .i64) 0, .pv (.int .i64) 0, .nils], none, [(0, 1), (1, 1), (2, 1), (3, 1), (4, 1), (5, 1)], false, false, none, none, none, false, [(3, 0), (9, 1), (30, 2), (3, 3), (3, 4), (31, 5)], none⟩
theorem tyOk32 : TyOk Tryd.prog 32 ty32 := ⟨⟨_, Tryd.underlying32, rfl⟩, ⟨_, _, rfl, rfl, rfl, rfl, fun c => ⟨⟨⟨_, rfl, Rep.int _ _⟩, rfl⟩, ⟨⟨_, rfl, Rep.str _⟩, rfl⟩, ⟨rfl, rfl⟩, ⟨⟨_, rfl, Rep.int _ _⟩, rfl⟩, ⟨⟨_, rfl, Rep.int _ _⟩, rfl⟩, ⟨rfl, rfl⟩, True.intro⟩⟩, nofun, fun _ => ⟨_, Tryd.underlying32, by kernel_rfl⟩, nofun, nofun, nofun, nofun, nofun, nofun, fun _ => ⟨_, Tryd.underlying32, by kernel_rfl⟩, nofun⟩
def ty33 : Ty := ⟨true, 6, [.pv (.int .i64) 0, .pv .str [], .nils, .pv (.int .i64) 0, .pv (.int .i64) 0, .nils], none, [(0, 1), (1, 1), (2, 1), (3, 1), (4, 1), (5, 1)], false, false, none, none, none, false, [(3, 0), (9, 1), (30, 2), (3, 3), (3, 4), (31, 5)], none⟩
theorem tyOk33 : TyOk Tryd.prog 33 ty33 := ⟨⟨_, Tryd.underlying33, rfl⟩, ⟨_, _, rfl, rfl, rfl, rfl, fun c => ⟨⟨⟨_, rfl, Rep.int _ _⟩, rfl⟩, ⟨⟨_, rfl, Rep.str _⟩, rfl⟩, ⟨rfl, rfl⟩, ⟨⟨_, rfl, Rep.int _ _⟩, rfl⟩, ⟨⟨_, rfl, Rep.int _ _⟩, rfl⟩, ⟨rfl, rfl⟩, True.intro⟩⟩, nofun, fun _ => ⟨_, Tryd.underlying33, by kernel_rfl⟩, nofun, nofun, nofun, nofun, nofun, nofun, fun _ => ⟨_, Tryd.underlying33, by kernel_rfl⟩, nofun⟩
def ty34 : Ty := ⟨true, 7, [.pv .str [], .pv (.int .i64) 0, .pv .str [], .nils, .pv (.int .i64) 0, .pv (.int .i64) 0, .nils], none, [(0, 1), (1, 6)], false, false, none, none, none, false, [(9, 0), (33, 1)], none⟩
theorem tyOk34 : TyOk Tryd.prog 34 ty34 := ⟨⟨_, Tryd.underlying34, rfl⟩, ⟨_, _, rfl, rfl, rfl, rfl, fun c => ⟨⟨⟨_, rfl, Rep.str _⟩, rfl⟩, ⟨⟨_, rfl, Rep.int _ _⟩, rfl⟩, ⟨⟨_, rfl, Rep.str _⟩, rfl⟩, ⟨rfl, rfl⟩, ⟨⟨_, rfl, Rep.int _ _⟩, rfl⟩, ⟨⟨_, rfl, Rep.int _ _⟩, rfl⟩, ⟨rfl, rfl⟩, True.intro⟩⟩, nofun, fun _ => ⟨_, Tryd.underlying34, by kernel_rfl⟩, nofun, nofun, nofun, nofun, nofun, nofun, fun _ => ⟨_, Tryd.underlying34, by kernel_rfl⟩, nofun⟩
def ty35 : Ty := ⟨true, 7, [.pv .str [], .pv (.int .i64) 0, .pv .str [], .nils, .pv (.int .i64) 0, .pv (.int .i64) 0, .nils], none, [(0, 1), (1, 6)], false, false, none, none, none, false, [(9, 0), (33, 1)], none⟩
theorem tyOk35 : TyOk Tryd.prog 35 ty35 := ⟨⟨_, Tryd.underlying35, rfl⟩, ⟨_, _, rfl, rfl, rfl, rfl, fun c => ⟨⟨⟨_, rfl, Rep.str _⟩, rfl⟩, ⟨⟨_, rfl, Rep.int _ _⟩, rfl⟩, ⟨⟨_, rfl, Rep.str _⟩, rfl⟩, ⟨rfl, rfl⟩, ⟨⟨_, rfl, Rep.int _ _⟩, rfl⟩, ⟨⟨_, rfl, Rep.int _ _⟩, rfl⟩, ⟨rfl, rfl⟩, True.intro⟩⟩, nofun, fun _ => ⟨_, Tryd.underlying35, by kernel_rfl⟩, nofun, nofun, nofun, nofun, nofun, nofun, fun _ => ⟨_, Tryd.underlying35, by kernel_rfl⟩, nofun⟩
def ty36 : Ty := ⟨false, 1, [.nils], some (38, .q, 88), [], false, false, none, none, none, false, [], none⟩
theorem tyOk36 : TyOk Tryd.prog 36 ty36 := ⟨⟨_, Tryd.underlying36, rfl⟩, ⟨_, _, rfl, rfl, rfl, rfl, fun c => ⟨⟨rfl, rfl⟩, True.intro⟩⟩, fun e r b h => by cases h; exact ⟨Tryd.underlying36, by decide, _, _, rfl, rfl, rfl, rfl, rfl⟩, fun h => absurd rfl h, nofun, nofun, nofun, nofun, nofun, nofun, fun h => absurd rfl h, nofun⟩
def ty37 : Ty := ⟨true, 6, [.pv (.int .i64) 0, .pv .str [], .nils, .pv (.int .i64) 0, .pv (.int .i64) 0, .nils], none, [(0, 1), (1, 1), (2, 1), (3, 1), (4, 1), (5, 1)], false, false, none, none, none, false, [(3, 0), (9, 1), (30, 2), (3, 3), (3, 4), (36, 5)], none⟩
theorem tyOk37 : TyOk Tryd.prog 37 ty37 := ⟨⟨_, Tryd.underlying37, rfl⟩, ⟨_, _, rfl, rfl, rfl, rfl, fun c => ⟨⟨⟨_, rfl, Rep.int _ _⟩, rfl⟩, ⟨⟨_, rfl, Rep.str _⟩, rfl⟩, ⟨rfl, rfl⟩, ⟨⟨_, rfl, Rep.int _ _⟩, rfl⟩, ⟨⟨_, rfl, Rep.int _ _⟩, rfl⟩, ⟨rfl, rfl⟩, True.intro⟩⟩, nofun, fun _ => ⟨_, Tryd.underlying37, by kernel_rfl⟩, nofun, nofun, nofun, nofun, nofun, nofun, fun _ => ⟨_, Tryd.underlying37, by kernel_rfl⟩, nofun⟩
def ty38 : Ty := ⟨true, 6, [.pv (.int .i64) 0, .pv .str [], .nils, .pv (.int .i64) 0, .pv (.int .i64) 0, .nils], none, [(0, 1), (1, 1), (2, 1), (3, 1), (4, 1), (5, 1)], false, false, none, none, none, false, [(3, 0), (9, 1), (30, 2), (3, 3), (3, 4), (36, 5)], none⟩
theorem tyOk38 : TyOk Tryd.prog 38 ty38 := ⟨⟨_, Tryd.underlying38, rfl⟩, ⟨_, _, rfl, rfl, rfl, rfl, fun c => ⟨⟨⟨_, rfl, Rep.int _ _⟩, rfl⟩, ⟨⟨_, rfl, Rep.str _⟩, rfl⟩, ⟨rfl, rfl⟩, ⟨⟨_, rfl, Rep.int _ _⟩, rfl⟩, ⟨⟨_, rfl, Rep.int _ _⟩, rfl⟩, ⟨rfl, rfl⟩, True.intro⟩⟩, nofun, fun _ => ⟨_, Tryd.underlying38, by kernel_rfl⟩, nofun, nofun, nofun, nofun, nofun, nofun, fun _ => ⟨_, Tryd.underlying38, by kernel_rfl⟩, nofun⟩
def ty39 : Ty := ⟨true, 7, [.pv .str [], .pv (.int .i64) 0, .pv .str [], .nils, .pv (.int .i64) 0, .pv (.int .i64) 0, .nils], none, [(0, 1), (1, 6)], false, false, none, none, none, false, [(9, 0), (38, 1)], none⟩
theorem tyOk39 : TyOk Tryd.prog 39 ty39 := ⟨⟨_, Tryd.underlying39, rfl⟩, ⟨_, _, rfl, rfl, rfl, rfl, fun c => ⟨⟨⟨_, rfl, Rep.str _⟩, rfl⟩, ⟨⟨_, rfl, Rep.int _ _⟩, rfl⟩, ⟨⟨_, rfl, Rep.str _⟩, rfl⟩, ⟨rfl, rfl⟩, ⟨⟨_, rfl, Rep.int _ _⟩, rfl⟩, ⟨⟨_, rfl, Rep.int _ _⟩, rfl⟩, ⟨rfl, rfl⟩, True.intro⟩⟩, nofun, fun _ => ⟨_, Tryd.underlying39, by kernel_rfl⟩, nofun, nofun, nofun, nofun, nofun, nofun, fun _ => ⟨_, Tryd.underlying39, by kernel_rfl⟩, nofun⟩
def ty40 : Ty := ⟨true, 7, [.pv .str [], .pv (.int .i64) 0, .pv .str [], .nils, .pv (.int .i64) 0, .pv (.int .i64) 0, .nils], none, [(0, 1), (1, 6)], false, false, none, none, none, false, [(9, 0), (38, 1)], none⟩
theorem tyOk40 : TyOk Tryd.prog 40 ty40 := ⟨⟨_, Tryd.underlying40, rfl⟩, ⟨_, _, rfl, rfl, rfl, rfl, fun c => ⟨⟨⟨_, rfl, Rep.str _⟩, rfl⟩, ⟨⟨_, rfl, Rep.int _ _⟩, rfl⟩, ⟨⟨_, rfl, Rep.str _⟩, rfl⟩, ⟨rfl, rfl⟩, ⟨⟨_, rfl, Rep.int _ _⟩, rfl⟩, ⟨⟨_, rfl, Rep.int _ _⟩, rfl⟩, ⟨rfl, rfl⟩, True.intro⟩⟩, nofun, fun _ => ⟨_, Tryd.underlying40, by kernel_rfl⟩, nofun, nofun, nofun, nofun, nofun, nofun, fun _ => ⟨_, Tryd.underlying40, by kernel_rfl⟩, nofun⟩
def ty56 : Ty := ⟨true, 8, [.pv .bool false, .pv (.int .i64) 0, .pv (.int .i64) 0, .pv (.int .i64) 0, .pv (.int .i64) 0, .pv .bool false, .pv (.int .i64) 0, .pv (.int .i64) 0], none, [(0, 1), (1, 1), (2, 1), (3, 1), (4, 1), (5, 1), (6, 1), (7, 1)], false, false, none, none, none, false, [(4, 0), (3, 1), (3, 2), (3, 3), (3, 4), (4, 5), (3, 6), (3, 7)], none⟩
theorem tyOk56 : TyOk Tryd.prog 56 ty56 := ⟨⟨_, Tryd.underlying56, rfl⟩, ⟨_, _, rfl, rfl, rfl, rfl, fun c => ⟨⟨⟨_, rfl, Rep.bool _⟩, rfl⟩, ⟨⟨_, rfl, Rep.int _ _⟩, rfl⟩, ⟨⟨_, rfl, Rep.int _ _⟩, rfl⟩, ⟨⟨_, rfl, Rep.int _ _⟩, rfl⟩, ⟨⟨_, rfl, Rep.int _ _⟩, rfl⟩, ⟨⟨_, rfl, Rep.bool _⟩, rfl⟩, ⟨⟨_, rfl, Rep.int _ _⟩, rfl⟩, ⟨⟨_, rfl, Rep.int _ _⟩, rfl⟩, True.intro⟩⟩, nofun, fun _ => ⟨_, Tryd.underlying56, by kernel_rfl⟩, nofun, nofun, nofun, nofun, nofun, nofun, fun _ => ⟨_, Tryd.underlying56, by kernel_rfl⟩, nofun⟩
def ty57 : Ty := ⟨true, 8, [.pv .bool false, .pv (.int .i64) 0, .pv (.int .i64) 0, .pv (.int .i64) 0, .pv (.int .i64) 0, .pv .bool false, .pv (.int .i64) 0, .pv (.int .i64) 0], none, [(0, 1), (1, 1), (2, 1), (3, 1), (4, 1), (5, 1), (6, 1), (7, 1)], false, false, none, some (.pair .bool (.pair (.int .i64) (.pair (.int .i64) (.pair (.int .i64) (.pair (.int .i64) (.pair .bool (.pair (.int .i64) (.int .i64)))))))), none, false, [(4, 0), (3, 1), (3, 2), (3, 3), (3, 4), (4, 5), (3, 6), (3, 7)], none⟩
theorem tyOk57 : TyOk Tryd.prog 57 ty57 := ⟨⟨_, Tryd.underlying57, rfl⟩, ⟨_, _, rfl, rfl, rfl, rfl, fun c => ⟨⟨⟨_, rfl, Rep.bool _⟩, rfl⟩, ⟨⟨_, rfl, Rep.int _ _⟩, rfl⟩, ⟨⟨_, rfl, Rep.int _ _⟩, rfl⟩, ⟨⟨_, rfl, Rep.int _ _⟩, rfl⟩, ⟨⟨_, rfl, Rep.int _ _⟩, rfl⟩, ⟨⟨_, rfl, Rep.bool _⟩, rfl⟩, ⟨⟨_, rfl, Rep.int _ _⟩, rfl⟩, ⟨⟨_, rfl, Rep.int _ _⟩, rfl⟩, True.intro⟩⟩, nofun, fun _ => ⟨_, Tryd.underlying57, by kernel_rfl⟩, nofun, nofun, nofun, fun r h => by cases h; exact eqs_of _ rfl (by kernel_rfl) (by kernel_rfl) (by kernel_rfl) [(false, 4, 0), (false, 3, 1), (false, 3, 2), (false, 3, 3), (false, 3, 4), (false, 4, 5), (false, 3, 6), (false, 3, 7)] (by kernel_rfl) (fun x y => ⟨⟨rfl, rfl, Tryd.underlying4⟩, ⟨⟨rfl, rfl, ⟨rfl, _, Tryd.underlying3⟩⟩, ⟨⟨rfl, rfl, ⟨rfl, _, Tryd.underlying3⟩⟩, ⟨⟨rfl, rfl, ⟨rfl, _, Tryd.underlying3⟩⟩, ⟨⟨rfl, rfl, ⟨rfl, _, Tryd.underlying3⟩⟩, ⟨⟨rfl, rfl, Tryd.underlying4⟩, ⟨⟨rfl, rfl, ⟨rfl, _, Tryd.underlying3⟩⟩, ⟨⟨rfl, rfl, ⟨rfl, _, Tryd.underlying3⟩⟩, True.intro⟩⟩⟩⟩⟩⟩⟩⟩), nofun, nofun, fun _ => ⟨_, Tryd.underlying57, by kernel_rfl⟩, nofun⟩
def ty59 : Ty := ⟨false, 1, [.dead], none, [], false, false, none, none, none, false, [], some (3, 57, .int .i64, .pair .bool (.pair (.int .i64) (.pair (.int .i64) (.pair (.int .i64) (.pair (.int .i64) (.pair .bool (.pair (.int .i64) (.int .i64))))))), true)⟩
theorem tyOk59 : TyOk Tryd.prog 59 ty59 := ⟨⟨_, Tryd.underlying59, rfl⟩, ⟨_, _, rfl, rfl, rfl, rfl, fun c => ⟨⟨True.intro, rfl⟩, True.intro⟩⟩, nofun, fun h => absurd rfl h, nofun, nofun, nofun, nofun, nofun, nofun, fun h => absurd rfl h, fun K V kt vt agg h => by cases h; exact ⟨Tryd.underlying59, Tryd.underlying3, rfl, (fun h => by first | rfl | cases h), _, _, rfl, rfl, rfl⟩⟩
def lookTy : List (Nat × Ty) → Nat → Option Ty
  | [], _ => none
  | (k, y) :: l, t => bif Nat.beq t k then some y else lookTy l t
def AllOk (P : Program) : List (Nat × Ty) → Prop
  | [] => True
  | (k, y) :: l => TyOk P k y ∧ AllOk P l
theorem allOk_look {P : Program} : ∀ {l : List (Nat × Ty)}, AllOk P l → ∀ t y, lookTy l t = some y → TyOk P t y
  | [], _, t, y, h => by cases h
  | (k, z) :: l, hl, t, y, h => by
    simp only [lookTy] at h
    cases e : Nat.beq t k with
    | true => rw [e] at h; cases h; rw [Nat.eq_of_beq_eq_true e]; exact hl.1
    | false => rw [e] at h; exact allOk_look hl.2 t y h
def tyL : List (Nat × Ty) := [(2, ty2), (3, ty3), (4, ty4), (5, ty5), (6, ty6), (7, ty7), (9, ty9), (22, ty22), (25, ty25), (30, ty30), (31, ty31), (32, ty32), (33, ty33), (34, ty34), (35, ty35), (36, ty36), (37, ty37), (38, ty38), (39, ty39), (40, ty40), (56, ty56), (57, ty57), (59, ty59)]
theorem tyL_ok : AllOk Tryd.prog tyL := ⟨tyOk2, tyOk3, tyOk4, tyOk5, tyOk6, tyOk7, tyOk9, tyOk22, tyOk25, tyOk30, tyOk31, tyOk32, tyOk33, tyOk34, tyOk35, tyOk36, tyOk37, tyOk38, tyOk39, tyOk40, tyOk56, tyOk57, tyOk59, True.intro⟩
def lookM : List (Nat × Model) → Nat → List Model
  | [], _ => []
  | (k, m) :: l, f => bif Nat.beq f k then m :: lookM l f else lookM l f
def FnsOk (P : Program) : List (Nat × Model) → Prop
  | [] => True
  | (k, m) :: l => ModelOk P k m ∧ FnsOk P l
theorem fnsOk_look {P : Program} : ∀ {l : List (Nat × Model)}, FnsOk P l → ∀ f m, m ∈ lookM l f → ModelOk P f m
  | [], _, f, m, h => by cases h
  | (k, x) :: l, hl, f, m, h => by
    simp only [lookM] at h
    cases e : Nat.beq f k with
    | true =>
      rw [e] at h
      rcases List.mem_cons.1 h with h | h
      · subst h; rw [Nat.eq_of_beq_eq_true e]; exact hl.1
      · exact fnsOk_look hl.2 f m h
    | false => rw [e] at h; exact fnsOk_look hl.2 f m h
theorem fnsOk_nil {P : Program} : FnsOk P [] := True.intro
theorem fnsOk_cons {P : Program} {k : Nat} {m : Model} {l : List (Nat × Model)} (h : ModelOk P k m) (hl : FnsOk P l) : FnsOk P ((k, m) :: l) := And.intro h hl
def memB : List Nat → Nat → Bool
  | [], _ => false
  | k :: l, j => bif Nat.beq j k then true else memB l j
noncomputable def mkEnv (l : List (Nat × Model)) (wr res : List Nat) (dw : List Nat := []) : Env := ⟨Tryd.prog, lookTy tyL, lookM l, memB wr, memB res, memB dw⟩
theorem mkEnv_ok {l : List (Nat × Model)} (h : FnsOk Tryd.prog l) (wr res : List Nat) (dw : List Nat := []) : EnvOk (mkEnv l wr res dw) := ⟨by kernel_rfl, allOk_look tyL_ok, fnsOk_look h⟩
end Go.Proofs.YtokkfonfajgomaaDoor
