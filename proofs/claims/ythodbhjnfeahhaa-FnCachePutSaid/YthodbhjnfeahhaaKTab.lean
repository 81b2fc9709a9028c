/- The table of types, by program. -/
import Derived.Test.YthodbhjnfeahhaaK25
import Derived.Test.YthodbhjnfeahhaaProg
import Derived.KernelRfl
set_option linter.unusedSimpArgs false
set_option linter.unusedVariables false
namespace Go.Proofs.Ythodbhjnfeahhaa
open Go.RowKit
def ty2 : Ty := ⟨false, 1, [.pv (.int .i64) 0], none, [], false, false, some .i64, none⟩
set_option maxRecDepth 100000 in
theorem tyOk2 : TyOk Try.prog 2 ty2 := ⟨⟨_, Try.underlying2, rfl⟩, ⟨_, _, rfl, rfl, rfl, rfl, fun c => ⟨⟨⟨_, rfl, Rep.int _ _⟩, rfl⟩, True.intro⟩⟩, nofun, fun h => absurd rfl h, nofun, nofun, fun k h => by cases h; exact Try.underlying2, nofun⟩
def ty3 : Ty := ⟨false, 1, [.pv (.int .i64) 0], none, [], false, false, some .i64, none⟩
set_option maxRecDepth 100000 in
theorem tyOk3 : TyOk Try.prog 3 ty3 := ⟨⟨_, Try.underlying3, rfl⟩, ⟨_, _, rfl, rfl, rfl, rfl, fun c => ⟨⟨⟨_, rfl, Rep.int _ _⟩, rfl⟩, True.intro⟩⟩, nofun, fun h => absurd rfl h, nofun, nofun, fun k h => by cases h; exact Try.underlying3, nofun⟩
def ty4 : Ty := ⟨false, 1, [.pv .bool false], none, [], false, true, none, none⟩
set_option maxRecDepth 100000 in
theorem tyOk4 : TyOk Try.prog 4 ty4 := ⟨⟨_, Try.underlying4, rfl⟩, ⟨_, _, rfl, rfl, rfl, rfl, fun c => ⟨⟨⟨_, rfl, Rep.bool _⟩, rfl⟩, True.intro⟩⟩, nofun, fun h => absurd rfl h, nofun, fun _ => Try.underlying4, nofun, nofun⟩
def ty5 : Ty := ⟨false, 1, [.pv (.int .u8) 0], none, [], false, false, some .u8, none⟩
set_option maxRecDepth 100000 in
theorem tyOk5 : TyOk Try.prog 5 ty5 := ⟨⟨_, Try.underlying5, rfl⟩, ⟨_, _, rfl, rfl, rfl, rfl, fun c => ⟨⟨⟨_, rfl, Rep.int _ _⟩, rfl⟩, True.intro⟩⟩, nofun, fun h => absurd rfl h, nofun, nofun, fun k h => by cases h; exact Try.underlying5, nofun⟩
def ty6 : Ty := ⟨false, 1, [.pv (.int .u8) 0], none, [], false, false, some .u8, none⟩
set_option maxRecDepth 100000 in
theorem tyOk6 : TyOk Try.prog 6 ty6 := ⟨⟨_, Try.underlying6, rfl⟩, ⟨_, _, rfl, rfl, rfl, rfl, fun c => ⟨⟨⟨_, rfl, Rep.int _ _⟩, rfl⟩, True.intro⟩⟩, nofun, fun h => absurd rfl h, nofun, nofun, fun k h => by cases h; exact Try.underlying6, nofun⟩
def ty7 : Ty := ⟨true, 4, [.pv (.int .i64) 0, .pv (.int .i64) 0, .pv .bool false, .pv (.int .u8) 0], none, [(0, 1), (1, 1), (2, 1), (3, 1)], false, false, none, none⟩
set_option maxRecDepth 100000 in
theorem tyOk7 : TyOk Try.prog 7 ty7 := ⟨⟨_, Try.underlying7, rfl⟩, ⟨_, _, rfl, rfl, rfl, rfl, fun c => ⟨⟨⟨_, rfl, Rep.int _ _⟩, rfl⟩, ⟨⟨_, rfl, Rep.int _ _⟩, rfl⟩, ⟨⟨_, rfl, Rep.bool _⟩, rfl⟩, ⟨⟨_, rfl, Rep.int _ _⟩, rfl⟩, True.intro⟩⟩, nofun, fun _ => ⟨_, Try.underlying7, by kernel_rfl⟩, nofun, nofun, nofun, nofun⟩
def ty8 : Ty := ⟨true, 4, [.pv (.int .i64) 0, .pv (.int .i64) 0, .pv .bool false, .pv (.int .u8) 0], none, [(0, 1), (1, 1), (2, 1), (3, 1)], false, false, none, none⟩
set_option maxRecDepth 100000 in
theorem tyOk8 : TyOk Try.prog 8 ty8 := ⟨⟨_, Try.underlying8, rfl⟩, ⟨_, _, rfl, rfl, rfl, rfl, fun c => ⟨⟨⟨_, rfl, Rep.int _ _⟩, rfl⟩, ⟨⟨_, rfl, Rep.int _ _⟩, rfl⟩, ⟨⟨_, rfl, Rep.bool _⟩, rfl⟩, ⟨⟨_, rfl, Rep.int _ _⟩, rfl⟩, True.intro⟩⟩, nofun, fun _ => ⟨_, Try.underlying8, by kernel_rfl⟩, nofun, nofun, nofun, nofun⟩
def ty9 : Ty := ⟨false, 1, [.pv .str []], none, [], true, false, none, none⟩
set_option maxRecDepth 100000 in
theorem tyOk9 : TyOk Try.prog 9 ty9 := ⟨⟨_, Try.underlying9, rfl⟩, ⟨_, _, rfl, rfl, rfl, rfl, fun c => ⟨⟨⟨_, rfl, Rep.str _⟩, rfl⟩, True.intro⟩⟩, nofun, fun h => absurd rfl h, fun _ => Try.underlying9, nofun, nofun, nofun⟩
def ty10 : Ty := ⟨false, 1, [.pv .str []], none, [], true, false, none, none⟩
set_option maxRecDepth 100000 in
theorem tyOk10 : TyOk Try.prog 10 ty10 := ⟨⟨_, Try.underlying10, rfl⟩, ⟨_, _, rfl, rfl, rfl, rfl, fun c => ⟨⟨⟨_, rfl, Rep.str _⟩, rfl⟩, True.intro⟩⟩, nofun, fun h => absurd rfl h, fun _ => Try.underlying10, nofun, nofun, nofun⟩
def ty11 : Ty := ⟨false, 1, [.pv .str []], none, [], true, false, none, none⟩
set_option maxRecDepth 100000 in
theorem tyOk11 : TyOk Try.prog 11 ty11 := ⟨⟨_, Try.underlying11, rfl⟩, ⟨_, _, rfl, rfl, rfl, rfl, fun c => ⟨⟨⟨_, rfl, Rep.str _⟩, rfl⟩, True.intro⟩⟩, nofun, fun h => absurd rfl h, fun _ => Try.underlying11, nofun, nofun, nofun⟩
def ty12 : Ty := ⟨false, 1, [.pv (.int .u64) 0], none, [], false, false, some .u64, none⟩
set_option maxRecDepth 100000 in
theorem tyOk12 : TyOk Try.prog 12 ty12 := ⟨⟨_, Try.underlying12, rfl⟩, ⟨_, _, rfl, rfl, rfl, rfl, fun c => ⟨⟨⟨_, rfl, Rep.int _ _⟩, rfl⟩, True.intro⟩⟩, nofun, fun h => absurd rfl h, nofun, nofun, fun k h => by cases h; exact Try.underlying12, nofun⟩
def ty13 : Ty := ⟨true, 2, [.pv .str [], .pv (.int .u64) 0], none, [(0, 1), (1, 1)], false, false, none, none⟩
set_option maxRecDepth 100000 in
theorem tyOk13 : TyOk Try.prog 13 ty13 := ⟨⟨_, Try.underlying13, rfl⟩, ⟨_, _, rfl, rfl, rfl, rfl, fun c => ⟨⟨⟨_, rfl, Rep.str _⟩, rfl⟩, ⟨⟨_, rfl, Rep.int _ _⟩, rfl⟩, True.intro⟩⟩, nofun, fun _ => ⟨_, Try.underlying13, by kernel_rfl⟩, nofun, nofun, nofun, nofun⟩
def ty14 : Ty := ⟨true, 2, [.pv .str [], .pv (.int .u64) 0], none, [(0, 1), (1, 1)], false, false, none, none⟩
set_option maxRecDepth 100000 in
theorem tyOk14 : TyOk Try.prog 14 ty14 := ⟨⟨_, Try.underlying14, rfl⟩, ⟨_, _, rfl, rfl, rfl, rfl, fun c => ⟨⟨⟨_, rfl, Rep.str _⟩, rfl⟩, ⟨⟨_, rfl, Rep.int _ _⟩, rfl⟩, True.intro⟩⟩, nofun, fun _ => ⟨_, Try.underlying14, by kernel_rfl⟩, nofun, nofun, nofun, nofun⟩
def ty15 : Ty := ⟨false, 1, [.nilp], none, [], false, false, none, none⟩
set_option maxRecDepth 100000 in
theorem tyOk15 : TyOk Try.prog 15 ty15 := ⟨⟨_, Try.underlying15, rfl⟩, ⟨_, _, rfl, rfl, rfl, rfl, fun c => ⟨⟨rfl, rfl⟩, True.intro⟩⟩, nofun, fun h => absurd rfl h, nofun, nofun, nofun, nofun⟩
def ty16 : Ty := ⟨false, 1, [.nilp], none, [], false, false, none, none⟩
set_option maxRecDepth 100000 in
theorem tyOk16 : TyOk Try.prog 16 ty16 := ⟨⟨_, Try.underlying16, rfl⟩, ⟨_, _, rfl, rfl, rfl, rfl, fun c => ⟨⟨rfl, rfl⟩, True.intro⟩⟩, nofun, fun h => absurd rfl h, nofun, nofun, nofun, nofun⟩
def ty17 : Ty := ⟨false, 1, [.nilp], none, [], false, false, none, none⟩
set_option maxRecDepth 100000 in
theorem tyOk17 : TyOk Try.prog 17 ty17 := ⟨⟨_, Try.underlying17, rfl⟩, ⟨_, _, rfl, rfl, rfl, rfl, fun c => ⟨⟨rfl, rfl⟩, True.intro⟩⟩, nofun, fun h => absurd rfl h, nofun, nofun, nofun, nofun⟩
def ty18 : Ty := ⟨true, 1, [.nilp], none, [(0, 1)], false, false, none, none⟩
set_option maxRecDepth 100000 in
theorem tyOk18 : TyOk Try.prog 18 ty18 := ⟨⟨_, Try.underlying18, rfl⟩, ⟨_, _, rfl, rfl, rfl, rfl, fun c => ⟨⟨rfl, rfl⟩, True.intro⟩⟩, nofun, fun _ => ⟨_, Try.underlying18, by kernel_rfl⟩, nofun, nofun, nofun, nofun⟩
def ty19 : Ty := ⟨true, 1, [.nilp], none, [(0, 1)], false, false, none, none⟩
set_option maxRecDepth 100000 in
theorem tyOk19 : TyOk Try.prog 19 ty19 := ⟨⟨_, Try.underlying19, rfl⟩, ⟨_, _, rfl, rfl, rfl, rfl, fun c => ⟨⟨rfl, rfl⟩, True.intro⟩⟩, nofun, fun _ => ⟨_, Try.underlying19, by kernel_rfl⟩, nofun, nofun, nofun, nofun⟩
def ty21 : Ty := ⟨false, 1, [.pv (.int .i32) 0], none, [], false, false, some .i32, none⟩
set_option maxRecDepth 100000 in
theorem tyOk21 : TyOk Try.prog 21 ty21 := ⟨⟨_, Try.underlying21, rfl⟩, ⟨_, _, rfl, rfl, rfl, rfl, fun c => ⟨⟨⟨_, rfl, Rep.int _ _⟩, rfl⟩, True.intro⟩⟩, nofun, fun h => absurd rfl h, nofun, nofun, fun k h => by cases h; exact Try.underlying21, nofun⟩
def ty22 : Ty := ⟨false, 1, [.nils], some (46, .pair .str (.sl (.pair (.int .i64) (.int .i64))), 40), [], false, false, none, none⟩
set_option maxRecDepth 100000 in
theorem tyOk22 : TyOk Try.prog 22 ty22 := ⟨⟨_, Try.underlying22, rfl⟩, ⟨_, _, rfl, rfl, rfl, rfl, fun c => ⟨⟨rfl, rfl⟩, True.intro⟩⟩, fun e r b h => by cases h; exact ⟨Try.underlying22, by decide, _, _, rfl, rfl, rfl, rfl, rfl⟩, fun h => absurd rfl h, nofun, nofun, nofun, nofun⟩
def ty23 : Ty := ⟨true, 3, [.pv (.int .i64) 0, .pv (.int .i64) 0, .nils], none, [(0, 1), (1, 1), (2, 1)], false, false, none, none⟩
set_option maxRecDepth 100000 in
theorem tyOk23 : TyOk Try.prog 23 ty23 := ⟨⟨_, Try.underlying23, rfl⟩, ⟨_, _, rfl, rfl, rfl, rfl, fun c => ⟨⟨⟨_, rfl, Rep.int _ _⟩, rfl⟩, ⟨⟨_, rfl, Rep.int _ _⟩, rfl⟩, ⟨rfl, rfl⟩, True.intro⟩⟩, nofun, fun _ => ⟨_, Try.underlying23, by kernel_rfl⟩, nofun, nofun, nofun, nofun⟩
def ty24 : Ty := ⟨true, 3, [.pv (.int .i64) 0, .pv (.int .i64) 0, .nils], none, [(0, 1), (1, 1), (2, 1)], false, false, none, none⟩
set_option maxRecDepth 100000 in
theorem tyOk24 : TyOk Try.prog 24 ty24 := ⟨⟨_, Try.underlying24, rfl⟩, ⟨_, _, rfl, rfl, rfl, rfl, fun c => ⟨⟨⟨_, rfl, Rep.int _ _⟩, rfl⟩, ⟨⟨_, rfl, Rep.int _ _⟩, rfl⟩, ⟨rfl, rfl⟩, True.intro⟩⟩, nofun, fun _ => ⟨_, Try.underlying24, by kernel_rfl⟩, nofun, nofun, nofun, nofun⟩
def ty29 : Ty := ⟨false, 1, [.nils], some (5, .int .u8, 1), [], false, false, none, none⟩
set_option maxRecDepth 100000 in
theorem tyOk29 : TyOk Try.prog 29 ty29 := ⟨⟨_, Try.underlying29, rfl⟩, ⟨_, _, rfl, rfl, rfl, rfl, fun c => ⟨⟨rfl, rfl⟩, True.intro⟩⟩, fun e r b h => by cases h; exact ⟨Try.underlying29, by decide, _, _, rfl, rfl, rfl, rfl, rfl⟩, fun h => absurd rfl h, nofun, nofun, nofun, nofun⟩
def ty33 : Ty := ⟨false, 1, [.nils], some (91, .pair .str (.sl (.pair (.int .i64) (.int .i64))), 40), [], false, false, none, none⟩
set_option maxRecDepth 100000 in
theorem tyOk33 : TyOk Try.prog 33 ty33 := ⟨⟨_, Try.underlying33, rfl⟩, ⟨_, _, rfl, rfl, rfl, rfl, fun c => ⟨⟨rfl, rfl⟩, True.intro⟩⟩, fun e r b h => by cases h; exact ⟨Try.underlying33, by decide, _, _, rfl, rfl, rfl, rfl, rfl⟩, fun h => absurd rfl h, nofun, nofun, nofun, nofun⟩
def ty34 : Ty := ⟨true, 3, [.pv (.int .i64) 0, .pv (.int .i64) 0, .nils], none, [(0, 1), (1, 1), (2, 1)], false, false, none, none⟩
set_option maxRecDepth 100000 in
theorem tyOk34 : TyOk Try.prog 34 ty34 := ⟨⟨_, Try.underlying34, rfl⟩, ⟨_, _, rfl, rfl, rfl, rfl, fun c => ⟨⟨⟨_, rfl, Rep.int _ _⟩, rfl⟩, ⟨⟨_, rfl, Rep.int _ _⟩, rfl⟩, ⟨rfl, rfl⟩, True.intro⟩⟩, nofun, fun _ => ⟨_, Try.underlying34, by kernel_rfl⟩, nofun, nofun, nofun, nofun⟩
def ty35 : Ty := ⟨true, 3, [.pv (.int .i64) 0, .pv (.int .i64) 0, .nils], none, [(0, 1), (1, 1), (2, 1)], false, false, none, none⟩
set_option maxRecDepth 100000 in
theorem tyOk35 : TyOk Try.prog 35 ty35 := ⟨⟨_, Try.underlying35, rfl⟩, ⟨_, _, rfl, rfl, rfl, rfl, fun c => ⟨⟨⟨_, rfl, Rep.int _ _⟩, rfl⟩, ⟨⟨_, rfl, Rep.int _ _⟩, rfl⟩, ⟨rfl, rfl⟩, True.intro⟩⟩, nofun, fun _ => ⟨_, Try.underlying35, by kernel_rfl⟩, nofun, nofun, nofun, nofun⟩
def ty41 : Ty := ⟨false, 1, [.nils], some (78, .pair (.int .i64) (.int .i64), 16), [], false, false, none, none⟩
set_option maxRecDepth 100000 in
theorem tyOk41 : TyOk Try.prog 41 ty41 := ⟨⟨_, Try.underlying41, rfl⟩, ⟨_, _, rfl, rfl, rfl, rfl, fun c => ⟨⟨rfl, rfl⟩, True.intro⟩⟩, fun e r b h => by cases h; exact ⟨Try.underlying41, by decide, _, _, rfl, rfl, rfl, rfl, rfl⟩, fun h => absurd rfl h, nofun, nofun, nofun, nofun⟩
def ty45 : Ty := ⟨true, 2, [.pv .str [], .nils], none, [(0, 1), (1, 1)], false, false, none, none⟩
set_option maxRecDepth 100000 in
theorem tyOk45 : TyOk Try.prog 45 ty45 := ⟨⟨_, Try.underlying45, rfl⟩, ⟨_, _, rfl, rfl, rfl, rfl, fun c => ⟨⟨⟨_, rfl, Rep.str _⟩, rfl⟩, ⟨rfl, rfl⟩, True.intro⟩⟩, nofun, fun _ => ⟨_, Try.underlying45, by kernel_rfl⟩, nofun, nofun, nofun, nofun⟩
def ty46 : Ty := ⟨true, 2, [.pv .str [], .nils], none, [(0, 1), (1, 1)], false, false, none, none⟩
set_option maxRecDepth 100000 in
theorem tyOk46 : TyOk Try.prog 46 ty46 := ⟨⟨_, Try.underlying46, rfl⟩, ⟨_, _, rfl, rfl, rfl, rfl, fun c => ⟨⟨⟨_, rfl, Rep.str _⟩, rfl⟩, ⟨rfl, rfl⟩, True.intro⟩⟩, nofun, fun _ => ⟨_, Try.underlying46, by kernel_rfl⟩, nofun, nofun, nofun, nofun⟩
def ty54 : Ty := ⟨false, 1, [.nils], some (84, .pair (.int .i64) (.int .i64), 16), [], false, false, none, none⟩
set_option maxRecDepth 100000 in
theorem tyOk54 : TyOk Try.prog 54 ty54 := ⟨⟨_, Try.underlying54, rfl⟩, ⟨_, _, rfl, rfl, rfl, rfl, fun c => ⟨⟨rfl, rfl⟩, True.intro⟩⟩, fun e r b h => by cases h; exact ⟨Try.underlying54, by decide, _, _, rfl, rfl, rfl, rfl, rfl⟩, fun h => absurd rfl h, nofun, nofun, nofun, nofun⟩
def ty60 : Ty := ⟨false, 1, [.nilp], none, [], false, false, none, none⟩
set_option maxRecDepth 100000 in
theorem tyOk60 : TyOk Try.prog 60 ty60 := ⟨⟨_, Try.underlying60, rfl⟩, ⟨_, _, rfl, rfl, rfl, rfl, fun c => ⟨⟨rfl, rfl⟩, True.intro⟩⟩, nofun, fun h => absurd rfl h, nofun, nofun, nofun, nofun⟩
def ty63 : Ty := ⟨false, 1, [.nils], some (3, .int .i64, 8), [], false, false, none, none⟩
set_option maxRecDepth 100000 in
theorem tyOk63 : TyOk Try.prog 63 ty63 := ⟨⟨_, Try.underlying63, rfl⟩, ⟨_, _, rfl, rfl, rfl, rfl, fun c => ⟨⟨rfl, rfl⟩, True.intro⟩⟩, fun e r b h => by cases h; exact ⟨Try.underlying63, by decide, _, _, rfl, rfl, rfl, rfl, rfl⟩, fun h => absurd rfl h, nofun, nofun, nofun, nofun⟩
def ty70 : Ty := ⟨false, 1, [.nils], some (9, .str, 16), [], false, false, none, none⟩
set_option maxRecDepth 100000 in
theorem tyOk70 : TyOk Try.prog 70 ty70 := ⟨⟨_, Try.underlying70, rfl⟩, ⟨_, _, rfl, rfl, rfl, rfl, fun c => ⟨⟨rfl, rfl⟩, True.intro⟩⟩, fun e r b h => by cases h; exact ⟨Try.underlying70, by decide, _, _, rfl, rfl, rfl, rfl, rfl⟩, fun h => absurd rfl h, nofun, nofun, nofun, nofun⟩
def ty71 : Ty := ⟨false, 1, [.nils], some (73, .q, 88), [], false, false, none, none⟩
set_option maxRecDepth 100000 in
theorem tyOk71 : TyOk Try.prog 71 ty71 := ⟨⟨_, Try.underlying71, rfl⟩, ⟨_, _, rfl, rfl, rfl, rfl, fun c => ⟨⟨rfl, rfl⟩, True.intro⟩⟩, fun e r b h => by cases h; exact ⟨Try.underlying71, by decide, _, _, rfl, rfl, rfl, rfl, rfl⟩, fun h => absurd rfl h, nofun, nofun, nofun, nofun⟩
def ty72 : Ty := ⟨true, 6, [.pv (.int .i64) 0, .pv .str [], .nils, .pv (.int .i64) 0, .pv (.int .i64) 0, .nils], none, [(0, 1), (1, 1), (2, 1), (3, 1), (4, 1), (5, 1)], false, false, none, none⟩
set_option maxRecDepth 100000 in
theorem tyOk72 : TyOk Try.prog 72 ty72 := ⟨⟨_, Try.underlying72, rfl⟩, ⟨_, _, rfl, rfl, rfl, rfl, fun c => ⟨⟨⟨_, rfl, Rep.int _ _⟩, rfl⟩, ⟨⟨_, rfl, Rep.str _⟩, rfl⟩, ⟨rfl, rfl⟩, ⟨⟨_, rfl, Rep.int _ _⟩, rfl⟩, ⟨⟨_, rfl, Rep.int _ _⟩, rfl⟩, ⟨rfl, rfl⟩, True.intro⟩⟩, nofun, fun _ => ⟨_, Try.underlying72, by kernel_rfl⟩, nofun, nofun, nofun, nofun⟩
def ty73 : Ty := ⟨true, 6, [.pv (.int .i64) 0, .pv .str [], .nils, .pv (.int .i64) 0, .pv (.int .i64) 0, .nils], none, [(0, 1), (1, 1), (2, 1), (3, 1), (4, 1), (5, 1)], false, false, none, none⟩
set_option maxRecDepth 100000 in
theorem tyOk73 : TyOk Try.prog 73 ty73 := ⟨⟨_, Try.underlying73, rfl⟩, ⟨_, _, rfl, rfl, rfl, rfl, fun c => ⟨⟨⟨_, rfl, Rep.int _ _⟩, rfl⟩, ⟨⟨_, rfl, Rep.str _⟩, rfl⟩, ⟨rfl, rfl⟩, ⟨⟨_, rfl, Rep.int _ _⟩, rfl⟩, ⟨⟨_, rfl, Rep.int _ _⟩, rfl⟩, ⟨rfl, rfl⟩, True.intro⟩⟩, nofun, fun _ => ⟨_, Try.underlying73, by kernel_rfl⟩, nofun, nofun, nofun, nofun⟩
def ty77 : Ty := ⟨true, 2, [.pv (.int .i64) 0, .pv (.int .i64) 0], none, [(0, 1), (1, 1)], false, false, none, none⟩
set_option maxRecDepth 100000 in
theorem tyOk77 : TyOk Try.prog 77 ty77 := ⟨⟨_, Try.underlying77, rfl⟩, ⟨_, _, rfl, rfl, rfl, rfl, fun c => ⟨⟨⟨_, rfl, Rep.int _ _⟩, rfl⟩, ⟨⟨_, rfl, Rep.int _ _⟩, rfl⟩, True.intro⟩⟩, nofun, fun _ => ⟨_, Try.underlying77, by kernel_rfl⟩, nofun, nofun, nofun, nofun⟩
def ty78 : Ty := ⟨true, 2, [.pv (.int .i64) 0, .pv (.int .i64) 0], none, [(0, 1), (1, 1)], false, false, none, some (.pair (.int .i64) (.int .i64))⟩
set_option maxRecDepth 100000 in
theorem tyOk78 : TyOk Try.prog 78 ty78 := ⟨⟨_, Try.underlying78, rfl⟩, ⟨_, _, rfl, rfl, rfl, rfl, fun c => ⟨⟨⟨_, rfl, Rep.int _ _⟩, rfl⟩, ⟨⟨_, rfl, Rep.int _ _⟩, rfl⟩, True.intro⟩⟩, nofun, fun _ => ⟨_, Try.underlying78, by kernel_rfl⟩, nofun, nofun, nofun, fun r h => by cases h; exact eqs_of _ rfl (by kernel_rfl) (by kernel_rfl) (by kernel_rfl) [(false, 3, 0), (false, 3, 1)] (by kernel_rfl) (fun x y => ⟨⟨rfl, rfl, ⟨rfl, _, Try.underlying3⟩⟩, ⟨⟨rfl, rfl, ⟨rfl, _, Try.underlying3⟩⟩, True.intro⟩⟩)⟩
def ty84 : Ty := ⟨true, 2, [.pv (.int .i64) 0, .pv (.int .i64) 0], none, [(0, 1), (1, 1)], false, false, none, some (.pair (.int .i64) (.int .i64))⟩
set_option maxRecDepth 100000 in
theorem tyOk84 : TyOk Try.prog 84 ty84 := ⟨⟨_, Try.underlying84, rfl⟩, ⟨_, _, rfl, rfl, rfl, rfl, fun c => ⟨⟨⟨_, rfl, Rep.int _ _⟩, rfl⟩, ⟨⟨_, rfl, Rep.int _ _⟩, rfl⟩, True.intro⟩⟩, nofun, fun _ => ⟨_, Try.underlying84, by kernel_rfl⟩, nofun, nofun, nofun, fun r h => by cases h; exact eqs_of _ rfl (by kernel_rfl) (by kernel_rfl) (by kernel_rfl) [(false, 3, 0), (false, 3, 1)] (by kernel_rfl) (fun x y => ⟨⟨rfl, rfl, ⟨rfl, _, Try.underlying3⟩⟩, ⟨⟨rfl, rfl, ⟨rfl, _, Try.underlying3⟩⟩, True.intro⟩⟩)⟩
def ty87 : Ty := ⟨true, 2, [.nils, .pv (.int .i64) 0], none, [(0, 1), (1, 1)], false, false, none, none⟩
set_option maxRecDepth 100000 in
theorem tyOk87 : TyOk Try.prog 87 ty87 := ⟨⟨_, Try.underlying87, rfl⟩, ⟨_, _, rfl, rfl, rfl, rfl, fun c => ⟨⟨rfl, rfl⟩, ⟨⟨_, rfl, Rep.int _ _⟩, rfl⟩, True.intro⟩⟩, nofun, fun _ => ⟨_, Try.underlying87, by kernel_rfl⟩, nofun, nofun, nofun, nofun⟩
def ty88 : Ty := ⟨true, 2, [.nils, .pv (.int .i64) 0], none, [(0, 1), (1, 1)], false, false, none, none⟩
set_option maxRecDepth 100000 in
theorem tyOk88 : TyOk Try.prog 88 ty88 := ⟨⟨_, Try.underlying88, rfl⟩, ⟨_, _, rfl, rfl, rfl, rfl, fun c => ⟨⟨rfl, rfl⟩, ⟨⟨_, rfl, Rep.int _ _⟩, rfl⟩, True.intro⟩⟩, nofun, fun _ => ⟨_, Try.underlying88, by kernel_rfl⟩, nofun, nofun, nofun, nofun⟩
def ty90 : Ty := ⟨true, 2, [.pv .str [], .nils], none, [(0, 1), (1, 1)], false, false, none, none⟩
set_option maxRecDepth 100000 in
theorem tyOk90 : TyOk Try.prog 90 ty90 := ⟨⟨_, Try.underlying90, rfl⟩, ⟨_, _, rfl, rfl, rfl, rfl, fun c => ⟨⟨⟨_, rfl, Rep.str _⟩, rfl⟩, ⟨rfl, rfl⟩, True.intro⟩⟩, nofun, fun _ => ⟨_, Try.underlying90, by kernel_rfl⟩, nofun, nofun, nofun, nofun⟩
def ty91 : Ty := ⟨true, 2, [.pv .str [], .nils], none, [(0, 1), (1, 1)], false, false, none, none⟩
set_option maxRecDepth 100000 in
theorem tyOk91 : TyOk Try.prog 91 ty91 := ⟨⟨_, Try.underlying91, rfl⟩, ⟨_, _, rfl, rfl, rfl, rfl, fun c => ⟨⟨⟨_, rfl, Rep.str _⟩, rfl⟩, ⟨rfl, rfl⟩, True.intro⟩⟩, nofun, fun _ => ⟨_, Try.underlying91, by kernel_rfl⟩, nofun, nofun, nofun, nofun⟩
def ty103 : Ty := ⟨true, 4, [.nilp, .nilp, .nilp, .pv .str []], none, [(0, 1), (1, 1), (2, 1), (3, 1)], false, false, none, none⟩
set_option maxRecDepth 100000 in
theorem tyOk103 : TyOk Try.prog 103 ty103 := ⟨⟨_, Try.underlying103, rfl⟩, ⟨_, _, rfl, rfl, rfl, rfl, fun c => ⟨⟨rfl, rfl⟩, ⟨rfl, rfl⟩, ⟨rfl, rfl⟩, ⟨⟨_, rfl, Rep.str _⟩, rfl⟩, True.intro⟩⟩, nofun, fun _ => ⟨_, Try.underlying103, by kernel_rfl⟩, nofun, nofun, nofun, nofun⟩
def ty104 : Ty := ⟨true, 4, [.nilp, .nilp, .nilp, .pv .str []], none, [(0, 1), (1, 1), (2, 1), (3, 1)], false, false, none, none⟩
set_option maxRecDepth 100000 in
theorem tyOk104 : TyOk Try.prog 104 ty104 := ⟨⟨_, Try.underlying104, rfl⟩, ⟨_, _, rfl, rfl, rfl, rfl, fun c => ⟨⟨rfl, rfl⟩, ⟨rfl, rfl⟩, ⟨rfl, rfl⟩, ⟨⟨_, rfl, Rep.str _⟩, rfl⟩, True.intro⟩⟩, nofun, fun _ => ⟨_, Try.underlying104, by kernel_rfl⟩, nofun, nofun, nofun, nofun⟩
def ty106 : Ty := ⟨true, 0, [], none, [], false, false, none, none⟩
set_option maxRecDepth 100000 in
theorem tyOk106 : TyOk Try.prog 106 ty106 := ⟨⟨_, Try.underlying106, rfl⟩, ⟨_, _, rfl, rfl, rfl, rfl, fun c => True.intro⟩, nofun, fun h => absurd rfl h, nofun, nofun, nofun, nofun⟩
def ty107 : Ty := ⟨true, 0, [], none, [], false, false, none, none⟩
set_option maxRecDepth 100000 in
theorem tyOk107 : TyOk Try.prog 107 ty107 := ⟨⟨_, Try.underlying107, rfl⟩, ⟨_, _, rfl, rfl, rfl, rfl, fun c => True.intro⟩, nofun, fun h => absurd rfl h, nofun, nofun, nofun, nofun⟩
def ty109 : Ty := ⟨false, 1, [.pv (.int .u32) 0], none, [], false, false, some .u32, none⟩
set_option maxRecDepth 100000 in
theorem tyOk109 : TyOk Try.prog 109 ty109 := ⟨⟨_, Try.underlying109, rfl⟩, ⟨_, _, rfl, rfl, rfl, rfl, fun c => ⟨⟨⟨_, rfl, Rep.int _ _⟩, rfl⟩, True.intro⟩⟩, nofun, fun h => absurd rfl h, nofun, nofun, fun k h => by cases h; exact Try.underlying109, nofun⟩
def ty110 : Ty := ⟨false, 1, [.pv (.int .u8) 0], none, [], false, false, some .u8, none⟩
set_option maxRecDepth 100000 in
theorem tyOk110 : TyOk Try.prog 110 ty110 := ⟨⟨_, Try.underlying110, rfl⟩, ⟨_, _, rfl, rfl, rfl, rfl, fun c => ⟨⟨⟨_, rfl, Rep.int _ _⟩, rfl⟩, True.intro⟩⟩, nofun, fun h => absurd rfl h, nofun, nofun, fun k h => by cases h; exact Try.underlying110, nofun⟩
def ty111 : Ty := ⟨false, 1, [.pv (.int .u8) 0], none, [], false, false, some .u8, none⟩
set_option maxRecDepth 100000 in
theorem tyOk111 : TyOk Try.prog 111 ty111 := ⟨⟨_, Try.underlying111, rfl⟩, ⟨_, _, rfl, rfl, rfl, rfl, fun c => ⟨⟨⟨_, rfl, Rep.int _ _⟩, rfl⟩, True.intro⟩⟩, nofun, fun h => absurd rfl h, nofun, nofun, fun k h => by cases h; exact Try.underlying111, nofun⟩
def ty113 : Ty := ⟨false, 1, [.nilp], none, [], false, false, none, none⟩
set_option maxRecDepth 100000 in
theorem tyOk113 : TyOk Try.prog 113 ty113 := ⟨⟨_, Try.underlying113, rfl⟩, ⟨_, _, rfl, rfl, rfl, rfl, fun c => ⟨⟨rfl, rfl⟩, True.intro⟩⟩, nofun, fun h => absurd rfl h, nofun, nofun, nofun, nofun⟩
def ty114 : Ty := ⟨false, 1, [.pv (.int .i32) 0], none, [], false, false, some .i32, none⟩
set_option maxRecDepth 100000 in
theorem tyOk114 : TyOk Try.prog 114 ty114 := ⟨⟨_, Try.underlying114, rfl⟩, ⟨_, _, rfl, rfl, rfl, rfl, fun c => ⟨⟨⟨_, rfl, Rep.int _ _⟩, rfl⟩, True.intro⟩⟩, nofun, fun h => absurd rfl h, nofun, nofun, fun k h => by cases h; exact Try.underlying114, nofun⟩
def ty115 : Ty := ⟨false, 1, [.pv (.int .i32) 0], none, [], false, false, some .i32, none⟩
set_option maxRecDepth 100000 in
theorem tyOk115 : TyOk Try.prog 115 ty115 := ⟨⟨_, Try.underlying115, rfl⟩, ⟨_, _, rfl, rfl, rfl, rfl, fun c => ⟨⟨⟨_, rfl, Rep.int _ _⟩, rfl⟩, True.intro⟩⟩, nofun, fun h => absurd rfl h, nofun, nofun, fun k h => by cases h; exact Try.underlying115, nofun⟩
def ty116 : Ty := ⟨true, 11, [.pv (.int .u64) 0, .pv (.int .u64) 0, .pv (.int .u32) 0, .pv (.int .u8) 0, .pv (.int .u8) 0, .pv (.int .u8) 0, .pv (.int .u8) 0, .dead, .nilp, .pv (.int .i32) 0, .pv (.int .i32) 0], none, [], false, false, none, none⟩
set_option maxRecDepth 100000 in
theorem tyOk116 : TyOk Try.prog 116 ty116 := ⟨⟨_, Try.underlying116, rfl⟩, ⟨_, _, rfl, rfl, rfl, rfl, fun c => ⟨⟨⟨_, rfl, Rep.int _ _⟩, rfl⟩, ⟨⟨_, rfl, Rep.int _ _⟩, rfl⟩, ⟨⟨_, rfl, Rep.int _ _⟩, rfl⟩, ⟨⟨_, rfl, Rep.int _ _⟩, rfl⟩, ⟨⟨_, rfl, Rep.int _ _⟩, rfl⟩, ⟨⟨_, rfl, Rep.int _ _⟩, rfl⟩, ⟨⟨_, rfl, Rep.int _ _⟩, rfl⟩, ⟨True.intro, rfl⟩, ⟨rfl, rfl⟩, ⟨⟨_, rfl, Rep.int _ _⟩, rfl⟩, ⟨⟨_, rfl, Rep.int _ _⟩, rfl⟩, True.intro⟩⟩, nofun, fun h => absurd rfl h, nofun, nofun, nofun, nofun⟩
def ty117 : Ty := ⟨true, 11, [.pv (.int .u64) 0, .pv (.int .u64) 0, .pv (.int .u32) 0, .pv (.int .u8) 0, .pv (.int .u8) 0, .pv (.int .u8) 0, .pv (.int .u8) 0, .dead, .nilp, .pv (.int .i32) 0, .pv (.int .i32) 0], none, [], false, false, none, none⟩
set_option maxRecDepth 100000 in
theorem tyOk117 : TyOk Try.prog 117 ty117 := ⟨⟨_, Try.underlying117, rfl⟩, ⟨_, _, rfl, rfl, rfl, rfl, fun c => ⟨⟨⟨_, rfl, Rep.int _ _⟩, rfl⟩, ⟨⟨_, rfl, Rep.int _ _⟩, rfl⟩, ⟨⟨_, rfl, Rep.int _ _⟩, rfl⟩, ⟨⟨_, rfl, Rep.int _ _⟩, rfl⟩, ⟨⟨_, rfl, Rep.int _ _⟩, rfl⟩, ⟨⟨_, rfl, Rep.int _ _⟩, rfl⟩, ⟨⟨_, rfl, Rep.int _ _⟩, rfl⟩, ⟨True.intro, rfl⟩, ⟨rfl, rfl⟩, ⟨⟨_, rfl, Rep.int _ _⟩, rfl⟩, ⟨⟨_, rfl, Rep.int _ _⟩, rfl⟩, True.intro⟩⟩, nofun, fun h => absurd rfl h, nofun, nofun, nofun, nofun⟩
def lookTy : List (Nat × Ty) → Nat → Option Ty
  | [], _ => none
  | (k, y) :: l, t => bif Nat.beq t k then some y else lookTy l t
def AllOk (P : Program) : List (Nat × Ty) → Prop
  | [] => True
  | (k, y) :: l => TyOk P k y ∧ AllOk P l
theorem allOk_look {P : Program} : ∀ {l : List (Nat × Ty)}, AllOk P l → ∀ t y, lookTy l t = some y → TyOk P t y
  | [], _, t, y, h => by cases h
  | (k, z) :: l, hl, t, y, h => by
    simp only [lookTy] at h
    cases e : Nat.beq t k with
    | true => rw [e] at h; cases h; rw [Nat.eq_of_beq_eq_true e]; exact hl.1
    | false => rw [e] at h; exact allOk_look hl.2 t y h
def tyL : List (Nat × Ty) := [(2, ty2), (3, ty3), (4, ty4), (5, ty5), (6, ty6), (7, ty7), (8, ty8), (9, ty9), (10, ty10), (11, ty11), (12, ty12), (13, ty13), (14, ty14), (15, ty15), (16, ty16), (17, ty17), (18, ty18), (19, ty19), (21, ty21), (22, ty22), (23, ty23), (24, ty24), (29, ty29), (33, ty33), (34, ty34), (35, ty35), (41, ty41), (45, ty45), (46, ty46), (54, ty54), (60, ty60), (63, ty63), (70, ty70), (71, ty71), (72, ty72), (73, ty73), (77, ty77), (78, ty78), (84, ty84), (87, ty87), (88, ty88), (90, ty90), (91, ty91), (103, ty103), (104, ty104), (106, ty106), (107, ty107), (109, ty109), (110, ty110), (111, ty111), (113, ty113), (114, ty114), (115, ty115), (116, ty116), (117, ty117)]
theorem tyL_ok : AllOk Try.prog tyL := ⟨tyOk2, tyOk3, tyOk4, tyOk5, tyOk6, tyOk7, tyOk8, tyOk9, tyOk10, tyOk11, tyOk12, tyOk13, tyOk14, tyOk15, tyOk16, tyOk17, tyOk18, tyOk19, tyOk21, tyOk22, tyOk23, tyOk24, tyOk29, tyOk33, tyOk34, tyOk35, tyOk41, tyOk45, tyOk46, tyOk54, tyOk60, tyOk63, tyOk70, tyOk71, tyOk72, tyOk73, tyOk77, tyOk78, tyOk84, tyOk87, tyOk88, tyOk90, tyOk91, tyOk103, tyOk104, tyOk106, tyOk107, tyOk109, tyOk110, tyOk111, tyOk113, tyOk114, tyOk115, tyOk116, tyOk117, True.intro⟩
def lookM : List (Nat × Model) → Nat → List Model
  | [], _ => []
  | (k, m) :: l, f => bif Nat.beq f k then m :: lookM l f else lookM l f
def FnsOk (P : Program) : List (Nat × Model) → Prop
  | [] => True
  | (k, m) :: l => ModelOk P k m ∧ FnsOk P l
theorem fnsOk_look {P : Program} : ∀ {l : List (Nat × Model)}, FnsOk P l → ∀ f m, m ∈ lookM l f → ModelOk P f m
  | [], _, f, m, h => by cases h
  | (k, x) :: l, hl, f, m, h => by
    simp only [lookM] at h
    cases e : Nat.beq f k with
    | true =>
      rw [e] at h
      rcases List.mem_cons.1 h with h | h
      · subst h; rw [Nat.eq_of_beq_eq_true e]; exact hl.1
      · exact fnsOk_look hl.2 f m h
    | false => rw [e] at h; exact fnsOk_look hl.2 f m h
theorem fnsOk_nil {P : Program} : FnsOk P [] := True.intro
theorem fnsOk_cons {P : Program} {k : Nat} {m : Model} {l : List (Nat × Model)} (h : ModelOk P k m) (hl : FnsOk P l) : FnsOk P ((k, m) :: l) := And.intro h hl
def memB : List Nat → Nat → Bool
  | [], _ => false
  | k :: l, j => bif Nat.beq j k then true else memB l j
noncomputable def mkEnv (l : List (Nat × Model)) (wr res : List Nat) (dw : List Nat := []) : Env := ⟨Try.prog, lookTy tyL, lookM l, memB wr, memB res, memB dw⟩
theorem mkEnv_ok {l : List (Nat × Model)} (h : FnsOk Try.prog l) (wr res : List Nat) (dw : List Nat := []) : EnvOk (mkEnv l wr res dw) := ⟨by kernel_rfl, allOk_look tyL_ok, fnsOk_look h⟩
end Go.Proofs.Ythodbhjnfeahhaa
