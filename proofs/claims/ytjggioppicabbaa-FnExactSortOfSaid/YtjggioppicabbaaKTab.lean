/- The table of types, by program. -/
import Derived.Test.YtjggioppicabbaaK25
import Derived.Test.YtjggioppicabbaaProg
import Derived.KernelRfl
set_option linter.unusedSimpArgs false
set_option linter.unusedVariables false
namespace Go.Proofs.Ytjggioppicabbaa
open Go.RowKit
def ty2 : Ty := ⟨false, 1, [.pv (.int .i64) 0], none, [], false, false, some .i64, none⟩
set_option maxRecDepth 100000 in
theorem tyOk2 : TyOk Try.prog 2 ty2 := ⟨⟨_, Try.underlying2, rfl⟩, ⟨_, _, rfl, rfl, rfl, rfl, fun c => ⟨⟨⟨_, rfl, Rep.int _ _⟩, rfl⟩, True.intro⟩⟩, nofun, fun h => absurd rfl h, nofun, nofun, fun k h => by cases h; exact Try.underlying2, nofun⟩
def ty3 : Ty := ⟨false, 1, [.pv (.int .i64) 0], none, [], false, false, some .i64, none⟩
set_option maxRecDepth 100000 in
theorem tyOk3 : TyOk Try.prog 3 ty3 := ⟨⟨_, Try.underlying3, rfl⟩, ⟨_, _, rfl, rfl, rfl, rfl, fun c => ⟨⟨⟨_, rfl, Rep.int _ _⟩, rfl⟩, True.intro⟩⟩, nofun, fun h => absurd rfl h, nofun, nofun, fun k h => by cases h; exact Try.underlying3, nofun⟩
def ty4 : Ty := ⟨false, 1, [.pv .bool false], none, [], false, true, none, none⟩
set_option maxRecDepth 100000 in
theorem tyOk4 : TyOk Try.prog 4 ty4 := ⟨⟨_, Try.underlying4, rfl⟩, ⟨_, _, rfl, rfl, rfl, rfl, fun c => ⟨⟨⟨_, rfl, Rep.bool _⟩, rfl⟩, True.intro⟩⟩, nofun, fun h => absurd rfl h, nofun, fun _ => Try.underlying4, nofun, nofun⟩
def ty5 : Ty := ⟨false, 1, [.pv (.int .u8) 0], none, [], false, false, some .u8, none⟩
set_option maxRecDepth 100000 in
theorem tyOk5 : TyOk Try.prog 5 ty5 := ⟨⟨_, Try.underlying5, rfl⟩, ⟨_, _, rfl, rfl, rfl, rfl, fun c => ⟨⟨⟨_, rfl, Rep.int _ _⟩, rfl⟩, True.intro⟩⟩, nofun, fun h => absurd rfl h, nofun, nofun, fun k h => by cases h; exact Try.underlying5, nofun⟩
def ty6 : Ty := ⟨false, 1, [.pv (.int .u8) 0], none, [], false, false, some .u8, none⟩
set_option maxRecDepth 100000 in
theorem tyOk6 : TyOk Try.prog 6 ty6 := ⟨⟨_, Try.underlying6, rfl⟩, ⟨_, _, rfl, rfl, rfl, rfl, fun c => ⟨⟨⟨_, rfl, Rep.int _ _⟩, rfl⟩, True.intro⟩⟩, nofun, fun h => absurd rfl h, nofun, nofun, fun k h => by cases h; exact Try.underlying6, nofun⟩
def ty7 : Ty := ⟨true, 4, [.pv (.int .i64) 0, .pv (.int .i64) 0, .pv .bool false, .pv (.int .u8) 0], none, [(0, 1), (1, 1), (2, 1), (3, 1)], false, false, none, none⟩
set_option maxRecDepth 100000 in
theorem tyOk7 : TyOk Try.prog 7 ty7 := ⟨⟨_, Try.underlying7, rfl⟩, ⟨_, _, rfl, rfl, rfl, rfl, fun c => ⟨⟨⟨_, rfl, Rep.int _ _⟩, rfl⟩, ⟨⟨_, rfl, Rep.int _ _⟩, rfl⟩, ⟨⟨_, rfl, Rep.bool _⟩, rfl⟩, ⟨⟨_, rfl, Rep.int _ _⟩, rfl⟩, True.intro⟩⟩, nofun, fun _ => ⟨_, Try.underlying7, by kernel_rfl⟩, nofun, nofun, nofun, nofun⟩
def ty8 : Ty := ⟨true, 4, [.pv (.int .i64) 0, .pv (.int .i64) 0, .pv .bool false, .pv (.int .u8) 0], none, [(0, 1), (1, 1), (2, 1), (3, 1)], false, false, none, none⟩
set_option maxRecDepth 100000 in
theorem tyOk8 : TyOk Try.prog 8 ty8 := ⟨⟨_, Try.underlying8, rfl⟩, ⟨_, _, rfl, rfl, rfl, rfl, fun c => ⟨⟨⟨_, rfl, Rep.int _ _⟩, rfl⟩, ⟨⟨_, rfl, Rep.int _ _⟩, rfl⟩, ⟨⟨_, rfl, Rep.bool _⟩, rfl⟩, ⟨⟨_, rfl, Rep.int _ _⟩, rfl⟩, True.intro⟩⟩, nofun, fun _ => ⟨_, Try.underlying8, by kernel_rfl⟩, nofun, nofun, nofun, nofun⟩
def ty9 : Ty := ⟨false, 1, [.pv .str []], none, [], true, false, none, none⟩
set_option maxRecDepth 100000 in
theorem tyOk9 : TyOk Try.prog 9 ty9 := ⟨⟨_, Try.underlying9, rfl⟩, ⟨_, _, rfl, rfl, rfl, rfl, fun c => ⟨⟨⟨_, rfl, Rep.str _⟩, rfl⟩, True.intro⟩⟩, nofun, fun h => absurd rfl h, fun _ => Try.underlying9, nofun, nofun, nofun⟩
def ty10 : Ty := ⟨false, 1, [.pv .str []], none, [], true, false, none, none⟩
set_option maxRecDepth 100000 in
theorem tyOk10 : TyOk Try.prog 10 ty10 := ⟨⟨_, Try.underlying10, rfl⟩, ⟨_, _, rfl, rfl, rfl, rfl, fun c => ⟨⟨⟨_, rfl, Rep.str _⟩, rfl⟩, True.intro⟩⟩, nofun, fun h => absurd rfl h, fun _ => Try.underlying10, nofun, nofun, nofun⟩
def ty11 : Ty := ⟨false, 1, [.pv .str []], none, [], true, false, none, none⟩
set_option maxRecDepth 100000 in
theorem tyOk11 : TyOk Try.prog 11 ty11 := ⟨⟨_, Try.underlying11, rfl⟩, ⟨_, _, rfl, rfl, rfl, rfl, fun c => ⟨⟨⟨_, rfl, Rep.str _⟩, rfl⟩, True.intro⟩⟩, nofun, fun h => absurd rfl h, fun _ => Try.underlying11, nofun, nofun, nofun⟩
def ty12 : Ty := ⟨false, 1, [.pv (.int .u64) 0], none, [], false, false, some .u64, none⟩
set_option maxRecDepth 100000 in
theorem tyOk12 : TyOk Try.prog 12 ty12 := ⟨⟨_, Try.underlying12, rfl⟩, ⟨_, _, rfl, rfl, rfl, rfl, fun c => ⟨⟨⟨_, rfl, Rep.int _ _⟩, rfl⟩, True.intro⟩⟩, nofun, fun h => absurd rfl h, nofun, nofun, fun k h => by cases h; exact Try.underlying12, nofun⟩
def ty13 : Ty := ⟨true, 2, [.pv .str [], .pv (.int .u64) 0], none, [(0, 1), (1, 1)], false, false, none, none⟩
set_option maxRecDepth 100000 in
theorem tyOk13 : TyOk Try.prog 13 ty13 := ⟨⟨_, Try.underlying13, rfl⟩, ⟨_, _, rfl, rfl, rfl, rfl, fun c => ⟨⟨⟨_, rfl, Rep.str _⟩, rfl⟩, ⟨⟨_, rfl, Rep.int _ _⟩, rfl⟩, True.intro⟩⟩, nofun, fun _ => ⟨_, Try.underlying13, by kernel_rfl⟩, nofun, nofun, nofun, nofun⟩
def ty14 : Ty := ⟨true, 2, [.pv .str [], .pv (.int .u64) 0], none, [(0, 1), (1, 1)], false, false, none, none⟩
set_option maxRecDepth 100000 in
theorem tyOk14 : TyOk Try.prog 14 ty14 := ⟨⟨_, Try.underlying14, rfl⟩, ⟨_, _, rfl, rfl, rfl, rfl, fun c => ⟨⟨⟨_, rfl, Rep.str _⟩, rfl⟩, ⟨⟨_, rfl, Rep.int _ _⟩, rfl⟩, True.intro⟩⟩, nofun, fun _ => ⟨_, Try.underlying14, by kernel_rfl⟩, nofun, nofun, nofun, nofun⟩
def ty15 : Ty := ⟨false, 1, [.nilp], none, [], false, false, none, none⟩
set_option maxRecDepth 100000 in
theorem tyOk15 : TyOk Try.prog 15 ty15 := ⟨⟨_, Try.underlying15, rfl⟩, ⟨_, _, rfl, rfl, rfl, rfl, fun c => ⟨⟨rfl, rfl⟩, True.intro⟩⟩, nofun, fun h => absurd rfl h, nofun, nofun, nofun, nofun⟩
def ty16 : Ty := ⟨false, 1, [.nilp], none, [], false, false, none, none⟩
set_option maxRecDepth 100000 in
theorem tyOk16 : TyOk Try.prog 16 ty16 := ⟨⟨_, Try.underlying16, rfl⟩, ⟨_, _, rfl, rfl, rfl, rfl, fun c => ⟨⟨rfl, rfl⟩, True.intro⟩⟩, nofun, fun h => absurd rfl h, nofun, nofun, nofun, nofun⟩
def ty17 : Ty := ⟨false, 1, [.nilp], none, [], false, false, none, none⟩
set_option maxRecDepth 100000 in
theorem tyOk17 : TyOk Try.prog 17 ty17 := ⟨⟨_, Try.underlying17, rfl⟩, ⟨_, _, rfl, rfl, rfl, rfl, fun c => ⟨⟨rfl, rfl⟩, True.intro⟩⟩, nofun, fun h => absurd rfl h, nofun, nofun, nofun, nofun⟩
def ty18 : Ty := ⟨true, 1, [.nilp], none, [(0, 1)], false, false, none, none⟩
set_option maxRecDepth 100000 in
theorem tyOk18 : TyOk Try.prog 18 ty18 := ⟨⟨_, Try.underlying18, rfl⟩, ⟨_, _, rfl, rfl, rfl, rfl, fun c => ⟨⟨rfl, rfl⟩, True.intro⟩⟩, nofun, fun _ => ⟨_, Try.underlying18, by kernel_rfl⟩, nofun, nofun, nofun, nofun⟩
def ty19 : Ty := ⟨true, 1, [.nilp], none, [(0, 1)], false, false, none, none⟩
set_option maxRecDepth 100000 in
theorem tyOk19 : TyOk Try.prog 19 ty19 := ⟨⟨_, Try.underlying19, rfl⟩, ⟨_, _, rfl, rfl, rfl, rfl, fun c => ⟨⟨rfl, rfl⟩, True.intro⟩⟩, nofun, fun _ => ⟨_, Try.underlying19, by kernel_rfl⟩, nofun, nofun, nofun, nofun⟩
def ty21 : Ty := ⟨false, 1, [.pv (.int .i32) 0], none, [], false, false, some .i32, none⟩
set_option maxRecDepth 100000 in
theorem tyOk21 : TyOk Try.prog 21 ty21 := ⟨⟨_, Try.underlying21, rfl⟩, ⟨_, _, rfl, rfl, rfl, rfl, fun c => ⟨⟨⟨_, rfl, Rep.int _ _⟩, rfl⟩, True.intro⟩⟩, nofun, fun h => absurd rfl h, nofun, nofun, fun k h => by cases h; exact Try.underlying21, nofun⟩
def ty22 : Ty := ⟨false, 1, [.nils], some (100, .pair .str .str, 32), [], false, false, none, none⟩
set_option maxRecDepth 100000 in
theorem tyOk22 : TyOk Try.prog 22 ty22 := ⟨⟨_, Try.underlying22, rfl⟩, ⟨_, _, rfl, rfl, rfl, rfl, fun c => ⟨⟨rfl, rfl⟩, True.intro⟩⟩, fun e r b h => by cases h; exact ⟨Try.underlying22, by decide, _, _, rfl, rfl, rfl, rfl, rfl⟩, fun h => absurd rfl h, nofun, nofun, nofun, nofun⟩
def ty23 : Ty := ⟨false, 1, [.nils], some (102, .pair .str (.int .i64), 24), [], false, false, none, none⟩
set_option maxRecDepth 100000 in
theorem tyOk23 : TyOk Try.prog 23 ty23 := ⟨⟨_, Try.underlying23, rfl⟩, ⟨_, _, rfl, rfl, rfl, rfl, fun c => ⟨⟨rfl, rfl⟩, True.intro⟩⟩, fun e r b h => by cases h; exact ⟨Try.underlying23, by decide, _, _, rfl, rfl, rfl, rfl, rfl⟩, fun h => absurd rfl h, nofun, nofun, nofun, nofun⟩
def ty24 : Ty := ⟨true, 3, [.pv (.int .i64) 0, .nils, .nils], none, [(0, 1), (1, 1), (2, 1)], false, false, none, none⟩
set_option maxRecDepth 100000 in
theorem tyOk24 : TyOk Try.prog 24 ty24 := ⟨⟨_, Try.underlying24, rfl⟩, ⟨_, _, rfl, rfl, rfl, rfl, fun c => ⟨⟨⟨_, rfl, Rep.int _ _⟩, rfl⟩, ⟨rfl, rfl⟩, ⟨rfl, rfl⟩, True.intro⟩⟩, nofun, fun _ => ⟨_, Try.underlying24, by kernel_rfl⟩, nofun, nofun, nofun, nofun⟩
def ty25 : Ty := ⟨true, 3, [.pv (.int .i64) 0, .nils, .nils], none, [(0, 1), (1, 1), (2, 1)], false, false, none, none⟩
set_option maxRecDepth 100000 in
theorem tyOk25 : TyOk Try.prog 25 ty25 := ⟨⟨_, Try.underlying25, rfl⟩, ⟨_, _, rfl, rfl, rfl, rfl, fun c => ⟨⟨⟨_, rfl, Rep.int _ _⟩, rfl⟩, ⟨rfl, rfl⟩, ⟨rfl, rfl⟩, True.intro⟩⟩, nofun, fun _ => ⟨_, Try.underlying25, by kernel_rfl⟩, nofun, nofun, nofun, nofun⟩
def ty26 : Ty := ⟨false, 1, [.nils], some (72, .pair .str .bool, 24), [], false, false, none, none⟩
set_option maxRecDepth 100000 in
theorem tyOk26 : TyOk Try.prog 26 ty26 := ⟨⟨_, Try.underlying26, rfl⟩, ⟨_, _, rfl, rfl, rfl, rfl, fun c => ⟨⟨rfl, rfl⟩, True.intro⟩⟩, fun e r b h => by cases h; exact ⟨Try.underlying26, by decide, _, _, rfl, rfl, rfl, rfl, rfl⟩, fun h => absurd rfl h, nofun, nofun, nofun, nofun⟩
def ty30 : Ty := ⟨false, 1, [.nils], some (87, .pair .str .str, 32), [], false, false, none, none⟩
set_option maxRecDepth 100000 in
theorem tyOk30 : TyOk Try.prog 30 ty30 := ⟨⟨_, Try.underlying30, rfl⟩, ⟨_, _, rfl, rfl, rfl, rfl, fun c => ⟨⟨rfl, rfl⟩, True.intro⟩⟩, fun e r b h => by cases h; exact ⟨Try.underlying30, by decide, _, _, rfl, rfl, rfl, rfl, rfl⟩, fun h => absurd rfl h, nofun, nofun, nofun, nofun⟩
def ty31 : Ty := ⟨false, 1, [.nils], some (90, .pair .str (.int .i64), 24), [], false, false, none, none⟩
set_option maxRecDepth 100000 in
theorem tyOk31 : TyOk Try.prog 31 ty31 := ⟨⟨_, Try.underlying31, rfl⟩, ⟨_, _, rfl, rfl, rfl, rfl, fun c => ⟨⟨rfl, rfl⟩, True.intro⟩⟩, fun e r b h => by cases h; exact ⟨Try.underlying31, by decide, _, _, rfl, rfl, rfl, rfl, rfl⟩, fun h => absurd rfl h, nofun, nofun, nofun, nofun⟩
def ty32 : Ty := ⟨true, 3, [.pv (.int .i64) 0, .nils, .nils], none, [(0, 1), (1, 1), (2, 1)], false, false, none, none⟩
set_option maxRecDepth 100000 in
theorem tyOk32 : TyOk Try.prog 32 ty32 := ⟨⟨_, Try.underlying32, rfl⟩, ⟨_, _, rfl, rfl, rfl, rfl, fun c => ⟨⟨⟨_, rfl, Rep.int _ _⟩, rfl⟩, ⟨rfl, rfl⟩, ⟨rfl, rfl⟩, True.intro⟩⟩, nofun, fun _ => ⟨_, Try.underlying32, by kernel_rfl⟩, nofun, nofun, nofun, nofun⟩
def ty33 : Ty := ⟨true, 3, [.pv (.int .i64) 0, .nils, .nils], none, [(0, 1), (1, 1), (2, 1)], false, false, none, none⟩
set_option maxRecDepth 100000 in
theorem tyOk33 : TyOk Try.prog 33 ty33 := ⟨⟨_, Try.underlying33, rfl⟩, ⟨_, _, rfl, rfl, rfl, rfl, fun c => ⟨⟨⟨_, rfl, Rep.int _ _⟩, rfl⟩, ⟨rfl, rfl⟩, ⟨rfl, rfl⟩, True.intro⟩⟩, nofun, fun _ => ⟨_, Try.underlying33, by kernel_rfl⟩, nofun, nofun, nofun, nofun⟩
def ty35 : Ty := ⟨false, 1, [.nils], some (53, .pair .str .bool, 24), [], false, false, none, none⟩
set_option maxRecDepth 100000 in
theorem tyOk35 : TyOk Try.prog 35 ty35 := ⟨⟨_, Try.underlying35, rfl⟩, ⟨_, _, rfl, rfl, rfl, rfl, fun c => ⟨⟨rfl, rfl⟩, True.intro⟩⟩, fun e r b h => by cases h; exact ⟨Try.underlying35, by decide, _, _, rfl, rfl, rfl, rfl, rfl⟩, fun h => absurd rfl h, nofun, nofun, nofun, nofun⟩
def ty40 : Ty := ⟨false, 1, [.nils], some (5, .int .u8, 1), [], false, false, none, none⟩
set_option maxRecDepth 100000 in
theorem tyOk40 : TyOk Try.prog 40 ty40 := ⟨⟨_, Try.underlying40, rfl⟩, ⟨_, _, rfl, rfl, rfl, rfl, fun c => ⟨⟨rfl, rfl⟩, True.intro⟩⟩, fun e r b h => by cases h; exact ⟨Try.underlying40, by decide, _, _, rfl, rfl, rfl, rfl, rfl⟩, fun h => absurd rfl h, nofun, nofun, nofun, nofun⟩
def ty44 : Ty := ⟨false, 1, [.nils], some (3, .int .i64, 8), [], false, false, none, none⟩
set_option maxRecDepth 100000 in
theorem tyOk44 : TyOk Try.prog 44 ty44 := ⟨⟨_, Try.underlying44, rfl⟩, ⟨_, _, rfl, rfl, rfl, rfl, fun c => ⟨⟨rfl, rfl⟩, True.intro⟩⟩, fun e r b h => by cases h; exact ⟨Try.underlying44, by decide, _, _, rfl, rfl, rfl, rfl, rfl⟩, fun h => absurd rfl h, nofun, nofun, nofun, nofun⟩
def ty46 : Ty := ⟨false, 1, [.nils], some (33, .pair (.int .i64) (.pair (.sl (.pair .str .str)) (.sl (.pair .str (.int .i64)))), 56), [], false, false, none, none⟩
set_option maxRecDepth 100000 in
theorem tyOk46 : TyOk Try.prog 46 ty46 := ⟨⟨_, Try.underlying46, rfl⟩, ⟨_, _, rfl, rfl, rfl, rfl, fun c => ⟨⟨rfl, rfl⟩, True.intro⟩⟩, fun e r b h => by cases h; exact ⟨Try.underlying46, by decide, _, _, rfl, rfl, rfl, rfl, rfl⟩, fun h => absurd rfl h, nofun, nofun, nofun, nofun⟩
def ty52 : Ty := ⟨true, 2, [.pv .str [], .pv .bool false], none, [(0, 1), (1, 1)], false, false, none, none⟩
set_option maxRecDepth 100000 in
theorem tyOk52 : TyOk Try.prog 52 ty52 := ⟨⟨_, Try.underlying52, rfl⟩, ⟨_, _, rfl, rfl, rfl, rfl, fun c => ⟨⟨⟨_, rfl, Rep.str _⟩, rfl⟩, ⟨⟨_, rfl, Rep.bool _⟩, rfl⟩, True.intro⟩⟩, nofun, fun _ => ⟨_, Try.underlying52, by kernel_rfl⟩, nofun, nofun, nofun, nofun⟩
def ty53 : Ty := ⟨true, 2, [.pv .str [], .pv .bool false], none, [(0, 1), (1, 1)], false, false, none, some (.pair .str .bool)⟩
set_option maxRecDepth 100000 in
theorem tyOk53 : TyOk Try.prog 53 ty53 := ⟨⟨_, Try.underlying53, rfl⟩, ⟨_, _, rfl, rfl, rfl, rfl, fun c => ⟨⟨⟨_, rfl, Rep.str _⟩, rfl⟩, ⟨⟨_, rfl, Rep.bool _⟩, rfl⟩, True.intro⟩⟩, nofun, fun _ => ⟨_, Try.underlying53, by kernel_rfl⟩, nofun, nofun, nofun, fun r h => by cases h; exact eqs_of _ rfl (by kernel_rfl) (by kernel_rfl) (by kernel_rfl) [(false, 9, 0), (false, 4, 1)] (by kernel_rfl) (fun x y => ⟨⟨rfl, rfl, Try.underlying9⟩, ⟨⟨rfl, rfl, Try.underlying4⟩, True.intro⟩⟩)⟩
def ty60 : Ty := ⟨false, 1, [.nils], some (25, .pair (.int .i64) (.pair (.sl (.pair .str .str)) (.sl (.pair .str (.int .i64)))), 56), [], false, false, none, none⟩
set_option maxRecDepth 100000 in
theorem tyOk60 : TyOk Try.prog 60 ty60 := ⟨⟨_, Try.underlying60, rfl⟩, ⟨_, _, rfl, rfl, rfl, rfl, fun c => ⟨⟨rfl, rfl⟩, True.intro⟩⟩, fun e r b h => by cases h; exact ⟨Try.underlying60, by decide, _, _, rfl, rfl, rfl, rfl, rfl⟩, fun h => absurd rfl h, nofun, nofun, nofun, nofun⟩
def ty72 : Ty := ⟨true, 2, [.pv .str [], .pv .bool false], none, [(0, 1), (1, 1)], false, false, none, some (.pair .str .bool)⟩
set_option maxRecDepth 100000 in
theorem tyOk72 : TyOk Try.prog 72 ty72 := ⟨⟨_, Try.underlying72, rfl⟩, ⟨_, _, rfl, rfl, rfl, rfl, fun c => ⟨⟨⟨_, rfl, Rep.str _⟩, rfl⟩, ⟨⟨_, rfl, Rep.bool _⟩, rfl⟩, True.intro⟩⟩, nofun, fun _ => ⟨_, Try.underlying72, by kernel_rfl⟩, nofun, nofun, nofun, fun r h => by cases h; exact eqs_of _ rfl (by kernel_rfl) (by kernel_rfl) (by kernel_rfl) [(false, 9, 0), (false, 4, 1)] (by kernel_rfl) (fun x y => ⟨⟨rfl, rfl, Try.underlying9⟩, ⟨⟨rfl, rfl, Try.underlying4⟩, True.intro⟩⟩)⟩
def ty81 : Ty := ⟨false, 1, [.nilp], none, [], false, false, none, none⟩
set_option maxRecDepth 100000 in
theorem tyOk81 : TyOk Try.prog 81 ty81 := ⟨⟨_, Try.underlying81, rfl⟩, ⟨_, _, rfl, rfl, rfl, rfl, fun c => ⟨⟨rfl, rfl⟩, True.intro⟩⟩, nofun, fun h => absurd rfl h, nofun, nofun, nofun, nofun⟩
def ty86 : Ty := ⟨true, 2, [.pv .str [], .pv .str []], none, [(0, 1), (1, 1)], false, false, none, none⟩
set_option maxRecDepth 100000 in
theorem tyOk86 : TyOk Try.prog 86 ty86 := ⟨⟨_, Try.underlying86, rfl⟩, ⟨_, _, rfl, rfl, rfl, rfl, fun c => ⟨⟨⟨_, rfl, Rep.str _⟩, rfl⟩, ⟨⟨_, rfl, Rep.str _⟩, rfl⟩, True.intro⟩⟩, nofun, fun _ => ⟨_, Try.underlying86, by kernel_rfl⟩, nofun, nofun, nofun, nofun⟩
def ty87 : Ty := ⟨true, 2, [.pv .str [], .pv .str []], none, [(0, 1), (1, 1)], false, false, none, some (.pair .str .str)⟩
set_option maxRecDepth 100000 in
theorem tyOk87 : TyOk Try.prog 87 ty87 := ⟨⟨_, Try.underlying87, rfl⟩, ⟨_, _, rfl, rfl, rfl, rfl, fun c => ⟨⟨⟨_, rfl, Rep.str _⟩, rfl⟩, ⟨⟨_, rfl, Rep.str _⟩, rfl⟩, True.intro⟩⟩, nofun, fun _ => ⟨_, Try.underlying87, by kernel_rfl⟩, nofun, nofun, nofun, fun r h => by cases h; exact eqs_of _ rfl (by kernel_rfl) (by kernel_rfl) (by kernel_rfl) [(false, 9, 0), (false, 9, 1)] (by kernel_rfl) (fun x y => ⟨⟨rfl, rfl, Try.underlying9⟩, ⟨⟨rfl, rfl, Try.underlying9⟩, True.intro⟩⟩)⟩
def ty89 : Ty := ⟨true, 2, [.pv .str [], .pv (.int .i64) 0], none, [(0, 1), (1, 1)], false, false, none, none⟩
set_option maxRecDepth 100000 in
theorem tyOk89 : TyOk Try.prog 89 ty89 := ⟨⟨_, Try.underlying89, rfl⟩, ⟨_, _, rfl, rfl, rfl, rfl, fun c => ⟨⟨⟨_, rfl, Rep.str _⟩, rfl⟩, ⟨⟨_, rfl, Rep.int _ _⟩, rfl⟩, True.intro⟩⟩, nofun, fun _ => ⟨_, Try.underlying89, by kernel_rfl⟩, nofun, nofun, nofun, nofun⟩
def ty90 : Ty := ⟨true, 2, [.pv .str [], .pv (.int .i64) 0], none, [(0, 1), (1, 1)], false, false, none, some (.pair .str (.int .i64))⟩
set_option maxRecDepth 100000 in
theorem tyOk90 : TyOk Try.prog 90 ty90 := ⟨⟨_, Try.underlying90, rfl⟩, ⟨_, _, rfl, rfl, rfl, rfl, fun c => ⟨⟨⟨_, rfl, Rep.str _⟩, rfl⟩, ⟨⟨_, rfl, Rep.int _ _⟩, rfl⟩, True.intro⟩⟩, nofun, fun _ => ⟨_, Try.underlying90, by kernel_rfl⟩, nofun, nofun, nofun, fun r h => by cases h; exact eqs_of _ rfl (by kernel_rfl) (by kernel_rfl) (by kernel_rfl) [(false, 9, 0), (false, 3, 1)] (by kernel_rfl) (fun x y => ⟨⟨rfl, rfl, Try.underlying9⟩, ⟨⟨rfl, rfl, ⟨rfl, _, Try.underlying3⟩⟩, True.intro⟩⟩)⟩
def ty100 : Ty := ⟨true, 2, [.pv .str [], .pv .str []], none, [(0, 1), (1, 1)], false, false, none, some (.pair .str .str)⟩
set_option maxRecDepth 100000 in
theorem tyOk100 : TyOk Try.prog 100 ty100 := ⟨⟨_, Try.underlying100, rfl⟩, ⟨_, _, rfl, rfl, rfl, rfl, fun c => ⟨⟨⟨_, rfl, Rep.str _⟩, rfl⟩, ⟨⟨_, rfl, Rep.str _⟩, rfl⟩, True.intro⟩⟩, nofun, fun _ => ⟨_, Try.underlying100, by kernel_rfl⟩, nofun, nofun, nofun, fun r h => by cases h; exact eqs_of _ rfl (by kernel_rfl) (by kernel_rfl) (by kernel_rfl) [(false, 9, 0), (false, 9, 1)] (by kernel_rfl) (fun x y => ⟨⟨rfl, rfl, Try.underlying9⟩, ⟨⟨rfl, rfl, Try.underlying9⟩, True.intro⟩⟩)⟩
def ty102 : Ty := ⟨true, 2, [.pv .str [], .pv (.int .i64) 0], none, [(0, 1), (1, 1)], false, false, none, some (.pair .str (.int .i64))⟩
set_option maxRecDepth 100000 in
theorem tyOk102 : TyOk Try.prog 102 ty102 := ⟨⟨_, Try.underlying102, rfl⟩, ⟨_, _, rfl, rfl, rfl, rfl, fun c => ⟨⟨⟨_, rfl, Rep.str _⟩, rfl⟩, ⟨⟨_, rfl, Rep.int _ _⟩, rfl⟩, True.intro⟩⟩, nofun, fun _ => ⟨_, Try.underlying102, by kernel_rfl⟩, nofun, nofun, nofun, fun r h => by cases h; exact eqs_of _ rfl (by kernel_rfl) (by kernel_rfl) (by kernel_rfl) [(false, 9, 0), (false, 3, 1)] (by kernel_rfl) (fun x y => ⟨⟨rfl, rfl, Try.underlying9⟩, ⟨⟨rfl, rfl, ⟨rfl, _, Try.underlying3⟩⟩, True.intro⟩⟩)⟩
def ty109 : Ty := ⟨true, 2, [.nils, .pv (.int .i64) 0], none, [(0, 1), (1, 1)], false, false, none, none⟩
set_option maxRecDepth 100000 in
theorem tyOk109 : TyOk Try.prog 109 ty109 := ⟨⟨_, Try.underlying109, rfl⟩, ⟨_, _, rfl, rfl, rfl, rfl, fun c => ⟨⟨rfl, rfl⟩, ⟨⟨_, rfl, Rep.int _ _⟩, rfl⟩, True.intro⟩⟩, nofun, fun _ => ⟨_, Try.underlying109, by kernel_rfl⟩, nofun, nofun, nofun, nofun⟩
def ty110 : Ty := ⟨true, 2, [.nils, .pv (.int .i64) 0], none, [(0, 1), (1, 1)], false, false, none, none⟩
set_option maxRecDepth 100000 in
theorem tyOk110 : TyOk Try.prog 110 ty110 := ⟨⟨_, Try.underlying110, rfl⟩, ⟨_, _, rfl, rfl, rfl, rfl, fun c => ⟨⟨rfl, rfl⟩, ⟨⟨_, rfl, Rep.int _ _⟩, rfl⟩, True.intro⟩⟩, nofun, fun _ => ⟨_, Try.underlying110, by kernel_rfl⟩, nofun, nofun, nofun, nofun⟩
def ty115 : Ty := ⟨false, 1, [.nils], some (9, .str, 16), [], false, false, none, none⟩
set_option maxRecDepth 100000 in
theorem tyOk115 : TyOk Try.prog 115 ty115 := ⟨⟨_, Try.underlying115, rfl⟩, ⟨_, _, rfl, rfl, rfl, rfl, fun c => ⟨⟨rfl, rfl⟩, True.intro⟩⟩, fun e r b h => by cases h; exact ⟨Try.underlying115, by decide, _, _, rfl, rfl, rfl, rfl, rfl⟩, fun h => absurd rfl h, nofun, nofun, nofun, nofun⟩
def ty119 : Ty := ⟨false, 1, [.pv (.int .u64) 0], none, [], false, false, some .u64, none⟩
set_option maxRecDepth 100000 in
theorem tyOk119 : TyOk Try.prog 119 ty119 := ⟨⟨_, Try.underlying119, rfl⟩, ⟨_, _, rfl, rfl, rfl, rfl, fun c => ⟨⟨⟨_, rfl, Rep.int _ _⟩, rfl⟩, True.intro⟩⟩, nofun, fun h => absurd rfl h, nofun, nofun, fun k h => by cases h; exact Try.underlying119, nofun⟩
def ty122 : Ty := ⟨false, 1, [.pv (.int .i64) 0], none, [], false, false, some .i64, none⟩
set_option maxRecDepth 100000 in
theorem tyOk122 : TyOk Try.prog 122 ty122 := ⟨⟨_, Try.underlying122, rfl⟩, ⟨_, _, rfl, rfl, rfl, rfl, fun c => ⟨⟨⟨_, rfl, Rep.int _ _⟩, rfl⟩, True.intro⟩⟩, nofun, fun h => absurd rfl h, nofun, nofun, fun k h => by cases h; exact Try.underlying122, nofun⟩
def ty130 : Ty := ⟨false, 1, [.pv (.int .u32) 0], none, [], false, false, some .u32, none⟩
set_option maxRecDepth 100000 in
theorem tyOk130 : TyOk Try.prog 130 ty130 := ⟨⟨_, Try.underlying130, rfl⟩, ⟨_, _, rfl, rfl, rfl, rfl, fun c => ⟨⟨⟨_, rfl, Rep.int _ _⟩, rfl⟩, True.intro⟩⟩, nofun, fun h => absurd rfl h, nofun, nofun, fun k h => by cases h; exact Try.underlying130, nofun⟩
def ty132 : Ty := ⟨false, 1, [.pv (.int .u64) 0], none, [], false, false, some .u64, none⟩
set_option maxRecDepth 100000 in
theorem tyOk132 : TyOk Try.prog 132 ty132 := ⟨⟨_, Try.underlying132, rfl⟩, ⟨_, _, rfl, rfl, rfl, rfl, fun c => ⟨⟨⟨_, rfl, Rep.int _ _⟩, rfl⟩, True.intro⟩⟩, nofun, fun h => absurd rfl h, nofun, nofun, fun k h => by cases h; exact Try.underlying132, nofun⟩
def ty133 : Ty := ⟨false, 1, [.pv (.int .u64) 0], none, [], false, false, some .u64, none⟩
set_option maxRecDepth 100000 in
theorem tyOk133 : TyOk Try.prog 133 ty133 := ⟨⟨_, Try.underlying133, rfl⟩, ⟨_, _, rfl, rfl, rfl, rfl, fun c => ⟨⟨⟨_, rfl, Rep.int _ _⟩, rfl⟩, True.intro⟩⟩, nofun, fun h => absurd rfl h, nofun, nofun, fun k h => by cases h; exact Try.underlying133, nofun⟩
def ty137 : Ty := ⟨false, 1, [.nilp], none, [], false, false, none, none⟩
set_option maxRecDepth 100000 in
theorem tyOk137 : TyOk Try.prog 137 ty137 := ⟨⟨_, Try.underlying137, rfl⟩, ⟨_, _, rfl, rfl, rfl, rfl, fun c => ⟨⟨rfl, rfl⟩, True.intro⟩⟩, nofun, fun h => absurd rfl h, nofun, nofun, nofun, nofun⟩
def ty139 : Ty := ⟨false, 1, [.nilp], none, [], false, false, none, none⟩
set_option maxRecDepth 100000 in
theorem tyOk139 : TyOk Try.prog 139 ty139 := ⟨⟨_, Try.underlying139, rfl⟩, ⟨_, _, rfl, rfl, rfl, rfl, fun c => ⟨⟨rfl, rfl⟩, True.intro⟩⟩, nofun, fun h => absurd rfl h, nofun, nofun, nofun, nofun⟩
def ty143 : Ty := ⟨true, 4, [.nilp, .nilp, .nilp, .pv .str []], none, [(0, 1), (1, 1), (2, 1), (3, 1)], false, false, none, none⟩
set_option maxRecDepth 100000 in
theorem tyOk143 : TyOk Try.prog 143 ty143 := ⟨⟨_, Try.underlying143, rfl⟩, ⟨_, _, rfl, rfl, rfl, rfl, fun c => ⟨⟨rfl, rfl⟩, ⟨rfl, rfl⟩, ⟨rfl, rfl⟩, ⟨⟨_, rfl, Rep.str _⟩, rfl⟩, True.intro⟩⟩, nofun, fun _ => ⟨_, Try.underlying143, by kernel_rfl⟩, nofun, nofun, nofun, nofun⟩
def ty144 : Ty := ⟨true, 4, [.nilp, .nilp, .nilp, .pv .str []], none, [(0, 1), (1, 1), (2, 1), (3, 1)], false, false, none, none⟩
set_option maxRecDepth 100000 in
theorem tyOk144 : TyOk Try.prog 144 ty144 := ⟨⟨_, Try.underlying144, rfl⟩, ⟨_, _, rfl, rfl, rfl, rfl, fun c => ⟨⟨rfl, rfl⟩, ⟨rfl, rfl⟩, ⟨rfl, rfl⟩, ⟨⟨_, rfl, Rep.str _⟩, rfl⟩, True.intro⟩⟩, nofun, fun _ => ⟨_, Try.underlying144, by kernel_rfl⟩, nofun, nofun, nofun, nofun⟩
def ty146 : Ty := ⟨true, 0, [], none, [], false, false, none, none⟩
set_option maxRecDepth 100000 in
theorem tyOk146 : TyOk Try.prog 146 ty146 := ⟨⟨_, Try.underlying146, rfl⟩, ⟨_, _, rfl, rfl, rfl, rfl, fun c => True.intro⟩, nofun, fun h => absurd rfl h, nofun, nofun, nofun, nofun⟩
def ty147 : Ty := ⟨true, 0, [], none, [], false, false, none, none⟩
set_option maxRecDepth 100000 in
theorem tyOk147 : TyOk Try.prog 147 ty147 := ⟨⟨_, Try.underlying147, rfl⟩, ⟨_, _, rfl, rfl, rfl, rfl, fun c => True.intro⟩, nofun, fun h => absurd rfl h, nofun, nofun, nofun, nofun⟩
def ty149 : Ty := ⟨false, 1, [.pv (.int .u8) 0], none, [], false, false, some .u8, none⟩
set_option maxRecDepth 100000 in
theorem tyOk149 : TyOk Try.prog 149 ty149 := ⟨⟨_, Try.underlying149, rfl⟩, ⟨_, _, rfl, rfl, rfl, rfl, fun c => ⟨⟨⟨_, rfl, Rep.int _ _⟩, rfl⟩, True.intro⟩⟩, nofun, fun h => absurd rfl h, nofun, nofun, fun k h => by cases h; exact Try.underlying149, nofun⟩
def ty150 : Ty := ⟨false, 1, [.pv (.int .u8) 0], none, [], false, false, some .u8, none⟩
set_option maxRecDepth 100000 in
theorem tyOk150 : TyOk Try.prog 150 ty150 := ⟨⟨_, Try.underlying150, rfl⟩, ⟨_, _, rfl, rfl, rfl, rfl, fun c => ⟨⟨⟨_, rfl, Rep.int _ _⟩, rfl⟩, True.intro⟩⟩, nofun, fun h => absurd rfl h, nofun, nofun, fun k h => by cases h; exact Try.underlying150, nofun⟩
def ty152 : Ty := ⟨false, 1, [.nilp], none, [], false, false, none, none⟩
set_option maxRecDepth 100000 in
theorem tyOk152 : TyOk Try.prog 152 ty152 := ⟨⟨_, Try.underlying152, rfl⟩, ⟨_, _, rfl, rfl, rfl, rfl, fun c => ⟨⟨rfl, rfl⟩, True.intro⟩⟩, nofun, fun h => absurd rfl h, nofun, nofun, nofun, nofun⟩
def ty153 : Ty := ⟨false, 1, [.pv (.int .i32) 0], none, [], false, false, some .i32, none⟩
set_option maxRecDepth 100000 in
theorem tyOk153 : TyOk Try.prog 153 ty153 := ⟨⟨_, Try.underlying153, rfl⟩, ⟨_, _, rfl, rfl, rfl, rfl, fun c => ⟨⟨⟨_, rfl, Rep.int _ _⟩, rfl⟩, True.intro⟩⟩, nofun, fun h => absurd rfl h, nofun, nofun, fun k h => by cases h; exact Try.underlying153, nofun⟩
def ty154 : Ty := ⟨false, 1, [.pv (.int .i32) 0], none, [], false, false, some .i32, none⟩
set_option maxRecDepth 100000 in
theorem tyOk154 : TyOk Try.prog 154 ty154 := ⟨⟨_, Try.underlying154, rfl⟩, ⟨_, _, rfl, rfl, rfl, rfl, fun c => ⟨⟨⟨_, rfl, Rep.int _ _⟩, rfl⟩, True.intro⟩⟩, nofun, fun h => absurd rfl h, nofun, nofun, fun k h => by cases h; exact Try.underlying154, nofun⟩
def ty155 : Ty := ⟨true, 11, [.pv (.int .u64) 0, .pv (.int .u64) 0, .pv (.int .u32) 0, .pv (.int .u8) 0, .pv (.int .u8) 0, .pv (.int .u8) 0, .pv (.int .u8) 0, .dead, .nilp, .pv (.int .i32) 0, .pv (.int .i32) 0], none, [], false, false, none, none⟩
set_option maxRecDepth 100000 in
theorem tyOk155 : TyOk Try.prog 155 ty155 := ⟨⟨_, Try.underlying155, rfl⟩, ⟨_, _, rfl, rfl, rfl, rfl, fun c => ⟨⟨⟨_, rfl, Rep.int _ _⟩, rfl⟩, ⟨⟨_, rfl, Rep.int _ _⟩, rfl⟩, ⟨⟨_, rfl, Rep.int _ _⟩, rfl⟩, ⟨⟨_, rfl, Rep.int _ _⟩, rfl⟩, ⟨⟨_, rfl, Rep.int _ _⟩, rfl⟩, ⟨⟨_, rfl, Rep.int _ _⟩, rfl⟩, ⟨⟨_, rfl, Rep.int _ _⟩, rfl⟩, ⟨True.intro, rfl⟩, ⟨rfl, rfl⟩, ⟨⟨_, rfl, Rep.int _ _⟩, rfl⟩, ⟨⟨_, rfl, Rep.int _ _⟩, rfl⟩, True.intro⟩⟩, nofun, fun h => absurd rfl h, nofun, nofun, nofun, nofun⟩
def ty156 : Ty := ⟨true, 11, [.pv (.int .u64) 0, .pv (.int .u64) 0, .pv (.int .u32) 0, .pv (.int .u8) 0, .pv (.int .u8) 0, .pv (.int .u8) 0, .pv (.int .u8) 0, .dead, .nilp, .pv (.int .i32) 0, .pv (.int .i32) 0], none, [], false, false, none, none⟩
set_option maxRecDepth 100000 in
theorem tyOk156 : TyOk Try.prog 156 ty156 := ⟨⟨_, Try.underlying156, rfl⟩, ⟨_, _, rfl, rfl, rfl, rfl, fun c => ⟨⟨⟨_, rfl, Rep.int _ _⟩, rfl⟩, ⟨⟨_, rfl, Rep.int _ _⟩, rfl⟩, ⟨⟨_, rfl, Rep.int _ _⟩, rfl⟩, ⟨⟨_, rfl, Rep.int _ _⟩, rfl⟩, ⟨⟨_, rfl, Rep.int _ _⟩, rfl⟩, ⟨⟨_, rfl, Rep.int _ _⟩, rfl⟩, ⟨⟨_, rfl, Rep.int _ _⟩, rfl⟩, ⟨True.intro, rfl⟩, ⟨rfl, rfl⟩, ⟨⟨_, rfl, Rep.int _ _⟩, rfl⟩, ⟨⟨_, rfl, Rep.int _ _⟩, rfl⟩, True.intro⟩⟩, nofun, fun h => absurd rfl h, nofun, nofun, nofun, nofun⟩
def lookTy : List (Nat × Ty) → Nat → Option Ty
  | [], _ => none
  | (k, y) :: l, t => bif Nat.beq t k then some y else lookTy l t
def AllOk (P : Program) : List (Nat × Ty) → Prop
  | [] => True
  | (k, y) :: l => TyOk P k y ∧ AllOk P l
theorem allOk_look {P : Program} : ∀ {l : List (Nat × Ty)}, AllOk P l → ∀ t y, lookTy l t = some y → TyOk P t y
  | [], _, t, y, h => by cases h
  | (k, z) :: l, hl, t, y, h => by
    simp only [lookTy] at h
    cases e : Nat.beq t k with
    | true => rw [e] at h; cases h; rw [Nat.eq_of_beq_eq_true e]; exact hl.1
    | false => rw [e] at h; exact allOk_look hl.2 t y h
def tyL : List (Nat × Ty) := [(2, ty2), (3, ty3), (4, ty4), (5, ty5), (6, ty6), (7, ty7), (8, ty8), (9, ty9), (10, ty10), (11, ty11), (12, ty12), (13, ty13), (14, ty14), (15, ty15), (16, ty16), (17, ty17), (18, ty18), (19, ty19), (21, ty21), (22, ty22), (23, ty23), (24, ty24), (25, ty25), (26, ty26), (30, ty30), (31, ty31), (32, ty32), (33, ty33), (35, ty35), (40, ty40), (44, ty44), (46, ty46), (52, ty52), (53, ty53), (60, ty60), (72, ty72), (81, ty81), (86, ty86), (87, ty87), (89, ty89), (90, ty90), (100, ty100), (102, ty102), (109, ty109), (110, ty110), (115, ty115), (119, ty119), (122, ty122), (130, ty130), (132, ty132), (133, ty133), (137, ty137), (139, ty139), (143, ty143), (144, ty144), (146, ty146), (147, ty147), (149, ty149), (150, ty150), (152, ty152), (153, ty153), (154, ty154), (155, ty155), (156, ty156)]
theorem tyL_ok : AllOk Try.prog tyL := ⟨tyOk2, tyOk3, tyOk4, tyOk5, tyOk6, tyOk7, tyOk8, tyOk9, tyOk10, tyOk11, tyOk12, tyOk13, tyOk14, tyOk15, tyOk16, tyOk17, tyOk18, tyOk19, tyOk21, tyOk22, tyOk23, tyOk24, tyOk25, tyOk26, tyOk30, tyOk31, tyOk32, tyOk33, tyOk35, tyOk40, tyOk44, tyOk46, tyOk52, tyOk53, tyOk60, tyOk72, tyOk81, tyOk86, tyOk87, tyOk89, tyOk90, tyOk100, tyOk102, tyOk109, tyOk110, tyOk115, tyOk119, tyOk122, tyOk130, tyOk132, tyOk133, tyOk137, tyOk139, tyOk143, tyOk144, tyOk146, tyOk147, tyOk149, tyOk150, tyOk152, tyOk153, tyOk154, tyOk155, tyOk156, True.intro⟩
def lookM : List (Nat × Model) → Nat → List Model
  | [], _ => []
  | (k, m) :: l, f => bif Nat.beq f k then m :: lookM l f else lookM l f
def FnsOk (P : Program) : List (Nat × Model) → Prop
  | [] => True
  | (k, m) :: l => ModelOk P k m ∧ FnsOk P l
theorem fnsOk_look {P : Program} : ∀ {l : List (Nat × Model)}, FnsOk P l → ∀ f m, m ∈ lookM l f → ModelOk P f m
  | [], _, f, m, h => by cases h
  | (k, x) :: l, hl, f, m, h => by
    simp only [lookM] at h
    cases e : Nat.beq f k with
    | true =>
      rw [e] at h
      rcases List.mem_cons.1 h with h | h
      · subst h; rw [Nat.eq_of_beq_eq_true e]; exact hl.1
      · exact fnsOk_look hl.2 f m h
    | false => rw [e] at h; exact fnsOk_look hl.2 f m h
theorem fnsOk_nil {P : Program} : FnsOk P [] := True.intro
theorem fnsOk_cons {P : Program} {k : Nat} {m : Model} {l : List (Nat × Model)} (h : ModelOk P k m) (hl : FnsOk P l) : FnsOk P ((k, m) :: l) := And.intro h hl
def memB : List Nat → Nat → Bool
  | [], _ => false
  | k :: l, j => bif Nat.beq j k then true else memB l j
noncomputable def mkEnv (l : List (Nat × Model)) (wr res : List Nat) (dw : List Nat := []) : Env := ⟨Try.prog, lookTy tyL, lookM l, memB wr, memB res, memB dw⟩
theorem mkEnv_ok {l : List (Nat × Model)} (h : FnsOk Try.prog l) (wr res : List Nat) (dw : List Nat := []) : EnvOk (mkEnv l wr res dw) := ⟨by kernel_rfl, allOk_look tyL_ok, fnsOk_look h⟩
end Go.Proofs.Ytjggioppicabbaa
