/- The table of types, by program. -/
import Derived.Test.YtcjbjmbialienaaGreatK25
import Derived.Test.YtcjbjmbialienaaGreatProg
import Derived.KernelRfl
set_option linter.unusedSimpArgs false
set_option linter.unusedVariables false
namespace Go.Proofs.YtcjbjmbialienaaGreat
open Go.RowKit
def ty2 : Ty := ⟨false, 1, [.pv (.int .i64) 0], none, [], false, false, some .i64, none, none, false, [], none⟩
set_option maxRecDepth 100000 in
theorem tyOk2 : TyOk Tryz.prog 2 ty2 := ⟨⟨_, Tryz.underlying2, rfl⟩, ⟨_, _, rfl, rfl, rfl, rfl, fun c => ⟨⟨⟨_, rfl, Rep.int _ _⟩, rfl⟩, True.intro⟩⟩, nofun, fun h => absurd rfl h, nofun, nofun, fun k h => by cases h; exact Tryz.underlying2, nofun, nofun, nofun, fun h => absurd rfl h, nofun⟩
def ty3 : Ty := ⟨false, 1, [.pv (.int .i64) 0], none, [], false, false, some .i64, none, none, false, [], none⟩
set_option maxRecDepth 100000 in
theorem tyOk3 : TyOk Tryz.prog 3 ty3 := ⟨⟨_, Tryz.underlying3, rfl⟩, ⟨_, _, rfl, rfl, rfl, rfl, fun c => ⟨⟨⟨_, rfl, Rep.int _ _⟩, rfl⟩, True.intro⟩⟩, nofun, fun h => absurd rfl h, nofun, nofun, fun k h => by cases h; exact Tryz.underlying3, nofun, nofun, nofun, fun h => absurd rfl h, nofun⟩
def ty4 : Ty := ⟨false, 1, [.pv .bool false], none, [], false, true, none, none, none, false, [], none⟩
set_option maxRecDepth 100000 in
theorem tyOk4 : TyOk Tryz.prog 4 ty4 := ⟨⟨_, Tryz.underlying4, rfl⟩, ⟨_, _, rfl, rfl, rfl, rfl, fun c => ⟨⟨⟨_, rfl, Rep.bool _⟩, rfl⟩, True.intro⟩⟩, nofun, fun h => absurd rfl h, nofun, fun _ => Tryz.underlying4, nofun, nofun, nofun, nofun, fun h => absurd rfl h, nofun⟩
def ty5 : Ty := ⟨false, 1, [.pv (.int .u8) 0], none, [], false, false, some .u8, none, none, false, [], none⟩
set_option maxRecDepth 100000 in
theorem tyOk5 : TyOk Tryz.prog 5 ty5 := ⟨⟨_, Tryz.underlying5, rfl⟩, ⟨_, _, rfl, rfl, rfl, rfl, fun c => ⟨⟨⟨_, rfl, Rep.int _ _⟩, rfl⟩, True.intro⟩⟩, nofun, fun h => absurd rfl h, nofun, nofun, fun k h => by cases h; exact Tryz.underlying5, nofun, nofun, nofun, fun h => absurd rfl h, nofun⟩
def ty6 : Ty := ⟨false, 1, [.pv (.int .u8) 0], none, [], false, false, some .u8, none, none, false, [], none⟩
set_option maxRecDepth 100000 in
theorem tyOk6 : TyOk Tryz.prog 6 ty6 := ⟨⟨_, Tryz.underlying6, rfl⟩, ⟨_, _, rfl, rfl, rfl, rfl, fun c => ⟨⟨⟨_, rfl, Rep.int _ _⟩, rfl⟩, True.intro⟩⟩, nofun, fun h => absurd rfl h, nofun, nofun, fun k h => by cases h; exact Tryz.underlying6, nofun, nofun, nofun, fun h => absurd rfl h, nofun⟩
def ty7 : Ty := ⟨true, 4, [.pv (.int .i64) 0, .pv (.int .i64) 0, .pv .bool false, .pv (.int .u8) 0], none, [(0, 1), (1, 1), (2, 1), (3, 1)], false, false, none, none, none, false, [(2, 0), (3, 1), (4, 2), (6, 3)], none⟩
set_option maxRecDepth 100000 in
theorem tyOk7 : TyOk Tryz.prog 7 ty7 := ⟨⟨_, Tryz.underlying7, rfl⟩, ⟨_, _, rfl, rfl, rfl, rfl, fun c => ⟨⟨⟨_, rfl, Rep.int _ _⟩, rfl⟩, ⟨⟨_, rfl, Rep.int _ _⟩, rfl⟩, ⟨⟨_, rfl, Rep.bool _⟩, rfl⟩, ⟨⟨_, rfl, Rep.int _ _⟩, rfl⟩, True.intro⟩⟩, nofun, fun _ => ⟨_, Tryz.underlying7, by kernel_rfl⟩, nofun, nofun, nofun, nofun, nofun, nofun, fun _ => ⟨_, Tryz.underlying7, by kernel_rfl⟩, nofun⟩
def ty8 : Ty := ⟨true, 4, [.pv (.int .i64) 0, .pv (.int .i64) 0, .pv .bool false, .pv (.int .u8) 0], none, [(0, 1), (1, 1), (2, 1), (3, 1)], false, false, none, none, none, false, [(2, 0), (3, 1), (4, 2), (6, 3)], none⟩
set_option maxRecDepth 100000 in
theorem tyOk8 : TyOk Tryz.prog 8 ty8 := ⟨⟨_, Tryz.underlying8, rfl⟩, ⟨_, _, rfl, rfl, rfl, rfl, fun c => ⟨⟨⟨_, rfl, Rep.int _ _⟩, rfl⟩, ⟨⟨_, rfl, Rep.int _ _⟩, rfl⟩, ⟨⟨_, rfl, Rep.bool _⟩, rfl⟩, ⟨⟨_, rfl, Rep.int _ _⟩, rfl⟩, True.intro⟩⟩, nofun, fun _ => ⟨_, Tryz.underlying8, by kernel_rfl⟩, nofun, nofun, nofun, nofun, nofun, nofun, fun _ => ⟨_, Tryz.underlying8, by kernel_rfl⟩, nofun⟩
def ty9 : Ty := ⟨false, 1, [.pv .str []], none, [], true, false, none, none, none, false, [], none⟩
set_option maxRecDepth 100000 in
theorem tyOk9 : TyOk Tryz.prog 9 ty9 := ⟨⟨_, Tryz.underlying9, rfl⟩, ⟨_, _, rfl, rfl, rfl, rfl, fun c => ⟨⟨⟨_, rfl, Rep.str _⟩, rfl⟩, True.intro⟩⟩, nofun, fun h => absurd rfl h, fun _ => Tryz.underlying9, nofun, nofun, nofun, nofun, nofun, fun h => absurd rfl h, nofun⟩
def ty10 : Ty := ⟨false, 1, [.pv .str []], none, [], true, false, none, none, none, false, [], none⟩
set_option maxRecDepth 100000 in
theorem tyOk10 : TyOk Tryz.prog 10 ty10 := ⟨⟨_, Tryz.underlying10, rfl⟩, ⟨_, _, rfl, rfl, rfl, rfl, fun c => ⟨⟨⟨_, rfl, Rep.str _⟩, rfl⟩, True.intro⟩⟩, nofun, fun h => absurd rfl h, fun _ => Tryz.underlying10, nofun, nofun, nofun, nofun, nofun, fun h => absurd rfl h, nofun⟩
def ty11 : Ty := ⟨false, 1, [.pv .str []], none, [], true, false, none, none, none, false, [], none⟩
set_option maxRecDepth 100000 in
theorem tyOk11 : TyOk Tryz.prog 11 ty11 := ⟨⟨_, Tryz.underlying11, rfl⟩, ⟨_, _, rfl, rfl, rfl, rfl, fun c => ⟨⟨⟨_, rfl, Rep.str _⟩, rfl⟩, True.intro⟩⟩, nofun, fun h => absurd rfl h, fun _ => Tryz.underlying11, nofun, nofun, nofun, nofun, nofun, fun h => absurd rfl h, nofun⟩
def ty12 : Ty := ⟨false, 1, [.pv (.int .u64) 0], none, [], false, false, some .u64, none, none, false, [], none⟩
set_option maxRecDepth 100000 in
theorem tyOk12 : TyOk Tryz.prog 12 ty12 := ⟨⟨_, Tryz.underlying12, rfl⟩, ⟨_, _, rfl, rfl, rfl, rfl, fun c => ⟨⟨⟨_, rfl, Rep.int _ _⟩, rfl⟩, True.intro⟩⟩, nofun, fun h => absurd rfl h, nofun, nofun, fun k h => by cases h; exact Tryz.underlying12, nofun, nofun, nofun, fun h => absurd rfl h, nofun⟩
def ty13 : Ty := ⟨true, 2, [.pv .str [], .pv (.int .u64) 0], none, [(0, 1), (1, 1)], false, false, none, none, none, false, [(9, 0), (12, 1)], none⟩
set_option maxRecDepth 100000 in
theorem tyOk13 : TyOk Tryz.prog 13 ty13 := ⟨⟨_, Tryz.underlying13, rfl⟩, ⟨_, _, rfl, rfl, rfl, rfl, fun c => ⟨⟨⟨_, rfl, Rep.str _⟩, rfl⟩, ⟨⟨_, rfl, Rep.int _ _⟩, rfl⟩, True.intro⟩⟩, nofun, fun _ => ⟨_, Tryz.underlying13, by kernel_rfl⟩, nofun, nofun, nofun, nofun, nofun, nofun, fun _ => ⟨_, Tryz.underlying13, by kernel_rfl⟩, nofun⟩
def ty14 : Ty := ⟨true, 2, [.pv .str [], .pv (.int .u64) 0], none, [(0, 1), (1, 1)], false, false, none, none, none, false, [(9, 0), (12, 1)], none⟩
set_option maxRecDepth 100000 in
theorem tyOk14 : TyOk Tryz.prog 14 ty14 := ⟨⟨_, Tryz.underlying14, rfl⟩, ⟨_, _, rfl, rfl, rfl, rfl, fun c => ⟨⟨⟨_, rfl, Rep.str _⟩, rfl⟩, ⟨⟨_, rfl, Rep.int _ _⟩, rfl⟩, True.intro⟩⟩, nofun, fun _ => ⟨_, Tryz.underlying14, by kernel_rfl⟩, nofun, nofun, nofun, nofun, nofun, nofun, fun _ => ⟨_, Tryz.underlying14, by kernel_rfl⟩, nofun⟩
def ty15 : Ty := ⟨false, 1, [.nilp], none, [], false, false, none, none, none, true, [], none⟩
set_option maxRecDepth 100000 in
theorem tyOk15 : TyOk Tryz.prog 15 ty15 := ⟨⟨_, Tryz.underlying15, rfl⟩, ⟨_, _, rfl, rfl, rfl, rfl, fun c => ⟨⟨rfl, rfl⟩, True.intro⟩⟩, nofun, fun h => absurd rfl h, nofun, nofun, nofun, nofun, nofun, fun _ => ⟨_, Tryz.underlying15⟩, fun h => absurd rfl h, nofun⟩
def ty16 : Ty := ⟨false, 1, [.nilp], none, [], false, false, none, none, none, true, [], none⟩
set_option maxRecDepth 100000 in
theorem tyOk16 : TyOk Tryz.prog 16 ty16 := ⟨⟨_, Tryz.underlying16, rfl⟩, ⟨_, _, rfl, rfl, rfl, rfl, fun c => ⟨⟨rfl, rfl⟩, True.intro⟩⟩, nofun, fun h => absurd rfl h, nofun, nofun, nofun, nofun, nofun, fun _ => ⟨_, Tryz.underlying16⟩, fun h => absurd rfl h, nofun⟩
def ty17 : Ty := ⟨false, 1, [.nilp], none, [], false, false, none, none, none, true, [], none⟩
set_option maxRecDepth 100000 in
theorem tyOk17 : TyOk Tryz.prog 17 ty17 := ⟨⟨_, Tryz.underlying17, rfl⟩, ⟨_, _, rfl, rfl, rfl, rfl, fun c => ⟨⟨rfl, rfl⟩, True.intro⟩⟩, nofun, fun h => absurd rfl h, nofun, nofun, nofun, nofun, nofun, fun _ => ⟨_, Tryz.underlying17⟩, fun h => absurd rfl h, nofun⟩
def ty18 : Ty := ⟨true, 1, [.nilp], none, [(0, 1)], false, false, none, none, none, false, [(17, 0)], none⟩
set_option maxRecDepth 100000 in
theorem tyOk18 : TyOk Tryz.prog 18 ty18 := ⟨⟨_, Tryz.underlying18, rfl⟩, ⟨_, _, rfl, rfl, rfl, rfl, fun c => ⟨⟨rfl, rfl⟩, True.intro⟩⟩, nofun, fun _ => ⟨_, Tryz.underlying18, by kernel_rfl⟩, nofun, nofun, nofun, nofun, nofun, nofun, fun _ => ⟨_, Tryz.underlying18, by kernel_rfl⟩, nofun⟩
def ty19 : Ty := ⟨true, 1, [.nilp], none, [(0, 1)], false, false, none, none, none, false, [(17, 0)], none⟩
set_option maxRecDepth 100000 in
theorem tyOk19 : TyOk Tryz.prog 19 ty19 := ⟨⟨_, Tryz.underlying19, rfl⟩, ⟨_, _, rfl, rfl, rfl, rfl, fun c => ⟨⟨rfl, rfl⟩, True.intro⟩⟩, nofun, fun _ => ⟨_, Tryz.underlying19, by kernel_rfl⟩, nofun, nofun, nofun, nofun, nofun, nofun, fun _ => ⟨_, Tryz.underlying19, by kernel_rfl⟩, nofun⟩
def ty21 : Ty := ⟨false, 1, [.pv (.int .i32) 0], none, [], false, false, some .i32, none, none, false, [], none⟩
set_option maxRecDepth 100000 in
theorem tyOk21 : TyOk Tryz.prog 21 ty21 := ⟨⟨_, Tryz.underlying21, rfl⟩, ⟨_, _, rfl, rfl, rfl, rfl, fun c => ⟨⟨⟨_, rfl, Rep.int _ _⟩, rfl⟩, True.intro⟩⟩, nofun, fun h => absurd rfl h, nofun, nofun, fun k h => by cases h; exact Tryz.underlying21, nofun, nofun, nofun, fun h => absurd rfl h, nofun⟩
def ty22 : Ty := ⟨false, 1, [.nils], some (5, .int .u8, 1), [], false, false, none, none, none, false, [], none⟩
set_option maxRecDepth 100000 in
theorem tyOk22 : TyOk Tryz.prog 22 ty22 := ⟨⟨_, Tryz.underlying22, rfl⟩, ⟨_, _, rfl, rfl, rfl, rfl, fun c => ⟨⟨rfl, rfl⟩, True.intro⟩⟩, fun e r b h => by cases h; exact ⟨Tryz.underlying22, by decide, _, _, rfl, rfl, rfl, rfl, rfl⟩, fun h => absurd rfl h, nofun, nofun, nofun, nofun, nofun, nofun, fun h => absurd rfl h, nofun⟩
def ty23 : Ty := ⟨false, 1, [.nils], some (9, .str, 16), [], false, false, none, none, none, false, [], none⟩
set_option maxRecDepth 100000 in
theorem tyOk23 : TyOk Tryz.prog 23 ty23 := ⟨⟨_, Tryz.underlying23, rfl⟩, ⟨_, _, rfl, rfl, rfl, rfl, fun c => ⟨⟨rfl, rfl⟩, True.intro⟩⟩, fun e r b h => by cases h; exact ⟨Tryz.underlying23, by decide, _, _, rfl, rfl, rfl, rfl, rfl⟩, fun h => absurd rfl h, nofun, nofun, nofun, nofun, nofun, nofun, fun h => absurd rfl h, nofun⟩
def ty24 : Ty := ⟨false, 1, [.nils], some (98, .pair (.sl .str) .str, 40), [], false, false, none, none, none, false, [], none⟩
set_option maxRecDepth 100000 in
theorem tyOk24 : TyOk Tryz.prog 24 ty24 := ⟨⟨_, Tryz.underlying24, rfl⟩, ⟨_, _, rfl, rfl, rfl, rfl, fun c => ⟨⟨rfl, rfl⟩, True.intro⟩⟩, fun e r b h => by cases h; exact ⟨Tryz.underlying24, by decide, _, _, rfl, rfl, rfl, rfl, rfl⟩, fun h => absurd rfl h, nofun, nofun, nofun, nofun, nofun, nofun, fun h => absurd rfl h, nofun⟩
def ty25 : Ty := ⟨true, 2, [.nils, .nils], none, [(0, 1), (1, 1)], false, false, none, none, none, false, [(23, 0), (24, 1)], none⟩
set_option maxRecDepth 100000 in
theorem tyOk25 : TyOk Tryz.prog 25 ty25 := ⟨⟨_, Tryz.underlying25, rfl⟩, ⟨_, _, rfl, rfl, rfl, rfl, fun c => ⟨⟨rfl, rfl⟩, ⟨rfl, rfl⟩, True.intro⟩⟩, nofun, fun _ => ⟨_, Tryz.underlying25, by kernel_rfl⟩, nofun, nofun, nofun, nofun, nofun, nofun, fun _ => ⟨_, Tryz.underlying25, by kernel_rfl⟩, nofun⟩
def ty26 : Ty := ⟨true, 2, [.nils, .nils], none, [(0, 1), (1, 1)], false, false, none, none, none, false, [(23, 0), (24, 1)], none⟩
set_option maxRecDepth 100000 in
theorem tyOk26 : TyOk Tryz.prog 26 ty26 := ⟨⟨_, Tryz.underlying26, rfl⟩, ⟨_, _, rfl, rfl, rfl, rfl, fun c => ⟨⟨rfl, rfl⟩, ⟨rfl, rfl⟩, True.intro⟩⟩, nofun, fun _ => ⟨_, Tryz.underlying26, by kernel_rfl⟩, nofun, nofun, nofun, nofun, nofun, nofun, fun _ => ⟨_, Tryz.underlying26, by kernel_rfl⟩, nofun⟩
def ty27 : Ty := ⟨false, 1, [.nils], some (102, .pair (.int .i64) (.pair (.sl (.pair .str .str)) (.sl (.pair .str (.int .i64)))), 56), [], false, false, none, none, none, false, [], none⟩
set_option maxRecDepth 100000 in
theorem tyOk27 : TyOk Tryz.prog 27 ty27 := ⟨⟨_, Tryz.underlying27, rfl⟩, ⟨_, _, rfl, rfl, rfl, rfl, fun c => ⟨⟨rfl, rfl⟩, True.intro⟩⟩, fun e r b h => by cases h; exact ⟨Tryz.underlying27, by decide, _, _, rfl, rfl, rfl, rfl, rfl⟩, fun h => absurd rfl h, nofun, nofun, nofun, nofun, nofun, nofun, fun h => absurd rfl h, nofun⟩
def ty28 : Ty := ⟨false, 1, [.nils], some (66, .pair .str (.pair .str (.sl (.pair (.int .i64) (.sl (.int .i64))))), 56), [], false, false, none, none, none, false, [], none⟩
set_option maxRecDepth 100000 in
theorem tyOk28 : TyOk Tryz.prog 28 ty28 := ⟨⟨_, Tryz.underlying28, rfl⟩, ⟨_, _, rfl, rfl, rfl, rfl, fun c => ⟨⟨rfl, rfl⟩, True.intro⟩⟩, fun e r b h => by cases h; exact ⟨Tryz.underlying28, by decide, _, _, rfl, rfl, rfl, rfl, rfl⟩, fun h => absurd rfl h, nofun, nofun, nofun, nofun, nofun, nofun, fun h => absurd rfl h, nofun⟩
def ty29 : Ty := ⟨true, 2, [.nils, .nils], none, [(0, 1), (1, 1)], false, false, none, none, none, false, [(27, 0), (28, 1)], none⟩
set_option maxRecDepth 100000 in
theorem tyOk29 : TyOk Tryz.prog 29 ty29 := ⟨⟨_, Tryz.underlying29, rfl⟩, ⟨_, _, rfl, rfl, rfl, rfl, fun c => ⟨⟨rfl, rfl⟩, ⟨rfl, rfl⟩, True.intro⟩⟩, nofun, fun _ => ⟨_, Tryz.underlying29, by kernel_rfl⟩, nofun, nofun, nofun, nofun, nofun, nofun, fun _ => ⟨_, Tryz.underlying29, by kernel_rfl⟩, nofun⟩
def ty30 : Ty := ⟨true, 2, [.nils, .nils], none, [(0, 1), (1, 1)], false, false, none, none, none, false, [(27, 0), (28, 1)], none⟩
set_option maxRecDepth 100000 in
theorem tyOk30 : TyOk Tryz.prog 30 ty30 := ⟨⟨_, Tryz.underlying30, rfl⟩, ⟨_, _, rfl, rfl, rfl, rfl, fun c => ⟨⟨rfl, rfl⟩, ⟨rfl, rfl⟩, True.intro⟩⟩, nofun, fun _ => ⟨_, Tryz.underlying30, by kernel_rfl⟩, nofun, nofun, nofun, nofun, nofun, nofun, fun _ => ⟨_, Tryz.underlying30, by kernel_rfl⟩, nofun⟩
def ty39 : Ty := ⟨false, 1, [.nils], some (77, .pair (.int .i64) (.sl (.int .i64)), 32), [], false, false, none, none, none, false, [], none⟩
set_option maxRecDepth 100000 in
theorem tyOk39 : TyOk Tryz.prog 39 ty39 := ⟨⟨_, Tryz.underlying39, rfl⟩, ⟨_, _, rfl, rfl, rfl, rfl, fun c => ⟨⟨rfl, rfl⟩, True.intro⟩⟩, fun e r b h => by cases h; exact ⟨Tryz.underlying39, by decide, _, _, rfl, rfl, rfl, rfl, rfl⟩, fun h => absurd rfl h, nofun, nofun, nofun, nofun, nofun, nofun, fun h => absurd rfl h, nofun⟩
def ty43 : Ty := ⟨false, 1, [.nils], some (118, .pair (.sl .str) .str, 40), [], false, false, none, none, none, false, [], none⟩
set_option maxRecDepth 100000 in
theorem tyOk43 : TyOk Tryz.prog 43 ty43 := ⟨⟨_, Tryz.underlying43, rfl⟩, ⟨_, _, rfl, rfl, rfl, rfl, fun c => ⟨⟨rfl, rfl⟩, True.intro⟩⟩, fun e r b h => by cases h; exact ⟨Tryz.underlying43, by decide, _, _, rfl, rfl, rfl, rfl, rfl⟩, fun h => absurd rfl h, nofun, nofun, nofun, nofun, nofun, nofun, fun h => absurd rfl h, nofun⟩
def ty44 : Ty := ⟨true, 2, [.nils, .nils], none, [(0, 1), (1, 1)], false, false, none, none, none, false, [(23, 0), (43, 1)], none⟩
set_option maxRecDepth 100000 in
theorem tyOk44 : TyOk Tryz.prog 44 ty44 := ⟨⟨_, Tryz.underlying44, rfl⟩, ⟨_, _, rfl, rfl, rfl, rfl, fun c => ⟨⟨rfl, rfl⟩, ⟨rfl, rfl⟩, True.intro⟩⟩, nofun, fun _ => ⟨_, Tryz.underlying44, by kernel_rfl⟩, nofun, nofun, nofun, nofun, nofun, nofun, fun _ => ⟨_, Tryz.underlying44, by kernel_rfl⟩, nofun⟩
def ty45 : Ty := ⟨true, 2, [.nils, .nils], none, [(0, 1), (1, 1)], false, false, none, none, none, false, [(23, 0), (43, 1)], none⟩
set_option maxRecDepth 100000 in
theorem tyOk45 : TyOk Tryz.prog 45 ty45 := ⟨⟨_, Tryz.underlying45, rfl⟩, ⟨_, _, rfl, rfl, rfl, rfl, fun c => ⟨⟨rfl, rfl⟩, ⟨rfl, rfl⟩, True.intro⟩⟩, nofun, fun _ => ⟨_, Tryz.underlying45, by kernel_rfl⟩, nofun, nofun, nofun, nofun, nofun, nofun, fun _ => ⟨_, Tryz.underlying45, by kernel_rfl⟩, nofun⟩
def ty46 : Ty := ⟨false, 1, [.nils], some (123, .pair (.int .i64) (.pair (.sl (.pair .str .str)) (.sl (.pair .str (.int .i64)))), 56), [], false, false, none, none, none, false, [], none⟩
set_option maxRecDepth 100000 in
theorem tyOk46 : TyOk Tryz.prog 46 ty46 := ⟨⟨_, Tryz.underlying46, rfl⟩, ⟨_, _, rfl, rfl, rfl, rfl, fun c => ⟨⟨rfl, rfl⟩, True.intro⟩⟩, fun e r b h => by cases h; exact ⟨Tryz.underlying46, by decide, _, _, rfl, rfl, rfl, rfl, rfl⟩, fun h => absurd rfl h, nofun, nofun, nofun, nofun, nofun, nofun, fun h => absurd rfl h, nofun⟩
def ty47 : Ty := ⟨false, 1, [.nils], some (127, .pair .str (.pair .str (.sl (.pair (.int .i64) (.sl (.int .i64))))), 56), [], false, false, none, none, none, false, [], none⟩
set_option maxRecDepth 100000 in
theorem tyOk47 : TyOk Tryz.prog 47 ty47 := ⟨⟨_, Tryz.underlying47, rfl⟩, ⟨_, _, rfl, rfl, rfl, rfl, fun c => ⟨⟨rfl, rfl⟩, True.intro⟩⟩, fun e r b h => by cases h; exact ⟨Tryz.underlying47, by decide, _, _, rfl, rfl, rfl, rfl, rfl⟩, fun h => absurd rfl h, nofun, nofun, nofun, nofun, nofun, nofun, fun h => absurd rfl h, nofun⟩
def ty48 : Ty := ⟨true, 2, [.nils, .nils], none, [(0, 1), (1, 1)], false, false, none, none, none, false, [(46, 0), (47, 1)], none⟩
set_option maxRecDepth 100000 in
theorem tyOk48 : TyOk Tryz.prog 48 ty48 := ⟨⟨_, Tryz.underlying48, rfl⟩, ⟨_, _, rfl, rfl, rfl, rfl, fun c => ⟨⟨rfl, rfl⟩, ⟨rfl, rfl⟩, True.intro⟩⟩, nofun, fun _ => ⟨_, Tryz.underlying48, by kernel_rfl⟩, nofun, nofun, nofun, nofun, nofun, nofun, fun _ => ⟨_, Tryz.underlying48, by kernel_rfl⟩, nofun⟩
def ty49 : Ty := ⟨true, 2, [.nils, .nils], none, [(0, 1), (1, 1)], false, false, none, none, none, false, [(46, 0), (47, 1)], none⟩
set_option maxRecDepth 100000 in
theorem tyOk49 : TyOk Tryz.prog 49 ty49 := ⟨⟨_, Tryz.underlying49, rfl⟩, ⟨_, _, rfl, rfl, rfl, rfl, fun c => ⟨⟨rfl, rfl⟩, ⟨rfl, rfl⟩, True.intro⟩⟩, nofun, fun _ => ⟨_, Tryz.underlying49, by kernel_rfl⟩, nofun, nofun, nofun, nofun, nofun, nofun, fun _ => ⟨_, Tryz.underlying49, by kernel_rfl⟩, nofun⟩
def ty57 : Ty := ⟨false, 1, [.nilp], none, [], false, false, none, none, none, true, [], none⟩
set_option maxRecDepth 100000 in
theorem tyOk57 : TyOk Tryz.prog 57 ty57 := ⟨⟨_, Tryz.underlying57, rfl⟩, ⟨_, _, rfl, rfl, rfl, rfl, fun c => ⟨⟨rfl, rfl⟩, True.intro⟩⟩, nofun, fun h => absurd rfl h, nofun, nofun, nofun, nofun, nofun, fun _ => ⟨_, Tryz.underlying57⟩, fun h => absurd rfl h, nofun⟩
def ty65 : Ty := ⟨true, 3, [.pv .str [], .pv .str [], .nils], none, [(0, 1), (1, 1), (2, 1)], false, false, none, none, none, false, [(9, 0), (9, 1), (39, 2)], none⟩
set_option maxRecDepth 100000 in
theorem tyOk65 : TyOk Tryz.prog 65 ty65 := ⟨⟨_, Tryz.underlying65, rfl⟩, ⟨_, _, rfl, rfl, rfl, rfl, fun c => ⟨⟨⟨_, rfl, Rep.str _⟩, rfl⟩, ⟨⟨_, rfl, Rep.str _⟩, rfl⟩, ⟨rfl, rfl⟩, True.intro⟩⟩, nofun, fun _ => ⟨_, Tryz.underlying65, by kernel_rfl⟩, nofun, nofun, nofun, nofun, nofun, nofun, fun _ => ⟨_, Tryz.underlying65, by kernel_rfl⟩, nofun⟩
def ty66 : Ty := ⟨true, 3, [.pv .str [], .pv .str [], .nils], none, [(0, 1), (1, 1), (2, 1)], false, false, none, none, none, false, [(9, 0), (9, 1), (39, 2)], none⟩
set_option maxRecDepth 100000 in
theorem tyOk66 : TyOk Tryz.prog 66 ty66 := ⟨⟨_, Tryz.underlying66, rfl⟩, ⟨_, _, rfl, rfl, rfl, rfl, fun c => ⟨⟨⟨_, rfl, Rep.str _⟩, rfl⟩, ⟨⟨_, rfl, Rep.str _⟩, rfl⟩, ⟨rfl, rfl⟩, True.intro⟩⟩, nofun, fun _ => ⟨_, Tryz.underlying66, by kernel_rfl⟩, nofun, nofun, nofun, nofun, nofun, nofun, fun _ => ⟨_, Tryz.underlying66, by kernel_rfl⟩, nofun⟩
def ty75 : Ty := ⟨false, 1, [.nils], some (3, .int .i64, 8), [], false, false, none, none, none, false, [], none⟩
set_option maxRecDepth 100000 in
theorem tyOk75 : TyOk Tryz.prog 75 ty75 := ⟨⟨_, Tryz.underlying75, rfl⟩, ⟨_, _, rfl, rfl, rfl, rfl, fun c => ⟨⟨rfl, rfl⟩, True.intro⟩⟩, fun e r b h => by cases h; exact ⟨Tryz.underlying75, by decide, _, _, rfl, rfl, rfl, rfl, rfl⟩, fun h => absurd rfl h, nofun, nofun, nofun, nofun, nofun, nofun, fun h => absurd rfl h, nofun⟩
def ty76 : Ty := ⟨true, 2, [.pv (.int .i64) 0, .nils], none, [(0, 1), (1, 1)], false, false, none, none, none, false, [(3, 0), (75, 1)], none⟩
set_option maxRecDepth 100000 in
theorem tyOk76 : TyOk Tryz.prog 76 ty76 := ⟨⟨_, Tryz.underlying76, rfl⟩, ⟨_, _, rfl, rfl, rfl, rfl, fun c => ⟨⟨⟨_, rfl, Rep.int _ _⟩, rfl⟩, ⟨rfl, rfl⟩, True.intro⟩⟩, nofun, fun _ => ⟨_, Tryz.underlying76, by kernel_rfl⟩, nofun, nofun, nofun, nofun, nofun, nofun, fun _ => ⟨_, Tryz.underlying76, by kernel_rfl⟩, nofun⟩
def ty77 : Ty := ⟨true, 2, [.pv (.int .i64) 0, .nils], none, [(0, 1), (1, 1)], false, false, none, none, none, false, [(3, 0), (75, 1)], none⟩
set_option maxRecDepth 100000 in
theorem tyOk77 : TyOk Tryz.prog 77 ty77 := ⟨⟨_, Tryz.underlying77, rfl⟩, ⟨_, _, rfl, rfl, rfl, rfl, fun c => ⟨⟨⟨_, rfl, Rep.int _ _⟩, rfl⟩, ⟨rfl, rfl⟩, True.intro⟩⟩, nofun, fun _ => ⟨_, Tryz.underlying77, by kernel_rfl⟩, nofun, nofun, nofun, nofun, nofun, nofun, fun _ => ⟨_, Tryz.underlying77, by kernel_rfl⟩, nofun⟩
def ty90 : Ty := ⟨true, 2, [.nils, .pv (.int .i64) 0], none, [(0, 1), (1, 1)], false, false, none, none, none, false, [(22, 0), (3, 1)], none⟩
set_option maxRecDepth 100000 in
theorem tyOk90 : TyOk Tryz.prog 90 ty90 := ⟨⟨_, Tryz.underlying90, rfl⟩, ⟨_, _, rfl, rfl, rfl, rfl, fun c => ⟨⟨rfl, rfl⟩, ⟨⟨_, rfl, Rep.int _ _⟩, rfl⟩, True.intro⟩⟩, nofun, fun _ => ⟨_, Tryz.underlying90, by kernel_rfl⟩, nofun, nofun, nofun, nofun, nofun, nofun, fun _ => ⟨_, Tryz.underlying90, by kernel_rfl⟩, nofun⟩
def ty91 : Ty := ⟨true, 2, [.nils, .pv (.int .i64) 0], none, [(0, 1), (1, 1)], false, false, none, none, none, false, [(22, 0), (3, 1)], none⟩
set_option maxRecDepth 100000 in
theorem tyOk91 : TyOk Tryz.prog 91 ty91 := ⟨⟨_, Tryz.underlying91, rfl⟩, ⟨_, _, rfl, rfl, rfl, rfl, fun c => ⟨⟨rfl, rfl⟩, ⟨⟨_, rfl, Rep.int _ _⟩, rfl⟩, True.intro⟩⟩, nofun, fun _ => ⟨_, Tryz.underlying91, by kernel_rfl⟩, nofun, nofun, nofun, nofun, nofun, nofun, fun _ => ⟨_, Tryz.underlying91, by kernel_rfl⟩, nofun⟩
def ty93 : Ty := ⟨false, 1, [.nilp], none, [], false, false, none, none, none, true, [], none⟩
set_option maxRecDepth 100000 in
theorem tyOk93 : TyOk Tryz.prog 93 ty93 := ⟨⟨_, Tryz.underlying93, rfl⟩, ⟨_, _, rfl, rfl, rfl, rfl, fun c => ⟨⟨rfl, rfl⟩, True.intro⟩⟩, nofun, fun h => absurd rfl h, nofun, nofun, nofun, nofun, nofun, fun _ => ⟨_, Tryz.underlying93⟩, fun h => absurd rfl h, nofun⟩
def ty97 : Ty := ⟨true, 2, [.nils, .pv .str []], none, [(0, 1), (1, 1)], false, false, none, none, none, false, [(23, 0), (9, 1)], none⟩
set_option maxRecDepth 100000 in
theorem tyOk97 : TyOk Tryz.prog 97 ty97 := ⟨⟨_, Tryz.underlying97, rfl⟩, ⟨_, _, rfl, rfl, rfl, rfl, fun c => ⟨⟨rfl, rfl⟩, ⟨⟨_, rfl, Rep.str _⟩, rfl⟩, True.intro⟩⟩, nofun, fun _ => ⟨_, Tryz.underlying97, by kernel_rfl⟩, nofun, nofun, nofun, nofun, nofun, nofun, fun _ => ⟨_, Tryz.underlying97, by kernel_rfl⟩, nofun⟩
def ty98 : Ty := ⟨true, 2, [.nils, .pv .str []], none, [(0, 1), (1, 1)], false, false, none, none, none, false, [(23, 0), (9, 1)], none⟩
set_option maxRecDepth 100000 in
theorem tyOk98 : TyOk Tryz.prog 98 ty98 := ⟨⟨_, Tryz.underlying98, rfl⟩, ⟨_, _, rfl, rfl, rfl, rfl, fun c => ⟨⟨rfl, rfl⟩, ⟨⟨_, rfl, Rep.str _⟩, rfl⟩, True.intro⟩⟩, nofun, fun _ => ⟨_, Tryz.underlying98, by kernel_rfl⟩, nofun, nofun, nofun, nofun, nofun, nofun, fun _ => ⟨_, Tryz.underlying98, by kernel_rfl⟩, nofun⟩
def ty99 : Ty := ⟨false, 1, [.nils], some (106, .pair .str .str, 32), [], false, false, none, none, none, false, [], none⟩
set_option maxRecDepth 100000 in
theorem tyOk99 : TyOk Tryz.prog 99 ty99 := ⟨⟨_, Tryz.underlying99, rfl⟩, ⟨_, _, rfl, rfl, rfl, rfl, fun c => ⟨⟨rfl, rfl⟩, True.intro⟩⟩, fun e r b h => by cases h; exact ⟨Tryz.underlying99, by decide, _, _, rfl, rfl, rfl, rfl, rfl⟩, fun h => absurd rfl h, nofun, nofun, nofun, nofun, nofun, nofun, fun h => absurd rfl h, nofun⟩
def ty100 : Ty := ⟨false, 1, [.nils], some (143, .pair .str (.int .i64), 24), [], false, false, none, none, none, false, [], none⟩
set_option maxRecDepth 100000 in
theorem tyOk100 : TyOk Tryz.prog 100 ty100 := ⟨⟨_, Tryz.underlying100, rfl⟩, ⟨_, _, rfl, rfl, rfl, rfl, fun c => ⟨⟨rfl, rfl⟩, True.intro⟩⟩, fun e r b h => by cases h; exact ⟨Tryz.underlying100, by decide, _, _, rfl, rfl, rfl, rfl, rfl⟩, fun h => absurd rfl h, nofun, nofun, nofun, nofun, nofun, nofun, fun h => absurd rfl h, nofun⟩
def ty101 : Ty := ⟨true, 3, [.pv (.int .i64) 0, .nils, .nils], none, [(0, 1), (1, 1), (2, 1)], false, false, none, none, none, false, [(3, 0), (99, 1), (100, 2)], none⟩
set_option maxRecDepth 100000 in
theorem tyOk101 : TyOk Tryz.prog 101 ty101 := ⟨⟨_, Tryz.underlying101, rfl⟩, ⟨_, _, rfl, rfl, rfl, rfl, fun c => ⟨⟨⟨_, rfl, Rep.int _ _⟩, rfl⟩, ⟨rfl, rfl⟩, ⟨rfl, rfl⟩, True.intro⟩⟩, nofun, fun _ => ⟨_, Tryz.underlying101, by kernel_rfl⟩, nofun, nofun, nofun, nofun, nofun, nofun, fun _ => ⟨_, Tryz.underlying101, by kernel_rfl⟩, nofun⟩
def ty102 : Ty := ⟨true, 3, [.pv (.int .i64) 0, .nils, .nils], none, [(0, 1), (1, 1), (2, 1)], false, false, none, none, none, false, [(3, 0), (99, 1), (100, 2)], none⟩
set_option maxRecDepth 100000 in
theorem tyOk102 : TyOk Tryz.prog 102 ty102 := ⟨⟨_, Tryz.underlying102, rfl⟩, ⟨_, _, rfl, rfl, rfl, rfl, fun c => ⟨⟨⟨_, rfl, Rep.int _ _⟩, rfl⟩, ⟨rfl, rfl⟩, ⟨rfl, rfl⟩, True.intro⟩⟩, nofun, fun _ => ⟨_, Tryz.underlying102, by kernel_rfl⟩, nofun, nofun, nofun, nofun, nofun, nofun, fun _ => ⟨_, Tryz.underlying102, by kernel_rfl⟩, nofun⟩
def ty105 : Ty := ⟨true, 2, [.pv .str [], .pv .str []], none, [(0, 1), (1, 1)], false, false, none, none, none, false, [(9, 0), (9, 1)], none⟩
set_option maxRecDepth 100000 in
theorem tyOk105 : TyOk Tryz.prog 105 ty105 := ⟨⟨_, Tryz.underlying105, rfl⟩, ⟨_, _, rfl, rfl, rfl, rfl, fun c => ⟨⟨⟨_, rfl, Rep.str _⟩, rfl⟩, ⟨⟨_, rfl, Rep.str _⟩, rfl⟩, True.intro⟩⟩, nofun, fun _ => ⟨_, Tryz.underlying105, by kernel_rfl⟩, nofun, nofun, nofun, nofun, nofun, nofun, fun _ => ⟨_, Tryz.underlying105, by kernel_rfl⟩, nofun⟩
def ty106 : Ty := ⟨true, 2, [.pv .str [], .pv .str []], none, [(0, 1), (1, 1)], false, false, none, some (.pair .str .str), none, false, [(9, 0), (9, 1)], none⟩
set_option maxRecDepth 100000 in
theorem tyOk106 : TyOk Tryz.prog 106 ty106 := ⟨⟨_, Tryz.underlying106, rfl⟩, ⟨_, _, rfl, rfl, rfl, rfl, fun c => ⟨⟨⟨_, rfl, Rep.str _⟩, rfl⟩, ⟨⟨_, rfl, Rep.str _⟩, rfl⟩, True.intro⟩⟩, nofun, fun _ => ⟨_, Tryz.underlying106, by kernel_rfl⟩, nofun, nofun, nofun, fun r h => by cases h; exact eqs_of _ rfl (by kernel_rfl) (by kernel_rfl) (by kernel_rfl) [(false, 9, 0), (false, 9, 1)] (by kernel_rfl) (fun x y => ⟨⟨rfl, rfl, Tryz.underlying9⟩, ⟨⟨rfl, rfl, Tryz.underlying9⟩, True.intro⟩⟩), nofun, nofun, fun _ => ⟨_, Tryz.underlying106, by kernel_rfl⟩, nofun⟩
def ty107 : Ty := ⟨false, 1, [.nils], some (110, .pair .str (.int .i64), 24), [], false, false, none, none, none, false, [], none⟩
set_option maxRecDepth 100000 in
theorem tyOk107 : TyOk Tryz.prog 107 ty107 := ⟨⟨_, Tryz.underlying107, rfl⟩, ⟨_, _, rfl, rfl, rfl, rfl, fun c => ⟨⟨rfl, rfl⟩, True.intro⟩⟩, fun e r b h => by cases h; exact ⟨Tryz.underlying107, by decide, _, _, rfl, rfl, rfl, rfl, rfl⟩, fun h => absurd rfl h, nofun, nofun, nofun, nofun, nofun, nofun, fun h => absurd rfl h, nofun⟩
def ty109 : Ty := ⟨true, 2, [.pv .str [], .pv (.int .i64) 0], none, [(0, 1), (1, 1)], false, false, none, none, none, false, [(9, 0), (3, 1)], none⟩
set_option maxRecDepth 100000 in
theorem tyOk109 : TyOk Tryz.prog 109 ty109 := ⟨⟨_, Tryz.underlying109, rfl⟩, ⟨_, _, rfl, rfl, rfl, rfl, fun c => ⟨⟨⟨_, rfl, Rep.str _⟩, rfl⟩, ⟨⟨_, rfl, Rep.int _ _⟩, rfl⟩, True.intro⟩⟩, nofun, fun _ => ⟨_, Tryz.underlying109, by kernel_rfl⟩, nofun, nofun, nofun, nofun, nofun, nofun, fun _ => ⟨_, Tryz.underlying109, by kernel_rfl⟩, nofun⟩
def ty110 : Ty := ⟨true, 2, [.pv .str [], .pv (.int .i64) 0], none, [(0, 1), (1, 1)], false, false, none, some (.pair .str (.int .i64)), none, false, [(9, 0), (3, 1)], none⟩
set_option maxRecDepth 100000 in
theorem tyOk110 : TyOk Tryz.prog 110 ty110 := ⟨⟨_, Tryz.underlying110, rfl⟩, ⟨_, _, rfl, rfl, rfl, rfl, fun c => ⟨⟨⟨_, rfl, Rep.str _⟩, rfl⟩, ⟨⟨_, rfl, Rep.int _ _⟩, rfl⟩, True.intro⟩⟩, nofun, fun _ => ⟨_, Tryz.underlying110, by kernel_rfl⟩, nofun, nofun, nofun, fun r h => by cases h; exact eqs_of _ rfl (by kernel_rfl) (by kernel_rfl) (by kernel_rfl) [(false, 9, 0), (false, 3, 1)] (by kernel_rfl) (fun x y => ⟨⟨rfl, rfl, Tryz.underlying9⟩, ⟨⟨rfl, rfl, ⟨rfl, _, Tryz.underlying3⟩⟩, True.intro⟩⟩), nofun, nofun, fun _ => ⟨_, Tryz.underlying110, by kernel_rfl⟩, nofun⟩
def ty118 : Ty := ⟨true, 2, [.nils, .pv .str []], none, [(0, 1), (1, 1)], false, false, none, none, none, false, [(23, 0), (9, 1)], none⟩
set_option maxRecDepth 100000 in
theorem tyOk118 : TyOk Tryz.prog 118 ty118 := ⟨⟨_, Tryz.underlying118, rfl⟩, ⟨_, _, rfl, rfl, rfl, rfl, fun c => ⟨⟨rfl, rfl⟩, ⟨⟨_, rfl, Rep.str _⟩, rfl⟩, True.intro⟩⟩, nofun, fun _ => ⟨_, Tryz.underlying118, by kernel_rfl⟩, nofun, nofun, nofun, nofun, nofun, nofun, fun _ => ⟨_, Tryz.underlying118, by kernel_rfl⟩, nofun⟩
def ty120 : Ty := ⟨false, 1, [.nils], some (182, .pair .str .str, 32), [], false, false, none, none, none, false, [], none⟩
set_option maxRecDepth 100000 in
theorem tyOk120 : TyOk Tryz.prog 120 ty120 := ⟨⟨_, Tryz.underlying120, rfl⟩, ⟨_, _, rfl, rfl, rfl, rfl, fun c => ⟨⟨rfl, rfl⟩, True.intro⟩⟩, fun e r b h => by cases h; exact ⟨Tryz.underlying120, by decide, _, _, rfl, rfl, rfl, rfl, rfl⟩, fun h => absurd rfl h, nofun, nofun, nofun, nofun, nofun, nofun, fun h => absurd rfl h, nofun⟩
def ty121 : Ty := ⟨false, 1, [.nils], some (184, .pair .str (.int .i64), 24), [], false, false, none, none, none, false, [], none⟩
set_option maxRecDepth 100000 in
theorem tyOk121 : TyOk Tryz.prog 121 ty121 := ⟨⟨_, Tryz.underlying121, rfl⟩, ⟨_, _, rfl, rfl, rfl, rfl, fun c => ⟨⟨rfl, rfl⟩, True.intro⟩⟩, fun e r b h => by cases h; exact ⟨Tryz.underlying121, by decide, _, _, rfl, rfl, rfl, rfl, rfl⟩, fun h => absurd rfl h, nofun, nofun, nofun, nofun, nofun, nofun, fun h => absurd rfl h, nofun⟩
def ty122 : Ty := ⟨true, 3, [.pv (.int .i64) 0, .nils, .nils], none, [(0, 1), (1, 1), (2, 1)], false, false, none, none, none, false, [(3, 0), (120, 1), (121, 2)], none⟩
set_option maxRecDepth 100000 in
theorem tyOk122 : TyOk Tryz.prog 122 ty122 := ⟨⟨_, Tryz.underlying122, rfl⟩, ⟨_, _, rfl, rfl, rfl, rfl, fun c => ⟨⟨⟨_, rfl, Rep.int _ _⟩, rfl⟩, ⟨rfl, rfl⟩, ⟨rfl, rfl⟩, True.intro⟩⟩, nofun, fun _ => ⟨_, Tryz.underlying122, by kernel_rfl⟩, nofun, nofun, nofun, nofun, nofun, nofun, fun _ => ⟨_, Tryz.underlying122, by kernel_rfl⟩, nofun⟩
def ty123 : Ty := ⟨true, 3, [.pv (.int .i64) 0, .nils, .nils], none, [(0, 1), (1, 1), (2, 1)], false, false, none, none, none, false, [(3, 0), (120, 1), (121, 2)], none⟩
set_option maxRecDepth 100000 in
theorem tyOk123 : TyOk Tryz.prog 123 ty123 := ⟨⟨_, Tryz.underlying123, rfl⟩, ⟨_, _, rfl, rfl, rfl, rfl, fun c => ⟨⟨⟨_, rfl, Rep.int _ _⟩, rfl⟩, ⟨rfl, rfl⟩, ⟨rfl, rfl⟩, True.intro⟩⟩, nofun, fun _ => ⟨_, Tryz.underlying123, by kernel_rfl⟩, nofun, nofun, nofun, nofun, nofun, nofun, fun _ => ⟨_, Tryz.underlying123, by kernel_rfl⟩, nofun⟩
def ty125 : Ty := ⟨false, 1, [.nils], some (186, .pair (.int .i64) (.sl (.int .i64)), 32), [], false, false, none, none, none, false, [], none⟩
set_option maxRecDepth 100000 in
theorem tyOk125 : TyOk Tryz.prog 125 ty125 := ⟨⟨_, Tryz.underlying125, rfl⟩, ⟨_, _, rfl, rfl, rfl, rfl, fun c => ⟨⟨rfl, rfl⟩, True.intro⟩⟩, fun e r b h => by cases h; exact ⟨Tryz.underlying125, by decide, _, _, rfl, rfl, rfl, rfl, rfl⟩, fun h => absurd rfl h, nofun, nofun, nofun, nofun, nofun, nofun, fun h => absurd rfl h, nofun⟩
def ty126 : Ty := ⟨true, 3, [.pv .str [], .pv .str [], .nils], none, [(0, 1), (1, 1), (2, 1)], false, false, none, none, none, false, [(9, 0), (9, 1), (125, 2)], none⟩
set_option maxRecDepth 100000 in
theorem tyOk126 : TyOk Tryz.prog 126 ty126 := ⟨⟨_, Tryz.underlying126, rfl⟩, ⟨_, _, rfl, rfl, rfl, rfl, fun c => ⟨⟨⟨_, rfl, Rep.str _⟩, rfl⟩, ⟨⟨_, rfl, Rep.str _⟩, rfl⟩, ⟨rfl, rfl⟩, True.intro⟩⟩, nofun, fun _ => ⟨_, Tryz.underlying126, by kernel_rfl⟩, nofun, nofun, nofun, nofun, nofun, nofun, fun _ => ⟨_, Tryz.underlying126, by kernel_rfl⟩, nofun⟩
def ty127 : Ty := ⟨true, 3, [.pv .str [], .pv .str [], .nils], none, [(0, 1), (1, 1), (2, 1)], false, false, none, none, none, false, [(9, 0), (9, 1), (125, 2)], none⟩
set_option maxRecDepth 100000 in
theorem tyOk127 : TyOk Tryz.prog 127 ty127 := ⟨⟨_, Tryz.underlying127, rfl⟩, ⟨_, _, rfl, rfl, rfl, rfl, fun c => ⟨⟨⟨_, rfl, Rep.str _⟩, rfl⟩, ⟨⟨_, rfl, Rep.str _⟩, rfl⟩, ⟨rfl, rfl⟩, True.intro⟩⟩, nofun, fun _ => ⟨_, Tryz.underlying127, by kernel_rfl⟩, nofun, nofun, nofun, nofun, nofun, nofun, fun _ => ⟨_, Tryz.underlying127, by kernel_rfl⟩, nofun⟩
def ty142 : Ty := ⟨true, 2, [.pv .str [], .pv (.int .i64) 0], none, [(0, 1), (1, 1)], false, false, none, none, none, false, [(9, 0), (3, 1)], none⟩
set_option maxRecDepth 100000 in
theorem tyOk142 : TyOk Tryz.prog 142 ty142 := ⟨⟨_, Tryz.underlying142, rfl⟩, ⟨_, _, rfl, rfl, rfl, rfl, fun c => ⟨⟨⟨_, rfl, Rep.str _⟩, rfl⟩, ⟨⟨_, rfl, Rep.int _ _⟩, rfl⟩, True.intro⟩⟩, nofun, fun _ => ⟨_, Tryz.underlying142, by kernel_rfl⟩, nofun, nofun, nofun, nofun, nofun, nofun, fun _ => ⟨_, Tryz.underlying142, by kernel_rfl⟩, nofun⟩
def ty143 : Ty := ⟨true, 2, [.pv .str [], .pv (.int .i64) 0], none, [(0, 1), (1, 1)], false, false, none, some (.pair .str (.int .i64)), none, false, [(9, 0), (3, 1)], none⟩
set_option maxRecDepth 100000 in
theorem tyOk143 : TyOk Tryz.prog 143 ty143 := ⟨⟨_, Tryz.underlying143, rfl⟩, ⟨_, _, rfl, rfl, rfl, rfl, fun c => ⟨⟨⟨_, rfl, Rep.str _⟩, rfl⟩, ⟨⟨_, rfl, Rep.int _ _⟩, rfl⟩, True.intro⟩⟩, nofun, fun _ => ⟨_, Tryz.underlying143, by kernel_rfl⟩, nofun, nofun, nofun, fun r h => by cases h; exact eqs_of _ rfl (by kernel_rfl) (by kernel_rfl) (by kernel_rfl) [(false, 9, 0), (false, 3, 1)] (by kernel_rfl) (fun x y => ⟨⟨rfl, rfl, Tryz.underlying9⟩, ⟨⟨rfl, rfl, ⟨rfl, _, Tryz.underlying3⟩⟩, True.intro⟩⟩), nofun, nofun, fun _ => ⟨_, Tryz.underlying143, by kernel_rfl⟩, nofun⟩
def ty144 : Ty := ⟨false, 1, [.nils], some (147, .pair .str (.pair (.int .i64) (.pair (.int .i64) (.int .i64))), 40), [], false, false, none, none, none, false, [], none⟩
set_option maxRecDepth 100000 in
theorem tyOk144 : TyOk Tryz.prog 144 ty144 := ⟨⟨_, Tryz.underlying144, rfl⟩, ⟨_, _, rfl, rfl, rfl, rfl, fun c => ⟨⟨rfl, rfl⟩, True.intro⟩⟩, fun e r b h => by cases h; exact ⟨Tryz.underlying144, by decide, _, _, rfl, rfl, rfl, rfl, rfl⟩, fun h => absurd rfl h, nofun, nofun, nofun, nofun, nofun, nofun, fun h => absurd rfl h, nofun⟩
def ty146 : Ty := ⟨true, 4, [.pv .str [], .pv (.int .i64) 0, .pv (.int .i64) 0, .pv (.int .i64) 0], none, [(0, 1), (1, 1), (2, 1), (3, 1)], false, false, none, none, none, false, [(9, 0), (3, 1), (3, 2), (3, 3)], none⟩
set_option maxRecDepth 100000 in
theorem tyOk146 : TyOk Tryz.prog 146 ty146 := ⟨⟨_, Tryz.underlying146, rfl⟩, ⟨_, _, rfl, rfl, rfl, rfl, fun c => ⟨⟨⟨_, rfl, Rep.str _⟩, rfl⟩, ⟨⟨_, rfl, Rep.int _ _⟩, rfl⟩, ⟨⟨_, rfl, Rep.int _ _⟩, rfl⟩, ⟨⟨_, rfl, Rep.int _ _⟩, rfl⟩, True.intro⟩⟩, nofun, fun _ => ⟨_, Tryz.underlying146, by kernel_rfl⟩, nofun, nofun, nofun, nofun, nofun, nofun, fun _ => ⟨_, Tryz.underlying146, by kernel_rfl⟩, nofun⟩
def ty147 : Ty := ⟨true, 4, [.pv .str [], .pv (.int .i64) 0, .pv (.int .i64) 0, .pv (.int .i64) 0], none, [(0, 1), (1, 1), (2, 1), (3, 1)], false, false, none, some (.pair .str (.pair (.int .i64) (.pair (.int .i64) (.int .i64)))), none, false, [(9, 0), (3, 1), (3, 2), (3, 3)], none⟩
set_option maxRecDepth 100000 in
theorem tyOk147 : TyOk Tryz.prog 147 ty147 := ⟨⟨_, Tryz.underlying147, rfl⟩, ⟨_, _, rfl, rfl, rfl, rfl, fun c => ⟨⟨⟨_, rfl, Rep.str _⟩, rfl⟩, ⟨⟨_, rfl, Rep.int _ _⟩, rfl⟩, ⟨⟨_, rfl, Rep.int _ _⟩, rfl⟩, ⟨⟨_, rfl, Rep.int _ _⟩, rfl⟩, True.intro⟩⟩, nofun, fun _ => ⟨_, Tryz.underlying147, by kernel_rfl⟩, nofun, nofun, nofun, fun r h => by cases h; exact eqs_of _ rfl (by kernel_rfl) (by kernel_rfl) (by kernel_rfl) [(false, 9, 0), (false, 3, 1), (false, 3, 2), (false, 3, 3)] (by kernel_rfl) (fun x y => ⟨⟨rfl, rfl, Tryz.underlying9⟩, ⟨⟨rfl, rfl, ⟨rfl, _, Tryz.underlying3⟩⟩, ⟨⟨rfl, rfl, ⟨rfl, _, Tryz.underlying3⟩⟩, ⟨⟨rfl, rfl, ⟨rfl, _, Tryz.underlying3⟩⟩, True.intro⟩⟩⟩⟩), nofun, nofun, fun _ => ⟨_, Tryz.underlying147, by kernel_rfl⟩, nofun⟩
def ty148 : Ty := ⟨false, 1, [.nilp], none, [], false, false, none, none, none, true, [], none⟩
set_option maxRecDepth 100000 in
theorem tyOk148 : TyOk Tryz.prog 148 ty148 := ⟨⟨_, Tryz.underlying148, rfl⟩, ⟨_, _, rfl, rfl, rfl, rfl, fun c => ⟨⟨rfl, rfl⟩, True.intro⟩⟩, nofun, fun h => absurd rfl h, nofun, nofun, nofun, nofun, nofun, fun _ => ⟨_, Tryz.underlying148⟩, fun h => absurd rfl h, nofun⟩
def ty152 : Ty := ⟨false, 1, [.nilp], none, [], false, false, none, none, none, true, [], none⟩
set_option maxRecDepth 100000 in
theorem tyOk152 : TyOk Tryz.prog 152 ty152 := ⟨⟨_, Tryz.underlying152, rfl⟩, ⟨_, _, rfl, rfl, rfl, rfl, fun c => ⟨⟨rfl, rfl⟩, True.intro⟩⟩, nofun, fun h => absurd rfl h, nofun, nofun, nofun, nofun, nofun, fun _ => ⟨_, Tryz.underlying152⟩, fun h => absurd rfl h, nofun⟩
def ty155 : Ty := ⟨false, 1, [.pv (.int .u64) 0], none, [], false, false, some .u64, none, none, false, [], none⟩
set_option maxRecDepth 100000 in
theorem tyOk155 : TyOk Tryz.prog 155 ty155 := ⟨⟨_, Tryz.underlying155, rfl⟩, ⟨_, _, rfl, rfl, rfl, rfl, fun c => ⟨⟨⟨_, rfl, Rep.int _ _⟩, rfl⟩, True.intro⟩⟩, nofun, fun h => absurd rfl h, nofun, nofun, fun k h => by cases h; exact Tryz.underlying155, nofun, nofun, nofun, fun h => absurd rfl h, nofun⟩
def ty170 : Ty := ⟨false, 1, [.pv (.int .i64) 0], none, [], false, false, some .i64, none, none, false, [], none⟩
set_option maxRecDepth 100000 in
theorem tyOk170 : TyOk Tryz.prog 170 ty170 := ⟨⟨_, Tryz.underlying170, rfl⟩, ⟨_, _, rfl, rfl, rfl, rfl, fun c => ⟨⟨⟨_, rfl, Rep.int _ _⟩, rfl⟩, True.intro⟩⟩, nofun, fun h => absurd rfl h, nofun, nofun, fun k h => by cases h; exact Tryz.underlying170, nofun, nofun, nofun, fun h => absurd rfl h, nofun⟩
def ty178 : Ty := ⟨false, 1, [.pv (.int .u32) 0], none, [], false, false, some .u32, none, none, false, [], none⟩
set_option maxRecDepth 100000 in
theorem tyOk178 : TyOk Tryz.prog 178 ty178 := ⟨⟨_, Tryz.underlying178, rfl⟩, ⟨_, _, rfl, rfl, rfl, rfl, fun c => ⟨⟨⟨_, rfl, Rep.int _ _⟩, rfl⟩, True.intro⟩⟩, nofun, fun h => absurd rfl h, nofun, nofun, fun k h => by cases h; exact Tryz.underlying178, nofun, nofun, nofun, fun h => absurd rfl h, nofun⟩
def ty180 : Ty := ⟨false, 1, [.pv (.int .u64) 0], none, [], false, false, some .u64, none, none, false, [], none⟩
set_option maxRecDepth 100000 in
theorem tyOk180 : TyOk Tryz.prog 180 ty180 := ⟨⟨_, Tryz.underlying180, rfl⟩, ⟨_, _, rfl, rfl, rfl, rfl, fun c => ⟨⟨⟨_, rfl, Rep.int _ _⟩, rfl⟩, True.intro⟩⟩, nofun, fun h => absurd rfl h, nofun, nofun, fun k h => by cases h; exact Tryz.underlying180, nofun, nofun, nofun, fun h => absurd rfl h, nofun⟩
def ty182 : Ty := ⟨true, 2, [.pv .str [], .pv .str []], none, [(0, 1), (1, 1)], false, false, none, some (.pair .str .str), none, false, [(9, 0), (9, 1)], none⟩
set_option maxRecDepth 100000 in
theorem tyOk182 : TyOk Tryz.prog 182 ty182 := ⟨⟨_, Tryz.underlying182, rfl⟩, ⟨_, _, rfl, rfl, rfl, rfl, fun c => ⟨⟨⟨_, rfl, Rep.str _⟩, rfl⟩, ⟨⟨_, rfl, Rep.str _⟩, rfl⟩, True.intro⟩⟩, nofun, fun _ => ⟨_, Tryz.underlying182, by kernel_rfl⟩, nofun, nofun, nofun, fun r h => by cases h; exact eqs_of _ rfl (by kernel_rfl) (by kernel_rfl) (by kernel_rfl) [(false, 9, 0), (false, 9, 1)] (by kernel_rfl) (fun x y => ⟨⟨rfl, rfl, Tryz.underlying9⟩, ⟨⟨rfl, rfl, Tryz.underlying9⟩, True.intro⟩⟩), nofun, nofun, fun _ => ⟨_, Tryz.underlying182, by kernel_rfl⟩, nofun⟩
def ty184 : Ty := ⟨true, 2, [.pv .str [], .pv (.int .i64) 0], none, [(0, 1), (1, 1)], false, false, none, some (.pair .str (.int .i64)), none, false, [(9, 0), (3, 1)], none⟩
set_option maxRecDepth 100000 in
theorem tyOk184 : TyOk Tryz.prog 184 ty184 := ⟨⟨_, Tryz.underlying184, rfl⟩, ⟨_, _, rfl, rfl, rfl, rfl, fun c => ⟨⟨⟨_, rfl, Rep.str _⟩, rfl⟩, ⟨⟨_, rfl, Rep.int _ _⟩, rfl⟩, True.intro⟩⟩, nofun, fun _ => ⟨_, Tryz.underlying184, by kernel_rfl⟩, nofun, nofun, nofun, fun r h => by cases h; exact eqs_of _ rfl (by kernel_rfl) (by kernel_rfl) (by kernel_rfl) [(false, 9, 0), (false, 3, 1)] (by kernel_rfl) (fun x y => ⟨⟨rfl, rfl, Tryz.underlying9⟩, ⟨⟨rfl, rfl, ⟨rfl, _, Tryz.underlying3⟩⟩, True.intro⟩⟩), nofun, nofun, fun _ => ⟨_, Tryz.underlying184, by kernel_rfl⟩, nofun⟩
def ty186 : Ty := ⟨true, 2, [.pv (.int .i64) 0, .nils], none, [(0, 1), (1, 1)], false, false, none, none, none, false, [(3, 0), (75, 1)], none⟩
set_option maxRecDepth 100000 in
theorem tyOk186 : TyOk Tryz.prog 186 ty186 := ⟨⟨_, Tryz.underlying186, rfl⟩, ⟨_, _, rfl, rfl, rfl, rfl, fun c => ⟨⟨⟨_, rfl, Rep.int _ _⟩, rfl⟩, ⟨rfl, rfl⟩, True.intro⟩⟩, nofun, fun _ => ⟨_, Tryz.underlying186, by kernel_rfl⟩, nofun, nofun, nofun, nofun, nofun, nofun, fun _ => ⟨_, Tryz.underlying186, by kernel_rfl⟩, nofun⟩
def ty193 : Ty := ⟨false, 1, [.pv (.int .u64) 0], none, [], false, false, some .u64, none, none, false, [], none⟩
set_option maxRecDepth 100000 in
theorem tyOk193 : TyOk Tryz.prog 193 ty193 := ⟨⟨_, Tryz.underlying193, rfl⟩, ⟨_, _, rfl, rfl, rfl, rfl, fun c => ⟨⟨⟨_, rfl, Rep.int _ _⟩, rfl⟩, True.intro⟩⟩, nofun, fun h => absurd rfl h, nofun, nofun, fun k h => by cases h; exact Tryz.underlying193, nofun, nofun, nofun, fun h => absurd rfl h, nofun⟩
def ty197 : Ty := ⟨false, 1, [.nilp], none, [], false, false, none, none, none, true, [], none⟩
set_option maxRecDepth 100000 in
theorem tyOk197 : TyOk Tryz.prog 197 ty197 := ⟨⟨_, Tryz.underlying197, rfl⟩, ⟨_, _, rfl, rfl, rfl, rfl, fun c => ⟨⟨rfl, rfl⟩, True.intro⟩⟩, nofun, fun h => absurd rfl h, nofun, nofun, nofun, nofun, nofun, fun _ => ⟨_, Tryz.underlying197⟩, fun h => absurd rfl h, nofun⟩
def ty202 : Ty := ⟨false, 1, [.nilp], none, [], false, false, none, none, none, true, [], none⟩
set_option maxRecDepth 100000 in
theorem tyOk202 : TyOk Tryz.prog 202 ty202 := ⟨⟨_, Tryz.underlying202, rfl⟩, ⟨_, _, rfl, rfl, rfl, rfl, fun c => ⟨⟨rfl, rfl⟩, True.intro⟩⟩, nofun, fun h => absurd rfl h, nofun, nofun, nofun, nofun, nofun, fun _ => ⟨_, Tryz.underlying202⟩, fun h => absurd rfl h, nofun⟩
def ty206 : Ty := ⟨true, 4, [.nilp, .nilp, .nilp, .pv .str []], none, [(0, 1), (1, 1), (2, 1), (3, 1)], false, false, none, none, none, false, [(17, 0), (17, 1), (17, 2), (9, 3)], none⟩
set_option maxRecDepth 100000 in
theorem tyOk206 : TyOk Tryz.prog 206 ty206 := ⟨⟨_, Tryz.underlying206, rfl⟩, ⟨_, _, rfl, rfl, rfl, rfl, fun c => ⟨⟨rfl, rfl⟩, ⟨rfl, rfl⟩, ⟨rfl, rfl⟩, ⟨⟨_, rfl, Rep.str _⟩, rfl⟩, True.intro⟩⟩, nofun, fun _ => ⟨_, Tryz.underlying206, by kernel_rfl⟩, nofun, nofun, nofun, nofun, nofun, nofun, fun _ => ⟨_, Tryz.underlying206, by kernel_rfl⟩, nofun⟩
def ty207 : Ty := ⟨true, 4, [.nilp, .nilp, .nilp, .pv .str []], none, [(0, 1), (1, 1), (2, 1), (3, 1)], false, false, none, none, none, false, [(17, 0), (17, 1), (17, 2), (9, 3)], none⟩
set_option maxRecDepth 100000 in
theorem tyOk207 : TyOk Tryz.prog 207 ty207 := ⟨⟨_, Tryz.underlying207, rfl⟩, ⟨_, _, rfl, rfl, rfl, rfl, fun c => ⟨⟨rfl, rfl⟩, ⟨rfl, rfl⟩, ⟨rfl, rfl⟩, ⟨⟨_, rfl, Rep.str _⟩, rfl⟩, True.intro⟩⟩, nofun, fun _ => ⟨_, Tryz.underlying207, by kernel_rfl⟩, nofun, nofun, nofun, nofun, nofun, nofun, fun _ => ⟨_, Tryz.underlying207, by kernel_rfl⟩, nofun⟩
def ty209 : Ty := ⟨true, 0, [], none, [], false, false, none, none, none, false, [], none⟩
set_option maxRecDepth 100000 in
theorem tyOk209 : TyOk Tryz.prog 209 ty209 := ⟨⟨_, Tryz.underlying209, rfl⟩, ⟨_, _, rfl, rfl, rfl, rfl, fun c => True.intro⟩, nofun, fun h => absurd rfl h, nofun, nofun, nofun, nofun, nofun, nofun, fun h => absurd rfl h, nofun⟩
def ty210 : Ty := ⟨true, 0, [], none, [], false, false, none, none, none, false, [], none⟩
set_option maxRecDepth 100000 in
theorem tyOk210 : TyOk Tryz.prog 210 ty210 := ⟨⟨_, Tryz.underlying210, rfl⟩, ⟨_, _, rfl, rfl, rfl, rfl, fun c => True.intro⟩, nofun, fun h => absurd rfl h, nofun, nofun, nofun, nofun, nofun, nofun, fun h => absurd rfl h, nofun⟩
def ty212 : Ty := ⟨false, 1, [.pv (.int .u8) 0], none, [], false, false, some .u8, none, none, false, [], none⟩
set_option maxRecDepth 100000 in
theorem tyOk212 : TyOk Tryz.prog 212 ty212 := ⟨⟨_, Tryz.underlying212, rfl⟩, ⟨_, _, rfl, rfl, rfl, rfl, fun c => ⟨⟨⟨_, rfl, Rep.int _ _⟩, rfl⟩, True.intro⟩⟩, nofun, fun h => absurd rfl h, nofun, nofun, fun k h => by cases h; exact Tryz.underlying212, nofun, nofun, nofun, fun h => absurd rfl h, nofun⟩
def ty213 : Ty := ⟨false, 1, [.pv (.int .u8) 0], none, [], false, false, some .u8, none, none, false, [], none⟩
set_option maxRecDepth 100000 in
theorem tyOk213 : TyOk Tryz.prog 213 ty213 := ⟨⟨_, Tryz.underlying213, rfl⟩, ⟨_, _, rfl, rfl, rfl, rfl, fun c => ⟨⟨⟨_, rfl, Rep.int _ _⟩, rfl⟩, True.intro⟩⟩, nofun, fun h => absurd rfl h, nofun, nofun, fun k h => by cases h; exact Tryz.underlying213, nofun, nofun, nofun, fun h => absurd rfl h, nofun⟩
def ty215 : Ty := ⟨false, 1, [.nilp], none, [], false, false, none, none, none, true, [], none⟩
set_option maxRecDepth 100000 in
theorem tyOk215 : TyOk Tryz.prog 215 ty215 := ⟨⟨_, Tryz.underlying215, rfl⟩, ⟨_, _, rfl, rfl, rfl, rfl, fun c => ⟨⟨rfl, rfl⟩, True.intro⟩⟩, nofun, fun h => absurd rfl h, nofun, nofun, nofun, nofun, nofun, fun _ => ⟨_, Tryz.underlying215⟩, fun h => absurd rfl h, nofun⟩
def ty216 : Ty := ⟨false, 1, [.pv (.int .i32) 0], none, [], false, false, some .i32, none, none, false, [], none⟩
set_option maxRecDepth 100000 in
theorem tyOk216 : TyOk Tryz.prog 216 ty216 := ⟨⟨_, Tryz.underlying216, rfl⟩, ⟨_, _, rfl, rfl, rfl, rfl, fun c => ⟨⟨⟨_, rfl, Rep.int _ _⟩, rfl⟩, True.intro⟩⟩, nofun, fun h => absurd rfl h, nofun, nofun, fun k h => by cases h; exact Tryz.underlying216, nofun, nofun, nofun, fun h => absurd rfl h, nofun⟩
def ty217 : Ty := ⟨false, 1, [.pv (.int .i32) 0], none, [], false, false, some .i32, none, none, false, [], none⟩
set_option maxRecDepth 100000 in
theorem tyOk217 : TyOk Tryz.prog 217 ty217 := ⟨⟨_, Tryz.underlying217, rfl⟩, ⟨_, _, rfl, rfl, rfl, rfl, fun c => ⟨⟨⟨_, rfl, Rep.int _ _⟩, rfl⟩, True.intro⟩⟩, nofun, fun h => absurd rfl h, nofun, nofun, fun k h => by cases h; exact Tryz.underlying217, nofun, nofun, nofun, fun h => absurd rfl h, nofun⟩
def ty218 : Ty := ⟨true, 11, [.pv (.int .u64) 0, .pv (.int .u64) 0, .pv (.int .u32) 0, .pv (.int .u8) 0, .pv (.int .u8) 0, .pv (.int .u8) 0, .pv (.int .u8) 0, .dead, .nilp, .pv (.int .i32) 0, .pv (.int .i32) 0], none, [], false, false, none, none, none, false, [], none⟩
set_option maxRecDepth 100000 in
theorem tyOk218 : TyOk Tryz.prog 218 ty218 := ⟨⟨_, Tryz.underlying218, rfl⟩, ⟨_, _, rfl, rfl, rfl, rfl, fun c => ⟨⟨⟨_, rfl, Rep.int _ _⟩, rfl⟩, ⟨⟨_, rfl, Rep.int _ _⟩, rfl⟩, ⟨⟨_, rfl, Rep.int _ _⟩, rfl⟩, ⟨⟨_, rfl, Rep.int _ _⟩, rfl⟩, ⟨⟨_, rfl, Rep.int _ _⟩, rfl⟩, ⟨⟨_, rfl, Rep.int _ _⟩, rfl⟩, ⟨⟨_, rfl, Rep.int _ _⟩, rfl⟩, ⟨True.intro, rfl⟩, ⟨rfl, rfl⟩, ⟨⟨_, rfl, Rep.int _ _⟩, rfl⟩, ⟨⟨_, rfl, Rep.int _ _⟩, rfl⟩, True.intro⟩⟩, nofun, fun h => absurd rfl h, nofun, nofun, nofun, nofun, nofun, nofun, fun h => absurd rfl h, nofun⟩
def ty219 : Ty := ⟨true, 11, [.pv (.int .u64) 0, .pv (.int .u64) 0, .pv (.int .u32) 0, .pv (.int .u8) 0, .pv (.int .u8) 0, .pv (.int .u8) 0, .pv (.int .u8) 0, .dead, .nilp, .pv (.int .i32) 0, .pv (.int .i32) 0], none, [], false, false, none, none, none, false, [], none⟩
set_option maxRecDepth 100000 in
theorem tyOk219 : TyOk Tryz.prog 219 ty219 := ⟨⟨_, Tryz.underlying219, rfl⟩, ⟨_, _, rfl, rfl, rfl, rfl, fun c => ⟨⟨⟨_, rfl, Rep.int _ _⟩, rfl⟩, ⟨⟨_, rfl, Rep.int _ _⟩, rfl⟩, ⟨⟨_, rfl, Rep.int _ _⟩, rfl⟩, ⟨⟨_, rfl, Rep.int _ _⟩, rfl⟩, ⟨⟨_, rfl, Rep.int _ _⟩, rfl⟩, ⟨⟨_, rfl, Rep.int _ _⟩, rfl⟩, ⟨⟨_, rfl, Rep.int _ _⟩, rfl⟩, ⟨True.intro, rfl⟩, ⟨rfl, rfl⟩, ⟨⟨_, rfl, Rep.int _ _⟩, rfl⟩, ⟨⟨_, rfl, Rep.int _ _⟩, rfl⟩, True.intro⟩⟩, nofun, fun h => absurd rfl h, nofun, nofun, nofun, nofun, nofun, nofun, fun h => absurd rfl h, nofun⟩
def lookTy : List (Nat × Ty) → Nat → Option Ty
  | [], _ => none
  | (k, y) :: l, t => bif Nat.beq t k then some y else lookTy l t
def AllOk (P : Program) : List (Nat × Ty) → Prop
  | [] => True
  | (k, y) :: l => TyOk P k y ∧ AllOk P l
theorem allOk_look {P : Program} : ∀ {l : List (Nat × Ty)}, AllOk P l → ∀ t y, lookTy l t = some y → TyOk P t y
  | [], _, t, y, h => by cases h
  | (k, z) :: l, hl, t, y, h => by
    simp only [lookTy] at h
    cases e : Nat.beq t k with
    | true => rw [e] at h; cases h; rw [Nat.eq_of_beq_eq_true e]; exact hl.1
    | false => rw [e] at h; exact allOk_look hl.2 t y h
def tyL : List (Nat × Ty) := [(2, ty2), (3, ty3), (4, ty4), (5, ty5), (6, ty6), (7, ty7), (8, ty8), (9, ty9), (10, ty10), (11, ty11), (12, ty12), (13, ty13), (14, ty14), (15, ty15), (16, ty16), (17, ty17), (18, ty18), (19, ty19), (21, ty21), (22, ty22), (23, ty23), (24, ty24), (25, ty25), (26, ty26), (27, ty27), (28, ty28), (29, ty29), (30, ty30), (39, ty39), (43, ty43), (44, ty44), (45, ty45), (46, ty46), (47, ty47), (48, ty48), (49, ty49), (57, ty57), (65, ty65), (66, ty66), (75, ty75), (76, ty76), (77, ty77), (90, ty90), (91, ty91), (93, ty93), (97, ty97), (98, ty98), (99, ty99), (100, ty100), (101, ty101), (102, ty102), (105, ty105), (106, ty106), (107, ty107), (109, ty109), (110, ty110), (118, ty118), (120, ty120), (121, ty121), (122, ty122), (123, ty123), (125, ty125), (126, ty126), (127, ty127), (142, ty142), (143, ty143), (144, ty144), (146, ty146), (147, ty147), (148, ty148), (152, ty152), (155, ty155), (170, ty170), (178, ty178), (180, ty180), (182, ty182), (184, ty184), (186, ty186), (193, ty193), (197, ty197), (202, ty202), (206, ty206), (207, ty207), (209, ty209), (210, ty210), (212, ty212), (213, ty213), (215, ty215), (216, ty216), (217, ty217), (218, ty218), (219, ty219)]
theorem tyL_ok : AllOk Tryz.prog tyL := ⟨tyOk2, tyOk3, tyOk4, tyOk5, tyOk6, tyOk7, tyOk8, tyOk9, tyOk10, tyOk11, tyOk12, tyOk13, tyOk14, tyOk15, tyOk16, tyOk17, tyOk18, tyOk19, tyOk21, tyOk22, tyOk23, tyOk24, tyOk25, tyOk26, tyOk27, tyOk28, tyOk29, tyOk30, tyOk39, tyOk43, tyOk44, tyOk45, tyOk46, tyOk47, tyOk48, tyOk49, tyOk57, tyOk65, tyOk66, tyOk75, tyOk76, tyOk77, tyOk90, tyOk91, tyOk93, tyOk97, tyOk98, tyOk99, tyOk100, tyOk101, tyOk102, tyOk105, tyOk106, tyOk107, tyOk109, tyOk110, tyOk118, tyOk120, tyOk121, tyOk122, tyOk123, tyOk125, tyOk126, tyOk127, tyOk142, tyOk143, tyOk144, tyOk146, tyOk147, tyOk148, tyOk152, tyOk155, tyOk170, tyOk178, tyOk180, tyOk182, tyOk184, tyOk186, tyOk193, tyOk197, tyOk202, tyOk206, tyOk207, tyOk209, tyOk210, tyOk212, tyOk213, tyOk215, tyOk216, tyOk217, tyOk218, tyOk219, True.intro⟩
def lookM : List (Nat × Model) → Nat → List Model
  | [], _ => []
  | (k, m) :: l, f => bif Nat.beq f k then m :: lookM l f else lookM l f
def FnsOk (P : Program) : List (Nat × Model) → Prop
  | [] => True
  | (k, m) :: l => ModelOk P k m ∧ FnsOk P l
theorem fnsOk_look {P : Program} : ∀ {l : List (Nat × Model)}, FnsOk P l → ∀ f m, m ∈ lookM l f → ModelOk P f m
  | [], _, f, m, h => by cases h
  | (k, x) :: l, hl, f, m, h => by
    simp only [lookM] at h
    cases e : Nat.beq f k with
    | true =>
      rw [e] at h
      rcases List.mem_cons.1 h with h | h
      · subst h; rw [Nat.eq_of_beq_eq_true e]; exact hl.1
      · exact fnsOk_look hl.2 f m h
    | false => rw [e] at h; exact fnsOk_look hl.2 f m h
theorem fnsOk_nil {P : Program} : FnsOk P [] := True.intro
theorem fnsOk_cons {P : Program} {k : Nat} {m : Model} {l : List (Nat × Model)} (h : ModelOk P k m) (hl : FnsOk P l) : FnsOk P ((k, m) :: l) := And.intro h hl
def memB : List Nat → Nat → Bool
  | [], _ => false
  | k :: l, j => bif Nat.beq j k then true else memB l j
noncomputable def mkEnv (l : List (Nat × Model)) (wr res : List Nat) (dw : List Nat := []) : Env := ⟨Tryz.prog, lookTy tyL, lookM l, memB wr, memB res, memB dw⟩
theorem mkEnv_ok {l : List (Nat × Model)} (h : FnsOk Tryz.prog l) (wr res : List Nat) (dw : List Nat := []) : EnvOk (mkEnv l wr res dw) := ⟨by kernel_rfl, allOk_look tyL_ok, fnsOk_look h⟩
end Go.Proofs.YtcjbjmbialienaaGreat
