/- The table of types, by program. -/
import Derived.Test.YtcjbjmbialienaaGreatDoorKX
import Derived.Test.YtcjbjmbialienaaGreatDoorProg
import Derived.KernelRfl
set_option linter.unusedSimpArgs false
set_option linter.unusedVariables false
namespace Go.Proofs.YtcjbjmbialienaaGreatDoor
open Go.RowKit
set_option maxRecDepth 100000
def ty2 : Ty := ⟨false, 1, [.pv (.int .i64) 0], none, [], false, false, some .i64, none, none, false, [], none⟩
theorem jnr : TyOk Tryz.prog 2 ty2 := ⟨⟨_, Tryz.underlying2, rfl⟩, ⟨_, _, rfl, rfl, rfl, rfl, fun c => ⟨⟨⟨_, rfl, Rep.int _ _⟩, rfl⟩, True.intro⟩⟩, nofun, fun h => absurd rfl h, nofun, nofun, fun k h => by cases h; exact Tryz.underlying2, nofun, nofun, nofun, fun h => absurd rfl h, nofun⟩
def ty3 : Ty := ⟨false, 1, [.pv (.int .i64) 0], none, [], false, false, some .i64, none, none, false, [], none⟩
theorem jkV : TyOk Tryz.prog 3 ty3 := ⟨⟨_, Tryz.underlying3, rfl⟩, ⟨_, _, rfl, rfl, rfl, rfl, fun c => ⟨⟨⟨_, rfl, Rep.int _ _⟩, rfl⟩, True.intro⟩⟩, nofun, fun h => absurd rfl h, nofun, nofun, fun k h => by cases h; exact Tryz.underlying3, nofun, nofun, nofun, fun h => absurd rfl h, nofun⟩
def ty4 : Ty := ⟨false, 1, [.pv .bool false], none, [], false, true, none, none, none, false, [], none⟩
theorem jsX : TyOk Tryz.prog 4 ty4 := ⟨⟨_, Tryz.underlying4, rfl⟩, ⟨_, _, rfl, rfl, rfl, rfl, fun c => ⟨⟨⟨_, rfl, Rep.bool _⟩, rfl⟩, True.intro⟩⟩, nofun, fun h => absurd rfl h, nofun, fun _ => Tryz.underlying4, nofun, nofun, nofun, nofun, fun h => absurd rfl h, nofun⟩
def ty5 : Ty := ⟨false, 1, [.pv (.int .u8) 0], none, [], false, false, some .u8, none, none, false, [], none⟩
theorem joh : TyOk Tryz.prog 5 ty5 := ⟨⟨_, Tryz.underlying5, rfl⟩, ⟨_, _, rfl, rfl, rfl, rfl, fun c => ⟨⟨⟨_, rfl, Rep.int _ _⟩, rfl⟩, True.intro⟩⟩, nofun, fun h => absurd rfl h, nofun, nofun, fun k h => by cases h; exact Tryz.underlying5, nofun, nofun, nofun, fun h => absurd rfl h, nofun⟩
def ty9 : Ty := ⟨false, 1, [.pv .str []], none, [], true, false, none, none, none, false, [], none⟩
theorem jlm : TyOk Tryz.prog 9 ty9 := ⟨⟨_, Tryz.underlying9, rfl⟩, ⟨_, _, rfl, rfl, rfl, rfl, fun c => ⟨⟨⟨_, rfl, Rep.str _⟩, rfl⟩, True.intro⟩⟩, nofun, fun h => absurd rfl h, fun _ => Tryz.underlying9, nofun, nofun, nofun, nofun, nofun, fun h => absurd rfl h, nofun⟩
def ty22 : Ty := ⟨false, 1, [.nils], some (5, .int .u8, 1), [], false, false, none, none, none, false, [], none⟩
theorem jkf : TyOk Tryz.prog 22 ty22 := ⟨⟨_, Tryz.underlying22, rfl⟩, ⟨_, _, rfl, rfl, rfl, rfl, fun c => ⟨⟨rfl, rfl⟩, True.intro⟩⟩, fun e r b h => by cases h; exact ⟨Tryz.underlying22, by decide, _, _, rfl, rfl, rfl, rfl, rfl⟩, fun h => absurd rfl h, nofun, nofun, nofun, nofun, nofun, nofun, fun h => absurd rfl h, nofun⟩
def ty23 : Ty := ⟨false, 1, [.nils], some (9, .str, 16), [], false, false, none, none, none, false, [], none⟩
theorem jlb : TyOk Tryz.prog 23 ty23 := ⟨⟨_, Tryz.underlying23, rfl⟩, ⟨_, _, rfl, rfl, rfl, rfl, fun c => ⟨⟨rfl, rfl⟩, True.intro⟩⟩, fun e r b h => by cases h; exact ⟨Tryz.underlying23, by decide, _, _, rfl, rfl, rfl, rfl, rfl⟩, fun h => absurd rfl h, nofun, nofun, nofun, nofun, nofun, nofun, fun h => absurd rfl h, nofun⟩
def ty24 : Ty := ⟨false, 1, [.nils], some (137, .pair (.sl .str) .str, 40), [], false, false, none, none, none, false, [], none⟩
theorem jo8 : TyOk Tryz.prog 24 ty24 := ⟨⟨_, Tryz.underlying24, rfl⟩, ⟨_, _, rfl, rfl, rfl, rfl, fun c => ⟨⟨rfl, rfl⟩, True.intro⟩⟩, fun e r b h => by cases h; exact ⟨Tryz.underlying24, by decide, _, _, rfl, rfl, rfl, rfl, rfl⟩, fun h => absurd rfl h, nofun, nofun, nofun, nofun, nofun, nofun, fun h => absurd rfl h, nofun⟩
def ty25 : Ty := ⟨true, 2, [.nils, .nils], none, [(0, 1), (1, 1)], false, false, none, none, none, false, [(23, 0), (24, 1)], none⟩
theorem jtq : TyOk Tryz.prog 25 ty25 := ⟨⟨_, Tryz.underlying25, rfl⟩, ⟨_, _, rfl, rfl, rfl, rfl, fun c => ⟨⟨rfl, rfl⟩, ⟨rfl, rfl⟩, True.intro⟩⟩, nofun, fun _ => ⟨_, Tryz.underlying25, by kernel_rfl⟩, nofun, nofun, nofun, nofun, nofun, nofun, fun _ => ⟨_, Tryz.underlying25, by kernel_rfl⟩, nofun⟩
def ty26 : Ty := ⟨true, 2, [.nils, .nils], none, [(0, 1), (1, 1)], false, false, none, none, none, false, [(23, 0), (24, 1)], none⟩
theorem jmW : TyOk Tryz.prog 26 ty26 := ⟨⟨_, Tryz.underlying26, rfl⟩, ⟨_, _, rfl, rfl, rfl, rfl, fun c => ⟨⟨rfl, rfl⟩, ⟨rfl, rfl⟩, True.intro⟩⟩, nofun, fun _ => ⟨_, Tryz.underlying26, by kernel_rfl⟩, nofun, nofun, nofun, nofun, nofun, nofun, fun _ => ⟨_, Tryz.underlying26, by kernel_rfl⟩, nofun⟩
def ty27 : Ty := ⟨false, 1, [.nils], some (46, .pair (.int .i64) (.pair (.sl (.pair .str .str)) (.sl (.pair .str (.int .i64)))), 56), [], false, false, none, none, none, false, [], none⟩
theorem jtj : TyOk Tryz.prog 27 ty27 := ⟨⟨_, Tryz.underlying27, rfl⟩, ⟨_, _, rfl, rfl, rfl, rfl, fun c => ⟨⟨rfl, rfl⟩, True.intro⟩⟩, fun e r b h => by cases h; exact ⟨Tryz.underlying27, by decide, _, _, rfl, rfl, rfl, rfl, rfl⟩, fun h => absurd rfl h, nofun, nofun, nofun, nofun, nofun, nofun, fun h => absurd rfl h, nofun⟩
def ty28 : Ty := ⟨false, 1, [.nils], some (91, .pair .str (.pair .str (.sl (.pair (.int .i64) (.sl (.int .i64))))), 56), [], false, false, none, none, none, false, [], none⟩
theorem jmp : TyOk Tryz.prog 28 ty28 := ⟨⟨_, Tryz.underlying28, rfl⟩, ⟨_, _, rfl, rfl, rfl, rfl, fun c => ⟨⟨rfl, rfl⟩, True.intro⟩⟩, fun e r b h => by cases h; exact ⟨Tryz.underlying28, by decide, _, _, rfl, rfl, rfl, rfl, rfl⟩, fun h => absurd rfl h, nofun, nofun, nofun, nofun, nofun, nofun, fun h => absurd rfl h, nofun⟩
def ty29 : Ty := ⟨true, 2, [.nils, .nils], none, [(0, 1), (1, 1)], false, false, none, none, none, false, [(27, 0), (28, 1)], none⟩
theorem jse : TyOk Tryz.prog 29 ty29 := ⟨⟨_, Tryz.underlying29, rfl⟩, ⟨_, _, rfl, rfl, rfl, rfl, fun c => ⟨⟨rfl, rfl⟩, ⟨rfl, rfl⟩, True.intro⟩⟩, nofun, fun _ => ⟨_, Tryz.underlying29, by kernel_rfl⟩, nofun, nofun, nofun, nofun, nofun, nofun, fun _ => ⟨_, Tryz.underlying29, by kernel_rfl⟩, nofun⟩
def ty30 : Ty := ⟨true, 2, [.nils, .nils], none, [(0, 1), (1, 1)], false, false, none, none, none, false, [(27, 0), (28, 1)], none⟩
theorem jlj : TyOk Tryz.prog 30 ty30 := ⟨⟨_, Tryz.underlying30, rfl⟩, ⟨_, _, rfl, rfl, rfl, rfl, fun c => ⟨⟨rfl, rfl⟩, ⟨rfl, rfl⟩, True.intro⟩⟩, nofun, fun _ => ⟨_, Tryz.underlying30, by kernel_rfl⟩, nofun, nofun, nofun, nofun, nofun, nofun, fun _ => ⟨_, Tryz.underlying30, by kernel_rfl⟩, nofun⟩
def ty40 : Ty := ⟨false, 1, [.nils], some (48, .pair (.int .i64) (.int .i64), 16), [], false, false, none, none, none, false, [], none⟩
theorem jv6 : TyOk Tryz.prog 40 ty40 := ⟨⟨_, Tryz.underlying40, rfl⟩, ⟨_, _, rfl, rfl, rfl, rfl, fun c => ⟨⟨rfl, rfl⟩, True.intro⟩⟩, fun e r b h => by cases h; exact ⟨Tryz.underlying40, by decide, _, _, rfl, rfl, rfl, rfl, rfl⟩, fun h => absurd rfl h, nofun, nofun, nofun, nofun, nofun, nofun, fun h => absurd rfl h, nofun⟩
def ty43 : Ty := ⟨false, 1, [.nils], some (142, .pair .str .str, 32), [], false, false, none, none, none, false, [], none⟩
theorem jk9 : TyOk Tryz.prog 43 ty43 := ⟨⟨_, Tryz.underlying43, rfl⟩, ⟨_, _, rfl, rfl, rfl, rfl, fun c => ⟨⟨rfl, rfl⟩, True.intro⟩⟩, fun e r b h => by cases h; exact ⟨Tryz.underlying43, by decide, _, _, rfl, rfl, rfl, rfl, rfl⟩, fun h => absurd rfl h, nofun, nofun, nofun, nofun, nofun, nofun, fun h => absurd rfl h, nofun⟩
def ty44 : Ty := ⟨false, 1, [.nils], some (209, .pair .str (.int .i64), 24), [], false, false, none, none, none, false, [], none⟩
theorem jrr : TyOk Tryz.prog 44 ty44 := ⟨⟨_, Tryz.underlying44, rfl⟩, ⟨_, _, rfl, rfl, rfl, rfl, fun c => ⟨⟨rfl, rfl⟩, True.intro⟩⟩, fun e r b h => by cases h; exact ⟨Tryz.underlying44, by decide, _, _, rfl, rfl, rfl, rfl, rfl⟩, fun h => absurd rfl h, nofun, nofun, nofun, nofun, nofun, nofun, fun h => absurd rfl h, nofun⟩
def ty45 : Ty := ⟨true, 3, [.pv (.int .i64) 0, .nils, .nils], none, [(0, 1), (1, 1), (2, 1)], false, false, none, none, none, false, [(3, 0), (43, 1), (44, 2)], none⟩
theorem joX : TyOk Tryz.prog 45 ty45 := ⟨⟨_, Tryz.underlying45, rfl⟩, ⟨_, _, rfl, rfl, rfl, rfl, fun c => ⟨⟨⟨_, rfl, Rep.int _ _⟩, rfl⟩, ⟨rfl, rfl⟩, ⟨rfl, rfl⟩, True.intro⟩⟩, nofun, fun _ => ⟨_, Tryz.underlying45, by kernel_rfl⟩, nofun, nofun, nofun, nofun, nofun, nofun, fun _ => ⟨_, Tryz.underlying45, by kernel_rfl⟩, nofun⟩
def ty46 : Ty := ⟨true, 3, [.pv (.int .i64) 0, .nils, .nils], none, [(0, 1), (1, 1), (2, 1)], false, false, none, none, none, false, [(3, 0), (43, 1), (44, 2)], none⟩
theorem jl4 : TyOk Tryz.prog 46 ty46 := ⟨⟨_, Tryz.underlying46, rfl⟩, ⟨_, _, rfl, rfl, rfl, rfl, fun c => ⟨⟨⟨_, rfl, Rep.int _ _⟩, rfl⟩, ⟨rfl, rfl⟩, ⟨rfl, rfl⟩, True.intro⟩⟩, nofun, fun _ => ⟨_, Tryz.underlying46, by kernel_rfl⟩, nofun, nofun, nofun, nofun, nofun, nofun, fun _ => ⟨_, Tryz.underlying46, by kernel_rfl⟩, nofun⟩
def ty47 : Ty := ⟨true, 2, [.pv (.int .i64) 0, .pv (.int .i64) 0], none, [(0, 1), (1, 1)], false, false, none, none, none, false, [(3, 0), (3, 1)], none⟩
theorem jwu : TyOk Tryz.prog 47 ty47 := ⟨⟨_, Tryz.underlying47, rfl⟩, ⟨_, _, rfl, rfl, rfl, rfl, fun c => ⟨⟨⟨_, rfl, Rep.int _ _⟩, rfl⟩, ⟨⟨_, rfl, Rep.int _ _⟩, rfl⟩, True.intro⟩⟩, nofun, fun _ => ⟨_, Tryz.underlying47, by kernel_rfl⟩, nofun, nofun, nofun, nofun, nofun, nofun, fun _ => ⟨_, Tryz.underlying47, by kernel_rfl⟩, nofun⟩
def ty48 : Ty := ⟨true, 2, [.pv (.int .i64) 0, .pv (.int .i64) 0], none, [(0, 1), (1, 1)], false, false, none, some (.pair (.int .i64) (.int .i64)), none, false, [(3, 0), (3, 1)], none⟩
theorem jwS : TyOk Tryz.prog 48 ty48 := ⟨⟨_, Tryz.underlying48, rfl⟩, ⟨_, _, rfl, rfl, rfl, rfl, fun c => ⟨⟨⟨_, rfl, Rep.int _ _⟩, rfl⟩, ⟨⟨_, rfl, Rep.int _ _⟩, rfl⟩, True.intro⟩⟩, nofun, fun _ => ⟨_, Tryz.underlying48, by kernel_rfl⟩, nofun, nofun, nofun, fun r h => by cases h; exact eqs_of _ rfl (by kernel_rfl) (by kernel_rfl) (by kernel_rfl) [(false, 3, 0), (false, 3, 1)] (by kernel_rfl) (fun x y => ⟨⟨rfl, rfl, ⟨rfl, _, Tryz.underlying3⟩⟩, ⟨⟨rfl, rfl, ⟨rfl, _, Tryz.underlying3⟩⟩, True.intro⟩⟩), nofun, nofun, fun _ => ⟨_, Tryz.underlying48, by kernel_rfl⟩, nofun⟩
def ty50 : Ty := ⟨false, 1, [.nils], some (160, .pair (.sl .str) .str, 40), [], false, false, none, none, none, false, [], none⟩
theorem jmX : TyOk Tryz.prog 50 ty50 := ⟨⟨_, Tryz.underlying50, rfl⟩, ⟨_, _, rfl, rfl, rfl, rfl, fun c => ⟨⟨rfl, rfl⟩, True.intro⟩⟩, fun e r b h => by cases h; exact ⟨Tryz.underlying50, by decide, _, _, rfl, rfl, rfl, rfl, rfl⟩, fun h => absurd rfl h, nofun, nofun, nofun, nofun, nofun, nofun, fun h => absurd rfl h, nofun⟩
def ty51 : Ty := ⟨true, 2, [.nils, .nils], none, [(0, 1), (1, 1)], false, false, none, none, none, false, [(23, 0), (50, 1)], none⟩
theorem jnW : TyOk Tryz.prog 51 ty51 := ⟨⟨_, Tryz.underlying51, rfl⟩, ⟨_, _, rfl, rfl, rfl, rfl, fun c => ⟨⟨rfl, rfl⟩, ⟨rfl, rfl⟩, True.intro⟩⟩, nofun, fun _ => ⟨_, Tryz.underlying51, by kernel_rfl⟩, nofun, nofun, nofun, nofun, nofun, nofun, fun _ => ⟨_, Tryz.underlying51, by kernel_rfl⟩, nofun⟩
def ty52 : Ty := ⟨true, 2, [.nils, .nils], none, [(0, 1), (1, 1)], false, false, none, none, none, false, [(23, 0), (50, 1)], none⟩
theorem jog : TyOk Tryz.prog 52 ty52 := ⟨⟨_, Tryz.underlying52, rfl⟩, ⟨_, _, rfl, rfl, rfl, rfl, fun c => ⟨⟨rfl, rfl⟩, ⟨rfl, rfl⟩, True.intro⟩⟩, nofun, fun _ => ⟨_, Tryz.underlying52, by kernel_rfl⟩, nofun, nofun, nofun, nofun, nofun, nofun, fun _ => ⟨_, Tryz.underlying52, by kernel_rfl⟩, nofun⟩
def ty53 : Ty := ⟨false, 1, [.nils], some (165, .pair (.int .i64) (.pair (.sl (.pair .str .str)) (.sl (.pair .str (.int .i64)))), 56), [], false, false, none, none, none, false, [], none⟩
theorem jpI : TyOk Tryz.prog 53 ty53 := ⟨⟨_, Tryz.underlying53, rfl⟩, ⟨_, _, rfl, rfl, rfl, rfl, fun c => ⟨⟨rfl, rfl⟩, True.intro⟩⟩, fun e r b h => by cases h; exact ⟨Tryz.underlying53, by decide, _, _, rfl, rfl, rfl, rfl, rfl⟩, fun h => absurd rfl h, nofun, nofun, nofun, nofun, nofun, nofun, fun h => absurd rfl h, nofun⟩
def ty54 : Ty := ⟨false, 1, [.nils], some (169, .pair .str (.pair .str (.sl (.pair (.int .i64) (.sl (.int .i64))))), 56), [], false, false, none, none, none, false, [], none⟩
theorem joI : TyOk Tryz.prog 54 ty54 := ⟨⟨_, Tryz.underlying54, rfl⟩, ⟨_, _, rfl, rfl, rfl, rfl, fun c => ⟨⟨rfl, rfl⟩, True.intro⟩⟩, fun e r b h => by cases h; exact ⟨Tryz.underlying54, by decide, _, _, rfl, rfl, rfl, rfl, rfl⟩, fun h => absurd rfl h, nofun, nofun, nofun, nofun, nofun, nofun, fun h => absurd rfl h, nofun⟩
def ty55 : Ty := ⟨true, 2, [.nils, .nils], none, [(0, 1), (1, 1)], false, false, none, none, none, false, [(53, 0), (54, 1)], none⟩
theorem jlw : TyOk Tryz.prog 55 ty55 := ⟨⟨_, Tryz.underlying55, rfl⟩, ⟨_, _, rfl, rfl, rfl, rfl, fun c => ⟨⟨rfl, rfl⟩, ⟨rfl, rfl⟩, True.intro⟩⟩, nofun, fun _ => ⟨_, Tryz.underlying55, by kernel_rfl⟩, nofun, nofun, nofun, nofun, nofun, nofun, fun _ => ⟨_, Tryz.underlying55, by kernel_rfl⟩, nofun⟩
def ty56 : Ty := ⟨true, 2, [.nils, .nils], none, [(0, 1), (1, 1)], false, false, none, none, none, false, [(53, 0), (54, 1)], none⟩
theorem jnN : TyOk Tryz.prog 56 ty56 := ⟨⟨_, Tryz.underlying56, rfl⟩, ⟨_, _, rfl, rfl, rfl, rfl, fun c => ⟨⟨rfl, rfl⟩, ⟨rfl, rfl⟩, True.intro⟩⟩, nofun, fun _ => ⟨_, Tryz.underlying56, by kernel_rfl⟩, nofun, nofun, nofun, nofun, nofun, nofun, fun _ => ⟨_, Tryz.underlying56, by kernel_rfl⟩, nofun⟩
def ty75 : Ty := ⟨false, 1, [.nils], some (3, .int .i64, 8), [], false, false, none, none, none, false, [], none⟩
theorem jmE : TyOk Tryz.prog 75 ty75 := ⟨⟨_, Tryz.underlying75, rfl⟩, ⟨_, _, rfl, rfl, rfl, rfl, fun c => ⟨⟨rfl, rfl⟩, True.intro⟩⟩, fun e r b h => by cases h; exact ⟨Tryz.underlying75, by decide, _, _, rfl, rfl, rfl, rfl, rfl⟩, fun h => absurd rfl h, nofun, nofun, nofun, nofun, nofun, nofun, fun h => absurd rfl h, nofun⟩
def ty77 : Ty := ⟨false, 1, [.nilp], none, [], false, false, none, none, none, true, [], none⟩
theorem jk4 : TyOk Tryz.prog 77 ty77 := ⟨⟨_, Tryz.underlying77, rfl⟩, ⟨_, _, rfl, rfl, rfl, rfl, fun c => ⟨⟨rfl, rfl⟩, True.intro⟩⟩, nofun, fun h => absurd rfl h, nofun, nofun, nofun, nofun, nofun, fun _ => ⟨_, Tryz.underlying77⟩, fun h => absurd rfl h, nofun⟩
def ty78 : Ty := ⟨true, 4, [.nils, .nils, .nils, .nils], none, [(0, 2), (2, 2)], false, false, none, none, none, false, [(26, 0), (30, 2)], none⟩
theorem jm0 : TyOk Tryz.prog 78 ty78 := ⟨⟨_, Tryz.underlying78, rfl⟩, ⟨_, _, rfl, rfl, rfl, rfl, fun c => ⟨⟨rfl, rfl⟩, ⟨rfl, rfl⟩, ⟨rfl, rfl⟩, ⟨rfl, rfl⟩, True.intro⟩⟩, nofun, fun _ => ⟨_, Tryz.underlying78, by kernel_rfl⟩, nofun, nofun, nofun, nofun, nofun, nofun, fun _ => ⟨_, Tryz.underlying78, by kernel_rfl⟩, nofun⟩
def ty79 : Ty := ⟨true, 4, [.nils, .nils, .nils, .nils], none, [(0, 2), (2, 2)], false, false, none, none, none, false, [(26, 0), (30, 2)], none⟩
theorem jm3 : TyOk Tryz.prog 79 ty79 := ⟨⟨_, Tryz.underlying79, rfl⟩, ⟨_, _, rfl, rfl, rfl, rfl, fun c => ⟨⟨rfl, rfl⟩, ⟨rfl, rfl⟩, ⟨rfl, rfl⟩, ⟨rfl, rfl⟩, True.intro⟩⟩, nofun, fun _ => ⟨_, Tryz.underlying79, by kernel_rfl⟩, nofun, nofun, nofun, nofun, nofun, nofun, fun _ => ⟨_, Tryz.underlying79, by kernel_rfl⟩, nofun⟩
def ty89 : Ty := ⟨false, 1, [.nils], some (152, .pair (.int .i64) (.sl (.int .i64)), 32), [], false, false, none, none, none, false, [], none⟩
theorem jp6 : TyOk Tryz.prog 89 ty89 := ⟨⟨_, Tryz.underlying89, rfl⟩, ⟨_, _, rfl, rfl, rfl, rfl, fun c => ⟨⟨rfl, rfl⟩, True.intro⟩⟩, fun e r b h => by cases h; exact ⟨Tryz.underlying89, by decide, _, _, rfl, rfl, rfl, rfl, rfl⟩, fun h => absurd rfl h, nofun, nofun, nofun, nofun, nofun, nofun, fun h => absurd rfl h, nofun⟩
def ty90 : Ty := ⟨true, 3, [.pv .str [], .pv .str [], .nils], none, [(0, 1), (1, 1), (2, 1)], false, false, none, none, none, false, [(9, 0), (9, 1), (89, 2)], none⟩
theorem jmN : TyOk Tryz.prog 90 ty90 := ⟨⟨_, Tryz.underlying90, rfl⟩, ⟨_, _, rfl, rfl, rfl, rfl, fun c => ⟨⟨⟨_, rfl, Rep.str _⟩, rfl⟩, ⟨⟨_, rfl, Rep.str _⟩, rfl⟩, ⟨rfl, rfl⟩, True.intro⟩⟩, nofun, fun _ => ⟨_, Tryz.underlying90, by kernel_rfl⟩, nofun, nofun, nofun, nofun, nofun, nofun, fun _ => ⟨_, Tryz.underlying90, by kernel_rfl⟩, nofun⟩
def ty91 : Ty := ⟨true, 3, [.pv .str [], .pv .str [], .nils], none, [(0, 1), (1, 1), (2, 1)], false, false, none, none, none, false, [(9, 0), (9, 1), (89, 2)], none⟩
theorem joR : TyOk Tryz.prog 91 ty91 := ⟨⟨_, Tryz.underlying91, rfl⟩, ⟨_, _, rfl, rfl, rfl, rfl, fun c => ⟨⟨⟨_, rfl, Rep.str _⟩, rfl⟩, ⟨⟨_, rfl, Rep.str _⟩, rfl⟩, ⟨rfl, rfl⟩, True.intro⟩⟩, nofun, fun _ => ⟨_, Tryz.underlying91, by kernel_rfl⟩, nofun, nofun, nofun, nofun, nofun, nofun, fun _ => ⟨_, Tryz.underlying91, by kernel_rfl⟩, nofun⟩
def ty97 : Ty := ⟨true, 2, [.pv (.int .i64) 0, .pv (.int .i64) 0], none, [(0, 1), (1, 1)], false, false, none, none, none, false, [(3, 0), (3, 1)], none⟩
theorem jtz : TyOk Tryz.prog 97 ty97 := ⟨⟨_, Tryz.underlying97, rfl⟩, ⟨_, _, rfl, rfl, rfl, rfl, fun c => ⟨⟨⟨_, rfl, Rep.int _ _⟩, rfl⟩, ⟨⟨_, rfl, Rep.int _ _⟩, rfl⟩, True.intro⟩⟩, nofun, fun _ => ⟨_, Tryz.underlying97, by kernel_rfl⟩, nofun, nofun, nofun, nofun, nofun, nofun, fun _ => ⟨_, Tryz.underlying97, by kernel_rfl⟩, nofun⟩
def ty98 : Ty := ⟨true, 2, [.pv (.int .i64) 0, .pv (.int .i64) 0], none, [(0, 1), (1, 1)], false, false, none, some (.pair (.int .i64) (.int .i64)), none, false, [(3, 0), (3, 1)], none⟩
theorem joL : TyOk Tryz.prog 98 ty98 := ⟨⟨_, Tryz.underlying98, rfl⟩, ⟨_, _, rfl, rfl, rfl, rfl, fun c => ⟨⟨⟨_, rfl, Rep.int _ _⟩, rfl⟩, ⟨⟨_, rfl, Rep.int _ _⟩, rfl⟩, True.intro⟩⟩, nofun, fun _ => ⟨_, Tryz.underlying98, by kernel_rfl⟩, nofun, nofun, nofun, fun r h => by cases h; exact eqs_of _ rfl (by kernel_rfl) (by kernel_rfl) (by kernel_rfl) [(false, 3, 0), (false, 3, 1)] (by kernel_rfl) (fun x y => ⟨⟨rfl, rfl, ⟨rfl, _, Tryz.underlying3⟩⟩, ⟨⟨rfl, rfl, ⟨rfl, _, Tryz.underlying3⟩⟩, True.intro⟩⟩), nofun, nofun, fun _ => ⟨_, Tryz.underlying98, by kernel_rfl⟩, nofun⟩
def jiF : Ty := ⟨false, 1, [.nilp], none, [], false, false, none, none, none, true, [], none⟩
theorem joS : TyOk Tryz.prog 125 jiF := ⟨⟨_, Tryz.underlying125, rfl⟩, ⟨_, _, rfl, rfl, rfl, rfl, fun c => ⟨⟨rfl, rfl⟩, True.intro⟩⟩, nofun, fun h => absurd rfl h, nofun, nofun, nofun, nofun, nofun, fun _ => ⟨_, Tryz.underlying125⟩, fun h => absurd rfl h, nofun⟩
def jiN : Ty := ⟨false, 1, [.pv (.int .u64) 0], none, [], false, false, some .u64, none, none, false, [], none⟩
theorem jmd : TyOk Tryz.prog 131 jiN := ⟨⟨_, Tryz.underlying131, rfl⟩, ⟨_, _, rfl, rfl, rfl, rfl, fun c => ⟨⟨⟨_, rfl, Rep.int _ _⟩, rfl⟩, True.intro⟩⟩, nofun, fun h => absurd rfl h, nofun, nofun, fun k h => by cases h; exact Tryz.underlying131, nofun, nofun, nofun, fun h => absurd rfl h, nofun⟩
def jg9 : Ty := ⟨true, 2, [.nils, .pv .str []], none, [(0, 1), (1, 1)], false, false, none, none, none, false, [(23, 0), (9, 1)], none⟩
theorem joi : TyOk Tryz.prog 136 jg9 := ⟨⟨_, Tryz.underlying136, rfl⟩, ⟨_, _, rfl, rfl, rfl, rfl, fun c => ⟨⟨rfl, rfl⟩, ⟨⟨_, rfl, Rep.str _⟩, rfl⟩, True.intro⟩⟩, nofun, fun _ => ⟨_, Tryz.underlying136, by kernel_rfl⟩, nofun, nofun, nofun, nofun, nofun, nofun, fun _ => ⟨_, Tryz.underlying136, by kernel_rfl⟩, nofun⟩
def jeD : Ty := ⟨true, 2, [.nils, .pv .str []], none, [(0, 1), (1, 1)], false, false, none, none, none, false, [(23, 0), (9, 1)], none⟩
theorem jlt : TyOk Tryz.prog 137 jeD := ⟨⟨_, Tryz.underlying137, rfl⟩, ⟨_, _, rfl, rfl, rfl, rfl, fun c => ⟨⟨rfl, rfl⟩, ⟨⟨_, rfl, Rep.str _⟩, rfl⟩, True.intro⟩⟩, nofun, fun _ => ⟨_, Tryz.underlying137, by kernel_rfl⟩, nofun, nofun, nofun, nofun, nofun, nofun, fun _ => ⟨_, Tryz.underlying137, by kernel_rfl⟩, nofun⟩
def jeZ : Ty := ⟨true, 2, [.pv .str [], .pv .str []], none, [(0, 1), (1, 1)], false, false, none, none, none, false, [(9, 0), (9, 1)], none⟩
theorem jmI : TyOk Tryz.prog 141 jeZ := ⟨⟨_, Tryz.underlying141, rfl⟩, ⟨_, _, rfl, rfl, rfl, rfl, fun c => ⟨⟨⟨_, rfl, Rep.str _⟩, rfl⟩, ⟨⟨_, rfl, Rep.str _⟩, rfl⟩, True.intro⟩⟩, nofun, fun _ => ⟨_, Tryz.underlying141, by kernel_rfl⟩, nofun, nofun, nofun, nofun, nofun, nofun, fun _ => ⟨_, Tryz.underlying141, by kernel_rfl⟩, nofun⟩
def jhm : Ty := ⟨true, 2, [.pv .str [], .pv .str []], none, [(0, 1), (1, 1)], false, false, none, some (.pair .str .str), none, false, [(9, 0), (9, 1)], none⟩
theorem jpp : TyOk Tryz.prog 142 jhm := ⟨⟨_, Tryz.underlying142, rfl⟩, ⟨_, _, rfl, rfl, rfl, rfl, fun c => ⟨⟨⟨_, rfl, Rep.str _⟩, rfl⟩, ⟨⟨_, rfl, Rep.str _⟩, rfl⟩, True.intro⟩⟩, nofun, fun _ => ⟨_, Tryz.underlying142, by kernel_rfl⟩, nofun, nofun, nofun, fun r h => by cases h; exact eqs_of _ rfl (by kernel_rfl) (by kernel_rfl) (by kernel_rfl) [(false, 9, 0), (false, 9, 1)] (by kernel_rfl) (fun x y => ⟨⟨rfl, rfl, Tryz.underlying9⟩, ⟨⟨rfl, rfl, Tryz.underlying9⟩, True.intro⟩⟩), nofun, nofun, fun _ => ⟨_, Tryz.underlying142, by kernel_rfl⟩, nofun⟩
def jem : Ty := ⟨false, 1, [.nils], some (146, .pair .str (.int .i64), 24), [], false, false, none, none, none, false, [], none⟩
theorem joF : TyOk Tryz.prog 143 jem := ⟨⟨_, Tryz.underlying143, rfl⟩, ⟨_, _, rfl, rfl, rfl, rfl, fun c => ⟨⟨rfl, rfl⟩, True.intro⟩⟩, fun e r b h => by cases h; exact ⟨Tryz.underlying143, by decide, _, _, rfl, rfl, rfl, rfl, rfl⟩, fun h => absurd rfl h, nofun, nofun, nofun, nofun, nofun, nofun, fun h => absurd rfl h, nofun⟩
def jfd : Ty := ⟨true, 2, [.pv .str [], .pv (.int .i64) 0], none, [(0, 1), (1, 1)], false, false, none, none, none, false, [(9, 0), (3, 1)], none⟩
theorem jsq : TyOk Tryz.prog 145 jfd := ⟨⟨_, Tryz.underlying145, rfl⟩, ⟨_, _, rfl, rfl, rfl, rfl, fun c => ⟨⟨⟨_, rfl, Rep.str _⟩, rfl⟩, ⟨⟨_, rfl, Rep.int _ _⟩, rfl⟩, True.intro⟩⟩, nofun, fun _ => ⟨_, Tryz.underlying145, by kernel_rfl⟩, nofun, nofun, nofun, nofun, nofun, nofun, fun _ => ⟨_, Tryz.underlying145, by kernel_rfl⟩, nofun⟩
def ji9 : Ty := ⟨true, 2, [.pv .str [], .pv (.int .i64) 0], none, [(0, 1), (1, 1)], false, false, none, some (.pair .str (.int .i64)), none, false, [(9, 0), (3, 1)], none⟩
theorem jku : TyOk Tryz.prog 146 ji9 := ⟨⟨_, Tryz.underlying146, rfl⟩, ⟨_, _, rfl, rfl, rfl, rfl, fun c => ⟨⟨⟨_, rfl, Rep.str _⟩, rfl⟩, ⟨⟨_, rfl, Rep.int _ _⟩, rfl⟩, True.intro⟩⟩, nofun, fun _ => ⟨_, Tryz.underlying146, by kernel_rfl⟩, nofun, nofun, nofun, fun r h => by cases h; exact eqs_of _ rfl (by kernel_rfl) (by kernel_rfl) (by kernel_rfl) [(false, 9, 0), (false, 3, 1)] (by kernel_rfl) (fun x y => ⟨⟨rfl, rfl, Tryz.underlying9⟩, ⟨⟨rfl, rfl, ⟨rfl, _, Tryz.underlying3⟩⟩, True.intro⟩⟩), nofun, nofun, fun _ => ⟨_, Tryz.underlying146, by kernel_rfl⟩, nofun⟩
def jiW : Ty := ⟨true, 2, [.pv (.int .i64) 0, .nils], none, [(0, 1), (1, 1)], false, false, none, none, none, false, [(3, 0), (75, 1)], none⟩
theorem jmC : TyOk Tryz.prog 151 jiW := ⟨⟨_, Tryz.underlying151, rfl⟩, ⟨_, _, rfl, rfl, rfl, rfl, fun c => ⟨⟨⟨_, rfl, Rep.int _ _⟩, rfl⟩, ⟨rfl, rfl⟩, True.intro⟩⟩, nofun, fun _ => ⟨_, Tryz.underlying151, by kernel_rfl⟩, nofun, nofun, nofun, nofun, nofun, nofun, fun _ => ⟨_, Tryz.underlying151, by kernel_rfl⟩, nofun⟩
def jja : Ty := ⟨true, 2, [.pv (.int .i64) 0, .nils], none, [(0, 1), (1, 1)], false, false, none, none, none, false, [(3, 0), (75, 1)], none⟩
theorem jsI : TyOk Tryz.prog 152 jja := ⟨⟨_, Tryz.underlying152, rfl⟩, ⟨_, _, rfl, rfl, rfl, rfl, fun c => ⟨⟨⟨_, rfl, Rep.int _ _⟩, rfl⟩, ⟨rfl, rfl⟩, True.intro⟩⟩, nofun, fun _ => ⟨_, Tryz.underlying152, by kernel_rfl⟩, nofun, nofun, nofun, nofun, nofun, nofun, fun _ => ⟨_, Tryz.underlying152, by kernel_rfl⟩, nofun⟩
def jgh : Ty := ⟨true, 2, [.nils, .pv .str []], none, [(0, 1), (1, 1)], false, false, none, none, none, false, [(23, 0), (9, 1)], none⟩
theorem jq0 : TyOk Tryz.prog 160 jgh := ⟨⟨_, Tryz.underlying160, rfl⟩, ⟨_, _, rfl, rfl, rfl, rfl, fun c => ⟨⟨rfl, rfl⟩, ⟨⟨_, rfl, Rep.str _⟩, rfl⟩, True.intro⟩⟩, nofun, fun _ => ⟨_, Tryz.underlying160, by kernel_rfl⟩, nofun, nofun, nofun, nofun, nofun, nofun, fun _ => ⟨_, Tryz.underlying160, by kernel_rfl⟩, nofun⟩
def jg0 : Ty := ⟨false, 1, [.nils], some (254, .pair .str .str, 32), [], false, false, none, none, none, false, [], none⟩
theorem jqt : TyOk Tryz.prog 162 jg0 := ⟨⟨_, Tryz.underlying162, rfl⟩, ⟨_, _, rfl, rfl, rfl, rfl, fun c => ⟨⟨rfl, rfl⟩, True.intro⟩⟩, fun e r b h => by cases h; exact ⟨Tryz.underlying162, by decide, _, _, rfl, rfl, rfl, rfl, rfl⟩, fun h => absurd rfl h, nofun, nofun, nofun, nofun, nofun, nofun, fun h => absurd rfl h, nofun⟩
def ji0 : Ty := ⟨false, 1, [.nils], some (256, .pair .str (.int .i64), 24), [], false, false, none, none, none, false, [], none⟩
theorem jrX : TyOk Tryz.prog 163 ji0 := ⟨⟨_, Tryz.underlying163, rfl⟩, ⟨_, _, rfl, rfl, rfl, rfl, fun c => ⟨⟨rfl, rfl⟩, True.intro⟩⟩, fun e r b h => by cases h; exact ⟨Tryz.underlying163, by decide, _, _, rfl, rfl, rfl, rfl, rfl⟩, fun h => absurd rfl h, nofun, nofun, nofun, nofun, nofun, nofun, fun h => absurd rfl h, nofun⟩
def jh3 : Ty := ⟨true, 3, [.pv (.int .i64) 0, .nils, .nils], none, [(0, 1), (1, 1), (2, 1)], false, false, none, none, none, false, [(3, 0), (162, 1), (163, 2)], none⟩
theorem jkP : TyOk Tryz.prog 164 jh3 := ⟨⟨_, Tryz.underlying164, rfl⟩, ⟨_, _, rfl, rfl, rfl, rfl, fun c => ⟨⟨⟨_, rfl, Rep.int _ _⟩, rfl⟩, ⟨rfl, rfl⟩, ⟨rfl, rfl⟩, True.intro⟩⟩, nofun, fun _ => ⟨_, Tryz.underlying164, by kernel_rfl⟩, nofun, nofun, nofun, nofun, nofun, nofun, fun _ => ⟨_, Tryz.underlying164, by kernel_rfl⟩, nofun⟩
def jjd : Ty := ⟨true, 3, [.pv (.int .i64) 0, .nils, .nils], none, [(0, 1), (1, 1), (2, 1)], false, false, none, none, none, false, [(3, 0), (162, 1), (163, 2)], none⟩
theorem jnD : TyOk Tryz.prog 165 jjd := ⟨⟨_, Tryz.underlying165, rfl⟩, ⟨_, _, rfl, rfl, rfl, rfl, fun c => ⟨⟨⟨_, rfl, Rep.int _ _⟩, rfl⟩, ⟨rfl, rfl⟩, ⟨rfl, rfl⟩, True.intro⟩⟩, nofun, fun _ => ⟨_, Tryz.underlying165, by kernel_rfl⟩, nofun, nofun, nofun, nofun, nofun, nofun, fun _ => ⟨_, Tryz.underlying165, by kernel_rfl⟩, nofun⟩
def jiX : Ty := ⟨false, 1, [.nils], some (258, .pair (.int .i64) (.sl (.int .i64)), 32), [], false, false, none, none, none, false, [], none⟩
theorem jo7 : TyOk Tryz.prog 167 jiX := ⟨⟨_, Tryz.underlying167, rfl⟩, ⟨_, _, rfl, rfl, rfl, rfl, fun c => ⟨⟨rfl, rfl⟩, True.intro⟩⟩, fun e r b h => by cases h; exact ⟨Tryz.underlying167, by decide, _, _, rfl, rfl, rfl, rfl, rfl⟩, fun h => absurd rfl h, nofun, nofun, nofun, nofun, nofun, nofun, fun h => absurd rfl h, nofun⟩
def jhn : Ty := ⟨true, 3, [.pv .str [], .pv .str [], .nils], none, [(0, 1), (1, 1), (2, 1)], false, false, none, none, none, false, [(9, 0), (9, 1), (167, 2)], none⟩
theorem jli : TyOk Tryz.prog 168 jhn := ⟨⟨_, Tryz.underlying168, rfl⟩, ⟨_, _, rfl, rfl, rfl, rfl, fun c => ⟨⟨⟨_, rfl, Rep.str _⟩, rfl⟩, ⟨⟨_, rfl, Rep.str _⟩, rfl⟩, ⟨rfl, rfl⟩, True.intro⟩⟩, nofun, fun _ => ⟨_, Tryz.underlying168, by kernel_rfl⟩, nofun, nofun, nofun, nofun, nofun, nofun, fun _ => ⟨_, Tryz.underlying168, by kernel_rfl⟩, nofun⟩
def jiu : Ty := ⟨true, 3, [.pv .str [], .pv .str [], .nils], none, [(0, 1), (1, 1), (2, 1)], false, false, none, none, none, false, [(9, 0), (9, 1), (167, 2)], none⟩
theorem jlk : TyOk Tryz.prog 169 jiu := ⟨⟨_, Tryz.underlying169, rfl⟩, ⟨_, _, rfl, rfl, rfl, rfl, fun c => ⟨⟨⟨_, rfl, Rep.str _⟩, rfl⟩, ⟨⟨_, rfl, Rep.str _⟩, rfl⟩, ⟨rfl, rfl⟩, True.intro⟩⟩, nofun, fun _ => ⟨_, Tryz.underlying169, by kernel_rfl⟩, nofun, nofun, nofun, nofun, nofun, nofun, fun _ => ⟨_, Tryz.underlying169, by kernel_rfl⟩, nofun⟩
def jgX : Ty := ⟨false, 1, [.pv (.int .i64) 0], none, [], false, false, some .i64, none, none, false, [], none⟩
theorem jkR : TyOk Tryz.prog 184 jgX := ⟨⟨_, Tryz.underlying184, rfl⟩, ⟨_, _, rfl, rfl, rfl, rfl, fun c => ⟨⟨⟨_, rfl, Rep.int _ _⟩, rfl⟩, True.intro⟩⟩, nofun, fun h => absurd rfl h, nofun, nofun, fun k h => by cases h; exact Tryz.underlying184, nofun, nofun, nofun, fun h => absurd rfl h, nofun⟩
def jjh : Ty := ⟨false, 1, [.pv (.int .u32) 0], none, [], false, false, some .u32, none, none, false, [], none⟩
theorem jry : TyOk Tryz.prog 192 jjh := ⟨⟨_, Tryz.underlying192, rfl⟩, ⟨_, _, rfl, rfl, rfl, rfl, fun c => ⟨⟨⟨_, rfl, Rep.int _ _⟩, rfl⟩, True.intro⟩⟩, nofun, fun h => absurd rfl h, nofun, nofun, fun k h => by cases h; exact Tryz.underlying192, nofun, nofun, nofun, fun h => absurd rfl h, nofun⟩
def jgb : Ty := ⟨false, 1, [.pv (.int .u64) 0], none, [], false, false, some .u64, none, none, false, [], none⟩
theorem jmn : TyOk Tryz.prog 194 jgb := ⟨⟨_, Tryz.underlying194, rfl⟩, ⟨_, _, rfl, rfl, rfl, rfl, fun c => ⟨⟨⟨_, rfl, Rep.int _ _⟩, rfl⟩, True.intro⟩⟩, nofun, fun h => absurd rfl h, nofun, nofun, fun k h => by cases h; exact Tryz.underlying194, nofun, nofun, nofun, fun h => absurd rfl h, nofun⟩
def jje : Ty := ⟨true, 2, [.pv .str [], .pv (.int .i64) 0], none, [(0, 1), (1, 1)], false, false, none, none, none, false, [(9, 0), (3, 1)], none⟩
theorem jqy : TyOk Tryz.prog 208 jje := ⟨⟨_, Tryz.underlying208, rfl⟩, ⟨_, _, rfl, rfl, rfl, rfl, fun c => ⟨⟨⟨_, rfl, Rep.str _⟩, rfl⟩, ⟨⟨_, rfl, Rep.int _ _⟩, rfl⟩, True.intro⟩⟩, nofun, fun _ => ⟨_, Tryz.underlying208, by kernel_rfl⟩, nofun, nofun, nofun, nofun, nofun, nofun, fun _ => ⟨_, Tryz.underlying208, by kernel_rfl⟩, nofun⟩
def jhV : Ty := ⟨true, 2, [.pv .str [], .pv (.int .i64) 0], none, [(0, 1), (1, 1)], false, false, none, some (.pair .str (.int .i64)), none, false, [(9, 0), (3, 1)], none⟩
theorem jsP : TyOk Tryz.prog 209 jhV := ⟨⟨_, Tryz.underlying209, rfl⟩, ⟨_, _, rfl, rfl, rfl, rfl, fun c => ⟨⟨⟨_, rfl, Rep.str _⟩, rfl⟩, ⟨⟨_, rfl, Rep.int _ _⟩, rfl⟩, True.intro⟩⟩, nofun, fun _ => ⟨_, Tryz.underlying209, by kernel_rfl⟩, nofun, nofun, nofun, fun r h => by cases h; exact eqs_of _ rfl (by kernel_rfl) (by kernel_rfl) (by kernel_rfl) [(false, 9, 0), (false, 3, 1)] (by kernel_rfl) (fun x y => ⟨⟨rfl, rfl, Tryz.underlying9⟩, ⟨⟨rfl, rfl, ⟨rfl, _, Tryz.underlying3⟩⟩, True.intro⟩⟩), nofun, nofun, fun _ => ⟨_, Tryz.underlying209, by kernel_rfl⟩, nofun⟩
def ji1 : Ty := ⟨false, 1, [.nils], some (213, .pair .str (.pair (.int .i64) (.pair (.int .i64) (.int .i64))), 40), [], false, false, none, none, none, false, [], none⟩
theorem jtI : TyOk Tryz.prog 210 ji1 := ⟨⟨_, Tryz.underlying210, rfl⟩, ⟨_, _, rfl, rfl, rfl, rfl, fun c => ⟨⟨rfl, rfl⟩, True.intro⟩⟩, fun e r b h => by cases h; exact ⟨Tryz.underlying210, by decide, _, _, rfl, rfl, rfl, rfl, rfl⟩, fun h => absurd rfl h, nofun, nofun, nofun, nofun, nofun, nofun, fun h => absurd rfl h, nofun⟩
def jjt : Ty := ⟨true, 4, [.pv .str [], .pv (.int .i64) 0, .pv (.int .i64) 0, .pv (.int .i64) 0], none, [(0, 1), (1, 1), (2, 1), (3, 1)], false, false, none, none, none, false, [(9, 0), (3, 1), (3, 2), (3, 3)], none⟩
theorem jtb : TyOk Tryz.prog 212 jjt := ⟨⟨_, Tryz.underlying212, rfl⟩, ⟨_, _, rfl, rfl, rfl, rfl, fun c => ⟨⟨⟨_, rfl, Rep.str _⟩, rfl⟩, ⟨⟨_, rfl, Rep.int _ _⟩, rfl⟩, ⟨⟨_, rfl, Rep.int _ _⟩, rfl⟩, ⟨⟨_, rfl, Rep.int _ _⟩, rfl⟩, True.intro⟩⟩, nofun, fun _ => ⟨_, Tryz.underlying212, by kernel_rfl⟩, nofun, nofun, nofun, nofun, nofun, nofun, fun _ => ⟨_, Tryz.underlying212, by kernel_rfl⟩, nofun⟩
def jhd : Ty := ⟨true, 4, [.pv .str [], .pv (.int .i64) 0, .pv (.int .i64) 0, .pv (.int .i64) 0], none, [(0, 1), (1, 1), (2, 1), (3, 1)], false, false, none, some (.pair .str (.pair (.int .i64) (.pair (.int .i64) (.int .i64)))), none, false, [(9, 0), (3, 1), (3, 2), (3, 3)], none⟩
theorem jr4 : TyOk Tryz.prog 213 jhd := ⟨⟨_, Tryz.underlying213, rfl⟩, ⟨_, _, rfl, rfl, rfl, rfl, fun c => ⟨⟨⟨_, rfl, Rep.str _⟩, rfl⟩, ⟨⟨_, rfl, Rep.int _ _⟩, rfl⟩, ⟨⟨_, rfl, Rep.int _ _⟩, rfl⟩, ⟨⟨_, rfl, Rep.int _ _⟩, rfl⟩, True.intro⟩⟩, nofun, fun _ => ⟨_, Tryz.underlying213, by kernel_rfl⟩, nofun, nofun, nofun, fun r h => by cases h; exact eqs_of _ rfl (by kernel_rfl) (by kernel_rfl) (by kernel_rfl) [(false, 9, 0), (false, 3, 1), (false, 3, 2), (false, 3, 3)] (by kernel_rfl) (fun x y => ⟨⟨rfl, rfl, Tryz.underlying9⟩, ⟨⟨rfl, rfl, ⟨rfl, _, Tryz.underlying3⟩⟩, ⟨⟨rfl, rfl, ⟨rfl, _, Tryz.underlying3⟩⟩, ⟨⟨rfl, rfl, ⟨rfl, _, Tryz.underlying3⟩⟩, True.intro⟩⟩⟩⟩), nofun, nofun, fun _ => ⟨_, Tryz.underlying213, by kernel_rfl⟩, nofun⟩
def jij : Ty := ⟨false, 1, [.nilp], none, [], false, false, none, none, none, true, [], none⟩
theorem jqh : TyOk Tryz.prog 214 jij := ⟨⟨_, Tryz.underlying214, rfl⟩, ⟨_, _, rfl, rfl, rfl, rfl, fun c => ⟨⟨rfl, rfl⟩, True.intro⟩⟩, nofun, fun h => absurd rfl h, nofun, nofun, nofun, nofun, nofun, fun _ => ⟨_, Tryz.underlying214⟩, fun h => absurd rfl h, nofun⟩
def jh4 : Ty := ⟨false, 1, [.pv (.int .u64) 0], none, [], false, false, some .u64, none, none, false, [], none⟩
theorem jn7 : TyOk Tryz.prog 233 jh4 := ⟨⟨_, Tryz.underlying233, rfl⟩, ⟨_, _, rfl, rfl, rfl, rfl, fun c => ⟨⟨⟨_, rfl, Rep.int _ _⟩, rfl⟩, True.intro⟩⟩, nofun, fun h => absurd rfl h, nofun, nofun, fun k h => by cases h; exact Tryz.underlying233, nofun, nofun, nofun, fun h => absurd rfl h, nofun⟩
def jiE : Ty := ⟨false, 1, [.nilp], none, [], false, false, none, none, none, true, [], none⟩
theorem jpi : TyOk Tryz.prog 237 jiE := ⟨⟨_, Tryz.underlying237, rfl⟩, ⟨_, _, rfl, rfl, rfl, rfl, fun c => ⟨⟨rfl, rfl⟩, True.intro⟩⟩, nofun, fun h => absurd rfl h, nofun, nofun, nofun, nofun, nofun, fun _ => ⟨_, Tryz.underlying237⟩, fun h => absurd rfl h, nofun⟩
def jjG : Ty := ⟨true, 2, [.pv .str [], .pv .str []], none, [(0, 1), (1, 1)], false, false, none, some (.pair .str .str), none, false, [(9, 0), (9, 1)], none⟩
theorem jqY : TyOk Tryz.prog 254 jjG := ⟨⟨_, Tryz.underlying254, rfl⟩, ⟨_, _, rfl, rfl, rfl, rfl, fun c => ⟨⟨⟨_, rfl, Rep.str _⟩, rfl⟩, ⟨⟨_, rfl, Rep.str _⟩, rfl⟩, True.intro⟩⟩, nofun, fun _ => ⟨_, Tryz.underlying254, by kernel_rfl⟩, nofun, nofun, nofun, fun r h => by cases h; exact eqs_of _ rfl (by kernel_rfl) (by kernel_rfl) (by kernel_rfl) [(false, 9, 0), (false, 9, 1)] (by kernel_rfl) (fun x y => ⟨⟨rfl, rfl, Tryz.underlying9⟩, ⟨⟨rfl, rfl, Tryz.underlying9⟩, True.intro⟩⟩), nofun, nofun, fun _ => ⟨_, Tryz.underlying254, by kernel_rfl⟩, nofun⟩
def jf0 : Ty := ⟨true, 2, [.pv .str [], .pv (.int .i64) 0], none, [(0, 1), (1, 1)], false, false, none, some (.pair .str (.int .i64)), none, false, [(9, 0), (3, 1)], none⟩
theorem jmQ : TyOk Tryz.prog 256 jf0 := ⟨⟨_, Tryz.underlying256, rfl⟩, ⟨_, _, rfl, rfl, rfl, rfl, fun c => ⟨⟨⟨_, rfl, Rep.str _⟩, rfl⟩, ⟨⟨_, rfl, Rep.int _ _⟩, rfl⟩, True.intro⟩⟩, nofun, fun _ => ⟨_, Tryz.underlying256, by kernel_rfl⟩, nofun, nofun, nofun, fun r h => by cases h; exact eqs_of _ rfl (by kernel_rfl) (by kernel_rfl) (by kernel_rfl) [(false, 9, 0), (false, 3, 1)] (by kernel_rfl) (fun x y => ⟨⟨rfl, rfl, Tryz.underlying9⟩, ⟨⟨rfl, rfl, ⟨rfl, _, Tryz.underlying3⟩⟩, True.intro⟩⟩), nofun, nofun, fun _ => ⟨_, Tryz.underlying256, by kernel_rfl⟩, nofun⟩
def jhO : Ty := ⟨true, 2, [.pv (.int .i64) 0, .nils], none, [(0, 1), (1, 1)], false, false, none, none, none, false, [(3, 0), (75, 1)], none⟩
theorem jtS : TyOk Tryz.prog 258 jhO := ⟨⟨_, Tryz.underlying258, rfl⟩, ⟨_, _, rfl, rfl, rfl, rfl, fun c => ⟨⟨⟨_, rfl, Rep.int _ _⟩, rfl⟩, ⟨rfl, rfl⟩, True.intro⟩⟩, nofun, fun _ => ⟨_, Tryz.underlying258, by kernel_rfl⟩, nofun, nofun, nofun, nofun, nofun, nofun, fun _ => ⟨_, Tryz.underlying258, by kernel_rfl⟩, nofun⟩
def jf7 : Ty := ⟨false, 1, [.nilp], none, [], false, false, none, none, none, true, [], none⟩
theorem jpE : TyOk Tryz.prog 264 jf7 := ⟨⟨_, Tryz.underlying264, rfl⟩, ⟨_, _, rfl, rfl, rfl, rfl, fun c => ⟨⟨rfl, rfl⟩, True.intro⟩⟩, nofun, fun h => absurd rfl h, nofun, nofun, nofun, nofun, nofun, fun _ => ⟨_, Tryz.underlying264⟩, fun h => absurd rfl h, nofun⟩
def jcH : List (Nat × Ty) → Nat → Option Ty
 | [], _ => none
 | (k, y) :: l, t => bif Nat.beq t k then some y else jcH l t
def jc4 (P : Program) : List (Nat × Ty) → Prop
 | [] => True
 | (k, y) :: l => TyOk P k y ∧ jc4 P l
theorem jeo {P : Program} : ∀ {l : List (Nat × Ty)}, jc4 P l → ∀ t y, jcH l t = some y → TyOk P t y
 | [], _, t, y, h => by cases h
 | (k, z) :: l, hl, t, y, h => by
  simp only [jcH] at h
  cases e : Nat.beq t k with
  | true => rw [e] at h; cases h; rw [zby e]; exact hl.1
  | false => rw [e] at h; exact jeo hl.2 t y h
def tyL : List (Nat × Ty) := [(2, ty2), (3, ty3), (4, ty4), (5, ty5), (9, ty9), (22, ty22), (23, ty23), (24, ty24), (25, ty25), (26, ty26), (27, ty27), (28, ty28), (29, ty29), (30, ty30), (40, ty40), (43, ty43), (44, ty44), (45, ty45), (46, ty46), (47, ty47), (48, ty48), (50, ty50), (51, ty51), (52, ty52), (53, ty53), (54, ty54), (55, ty55), (56, ty56), (75, ty75), (77, ty77), (78, ty78), (79, ty79), (89, ty89), (90, ty90), (91, ty91), (97, ty97), (98, ty98), (125, jiF), (131, jiN), (136, jg9), (137, jeD), (141, jeZ), (142, jhm), (143, jem), (145, jfd), (146, ji9), (151, jiW), (152, jja), (160, jgh), (162, jg0), (163, ji0), (164, jh3), (165, jjd), (167, jiX), (168, jhn), (169, jiu), (184, jgX), (192, jjh), (194, jgb), (208, jje), (209, jhV), (210, ji1), (212, jjt), (213, jhd), (214, jij), (233, jh4), (237, jiE), (254, jjG), (256, jf0), (258, jhO), (264, jf7)]
theorem jnJ : jc4 Tryz.prog tyL := ⟨jnr, jkV, jsX, joh, jlm, jkf, jlb, jo8, jtq, jmW, jtj, jmp, jse, jlj, jv6, jk9, jrr, joX, jl4, jwu, jwS, jmX, jnW, jog, jpI, joI, jlw, jnN, jmE, jk4, jm0, jm3, jp6, jmN, joR, jtz, joL, joS, jmd, joi, jlt, jmI, jpp, joF, jsq, jku, jmC, jsI, jq0, jqt, jrX, jkP, jnD, jo7, jli, jlk, jkR, jry, jmn, jqy, jsP, jtI, jtb, jr4, jqh, jn7, jpi, jqY, jmQ, jtS, jpE, True.intro⟩
def ja1 : List (Nat × Model) → Nat → List Model
 | [], _ => []
 | (k, m) :: l, f => bif Nat.beq f k then m :: ja1 l f else ja1 l f
def jR (P : Program) : List (Nat × Model) → Prop
 | [] => True
 | (k, m) :: l => ModelOk P k m ∧ jR P l
theorem jef {P : Program} : ∀ {l : List (Nat × Model)}, jR P l → ∀ f m, m ∈ ja1 l f → ModelOk P f m
 | [], _, f, m, h => by cases h
 | (k, x) :: l, hl, f, m, h => by
  simp only [ja1] at h
  cases e : Nat.beq f k with
  | true =>
   rw [e] at h
   rcases zp.1 h with h | h
   ·subst h; rw [zby e]; exact hl.1
   ·exact jef hl.2 f m h
  | false => rw [e] at h; exact jef hl.2 f m h
theorem ja {P : Program} : jR P [] := True.intro
theorem jsH {P : Program} {k : Nat} {m : Model} {l : List (Nat × Model)} (h : ModelOk P k m) (hl : jR P l) : jR P ((k, m) :: l) := And.intro h hl
def memB : List Nat → Nat → Bool
 | [], _ => false
 | k :: l, j => bif Nat.beq j k then true else memB l j
noncomputable def jbC (l : List (Nat × Model)) (wr res : List Nat) (dw : List Nat := []) : Env := ⟨Tryz.prog, jcH tyL, ja1 l, memB wr, memB res, memB dw⟩
theorem jtQ {l : List (Nat × Model)} (h : jR Tryz.prog l) (wr res : List Nat) (dw : List Nat := []) : EnvOk (jbC l wr res dw) := ⟨by kernel_rfl, jeo jnJ, jef h⟩
end Go.Proofs.YtcjbjmbialienaaGreatDoor
