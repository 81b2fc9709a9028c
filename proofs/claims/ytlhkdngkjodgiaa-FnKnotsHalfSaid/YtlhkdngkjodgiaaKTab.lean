/- The table of types, by program. -/
import Derived.Test.YtlhkdngkjodgiaaK25
import Derived.Test.YtlhkdngkjodgiaaProg
import Derived.KernelRfl
set_option linter.unusedSimpArgs false
set_option linter.unusedVariables false
namespace Go.Proofs.Ytlhkdngkjodgiaa
open Go.RowKit
def ty2 : Ty := ⟨false, 1, [.pv (.int .i64) 0], none, [], false, false, some .i64, none, none, false⟩
set_option maxRecDepth 100000 in
theorem tyOk2 : TyOk Try.prog 2 ty2 := ⟨⟨_, Try.underlying2, rfl⟩, ⟨_, _, rfl, rfl, rfl, rfl, fun c => ⟨⟨⟨_, rfl, Rep.int _ _⟩, rfl⟩, True.intro⟩⟩, nofun, fun h => absurd rfl h, nofun, nofun, fun k h => by cases h; exact Try.underlying2, nofun, nofun, nofun⟩
def ty3 : Ty := ⟨false, 1, [.pv (.int .i64) 0], none, [], false, false, some .i64, none, none, false⟩
set_option maxRecDepth 100000 in
theorem tyOk3 : TyOk Try.prog 3 ty3 := ⟨⟨_, Try.underlying3, rfl⟩, ⟨_, _, rfl, rfl, rfl, rfl, fun c => ⟨⟨⟨_, rfl, Rep.int _ _⟩, rfl⟩, True.intro⟩⟩, nofun, fun h => absurd rfl h, nofun, nofun, fun k h => by cases h; exact Try.underlying3, nofun, nofun, nofun⟩
def ty4 : Ty := ⟨false, 1, [.pv .bool false], none, [], false, true, none, none, none, false⟩
set_option maxRecDepth 100000 in
theorem tyOk4 : TyOk Try.prog 4 ty4 := ⟨⟨_, Try.underlying4, rfl⟩, ⟨_, _, rfl, rfl, rfl, rfl, fun c => ⟨⟨⟨_, rfl, Rep.bool _⟩, rfl⟩, True.intro⟩⟩, nofun, fun h => absurd rfl h, nofun, fun _ => Try.underlying4, nofun, nofun, nofun, nofun⟩
def ty5 : Ty := ⟨false, 1, [.pv (.int .u8) 0], none, [], false, false, some .u8, none, none, false⟩
set_option maxRecDepth 100000 in
theorem tyOk5 : TyOk Try.prog 5 ty5 := ⟨⟨_, Try.underlying5, rfl⟩, ⟨_, _, rfl, rfl, rfl, rfl, fun c => ⟨⟨⟨_, rfl, Rep.int _ _⟩, rfl⟩, True.intro⟩⟩, nofun, fun h => absurd rfl h, nofun, nofun, fun k h => by cases h; exact Try.underlying5, nofun, nofun, nofun⟩
def ty6 : Ty := ⟨false, 1, [.pv (.int .u8) 0], none, [], false, false, some .u8, none, none, false⟩
set_option maxRecDepth 100000 in
theorem tyOk6 : TyOk Try.prog 6 ty6 := ⟨⟨_, Try.underlying6, rfl⟩, ⟨_, _, rfl, rfl, rfl, rfl, fun c => ⟨⟨⟨_, rfl, Rep.int _ _⟩, rfl⟩, True.intro⟩⟩, nofun, fun h => absurd rfl h, nofun, nofun, fun k h => by cases h; exact Try.underlying6, nofun, nofun, nofun⟩
def ty7 : Ty := ⟨true, 4, [.pv (.int .i64) 0, .pv (.int .i64) 0, .pv .bool false, .pv (.int .u8) 0], none, [(0, 1), (1, 1), (2, 1), (3, 1)], false, false, none, none, none, false⟩
set_option maxRecDepth 100000 in
theorem tyOk7 : TyOk Try.prog 7 ty7 := ⟨⟨_, Try.underlying7, rfl⟩, ⟨_, _, rfl, rfl, rfl, rfl, fun c => ⟨⟨⟨_, rfl, Rep.int _ _⟩, rfl⟩, ⟨⟨_, rfl, Rep.int _ _⟩, rfl⟩, ⟨⟨_, rfl, Rep.bool _⟩, rfl⟩, ⟨⟨_, rfl, Rep.int _ _⟩, rfl⟩, True.intro⟩⟩, nofun, fun _ => ⟨_, Try.underlying7, by kernel_rfl⟩, nofun, nofun, nofun, nofun, nofun, nofun⟩
def ty8 : Ty := ⟨true, 4, [.pv (.int .i64) 0, .pv (.int .i64) 0, .pv .bool false, .pv (.int .u8) 0], none, [(0, 1), (1, 1), (2, 1), (3, 1)], false, false, none, none, none, false⟩
set_option maxRecDepth 100000 in
theorem tyOk8 : TyOk Try.prog 8 ty8 := ⟨⟨_, Try.underlying8, rfl⟩, ⟨_, _, rfl, rfl, rfl, rfl, fun c => ⟨⟨⟨_, rfl, Rep.int _ _⟩, rfl⟩, ⟨⟨_, rfl, Rep.int _ _⟩, rfl⟩, ⟨⟨_, rfl, Rep.bool _⟩, rfl⟩, ⟨⟨_, rfl, Rep.int _ _⟩, rfl⟩, True.intro⟩⟩, nofun, fun _ => ⟨_, Try.underlying8, by kernel_rfl⟩, nofun, nofun, nofun, nofun, nofun, nofun⟩
def ty9 : Ty := ⟨false, 1, [.pv .str []], none, [], true, false, none, none, none, false⟩
set_option maxRecDepth 100000 in
theorem tyOk9 : TyOk Try.prog 9 ty9 := ⟨⟨_, Try.underlying9, rfl⟩, ⟨_, _, rfl, rfl, rfl, rfl, fun c => ⟨⟨⟨_, rfl, Rep.str _⟩, rfl⟩, True.intro⟩⟩, nofun, fun h => absurd rfl h, fun _ => Try.underlying9, nofun, nofun, nofun, nofun, nofun⟩
def ty10 : Ty := ⟨false, 1, [.pv .str []], none, [], true, false, none, none, none, false⟩
set_option maxRecDepth 100000 in
theorem tyOk10 : TyOk Try.prog 10 ty10 := ⟨⟨_, Try.underlying10, rfl⟩, ⟨_, _, rfl, rfl, rfl, rfl, fun c => ⟨⟨⟨_, rfl, Rep.str _⟩, rfl⟩, True.intro⟩⟩, nofun, fun h => absurd rfl h, fun _ => Try.underlying10, nofun, nofun, nofun, nofun, nofun⟩
def ty11 : Ty := ⟨false, 1, [.pv .str []], none, [], true, false, none, none, none, false⟩
set_option maxRecDepth 100000 in
theorem tyOk11 : TyOk Try.prog 11 ty11 := ⟨⟨_, Try.underlying11, rfl⟩, ⟨_, _, rfl, rfl, rfl, rfl, fun c => ⟨⟨⟨_, rfl, Rep.str _⟩, rfl⟩, True.intro⟩⟩, nofun, fun h => absurd rfl h, fun _ => Try.underlying11, nofun, nofun, nofun, nofun, nofun⟩
def ty12 : Ty := ⟨false, 1, [.pv (.int .u64) 0], none, [], false, false, some .u64, none, none, false⟩
set_option maxRecDepth 100000 in
theorem tyOk12 : TyOk Try.prog 12 ty12 := ⟨⟨_, Try.underlying12, rfl⟩, ⟨_, _, rfl, rfl, rfl, rfl, fun c => ⟨⟨⟨_, rfl, Rep.int _ _⟩, rfl⟩, True.intro⟩⟩, nofun, fun h => absurd rfl h, nofun, nofun, fun k h => by cases h; exact Try.underlying12, nofun, nofun, nofun⟩
def ty13 : Ty := ⟨true, 2, [.pv .str [], .pv (.int .u64) 0], none, [(0, 1), (1, 1)], false, false, none, none, none, false⟩
set_option maxRecDepth 100000 in
theorem tyOk13 : TyOk Try.prog 13 ty13 := ⟨⟨_, Try.underlying13, rfl⟩, ⟨_, _, rfl, rfl, rfl, rfl, fun c => ⟨⟨⟨_, rfl, Rep.str _⟩, rfl⟩, ⟨⟨_, rfl, Rep.int _ _⟩, rfl⟩, True.intro⟩⟩, nofun, fun _ => ⟨_, Try.underlying13, by kernel_rfl⟩, nofun, nofun, nofun, nofun, nofun, nofun⟩
def ty14 : Ty := ⟨true, 2, [.pv .str [], .pv (.int .u64) 0], none, [(0, 1), (1, 1)], false, false, none, none, none, false⟩
set_option maxRecDepth 100000 in
theorem tyOk14 : TyOk Try.prog 14 ty14 := ⟨⟨_, Try.underlying14, rfl⟩, ⟨_, _, rfl, rfl, rfl, rfl, fun c => ⟨⟨⟨_, rfl, Rep.str _⟩, rfl⟩, ⟨⟨_, rfl, Rep.int _ _⟩, rfl⟩, True.intro⟩⟩, nofun, fun _ => ⟨_, Try.underlying14, by kernel_rfl⟩, nofun, nofun, nofun, nofun, nofun, nofun⟩
def ty15 : Ty := ⟨false, 1, [.nilp], none, [], false, false, none, none, none, true⟩
set_option maxRecDepth 100000 in
theorem tyOk15 : TyOk Try.prog 15 ty15 := ⟨⟨_, Try.underlying15, rfl⟩, ⟨_, _, rfl, rfl, rfl, rfl, fun c => ⟨⟨rfl, rfl⟩, True.intro⟩⟩, nofun, fun h => absurd rfl h, nofun, nofun, nofun, nofun, nofun, fun _ => ⟨_, Try.underlying15⟩⟩
def ty16 : Ty := ⟨false, 1, [.nilp], none, [], false, false, none, none, none, true⟩
set_option maxRecDepth 100000 in
theorem tyOk16 : TyOk Try.prog 16 ty16 := ⟨⟨_, Try.underlying16, rfl⟩, ⟨_, _, rfl, rfl, rfl, rfl, fun c => ⟨⟨rfl, rfl⟩, True.intro⟩⟩, nofun, fun h => absurd rfl h, nofun, nofun, nofun, nofun, nofun, fun _ => ⟨_, Try.underlying16⟩⟩
def ty17 : Ty := ⟨false, 1, [.nilp], none, [], false, false, none, none, none, true⟩
set_option maxRecDepth 100000 in
theorem tyOk17 : TyOk Try.prog 17 ty17 := ⟨⟨_, Try.underlying17, rfl⟩, ⟨_, _, rfl, rfl, rfl, rfl, fun c => ⟨⟨rfl, rfl⟩, True.intro⟩⟩, nofun, fun h => absurd rfl h, nofun, nofun, nofun, nofun, nofun, fun _ => ⟨_, Try.underlying17⟩⟩
def ty18 : Ty := ⟨true, 1, [.nilp], none, [(0, 1)], false, false, none, none, none, false⟩
set_option maxRecDepth 100000 in
theorem tyOk18 : TyOk Try.prog 18 ty18 := ⟨⟨_, Try.underlying18, rfl⟩, ⟨_, _, rfl, rfl, rfl, rfl, fun c => ⟨⟨rfl, rfl⟩, True.intro⟩⟩, nofun, fun _ => ⟨_, Try.underlying18, by kernel_rfl⟩, nofun, nofun, nofun, nofun, nofun, nofun⟩
def ty19 : Ty := ⟨true, 1, [.nilp], none, [(0, 1)], false, false, none, none, none, false⟩
set_option maxRecDepth 100000 in
theorem tyOk19 : TyOk Try.prog 19 ty19 := ⟨⟨_, Try.underlying19, rfl⟩, ⟨_, _, rfl, rfl, rfl, rfl, fun c => ⟨⟨rfl, rfl⟩, True.intro⟩⟩, nofun, fun _ => ⟨_, Try.underlying19, by kernel_rfl⟩, nofun, nofun, nofun, nofun, nofun, nofun⟩
def ty21 : Ty := ⟨false, 1, [.pv (.int .i32) 0], none, [], false, false, some .i32, none, none, false⟩
set_option maxRecDepth 100000 in
theorem tyOk21 : TyOk Try.prog 21 ty21 := ⟨⟨_, Try.underlying21, rfl⟩, ⟨_, _, rfl, rfl, rfl, rfl, fun c => ⟨⟨⟨_, rfl, Rep.int _ _⟩, rfl⟩, True.intro⟩⟩, nofun, fun h => absurd rfl h, nofun, nofun, fun k h => by cases h; exact Try.underlying21, nofun, nofun, nofun⟩
def ty22 : Ty := ⟨false, 1, [.nils], some (5, .int .u8, 1), [], false, false, none, none, none, false⟩
set_option maxRecDepth 100000 in
theorem tyOk22 : TyOk Try.prog 22 ty22 := ⟨⟨_, Try.underlying22, rfl⟩, ⟨_, _, rfl, rfl, rfl, rfl, fun c => ⟨⟨rfl, rfl⟩, True.intro⟩⟩, fun e r b h => by cases h; exact ⟨Try.underlying22, by decide, _, _, rfl, rfl, rfl, rfl, rfl⟩, fun h => absurd rfl h, nofun, nofun, nofun, nofun, nofun, nofun⟩
def ty23 : Ty := ⟨false, 1, [.nils], some (38, .pair (.pair (.int .i64) (.pair (.int .i64) (.int .i64))) (.pair (.int .i64) (.pair (.int .i64) (.pair (.int .i64) (.pair (.int .i64) (.int .i64))))), 64), [], false, false, none, none, none, false⟩
set_option maxRecDepth 100000 in
theorem tyOk23 : TyOk Try.prog 23 ty23 := ⟨⟨_, Try.underlying23, rfl⟩, ⟨_, _, rfl, rfl, rfl, rfl, fun c => ⟨⟨rfl, rfl⟩, True.intro⟩⟩, fun e r b h => by cases h; exact ⟨Try.underlying23, by decide, _, _, rfl, rfl, rfl, rfl, rfl⟩, fun h => absurd rfl h, nofun, nofun, nofun, nofun, nofun, nofun⟩
def ty24 : Ty := ⟨true, 4, [.pv (.int .i64) 0, .pv (.int .i64) 0, .pv (.int .i64) 0, .pv (.int .i64) 0], none, [(0, 1), (1, 1), (2, 1), (3, 1)], false, false, none, none, none, false⟩
set_option maxRecDepth 100000 in
theorem tyOk24 : TyOk Try.prog 24 ty24 := ⟨⟨_, Try.underlying24, rfl⟩, ⟨_, _, rfl, rfl, rfl, rfl, fun c => ⟨⟨⟨_, rfl, Rep.int _ _⟩, rfl⟩, ⟨⟨_, rfl, Rep.int _ _⟩, rfl⟩, ⟨⟨_, rfl, Rep.int _ _⟩, rfl⟩, ⟨⟨_, rfl, Rep.int _ _⟩, rfl⟩, True.intro⟩⟩, nofun, fun _ => ⟨_, Try.underlying24, by kernel_rfl⟩, nofun, nofun, nofun, nofun, nofun, nofun⟩
def ty25 : Ty := ⟨true, 4, [.pv (.int .i64) 0, .pv (.int .i64) 0, .pv (.int .i64) 0, .pv (.int .i64) 0], none, [(0, 1), (1, 1), (2, 1), (3, 1)], false, false, none, some (.pair (.int .i64) (.pair (.int .i64) (.pair (.int .i64) (.int .i64)))), none, false⟩
set_option maxRecDepth 100000 in
theorem tyOk25 : TyOk Try.prog 25 ty25 := ⟨⟨_, Try.underlying25, rfl⟩, ⟨_, _, rfl, rfl, rfl, rfl, fun c => ⟨⟨⟨_, rfl, Rep.int _ _⟩, rfl⟩, ⟨⟨_, rfl, Rep.int _ _⟩, rfl⟩, ⟨⟨_, rfl, Rep.int _ _⟩, rfl⟩, ⟨⟨_, rfl, Rep.int _ _⟩, rfl⟩, True.intro⟩⟩, nofun, fun _ => ⟨_, Try.underlying25, by kernel_rfl⟩, nofun, nofun, nofun, fun r h => by cases h; exact eqs_of _ rfl (by kernel_rfl) (by kernel_rfl) (by kernel_rfl) [(false, 3, 0), (false, 3, 1), (false, 3, 2), (false, 3, 3)] (by kernel_rfl) (fun x y => ⟨⟨rfl, rfl, ⟨rfl, _, Try.underlying3⟩⟩, ⟨⟨rfl, rfl, ⟨rfl, _, Try.underlying3⟩⟩, ⟨⟨rfl, rfl, ⟨rfl, _, Try.underlying3⟩⟩, ⟨⟨rfl, rfl, ⟨rfl, _, Try.underlying3⟩⟩, True.intro⟩⟩⟩⟩), nofun, nofun⟩
def ty28 : Ty := ⟨false, 1, [.nils], some (3, .int .i64, 8), [], false, false, none, none, none, false⟩
set_option maxRecDepth 100000 in
theorem tyOk28 : TyOk Try.prog 28 ty28 := ⟨⟨_, Try.underlying28, rfl⟩, ⟨_, _, rfl, rfl, rfl, rfl, fun c => ⟨⟨rfl, rfl⟩, True.intro⟩⟩, fun e r b h => by cases h; exact ⟨Try.underlying28, by decide, _, _, rfl, rfl, rfl, rfl, rfl⟩, fun h => absurd rfl h, nofun, nofun, nofun, nofun, nofun, nofun⟩
def ty35 : Ty := ⟨true, 3, [.pv (.int .i64) 0, .pv (.int .i64) 0, .pv (.int .i64) 0], none, [(0, 1), (1, 1), (2, 1)], false, false, none, none, none, false⟩
set_option maxRecDepth 100000 in
theorem tyOk35 : TyOk Try.prog 35 ty35 := ⟨⟨_, Try.underlying35, rfl⟩, ⟨_, _, rfl, rfl, rfl, rfl, fun c => ⟨⟨⟨_, rfl, Rep.int _ _⟩, rfl⟩, ⟨⟨_, rfl, Rep.int _ _⟩, rfl⟩, ⟨⟨_, rfl, Rep.int _ _⟩, rfl⟩, True.intro⟩⟩, nofun, fun _ => ⟨_, Try.underlying35, by kernel_rfl⟩, nofun, nofun, nofun, nofun, nofun, nofun⟩
def ty36 : Ty := ⟨true, 3, [.pv (.int .i64) 0, .pv (.int .i64) 0, .pv (.int .i64) 0], none, [(0, 1), (1, 1), (2, 1)], false, false, none, some (.pair (.int .i64) (.pair (.int .i64) (.int .i64))), none, false⟩
set_option maxRecDepth 100000 in
theorem tyOk36 : TyOk Try.prog 36 ty36 := ⟨⟨_, Try.underlying36, rfl⟩, ⟨_, _, rfl, rfl, rfl, rfl, fun c => ⟨⟨⟨_, rfl, Rep.int _ _⟩, rfl⟩, ⟨⟨_, rfl, Rep.int _ _⟩, rfl⟩, ⟨⟨_, rfl, Rep.int _ _⟩, rfl⟩, True.intro⟩⟩, nofun, fun _ => ⟨_, Try.underlying36, by kernel_rfl⟩, nofun, nofun, nofun, fun r h => by cases h; exact eqs_of _ rfl (by kernel_rfl) (by kernel_rfl) (by kernel_rfl) [(false, 3, 0), (false, 3, 1), (false, 3, 2)] (by kernel_rfl) (fun x y => ⟨⟨rfl, rfl, ⟨rfl, _, Try.underlying3⟩⟩, ⟨⟨rfl, rfl, ⟨rfl, _, Try.underlying3⟩⟩, ⟨⟨rfl, rfl, ⟨rfl, _, Try.underlying3⟩⟩, True.intro⟩⟩⟩), nofun, nofun⟩
def ty37 : Ty := ⟨true, 8, [.pv (.int .i64) 0, .pv (.int .i64) 0, .pv (.int .i64) 0, .pv (.int .i64) 0, .pv (.int .i64) 0, .pv (.int .i64) 0, .pv (.int .i64) 0, .pv (.int .i64) 0], none, [(0, 3), (3, 1), (4, 4)], false, false, none, none, none, false⟩
set_option maxRecDepth 100000 in
theorem tyOk37 : TyOk Try.prog 37 ty37 := ⟨⟨_, Try.underlying37, rfl⟩, ⟨_, _, rfl, rfl, rfl, rfl, fun c => ⟨⟨⟨_, rfl, Rep.int _ _⟩, rfl⟩, ⟨⟨_, rfl, Rep.int _ _⟩, rfl⟩, ⟨⟨_, rfl, Rep.int _ _⟩, rfl⟩, ⟨⟨_, rfl, Rep.int _ _⟩, rfl⟩, ⟨⟨_, rfl, Rep.int _ _⟩, rfl⟩, ⟨⟨_, rfl, Rep.int _ _⟩, rfl⟩, ⟨⟨_, rfl, Rep.int _ _⟩, rfl⟩, ⟨⟨_, rfl, Rep.int _ _⟩, rfl⟩, True.intro⟩⟩, nofun, fun _ => ⟨_, Try.underlying37, by kernel_rfl⟩, nofun, nofun, nofun, nofun, nofun, nofun⟩
def ty38 : Ty := ⟨true, 8, [.pv (.int .i64) 0, .pv (.int .i64) 0, .pv (.int .i64) 0, .pv (.int .i64) 0, .pv (.int .i64) 0, .pv (.int .i64) 0, .pv (.int .i64) 0, .pv (.int .i64) 0], none, [(0, 3), (3, 1), (4, 4)], false, false, none, some (.pair (.pair (.int .i64) (.pair (.int .i64) (.int .i64))) (.pair (.int .i64) (.pair (.int .i64) (.pair (.int .i64) (.pair (.int .i64) (.int .i64)))))), none, false⟩
set_option maxRecDepth 100000 in
theorem tyOk38 : TyOk Try.prog 38 ty38 := ⟨⟨_, Try.underlying38, rfl⟩, ⟨_, _, rfl, rfl, rfl, rfl, fun c => ⟨⟨⟨_, rfl, Rep.int _ _⟩, rfl⟩, ⟨⟨_, rfl, Rep.int _ _⟩, rfl⟩, ⟨⟨_, rfl, Rep.int _ _⟩, rfl⟩, ⟨⟨_, rfl, Rep.int _ _⟩, rfl⟩, ⟨⟨_, rfl, Rep.int _ _⟩, rfl⟩, ⟨⟨_, rfl, Rep.int _ _⟩, rfl⟩, ⟨⟨_, rfl, Rep.int _ _⟩, rfl⟩, ⟨⟨_, rfl, Rep.int _ _⟩, rfl⟩, True.intro⟩⟩, nofun, fun _ => ⟨_, Try.underlying38, by kernel_rfl⟩, nofun, nofun, nofun, fun r h => by cases h; exact ⟨rfl, by kernel_rfl, eqsN 9999 (t := 38) [(true, .pair (.int .i64) (.pair (.int .i64) (.int .i64))), (false, .int .i64), (true, .pair (.int .i64) (.pair (.int .i64) (.pair (.int .i64) (.int .i64))))] (by kernel_rfl) (by kernel_rfl) [(false, 36, 0), (false, 3, 3), (false, 25, 4)] (by kernel_rfl) ⟨feq_struct (by kernel_rfl : Try.prog.underlying 36 = some (.struct (Try.prog.fieldsOf 36))) ⟨_, rfl, rfl⟩ (eqsN 9998 (t := 36) [(false, .int .i64), (false, .int .i64), (false, .int .i64)] (by kernel_rfl) (by kernel_rfl) [(false, 3, 0), (false, 3, 1), (false, 3, 2)] (by kernel_rfl) ⟨feq_int Try.underlying3, ⟨feq_int Try.underlying3, ⟨feq_int Try.underlying3, True.intro⟩⟩⟩), ⟨feq_int Try.underlying3, ⟨feq_struct (by kernel_rfl : Try.prog.underlying 25 = some (.struct (Try.prog.fieldsOf 25))) ⟨_, rfl, rfl⟩ (eqsN 9998 (t := 25) [(false, .int .i64), (false, .int .i64), (false, .int .i64), (false, .int .i64)] (by kernel_rfl) (by kernel_rfl) [(false, 3, 0), (false, 3, 1), (false, 3, 2), (false, 3, 3)] (by kernel_rfl) ⟨feq_int Try.underlying3, ⟨feq_int Try.underlying3, ⟨feq_int Try.underlying3, ⟨feq_int Try.underlying3, True.intro⟩⟩⟩⟩), True.intro⟩⟩⟩⟩, nofun, nofun⟩
def ty42 : Ty := ⟨false, 1, [.nils], some (65, .pair (.pair (.int .i64) (.pair (.int .i64) (.int .i64))) (.pair (.int .i64) (.pair (.int .i64) (.pair (.int .i64) (.pair (.int .i64) (.int .i64))))), 64), [], false, false, none, none, none, false⟩
set_option maxRecDepth 100000 in
theorem tyOk42 : TyOk Try.prog 42 ty42 := ⟨⟨_, Try.underlying42, rfl⟩, ⟨_, _, rfl, rfl, rfl, rfl, fun c => ⟨⟨rfl, rfl⟩, True.intro⟩⟩, fun e r b h => by cases h; exact ⟨Try.underlying42, by decide, _, _, rfl, rfl, rfl, rfl, rfl⟩, fun h => absurd rfl h, nofun, nofun, nofun, nofun, nofun, nofun⟩
def ty43 : Ty := ⟨true, 4, [.pv (.int .i64) 0, .pv (.int .i64) 0, .pv (.int .i64) 0, .pv (.int .i64) 0], none, [(0, 1), (1, 1), (2, 1), (3, 1)], false, false, none, some (.pair (.int .i64) (.pair (.int .i64) (.pair (.int .i64) (.int .i64)))), none, false⟩
set_option maxRecDepth 100000 in
theorem tyOk43 : TyOk Try.prog 43 ty43 := ⟨⟨_, Try.underlying43, rfl⟩, ⟨_, _, rfl, rfl, rfl, rfl, fun c => ⟨⟨⟨_, rfl, Rep.int _ _⟩, rfl⟩, ⟨⟨_, rfl, Rep.int _ _⟩, rfl⟩, ⟨⟨_, rfl, Rep.int _ _⟩, rfl⟩, ⟨⟨_, rfl, Rep.int _ _⟩, rfl⟩, True.intro⟩⟩, nofun, fun _ => ⟨_, Try.underlying43, by kernel_rfl⟩, nofun, nofun, nofun, fun r h => by cases h; exact eqs_of _ rfl (by kernel_rfl) (by kernel_rfl) (by kernel_rfl) [(false, 3, 0), (false, 3, 1), (false, 3, 2), (false, 3, 3)] (by kernel_rfl) (fun x y => ⟨⟨rfl, rfl, ⟨rfl, _, Try.underlying3⟩⟩, ⟨⟨rfl, rfl, ⟨rfl, _, Try.underlying3⟩⟩, ⟨⟨rfl, rfl, ⟨rfl, _, Try.underlying3⟩⟩, ⟨⟨rfl, rfl, ⟨rfl, _, Try.underlying3⟩⟩, True.intro⟩⟩⟩⟩), nofun, nofun⟩
def ty53 : Ty := ⟨false, 1, [.nilp], none, [], false, false, none, none, none, true⟩
set_option maxRecDepth 100000 in
theorem tyOk53 : TyOk Try.prog 53 ty53 := ⟨⟨_, Try.underlying53, rfl⟩, ⟨_, _, rfl, rfl, rfl, rfl, fun c => ⟨⟨rfl, rfl⟩, True.intro⟩⟩, nofun, fun h => absurd rfl h, nofun, nofun, nofun, nofun, nofun, fun _ => ⟨_, Try.underlying53⟩⟩
def ty59 : Ty := ⟨false, 1, [.nils], some (36, .pair (.int .i64) (.pair (.int .i64) (.int .i64)), 24), [], false, false, none, none, none, false⟩
set_option maxRecDepth 100000 in
theorem tyOk59 : TyOk Try.prog 59 ty59 := ⟨⟨_, Try.underlying59, rfl⟩, ⟨_, _, rfl, rfl, rfl, rfl, fun c => ⟨⟨rfl, rfl⟩, True.intro⟩⟩, fun e r b h => by cases h; exact ⟨Try.underlying59, by decide, _, _, rfl, rfl, rfl, rfl, rfl⟩, fun h => absurd rfl h, nofun, nofun, nofun, nofun, nofun, nofun⟩
def ty63 : Ty := ⟨true, 3, [.pv (.int .i64) 0, .pv (.int .i64) 0, .pv (.int .i64) 0], none, [(0, 1), (1, 1), (2, 1)], false, false, none, some (.pair (.int .i64) (.pair (.int .i64) (.int .i64))), none, false⟩
set_option maxRecDepth 100000 in
theorem tyOk63 : TyOk Try.prog 63 ty63 := ⟨⟨_, Try.underlying63, rfl⟩, ⟨_, _, rfl, rfl, rfl, rfl, fun c => ⟨⟨⟨_, rfl, Rep.int _ _⟩, rfl⟩, ⟨⟨_, rfl, Rep.int _ _⟩, rfl⟩, ⟨⟨_, rfl, Rep.int _ _⟩, rfl⟩, True.intro⟩⟩, nofun, fun _ => ⟨_, Try.underlying63, by kernel_rfl⟩, nofun, nofun, nofun, fun r h => by cases h; exact eqs_of _ rfl (by kernel_rfl) (by kernel_rfl) (by kernel_rfl) [(false, 3, 0), (false, 3, 1), (false, 3, 2)] (by kernel_rfl) (fun x y => ⟨⟨rfl, rfl, ⟨rfl, _, Try.underlying3⟩⟩, ⟨⟨rfl, rfl, ⟨rfl, _, Try.underlying3⟩⟩, ⟨⟨rfl, rfl, ⟨rfl, _, Try.underlying3⟩⟩, True.intro⟩⟩⟩), nofun, nofun⟩
def ty64 : Ty := ⟨true, 8, [.pv (.int .i64) 0, .pv (.int .i64) 0, .pv (.int .i64) 0, .pv (.int .i64) 0, .pv (.int .i64) 0, .pv (.int .i64) 0, .pv (.int .i64) 0, .pv (.int .i64) 0], none, [(0, 3), (3, 1), (4, 4)], false, false, none, none, none, false⟩
set_option maxRecDepth 100000 in
theorem tyOk64 : TyOk Try.prog 64 ty64 := ⟨⟨_, Try.underlying64, rfl⟩, ⟨_, _, rfl, rfl, rfl, rfl, fun c => ⟨⟨⟨_, rfl, Rep.int _ _⟩, rfl⟩, ⟨⟨_, rfl, Rep.int _ _⟩, rfl⟩, ⟨⟨_, rfl, Rep.int _ _⟩, rfl⟩, ⟨⟨_, rfl, Rep.int _ _⟩, rfl⟩, ⟨⟨_, rfl, Rep.int _ _⟩, rfl⟩, ⟨⟨_, rfl, Rep.int _ _⟩, rfl⟩, ⟨⟨_, rfl, Rep.int _ _⟩, rfl⟩, ⟨⟨_, rfl, Rep.int _ _⟩, rfl⟩, True.intro⟩⟩, nofun, fun _ => ⟨_, Try.underlying64, by kernel_rfl⟩, nofun, nofun, nofun, nofun, nofun, nofun⟩
def ty65 : Ty := ⟨true, 8, [.pv (.int .i64) 0, .pv (.int .i64) 0, .pv (.int .i64) 0, .pv (.int .i64) 0, .pv (.int .i64) 0, .pv (.int .i64) 0, .pv (.int .i64) 0, .pv (.int .i64) 0], none, [(0, 3), (3, 1), (4, 4)], false, false, none, some (.pair (.pair (.int .i64) (.pair (.int .i64) (.int .i64))) (.pair (.int .i64) (.pair (.int .i64) (.pair (.int .i64) (.pair (.int .i64) (.int .i64)))))), none, false⟩
set_option maxRecDepth 100000 in
theorem tyOk65 : TyOk Try.prog 65 ty65 := ⟨⟨_, Try.underlying65, rfl⟩, ⟨_, _, rfl, rfl, rfl, rfl, fun c => ⟨⟨⟨_, rfl, Rep.int _ _⟩, rfl⟩, ⟨⟨_, rfl, Rep.int _ _⟩, rfl⟩, ⟨⟨_, rfl, Rep.int _ _⟩, rfl⟩, ⟨⟨_, rfl, Rep.int _ _⟩, rfl⟩, ⟨⟨_, rfl, Rep.int _ _⟩, rfl⟩, ⟨⟨_, rfl, Rep.int _ _⟩, rfl⟩, ⟨⟨_, rfl, Rep.int _ _⟩, rfl⟩, ⟨⟨_, rfl, Rep.int _ _⟩, rfl⟩, True.intro⟩⟩, nofun, fun _ => ⟨_, Try.underlying65, by kernel_rfl⟩, nofun, nofun, nofun, fun r h => by cases h; exact ⟨rfl, by kernel_rfl, eqsN 9999 (t := 65) [(true, .pair (.int .i64) (.pair (.int .i64) (.int .i64))), (false, .int .i64), (true, .pair (.int .i64) (.pair (.int .i64) (.pair (.int .i64) (.int .i64))))] (by kernel_rfl) (by kernel_rfl) [(false, 63, 0), (false, 3, 3), (false, 43, 4)] (by kernel_rfl) ⟨feq_struct (by kernel_rfl : Try.prog.underlying 63 = some (.struct (Try.prog.fieldsOf 63))) ⟨_, rfl, rfl⟩ (eqsN 9998 (t := 63) [(false, .int .i64), (false, .int .i64), (false, .int .i64)] (by kernel_rfl) (by kernel_rfl) [(false, 3, 0), (false, 3, 1), (false, 3, 2)] (by kernel_rfl) ⟨feq_int Try.underlying3, ⟨feq_int Try.underlying3, ⟨feq_int Try.underlying3, True.intro⟩⟩⟩), ⟨feq_int Try.underlying3, ⟨feq_struct (by kernel_rfl : Try.prog.underlying 43 = some (.struct (Try.prog.fieldsOf 43))) ⟨_, rfl, rfl⟩ (eqsN 9998 (t := 43) [(false, .int .i64), (false, .int .i64), (false, .int .i64), (false, .int .i64)] (by kernel_rfl) (by kernel_rfl) [(false, 3, 0), (false, 3, 1), (false, 3, 2), (false, 3, 3)] (by kernel_rfl) ⟨feq_int Try.underlying3, ⟨feq_int Try.underlying3, ⟨feq_int Try.underlying3, ⟨feq_int Try.underlying3, True.intro⟩⟩⟩⟩), True.intro⟩⟩⟩⟩, nofun, nofun⟩
def ty68 : Ty := ⟨true, 2, [.nils, .pv (.int .i64) 0], none, [(0, 1), (1, 1)], false, false, none, none, none, false⟩
set_option maxRecDepth 100000 in
theorem tyOk68 : TyOk Try.prog 68 ty68 := ⟨⟨_, Try.underlying68, rfl⟩, ⟨_, _, rfl, rfl, rfl, rfl, fun c => ⟨⟨rfl, rfl⟩, ⟨⟨_, rfl, Rep.int _ _⟩, rfl⟩, True.intro⟩⟩, nofun, fun _ => ⟨_, Try.underlying68, by kernel_rfl⟩, nofun, nofun, nofun, nofun, nofun, nofun⟩
def ty69 : Ty := ⟨true, 2, [.nils, .pv (.int .i64) 0], none, [(0, 1), (1, 1)], false, false, none, none, none, false⟩
set_option maxRecDepth 100000 in
theorem tyOk69 : TyOk Try.prog 69 ty69 := ⟨⟨_, Try.underlying69, rfl⟩, ⟨_, _, rfl, rfl, rfl, rfl, fun c => ⟨⟨rfl, rfl⟩, ⟨⟨_, rfl, Rep.int _ _⟩, rfl⟩, True.intro⟩⟩, nofun, fun _ => ⟨_, Try.underlying69, by kernel_rfl⟩, nofun, nofun, nofun, nofun, nofun, nofun⟩
def ty77 : Ty := ⟨false, 1, [.pv (.int .u64) 0], none, [], false, false, some .u64, none, none, false⟩
set_option maxRecDepth 100000 in
theorem tyOk77 : TyOk Try.prog 77 ty77 := ⟨⟨_, Try.underlying77, rfl⟩, ⟨_, _, rfl, rfl, rfl, rfl, fun c => ⟨⟨⟨_, rfl, Rep.int _ _⟩, rfl⟩, True.intro⟩⟩, nofun, fun h => absurd rfl h, nofun, nofun, fun k h => by cases h; exact Try.underlying77, nofun, nofun, nofun⟩
def ty80 : Ty := ⟨false, 1, [.dead], none, [], false, false, none, none, some (3, 4, .int .i64, .bool), false⟩
set_option maxRecDepth 100000 in
theorem tyOk80 : TyOk Try.prog 80 ty80 := ⟨⟨_, Try.underlying80, rfl⟩, ⟨_, _, rfl, rfl, rfl, rfl, fun c => ⟨⟨True.intro, rfl⟩, True.intro⟩⟩, nofun, fun h => absurd rfl h, nofun, nofun, nofun, nofun, fun K V kt vt h => by cases h; exact ⟨Try.underlying80, Try.underlying3, _, _, rfl, rfl, rfl⟩, nofun⟩
def ty87 : Ty := ⟨false, 1, [.pv (.int .i64) 0], none, [], false, false, some .i64, none, none, false⟩
set_option maxRecDepth 100000 in
theorem tyOk87 : TyOk Try.prog 87 ty87 := ⟨⟨_, Try.underlying87, rfl⟩, ⟨_, _, rfl, rfl, rfl, rfl, fun c => ⟨⟨⟨_, rfl, Rep.int _ _⟩, rfl⟩, True.intro⟩⟩, nofun, fun h => absurd rfl h, nofun, nofun, fun k h => by cases h; exact Try.underlying87, nofun, nofun, nofun⟩
def ty96 : Ty := ⟨false, 1, [.pv (.int .u32) 0], none, [], false, false, some .u32, none, none, false⟩
set_option maxRecDepth 100000 in
theorem tyOk96 : TyOk Try.prog 96 ty96 := ⟨⟨_, Try.underlying96, rfl⟩, ⟨_, _, rfl, rfl, rfl, rfl, fun c => ⟨⟨⟨_, rfl, Rep.int _ _⟩, rfl⟩, True.intro⟩⟩, nofun, fun h => absurd rfl h, nofun, nofun, fun k h => by cases h; exact Try.underlying96, nofun, nofun, nofun⟩
def ty98 : Ty := ⟨false, 1, [.pv (.int .u64) 0], none, [], false, false, some .u64, none, none, false⟩
set_option maxRecDepth 100000 in
theorem tyOk98 : TyOk Try.prog 98 ty98 := ⟨⟨_, Try.underlying98, rfl⟩, ⟨_, _, rfl, rfl, rfl, rfl, fun c => ⟨⟨⟨_, rfl, Rep.int _ _⟩, rfl⟩, True.intro⟩⟩, nofun, fun h => absurd rfl h, nofun, nofun, fun k h => by cases h; exact Try.underlying98, nofun, nofun, nofun⟩
def ty105 : Ty := ⟨false, 1, [.pv (.int .u64) 0], none, [], false, false, some .u64, none, none, false⟩
set_option maxRecDepth 100000 in
theorem tyOk105 : TyOk Try.prog 105 ty105 := ⟨⟨_, Try.underlying105, rfl⟩, ⟨_, _, rfl, rfl, rfl, rfl, fun c => ⟨⟨⟨_, rfl, Rep.int _ _⟩, rfl⟩, True.intro⟩⟩, nofun, fun h => absurd rfl h, nofun, nofun, fun k h => by cases h; exact Try.underlying105, nofun, nofun, nofun⟩
def ty109 : Ty := ⟨false, 1, [.nilp], none, [], false, false, none, none, none, true⟩
set_option maxRecDepth 100000 in
theorem tyOk109 : TyOk Try.prog 109 ty109 := ⟨⟨_, Try.underlying109, rfl⟩, ⟨_, _, rfl, rfl, rfl, rfl, fun c => ⟨⟨rfl, rfl⟩, True.intro⟩⟩, nofun, fun h => absurd rfl h, nofun, nofun, nofun, nofun, nofun, fun _ => ⟨_, Try.underlying109⟩⟩
def ty115 : Ty := ⟨false, 1, [.nilp], none, [], false, false, none, none, none, true⟩
set_option maxRecDepth 100000 in
theorem tyOk115 : TyOk Try.prog 115 ty115 := ⟨⟨_, Try.underlying115, rfl⟩, ⟨_, _, rfl, rfl, rfl, rfl, fun c => ⟨⟨rfl, rfl⟩, True.intro⟩⟩, nofun, fun h => absurd rfl h, nofun, nofun, nofun, nofun, nofun, fun _ => ⟨_, Try.underlying115⟩⟩
def ty127 : Ty := ⟨true, 4, [.nilp, .nilp, .nilp, .pv .str []], none, [(0, 1), (1, 1), (2, 1), (3, 1)], false, false, none, none, none, false⟩
set_option maxRecDepth 100000 in
theorem tyOk127 : TyOk Try.prog 127 ty127 := ⟨⟨_, Try.underlying127, rfl⟩, ⟨_, _, rfl, rfl, rfl, rfl, fun c => ⟨⟨rfl, rfl⟩, ⟨rfl, rfl⟩, ⟨rfl, rfl⟩, ⟨⟨_, rfl, Rep.str _⟩, rfl⟩, True.intro⟩⟩, nofun, fun _ => ⟨_, Try.underlying127, by kernel_rfl⟩, nofun, nofun, nofun, nofun, nofun, nofun⟩
def ty128 : Ty := ⟨true, 4, [.nilp, .nilp, .nilp, .pv .str []], none, [(0, 1), (1, 1), (2, 1), (3, 1)], false, false, none, none, none, false⟩
set_option maxRecDepth 100000 in
theorem tyOk128 : TyOk Try.prog 128 ty128 := ⟨⟨_, Try.underlying128, rfl⟩, ⟨_, _, rfl, rfl, rfl, rfl, fun c => ⟨⟨rfl, rfl⟩, ⟨rfl, rfl⟩, ⟨rfl, rfl⟩, ⟨⟨_, rfl, Rep.str _⟩, rfl⟩, True.intro⟩⟩, nofun, fun _ => ⟨_, Try.underlying128, by kernel_rfl⟩, nofun, nofun, nofun, nofun, nofun, nofun⟩
def ty130 : Ty := ⟨true, 0, [], none, [], false, false, none, none, none, false⟩
set_option maxRecDepth 100000 in
theorem tyOk130 : TyOk Try.prog 130 ty130 := ⟨⟨_, Try.underlying130, rfl⟩, ⟨_, _, rfl, rfl, rfl, rfl, fun c => True.intro⟩, nofun, fun h => absurd rfl h, nofun, nofun, nofun, nofun, nofun, nofun⟩
def ty131 : Ty := ⟨true, 0, [], none, [], false, false, none, none, none, false⟩
set_option maxRecDepth 100000 in
theorem tyOk131 : TyOk Try.prog 131 ty131 := ⟨⟨_, Try.underlying131, rfl⟩, ⟨_, _, rfl, rfl, rfl, rfl, fun c => True.intro⟩, nofun, fun h => absurd rfl h, nofun, nofun, nofun, nofun, nofun, nofun⟩
def ty133 : Ty := ⟨false, 1, [.pv (.int .u8) 0], none, [], false, false, some .u8, none, none, false⟩
set_option maxRecDepth 100000 in
theorem tyOk133 : TyOk Try.prog 133 ty133 := ⟨⟨_, Try.underlying133, rfl⟩, ⟨_, _, rfl, rfl, rfl, rfl, fun c => ⟨⟨⟨_, rfl, Rep.int _ _⟩, rfl⟩, True.intro⟩⟩, nofun, fun h => absurd rfl h, nofun, nofun, fun k h => by cases h; exact Try.underlying133, nofun, nofun, nofun⟩
def ty134 : Ty := ⟨false, 1, [.pv (.int .u8) 0], none, [], false, false, some .u8, none, none, false⟩
set_option maxRecDepth 100000 in
theorem tyOk134 : TyOk Try.prog 134 ty134 := ⟨⟨_, Try.underlying134, rfl⟩, ⟨_, _, rfl, rfl, rfl, rfl, fun c => ⟨⟨⟨_, rfl, Rep.int _ _⟩, rfl⟩, True.intro⟩⟩, nofun, fun h => absurd rfl h, nofun, nofun, fun k h => by cases h; exact Try.underlying134, nofun, nofun, nofun⟩
def ty136 : Ty := ⟨false, 1, [.nilp], none, [], false, false, none, none, none, true⟩
set_option maxRecDepth 100000 in
theorem tyOk136 : TyOk Try.prog 136 ty136 := ⟨⟨_, Try.underlying136, rfl⟩, ⟨_, _, rfl, rfl, rfl, rfl, fun c => ⟨⟨rfl, rfl⟩, True.intro⟩⟩, nofun, fun h => absurd rfl h, nofun, nofun, nofun, nofun, nofun, fun _ => ⟨_, Try.underlying136⟩⟩
def ty137 : Ty := ⟨false, 1, [.pv (.int .i32) 0], none, [], false, false, some .i32, none, none, false⟩
set_option maxRecDepth 100000 in
theorem tyOk137 : TyOk Try.prog 137 ty137 := ⟨⟨_, Try.underlying137, rfl⟩, ⟨_, _, rfl, rfl, rfl, rfl, fun c => ⟨⟨⟨_, rfl, Rep.int _ _⟩, rfl⟩, True.intro⟩⟩, nofun, fun h => absurd rfl h, nofun, nofun, fun k h => by cases h; exact Try.underlying137, nofun, nofun, nofun⟩
def ty138 : Ty := ⟨false, 1, [.pv (.int .i32) 0], none, [], false, false, some .i32, none, none, false⟩
set_option maxRecDepth 100000 in
theorem tyOk138 : TyOk Try.prog 138 ty138 := ⟨⟨_, Try.underlying138, rfl⟩, ⟨_, _, rfl, rfl, rfl, rfl, fun c => ⟨⟨⟨_, rfl, Rep.int _ _⟩, rfl⟩, True.intro⟩⟩, nofun, fun h => absurd rfl h, nofun, nofun, fun k h => by cases h; exact Try.underlying138, nofun, nofun, nofun⟩
def ty139 : Ty := ⟨true, 11, [.pv (.int .u64) 0, .pv (.int .u64) 0, .pv (.int .u32) 0, .pv (.int .u8) 0, .pv (.int .u8) 0, .pv (.int .u8) 0, .pv (.int .u8) 0, .dead, .nilp, .pv (.int .i32) 0, .pv (.int .i32) 0], none, [], false, false, none, none, none, false⟩
set_option maxRecDepth 100000 in
theorem tyOk139 : TyOk Try.prog 139 ty139 := ⟨⟨_, Try.underlying139, rfl⟩, ⟨_, _, rfl, rfl, rfl, rfl, fun c => ⟨⟨⟨_, rfl, Rep.int _ _⟩, rfl⟩, ⟨⟨_, rfl, Rep.int _ _⟩, rfl⟩, ⟨⟨_, rfl, Rep.int _ _⟩, rfl⟩, ⟨⟨_, rfl, Rep.int _ _⟩, rfl⟩, ⟨⟨_, rfl, Rep.int _ _⟩, rfl⟩, ⟨⟨_, rfl, Rep.int _ _⟩, rfl⟩, ⟨⟨_, rfl, Rep.int _ _⟩, rfl⟩, ⟨True.intro, rfl⟩, ⟨rfl, rfl⟩, ⟨⟨_, rfl, Rep.int _ _⟩, rfl⟩, ⟨⟨_, rfl, Rep.int _ _⟩, rfl⟩, True.intro⟩⟩, nofun, fun h => absurd rfl h, nofun, nofun, nofun, nofun, nofun, nofun⟩
def ty140 : Ty := ⟨true, 11, [.pv (.int .u64) 0, .pv (.int .u64) 0, .pv (.int .u32) 0, .pv (.int .u8) 0, .pv (.int .u8) 0, .pv (.int .u8) 0, .pv (.int .u8) 0, .dead, .nilp, .pv (.int .i32) 0, .pv (.int .i32) 0], none, [], false, false, none, none, none, false⟩
set_option maxRecDepth 100000 in
theorem tyOk140 : TyOk Try.prog 140 ty140 := ⟨⟨_, Try.underlying140, rfl⟩, ⟨_, _, rfl, rfl, rfl, rfl, fun c => ⟨⟨⟨_, rfl, Rep.int _ _⟩, rfl⟩, ⟨⟨_, rfl, Rep.int _ _⟩, rfl⟩, ⟨⟨_, rfl, Rep.int _ _⟩, rfl⟩, ⟨⟨_, rfl, Rep.int _ _⟩, rfl⟩, ⟨⟨_, rfl, Rep.int _ _⟩, rfl⟩, ⟨⟨_, rfl, Rep.int _ _⟩, rfl⟩, ⟨⟨_, rfl, Rep.int _ _⟩, rfl⟩, ⟨True.intro, rfl⟩, ⟨rfl, rfl⟩, ⟨⟨_, rfl, Rep.int _ _⟩, rfl⟩, ⟨⟨_, rfl, Rep.int _ _⟩, rfl⟩, True.intro⟩⟩, nofun, fun h => absurd rfl h, nofun, nofun, nofun, nofun, nofun, nofun⟩
def lookTy : List (Nat × Ty) → Nat → Option Ty
  | [], _ => none
  | (k, y) :: l, t => bif Nat.beq t k then some y else lookTy l t
def AllOk (P : Program) : List (Nat × Ty) → Prop
  | [] => True
  | (k, y) :: l => TyOk P k y ∧ AllOk P l
theorem allOk_look {P : Program} : ∀ {l : List (Nat × Ty)}, AllOk P l → ∀ t y, lookTy l t = some y → TyOk P t y
  | [], _, t, y, h => by cases h
  | (k, z) :: l, hl, t, y, h => by
    simp only [lookTy] at h
    cases e : Nat.beq t k with
    | true => rw [e] at h; cases h; rw [Nat.eq_of_beq_eq_true e]; exact hl.1
    | false => rw [e] at h; exact allOk_look hl.2 t y h
def tyL : List (Nat × Ty) := [(2, ty2), (3, ty3), (4, ty4), (5, ty5), (6, ty6), (7, ty7), (8, ty8), (9, ty9), (10, ty10), (11, ty11), (12, ty12), (13, ty13), (14, ty14), (15, ty15), (16, ty16), (17, ty17), (18, ty18), (19, ty19), (21, ty21), (22, ty22), (23, ty23), (24, ty24), (25, ty25), (28, ty28), (35, ty35), (36, ty36), (37, ty37), (38, ty38), (42, ty42), (43, ty43), (53, ty53), (59, ty59), (63, ty63), (64, ty64), (65, ty65), (68, ty68), (69, ty69), (77, ty77), (80, ty80), (87, ty87), (96, ty96), (98, ty98), (105, ty105), (109, ty109), (115, ty115), (127, ty127), (128, ty128), (130, ty130), (131, ty131), (133, ty133), (134, ty134), (136, ty136), (137, ty137), (138, ty138), (139, ty139), (140, ty140)]
theorem tyL_ok : AllOk Try.prog tyL := ⟨tyOk2, tyOk3, tyOk4, tyOk5, tyOk6, tyOk7, tyOk8, tyOk9, tyOk10, tyOk11, tyOk12, tyOk13, tyOk14, tyOk15, tyOk16, tyOk17, tyOk18, tyOk19, tyOk21, tyOk22, tyOk23, tyOk24, tyOk25, tyOk28, tyOk35, tyOk36, tyOk37, tyOk38, tyOk42, tyOk43, tyOk53, tyOk59, tyOk63, tyOk64, tyOk65, tyOk68, tyOk69, tyOk77, tyOk80, tyOk87, tyOk96, tyOk98, tyOk105, tyOk109, tyOk115, tyOk127, tyOk128, tyOk130, tyOk131, tyOk133, tyOk134, tyOk136, tyOk137, tyOk138, tyOk139, tyOk140, True.intro⟩
def lookM : List (Nat × Model) → Nat → List Model
  | [], _ => []
  | (k, m) :: l, f => bif Nat.beq f k then m :: lookM l f else lookM l f
def FnsOk (P : Program) : List (Nat × Model) → Prop
  | [] => True
  | (k, m) :: l => ModelOk P k m ∧ FnsOk P l
theorem fnsOk_look {P : Program} : ∀ {l : List (Nat × Model)}, FnsOk P l → ∀ f m, m ∈ lookM l f → ModelOk P f m
  | [], _, f, m, h => by cases h
  | (k, x) :: l, hl, f, m, h => by
    simp only [lookM] at h
    cases e : Nat.beq f k with
    | true =>
      rw [e] at h
      rcases List.mem_cons.1 h with h | h
      · subst h; rw [Nat.eq_of_beq_eq_true e]; exact hl.1
      · exact fnsOk_look hl.2 f m h
    | false => rw [e] at h; exact fnsOk_look hl.2 f m h
theorem fnsOk_nil {P : Program} : FnsOk P [] := True.intro
theorem fnsOk_cons {P : Program} {k : Nat} {m : Model} {l : List (Nat × Model)} (h : ModelOk P k m) (hl : FnsOk P l) : FnsOk P ((k, m) :: l) := And.intro h hl
def memB : List Nat → Nat → Bool
  | [], _ => false
  | k :: l, j => bif Nat.beq j k then true else memB l j
noncomputable def mkEnv (l : List (Nat × Model)) (wr res : List Nat) (dw : List Nat := []) : Env := ⟨Try.prog, lookTy tyL, lookM l, memB wr, memB res, memB dw⟩
theorem mkEnv_ok {l : List (Nat × Model)} (h : FnsOk Try.prog l) (wr res : List Nat) (dw : List Nat := []) : EnvOk (mkEnv l wr res dw) := ⟨by kernel_rfl, allOk_look tyL_ok, fnsOk_look h⟩
end Go.Proofs.Ytlhkdngkjodgiaa
