/- The table of types, by program. -/
import Derived.Test.YtfgcmhhacfkhcaaGreatDoorKX
import Derived.Test.YtfgcmhhacfkhcaaGreatDoorProg
import Derived.KernelRfl
set_option linter.unusedSimpArgs false
set_option linter.unusedVariables false
namespace Go.Proofs.YtfgcmhhacfkhcaaGreatDoor
open Go.RowKit
set_option maxRecDepth 100000
abbrev jEt (P : Program) (k n : Nat) (z : List AV) : Prop := ∃ i y, P.info? k = some i /\ i.size = n /\ i.zero = some y /\ y.cells.size = n /\ ∀ c, All2 (V1c c) z y.cells.toList
abbrev tSl (z : AV) (e : TypeId) (r : Tp) (b : Nat) : Ty := ⟨false, 1, [z], some (e, r, b), [], false, false, none, none, none, false, [], none⟩
theorem oSl {P : Program} {k e : TypeId} {r : Tp} {b : Nat} {z : AV} (h : P.underlying k = some (.slice e)) (hi : jEt P k 1 [z] := by exact ⟨_, _, rfl, rfl, rfl, rfl, fun c => ⟨⟨rfl, rfl⟩, True.intro⟩⟩)
  (he : 0 < r.w /\ ∃ ie z, P.info? e = some ie /\ ie.size = r.w /\ ie.bytes = b /\ ie.zero = some z /\ z.cells.size = r.w := by exact ⟨by decide, _, _, rfl, rfl, rfl, rfl, rfl⟩) : TyOk P k (tSl z e r b) :=
 ⟨⟨_, h, rfl⟩, hi, fun _ _ _ g => by cases g; exact ⟨h, he⟩, fun h => absurd rfl h, nofun, nofun, nofun, nofun, nofun, nofun, fun h => absurd rfl h, nofun⟩
abbrev tSt (n : Nat) (z : List AV) (o f : List (Nat × Nat)) : Ty := ⟨true, n, z, none, o, false, false, none, none, none, false, f, none⟩
theorem oSt {P : Program} {k n : Nat} {z : List AV} {o f : List (Nat × Nat)} {fs : Array Field} (h : P.underlying k = some (.struct fs))
  (hi : jEt P k n z := by exact ⟨_, _, rfl, rfl, rfl, rfl, fun c => by repeat' first | exact True.intro | exact ⟨⟨_, rfl, Rep.int _ _⟩, rfl⟩ | exact ⟨⟨_, rfl, Rep.str _⟩, rfl⟩ | exact ⟨⟨_, rfl, Rep.bool _⟩, rfl⟩ | exact ⟨rfl, rfl⟩ | exact ⟨True.intro, rfl⟩ | refine ⟨?_, ?_⟩⟩)
  (ho : fs.toList.mapM (fun f => (P.info? f.type).map fun i => (f.offset, i.size)) = some o := by kernel_rfl) (hf : fs.toList.map (fun f => (f.type, f.offset)) = f := by kernel_rfl) : TyOk P k (tSt n z o f) :=
 ⟨⟨_, h, rfl⟩, hi, nofun, fun _ => ⟨_, h, ho⟩, nofun, nofun, nofun, nofun, nofun, nofun, fun _ => ⟨_, h, hf⟩, nofun⟩
abbrev tIn (i : IntKind) : Ty := ⟨false, 1, [.pv (.int i) (0 : Int)], none, [], false, false, some i, none, none, false, [], none⟩
abbrev tPt (z : AV) : Ty := ⟨false, 1, [z], none, [], false, false, none, none, none, true, [], none⟩
theorem oIn {P : Program} {k : Nat} {i : IntKind} (h : P.underlying k = some (.int i)) (hi : jEt P k 1 [.pv (.int i) (0 : Int)] := by exact ⟨_, _, rfl, rfl, rfl, rfl, fun c => ⟨⟨⟨_, rfl, Rep.int _ _⟩, rfl⟩, True.intro⟩⟩) : TyOk P k (tIn i) :=
 ⟨⟨_, h, rfl⟩, hi, nofun, fun h => absurd rfl h, nofun, nofun, fun _ g => by cases g; exact h, nofun, nofun, nofun, fun h => absurd rfl h, nofun⟩
theorem oPt {P : Program} {k u : Nat} {z : AV} (h : P.underlying k = some (.pointer u)) (hi : jEt P k 1 [z] := by exact ⟨_, _, rfl, rfl, rfl, rfl, fun c => ⟨⟨rfl, rfl⟩, True.intro⟩⟩) : TyOk P k (tPt z) :=
 ⟨⟨_, h, rfl⟩, hi, nofun, fun h => absurd rfl h, nofun, nofun, nofun, nofun, nofun, fun _ => ⟨_, h⟩, fun h => absurd rfl h, nofun⟩
def ty2 : Ty := tIn .i64
theorem jnr : TyOk Tryz.prog 2 ty2 := oIn Tryz.underlying2
def ty3 : Ty := tIn .i64
theorem jkV : TyOk Tryz.prog 3 ty3 := oIn Tryz.underlying3
def ty4 : Ty := ⟨false, 1, [.pv .bool false], none, [], false, true, none, none, none, false, [], none⟩
theorem jsX : TyOk Tryz.prog 4 ty4 := ⟨⟨_, Tryz.underlying4, rfl⟩, ⟨_, _, rfl, rfl, rfl, rfl, fun c => ⟨⟨⟨_, rfl, Rep.bool _⟩, rfl⟩, True.intro⟩⟩, nofun, fun h => absurd rfl h, nofun, fun _ => Tryz.underlying4, nofun, nofun, nofun, nofun, fun h => absurd rfl h, nofun⟩
def ty5 : Ty := tIn .u8
theorem joh : TyOk Tryz.prog 5 ty5 := oIn Tryz.underlying5
def ty6 : Ty := tIn .u8
theorem jDG : TyOk Tryz.prog 6 ty6 := oIn Tryz.underlying6
def ty7 : Ty := tSt 4 [.pv (.int .i64) 0, .pv (.int .i64) 0, .pv .bool false, .pv (.int .u8) 0] [(0, 1), (1, 1), (2, 1), (3, 1)] [(2, 0), (3, 1), (4, 2), (6, 3)]
theorem jCK : TyOk Tryz.prog 7 ty7 := oSt Tryz.underlying7
def ty9 : Ty := ⟨false, 1, [.pv .str []], none, [], true, false, none, none, none, false, [], none⟩
theorem jlm : TyOk Tryz.prog 9 ty9 := ⟨⟨_, Tryz.underlying9, rfl⟩, ⟨_, _, rfl, rfl, rfl, rfl, fun c => ⟨⟨⟨_, rfl, Rep.str _⟩, rfl⟩, True.intro⟩⟩, nofun, fun h => absurd rfl h, fun _ => Tryz.underlying9, nofun, nofun, nofun, nofun, nofun, fun h => absurd rfl h, nofun⟩
def ty23 : Ty := tSl (.nils) 9 .str 16
theorem jlb : TyOk Tryz.prog 23 ty23 := oSl Tryz.underlying23
def ty24 : Ty := tSl (.nils) 193 (.pair (.sl .str) .str) 40
theorem jo8 : TyOk Tryz.prog 24 ty24 := oSl Tryz.underlying24
def ty25 : Ty := tSt 2 [.nils, .nils] [(0, 1), (1, 1)] [(23, 0), (24, 1)]
theorem jtq : TyOk Tryz.prog 25 ty25 := oSt Tryz.underlying25
def ty26 : Ty := tSt 2 [.nils, .nils] [(0, 1), (1, 1)] [(23, 0), (24, 1)]
theorem jmW : TyOk Tryz.prog 26 ty26 := oSt Tryz.underlying26
def ty27 : Ty := tSl (.nils) 195 (.pair .str .str) 32
theorem jtj : TyOk Tryz.prog 27 ty27 := oSl Tryz.underlying27
def ty28 : Ty := tSl (.nils) 197 (.pair .str (.int .i64)) 24
theorem jmp : TyOk Tryz.prog 28 ty28 := oSl Tryz.underlying28
def ty29 : Ty := tSt 3 [.pv (.int .i64) 0, .nils, .nils] [(0, 1), (1, 1), (2, 1)] [(3, 0), (27, 1), (28, 2)]
theorem jse : TyOk Tryz.prog 29 ty29 := oSt Tryz.underlying29
def ty30 : Ty := tSt 3 [.pv (.int .i64) 0, .nils, .nils] [(0, 1), (1, 1), (2, 1)] [(3, 0), (27, 1), (28, 2)]
theorem jlj : TyOk Tryz.prog 30 ty30 := oSt Tryz.underlying30
def ty37 : Ty := tSl (.nils) 138 (.pair (.sl .str) .str) 40
theorem jA1 : TyOk Tryz.prog 37 ty37 := oSl Tryz.underlying37
def ty38 : Ty := tSt 2 [.nils, .nils] [(0, 1), (1, 1)] [(23, 0), (37, 1)]
theorem jBk : TyOk Tryz.prog 38 ty38 := oSt Tryz.underlying38
def ty39 : Ty := tSt 2 [.nils, .nils] [(0, 1), (1, 1)] [(23, 0), (37, 1)]
theorem jBJ : TyOk Tryz.prog 39 ty39 := oSt Tryz.underlying39
def ty41 : Ty := tSl (.nils) 143 (.pair .str .str) 32
theorem jDk : TyOk Tryz.prog 41 ty41 := oSl Tryz.underlying41
def ty42 : Ty := tSl (.nils) 145 (.pair .str (.int .i64)) 24
theorem jAG : TyOk Tryz.prog 42 ty42 := oSl Tryz.underlying42
def ty43 : Ty := tSt 3 [.pv (.int .i64) 0, .nils, .nils] [(0, 1), (1, 1), (2, 1)] [(3, 0), (41, 1), (42, 2)]
theorem jk9 : TyOk Tryz.prog 43 ty43 := oSt Tryz.underlying43
def ty44 : Ty := tSt 3 [.pv (.int .i64) 0, .nils, .nils] [(0, 1), (1, 1), (2, 1)] [(3, 0), (41, 1), (42, 2)]
theorem jrr : TyOk Tryz.prog 44 ty44 := oSt Tryz.underlying44
def ty55 : Ty := tSl (.nils) 5 (.int .u8) 1
theorem jlw : TyOk Tryz.prog 55 ty55 := oSl Tryz.underlying55
def ty61 : Ty := tSl (.nils) 44 (.pair (.int .i64) (.pair (.sl (.pair .str .str)) (.sl (.pair .str (.int .i64))))) 56
theorem jGN : TyOk Tryz.prog 61 ty61 := oSl Tryz.underlying61
def ty62 : Ty := tSl (.nils) 156 (.pair .str (.pair .str (.sl (.pair (.int .i64) (.sl (.int .i64)))))) 56
theorem jDo : TyOk Tryz.prog 62 ty62 := oSl Tryz.underlying62
def ty63 : Ty := tSt 2 [.nils, .nils] [(0, 1), (1, 1)] [(61, 0), (62, 1)]
theorem jF5 : TyOk Tryz.prog 63 ty63 := oSt Tryz.underlying63
def ty64 : Ty := tSt 2 [.nils, .nils] [(0, 1), (1, 1)] [(61, 0), (62, 1)]
theorem jGi : TyOk Tryz.prog 64 ty64 := oSt Tryz.underlying64
def ty66 : Ty := tSl (.nils) 3 (.int .i64) 8
theorem jA3 : TyOk Tryz.prog 66 ty66 := oSl Tryz.underlying66
def ty68 : Ty := tSl (.nils) 70 .q 88
theorem ju2 : TyOk Tryz.prog 68 ty68 := oSl Tryz.underlying68
def ty69 : Ty := tSt 6 [.pv (.int .i64) 0, .pv .str [], .nils, .pv (.int .i64) 0, .pv (.int .i64) 0, .nils] [(0, 1), (1, 1), (2, 1), (3, 1), (4, 1), (5, 1)] [(3, 0), (9, 1), (23, 2), (3, 3), (3, 4), (68, 5)]
theorem jBa : TyOk Tryz.prog 69 ty69 := oSt Tryz.underlying69
def ty70 : Ty := tSt 6 [.pv (.int .i64) 0, .pv .str [], .nils, .pv (.int .i64) 0, .pv (.int .i64) 0, .nils] [(0, 1), (1, 1), (2, 1), (3, 1), (4, 1), (5, 1)] [(3, 0), (9, 1), (23, 2), (3, 3), (3, 4), (68, 5)]
theorem jGQ : TyOk Tryz.prog 70 ty70 := oSt Tryz.underlying70
def ty76 : Ty := tSl (.nils) 162 (.pair (.int .i64) (.int .i64)) 16
theorem jFP : TyOk Tryz.prog 76 ty76 := oSl Tryz.underlying76
def ty89 : Ty := tSl (.nils) 261 (.pair (.pair (.sl (.pair (.int .i64) (.pair (.sl (.pair .str .str)) (.sl (.pair .str (.int .i64)))))) (.sl (.pair .str (.pair .str (.sl (.pair (.int .i64) (.sl (.int .i64)))))))) (.sl (.int .i64))) 72
theorem jp6 : TyOk Tryz.prog 89 ty89 := oSl Tryz.underlying89
def ty90 : Ty := tSt 3 [.nils, .nils, .nils] [(0, 2), (2, 1)] [(26, 0), (89, 2)]
theorem jmN : TyOk Tryz.prog 90 ty90 := oSt Tryz.underlying90
def ty91 : Ty := tSt 3 [.nils, .nils, .nils] [(0, 2), (2, 1)] [(26, 0), (89, 2)]
theorem joR : TyOk Tryz.prog 91 ty91 := oSt Tryz.underlying91
def ty92 : Ty := tSl (.nils) 94 .q 88
theorem jG1 : TyOk Tryz.prog 92 ty92 := oSl Tryz.underlying92
def ty93 : Ty := tSt 6 [.pv (.int .i64) 0, .pv .str [], .nils, .pv (.int .i64) 0, .pv (.int .i64) 0, .nils] [(0, 1), (1, 1), (2, 1), (3, 1), (4, 1), (5, 1)] [(3, 0), (9, 1), (23, 2), (3, 3), (3, 4), (92, 5)]
theorem jHo : TyOk Tryz.prog 93 ty93 := oSt Tryz.underlying93
def ty94 : Ty := tSt 6 [.pv (.int .i64) 0, .pv .str [], .nils, .pv (.int .i64) 0, .pv (.int .i64) 0, .nils] [(0, 1), (1, 1), (2, 1), (3, 1), (4, 1), (5, 1)] [(3, 0), (9, 1), (23, 2), (3, 3), (3, 4), (92, 5)]
theorem jHc : TyOk Tryz.prog 94 ty94 := oSt Tryz.underlying94
def ty98 : Ty := tSl (.nils) 263 (.pair (.pair (.sl (.pair (.int .i64) (.pair (.sl (.pair .str .str)) (.sl (.pair .str (.int .i64)))))) (.sl (.pair .str (.pair .str (.sl (.pair (.int .i64) (.sl (.int .i64)))))))) (.sl (.int .i64))) 72
theorem joL : TyOk Tryz.prog 98 ty98 := oSl Tryz.underlying98
def ty99 : Ty := tSt 3 [.nils, .nils, .nils] [(0, 2), (2, 1)] [(39, 0), (98, 2)]
theorem jBr : TyOk Tryz.prog 99 ty99 := oSt Tryz.underlying99
def jHW : Ty := tSt 3 [.nils, .nils, .nils] [(0, 2), (2, 1)] [(39, 0), (98, 2)]
theorem jIL : TyOk Tryz.prog 100 jHW := oSt Tryz.underlying100
def jeD : Ty := tSt 2 [.nils, .pv .str []] [(0, 1), (1, 1)] [(23, 0), (9, 1)]
theorem jlt : TyOk Tryz.prog 137 jeD := oSt Tryz.underlying137
def jFe : Ty := tSt 2 [.nils, .pv .str []] [(0, 1), (1, 1)] [(23, 0), (9, 1)]
theorem jGJ : TyOk Tryz.prog 138 jFe := oSt Tryz.underlying138
def jhm : Ty := tSt 2 [.pv .str [], .pv .str []] [(0, 1), (1, 1)] [(9, 0), (9, 1)]
theorem jpp : TyOk Tryz.prog 142 jhm := oSt Tryz.underlying142
def jem : Ty := ⟨true, 2, [.pv .str [], .pv .str []], none, [(0, 1), (1, 1)], false, false, none, some (.pair .str .str), none, false, [(9, 0), (9, 1)], none⟩
theorem joF : TyOk Tryz.prog 143 jem := ⟨⟨_, Tryz.underlying143, rfl⟩, ⟨_, _, rfl, rfl, rfl, rfl, fun c => ⟨⟨⟨_, rfl, Rep.str _⟩, rfl⟩, ⟨⟨_, rfl, Rep.str _⟩, rfl⟩, True.intro⟩⟩, nofun, fun _ => ⟨_, Tryz.underlying143, by kernel_rfl⟩, nofun, nofun, nofun, fun r h => by cases h; exact eqs_of _ rfl (by kernel_rfl) (by kernel_rfl) (by kernel_rfl) [(false, 9, 0), (false, 9, 1)] (by kernel_rfl) (fun x y => ⟨⟨rfl, rfl, Tryz.underlying9⟩, ⟨⟨rfl, rfl, Tryz.underlying9⟩, True.intro⟩⟩), nofun, nofun, fun _ => ⟨_, Tryz.underlying143, by kernel_rfl⟩, nofun⟩
def jzF : Ty := tSt 2 [.pv .str [], .pv (.int .i64) 0] [(0, 1), (1, 1)] [(9, 0), (3, 1)]
theorem jAP : TyOk Tryz.prog 144 jzF := oSt Tryz.underlying144
def jfd : Ty := ⟨true, 2, [.pv .str [], .pv (.int .i64) 0], none, [(0, 1), (1, 1)], false, false, none, some (.pair .str (.int .i64)), none, false, [(9, 0), (3, 1)], none⟩
theorem jsq : TyOk Tryz.prog 145 jfd := ⟨⟨_, Tryz.underlying145, rfl⟩, ⟨_, _, rfl, rfl, rfl, rfl, fun c => ⟨⟨⟨_, rfl, Rep.str _⟩, rfl⟩, ⟨⟨_, rfl, Rep.int _ _⟩, rfl⟩, True.intro⟩⟩, nofun, fun _ => ⟨_, Tryz.underlying145, by kernel_rfl⟩, nofun, nofun, nofun, fun r h => by cases h; exact eqs_of _ rfl (by kernel_rfl) (by kernel_rfl) (by kernel_rfl) [(false, 9, 0), (false, 3, 1)] (by kernel_rfl) (fun x y => ⟨⟨rfl, rfl, Tryz.underlying9⟩, ⟨⟨rfl, rfl, ⟨rfl, _, Tryz.underlying3⟩⟩, True.intro⟩⟩), nofun, nofun, fun _ => ⟨_, Tryz.underlying145, by kernel_rfl⟩, nofun⟩
def jzx : Ty := tSl (.nils) 151 (.pair .str (.int .i64)) 24
theorem jBf : TyOk Tryz.prog 148 jzx := oSl Tryz.underlying148
def jFx : Ty := tSt 2 [.pv .str [], .pv (.int .i64) 0] [(0, 1), (1, 1)] [(9, 0), (3, 1)]
theorem jFN : TyOk Tryz.prog 150 jFx := oSt Tryz.underlying150
def jiW : Ty := ⟨true, 2, [.pv .str [], .pv (.int .i64) 0], none, [(0, 1), (1, 1)], false, false, none, some (.pair .str (.int .i64)), none, false, [(9, 0), (3, 1)], none⟩
theorem jmC : TyOk Tryz.prog 151 jiW := ⟨⟨_, Tryz.underlying151, rfl⟩, ⟨_, _, rfl, rfl, rfl, rfl, fun c => ⟨⟨⟨_, rfl, Rep.str _⟩, rfl⟩, ⟨⟨_, rfl, Rep.int _ _⟩, rfl⟩, True.intro⟩⟩, nofun, fun _ => ⟨_, Tryz.underlying151, by kernel_rfl⟩, nofun, nofun, nofun, fun r h => by cases h; exact eqs_of _ rfl (by kernel_rfl) (by kernel_rfl) (by kernel_rfl) [(false, 9, 0), (false, 3, 1)] (by kernel_rfl) (fun x y => ⟨⟨rfl, rfl, Tryz.underlying9⟩, ⟨⟨rfl, rfl, ⟨rfl, _, Tryz.underlying3⟩⟩, True.intro⟩⟩), nofun, nofun, fun _ => ⟨_, Tryz.underlying151, by kernel_rfl⟩, nofun⟩
def jFJ : Ty := tSl (.nils) 239 (.pair (.int .i64) (.sl (.int .i64))) 32
theorem jGp : TyOk Tryz.prog 154 jFJ := oSl Tryz.underlying154
def jFk : Ty := tSt 3 [.pv .str [], .pv .str [], .nils] [(0, 1), (1, 1), (2, 1)] [(9, 0), (9, 1), (154, 2)]
theorem jFL : TyOk Tryz.prog 155 jFk := oSt Tryz.underlying155
def jFu : Ty := tSt 3 [.pv .str [], .pv .str [], .nils] [(0, 1), (1, 1), (2, 1)] [(9, 0), (9, 1), (154, 2)]
theorem jGu : TyOk Tryz.prog 156 jFu := oSt Tryz.underlying156
def jE9 : Ty := tSt 2 [.pv (.int .i64) 0, .pv (.int .i64) 0] [(0, 1), (1, 1)] [(3, 0), (3, 1)]
theorem jF8 : TyOk Tryz.prog 161 jE9 := oSt Tryz.underlying161
def jg0 : Ty := ⟨true, 2, [.pv (.int .i64) 0, .pv (.int .i64) 0], none, [(0, 1), (1, 1)], false, false, none, some (.pair (.int .i64) (.int .i64)), none, false, [(3, 0), (3, 1)], none⟩
theorem jqt : TyOk Tryz.prog 162 jg0 := ⟨⟨_, Tryz.underlying162, rfl⟩, ⟨_, _, rfl, rfl, rfl, rfl, fun c => ⟨⟨⟨_, rfl, Rep.int _ _⟩, rfl⟩, ⟨⟨_, rfl, Rep.int _ _⟩, rfl⟩, True.intro⟩⟩, nofun, fun _ => ⟨_, Tryz.underlying162, by kernel_rfl⟩, nofun, nofun, nofun, fun r h => by cases h; exact eqs_of _ rfl (by kernel_rfl) (by kernel_rfl) (by kernel_rfl) [(false, 3, 0), (false, 3, 1)] (by kernel_rfl) (fun x y => ⟨⟨rfl, rfl, ⟨rfl, _, Tryz.underlying3⟩⟩, ⟨⟨rfl, rfl, ⟨rfl, _, Tryz.underlying3⟩⟩, True.intro⟩⟩), nofun, nofun, fun _ => ⟨_, Tryz.underlying162, by kernel_rfl⟩, nofun⟩
def jGX : Ty := tSt 2 [.nils, .pv .str []] [(0, 1), (1, 1)] [(23, 0), (9, 1)]
theorem jHa : TyOk Tryz.prog 193 jGX := oSt Tryz.underlying193
def jGV : Ty := ⟨true, 2, [.pv .str [], .pv .str []], none, [(0, 1), (1, 1)], false, false, none, some (.pair .str .str), none, false, [(9, 0), (9, 1)], none⟩
theorem jG9 : TyOk Tryz.prog 195 jGV := ⟨⟨_, Tryz.underlying195, rfl⟩, ⟨_, _, rfl, rfl, rfl, rfl, fun c => ⟨⟨⟨_, rfl, Rep.str _⟩, rfl⟩, ⟨⟨_, rfl, Rep.str _⟩, rfl⟩, True.intro⟩⟩, nofun, fun _ => ⟨_, Tryz.underlying195, by kernel_rfl⟩, nofun, nofun, nofun, fun r h => by cases h; exact eqs_of _ rfl (by kernel_rfl) (by kernel_rfl) (by kernel_rfl) [(false, 9, 0), (false, 9, 1)] (by kernel_rfl) (fun x y => ⟨⟨rfl, rfl, Tryz.underlying9⟩, ⟨⟨rfl, rfl, Tryz.underlying9⟩, True.intro⟩⟩), nofun, nofun, fun _ => ⟨_, Tryz.underlying195, by kernel_rfl⟩, nofun⟩
def jGY : Ty := ⟨true, 2, [.pv .str [], .pv (.int .i64) 0], none, [(0, 1), (1, 1)], false, false, none, some (.pair .str (.int .i64)), none, false, [(9, 0), (3, 1)], none⟩
theorem jHn : TyOk Tryz.prog 197 jGY := ⟨⟨_, Tryz.underlying197, rfl⟩, ⟨_, _, rfl, rfl, rfl, rfl, fun c => ⟨⟨⟨_, rfl, Rep.str _⟩, rfl⟩, ⟨⟨_, rfl, Rep.int _ _⟩, rfl⟩, True.intro⟩⟩, nofun, fun _ => ⟨_, Tryz.underlying197, by kernel_rfl⟩, nofun, nofun, nofun, fun r h => by cases h; exact eqs_of _ rfl (by kernel_rfl) (by kernel_rfl) (by kernel_rfl) [(false, 9, 0), (false, 3, 1)] (by kernel_rfl) (fun x y => ⟨⟨rfl, rfl, Tryz.underlying9⟩, ⟨⟨rfl, rfl, ⟨rfl, _, Tryz.underlying3⟩⟩, True.intro⟩⟩), nofun, nofun, fun _ => ⟨_, Tryz.underlying197, by kernel_rfl⟩, nofun⟩
def jij : Ty := tPt (.nilp)
theorem jqh : TyOk Tryz.prog 214 jij := oPt Tryz.underlying214
def jFg : Ty := tSt 4 [.nils, .nils, .nils, .nils] [(0, 2), (2, 2)] [(39, 0), (64, 2)]
theorem jGs : TyOk Tryz.prog 215 jFg := oSt Tryz.underlying215
def jFv : Ty := tSt 4 [.nils, .nils, .nils, .nils] [(0, 2), (2, 2)] [(39, 0), (64, 2)]
theorem jGq : TyOk Tryz.prog 216 jFv := oSt Tryz.underlying216
def jFb : Ty := tSl (.nils) 231 (.pair .str (.pair (.int .i64) (.pair (.int .i64) (.int .i64)))) 40
theorem jF1 : TyOk Tryz.prog 228 jFb := oSl Tryz.underlying228
def jFI : Ty := tSt 4 [.pv .str [], .pv (.int .i64) 0, .pv (.int .i64) 0, .pv (.int .i64) 0] [(0, 1), (1, 1), (2, 1), (3, 1)] [(9, 0), (3, 1), (3, 2), (3, 3)]
theorem jF7 : TyOk Tryz.prog 230 jFI := oSt Tryz.underlying230
def jFG : Ty := ⟨true, 4, [.pv .str [], .pv (.int .i64) 0, .pv (.int .i64) 0, .pv (.int .i64) 0], none, [(0, 1), (1, 1), (2, 1), (3, 1)], false, false, none, some (.pair .str (.pair (.int .i64) (.pair (.int .i64) (.int .i64)))), none, false, [(9, 0), (3, 1), (3, 2), (3, 3)], none⟩
theorem jFW : TyOk Tryz.prog 231 jFG := ⟨⟨_, Tryz.underlying231, rfl⟩, ⟨_, _, rfl, rfl, rfl, rfl, fun c => ⟨⟨⟨_, rfl, Rep.str _⟩, rfl⟩, ⟨⟨_, rfl, Rep.int _ _⟩, rfl⟩, ⟨⟨_, rfl, Rep.int _ _⟩, rfl⟩, ⟨⟨_, rfl, Rep.int _ _⟩, rfl⟩, True.intro⟩⟩, nofun, fun _ => ⟨_, Tryz.underlying231, by kernel_rfl⟩, nofun, nofun, nofun, fun r h => by cases h; exact eqs_of _ rfl (by kernel_rfl) (by kernel_rfl) (by kernel_rfl) [(false, 9, 0), (false, 3, 1), (false, 3, 2), (false, 3, 3)] (by kernel_rfl) (fun x y => ⟨⟨rfl, rfl, Tryz.underlying9⟩, ⟨⟨rfl, rfl, ⟨rfl, _, Tryz.underlying3⟩⟩, ⟨⟨rfl, rfl, ⟨rfl, _, Tryz.underlying3⟩⟩, ⟨⟨rfl, rfl, ⟨rfl, _, Tryz.underlying3⟩⟩, True.intro⟩⟩⟩⟩), nofun, nofun, fun _ => ⟨_, Tryz.underlying231, by kernel_rfl⟩, nofun⟩
def jFq : Ty := tPt (.nilp)
theorem jF2 : TyOk Tryz.prog 232 jFq := oPt Tryz.underlying232
def jFC : Ty := tPt (.nilp)
theorem jGh : TyOk Tryz.prog 234 jFC := oPt Tryz.underlying234
def jFm : Ty := tSt 2 [.pv (.int .i64) 0, .nils] [(0, 1), (1, 1)] [(3, 0), (66, 1)]
theorem jFV : TyOk Tryz.prog 238 jFm := oSt Tryz.underlying238
def jFi : Ty := tSt 2 [.pv (.int .i64) 0, .nils] [(0, 1), (1, 1)] [(3, 0), (66, 1)]
theorem jGB : TyOk Tryz.prog 239 jFi := oSt Tryz.underlying239
def jFc : Ty := tIn .u64
theorem jGL : TyOk Tryz.prog 242 jFc := oIn Tryz.underlying242
def jFF : Ty := tSt 8 [.pv .bool false, .pv (.int .i64) 0, .pv (.int .i64) 0, .pv (.int .i64) 0, .pv (.int .i64) 0, .pv .bool false, .pv (.int .i64) 0, .pv (.int .i64) 0] [(0, 1), (1, 1), (2, 1), (3, 1), (4, 1), (5, 1), (6, 1), (7, 1)] [(4, 0), (3, 1), (3, 2), (3, 3), (3, 4), (4, 5), (3, 6), (3, 7)]
theorem jGm : TyOk Tryz.prog 249 jFF := oSt Tryz.underlying249
def jFs : Ty := ⟨true, 8, [.pv .bool false, .pv (.int .i64) 0, .pv (.int .i64) 0, .pv (.int .i64) 0, .pv (.int .i64) 0, .pv .bool false, .pv (.int .i64) 0, .pv (.int .i64) 0], none, [(0, 1), (1, 1), (2, 1), (3, 1), (4, 1), (5, 1), (6, 1), (7, 1)], false, false, none, some (.pair .bool (.pair (.int .i64) (.pair (.int .i64) (.pair (.int .i64) (.pair (.int .i64) (.pair .bool (.pair (.int .i64) (.int .i64)))))))), none, false, [(4, 0), (3, 1), (3, 2), (3, 3), (3, 4), (4, 5), (3, 6), (3, 7)], none⟩
theorem jGH : TyOk Tryz.prog 250 jFs := ⟨⟨_, Tryz.underlying250, rfl⟩, ⟨_, _, rfl, rfl, rfl, rfl, fun c => ⟨⟨⟨_, rfl, Rep.bool _⟩, rfl⟩, ⟨⟨_, rfl, Rep.int _ _⟩, rfl⟩, ⟨⟨_, rfl, Rep.int _ _⟩, rfl⟩, ⟨⟨_, rfl, Rep.int _ _⟩, rfl⟩, ⟨⟨_, rfl, Rep.int _ _⟩, rfl⟩, ⟨⟨_, rfl, Rep.bool _⟩, rfl⟩, ⟨⟨_, rfl, Rep.int _ _⟩, rfl⟩, ⟨⟨_, rfl, Rep.int _ _⟩, rfl⟩, True.intro⟩⟩, nofun, fun _ => ⟨_, Tryz.underlying250, by kernel_rfl⟩, nofun, nofun, nofun, fun r h => by cases h; exact eqs_of _ rfl (by kernel_rfl) (by kernel_rfl) (by kernel_rfl) [(false, 4, 0), (false, 3, 1), (false, 3, 2), (false, 3, 3), (false, 3, 4), (false, 4, 5), (false, 3, 6), (false, 3, 7)] (by kernel_rfl) (fun x y => ⟨⟨rfl, rfl, Tryz.underlying4⟩, ⟨⟨rfl, rfl, ⟨rfl, _, Tryz.underlying3⟩⟩, ⟨⟨rfl, rfl, ⟨rfl, _, Tryz.underlying3⟩⟩, ⟨⟨rfl, rfl, ⟨rfl, _, Tryz.underlying3⟩⟩, ⟨⟨rfl, rfl, ⟨rfl, _, Tryz.underlying3⟩⟩, ⟨⟨rfl, rfl, Tryz.underlying4⟩, ⟨⟨rfl, rfl, ⟨rfl, _, Tryz.underlying3⟩⟩, ⟨⟨rfl, rfl, ⟨rfl, _, Tryz.underlying3⟩⟩, True.intro⟩⟩⟩⟩⟩⟩⟩⟩), nofun, nofun, fun _ => ⟨_, Tryz.underlying250, by kernel_rfl⟩, nofun⟩
def jFf : Ty := ⟨false, 1, [.dead], none, [], false, false, none, none, none, false, [], some (3, 250, .int .i64, .pair .bool (.pair (.int .i64) (.pair (.int .i64) (.pair (.int .i64) (.pair (.int .i64) (.pair .bool (.pair (.int .i64) (.int .i64))))))), true)⟩
theorem jGO : TyOk Tryz.prog 252 jFf := ⟨⟨_, Tryz.underlying252, rfl⟩, ⟨_, _, rfl, rfl, rfl, rfl, fun c => ⟨⟨True.intro, rfl⟩, True.intro⟩⟩, nofun, fun h => absurd rfl h, nofun, nofun, nofun, nofun, nofun, nofun, fun h => absurd rfl h, fun K V kt vt agg h => by cases h; exact ⟨Tryz.underlying252, Tryz.underlying3, rfl, (fun h => by first | rfl | cases h), _, _, rfl, rfl, rfl⟩⟩
def jf0 : Ty := tSl (.nils) 30 (.pair (.int .i64) (.pair (.sl (.pair .str .str)) (.sl (.pair .str (.int .i64))))) 56
theorem jmQ : TyOk Tryz.prog 256 jf0 := oSl Tryz.underlying256
def jAC : Ty := tSl (.nils) 378 (.pair .str (.pair .str (.sl (.pair (.int .i64) (.sl (.int .i64)))))) 56
theorem jBN : TyOk Tryz.prog 257 jAC := oSl Tryz.underlying257
def jhO : Ty := tSt 2 [.nils, .nils] [(0, 1), (1, 1)] [(256, 0), (257, 1)]
theorem jtS : TyOk Tryz.prog 258 jhO := oSt Tryz.underlying258
def jHX : Ty := tSt 2 [.nils, .nils] [(0, 1), (1, 1)] [(256, 0), (257, 1)]
theorem jJv : TyOk Tryz.prog 259 jHX := oSt Tryz.underlying259
def jH0 : Ty := tSt 3 [.nils, .nils, .nils] [(0, 2), (2, 1)] [(259, 0), (66, 2)]
theorem jJb : TyOk Tryz.prog 260 jH0 := oSt Tryz.underlying260
def jHO : Ty := tSt 3 [.nils, .nils, .nils] [(0, 2), (2, 1)] [(259, 0), (66, 2)]
theorem jIB : TyOk Tryz.prog 261 jHO := oSt Tryz.underlying261
def jHT : Ty := tSt 3 [.nils, .nils, .nils] [(0, 2), (2, 1)] [(64, 0), (66, 2)]
theorem jIm : TyOk Tryz.prog 262 jHT := oSt Tryz.underlying262
def jH1 : Ty := tSt 3 [.nils, .nils, .nils] [(0, 2), (2, 1)] [(64, 0), (66, 2)]
theorem jIc : TyOk Tryz.prog 263 jH1 := oSt Tryz.underlying263
def jFp : Ty := tSt 2 [.pv (.int .i64) 0, .pv (.int .i64) 0] [(0, 1), (1, 1)] [(3, 0), (3, 1)]
theorem jGv : TyOk Tryz.prog 280 jFp := oSt Tryz.underlying280
def jt7 : Ty := ⟨true, 2, [.pv (.int .i64) 0, .pv (.int .i64) 0], none, [(0, 1), (1, 1)], false, false, none, some (.pair (.int .i64) (.int .i64)), none, false, [(3, 0), (3, 1)], none⟩
theorem juB : TyOk Tryz.prog 281 jt7 := ⟨⟨_, Tryz.underlying281, rfl⟩, ⟨_, _, rfl, rfl, rfl, rfl, fun c => ⟨⟨⟨_, rfl, Rep.int _ _⟩, rfl⟩, ⟨⟨_, rfl, Rep.int _ _⟩, rfl⟩, True.intro⟩⟩, nofun, fun _ => ⟨_, Tryz.underlying281, by kernel_rfl⟩, nofun, nofun, nofun, fun r h => by cases h; exact eqs_of _ rfl (by kernel_rfl) (by kernel_rfl) (by kernel_rfl) [(false, 3, 0), (false, 3, 1)] (by kernel_rfl) (fun x y => ⟨⟨rfl, rfl, ⟨rfl, _, Tryz.underlying3⟩⟩, ⟨⟨rfl, rfl, ⟨rfl, _, Tryz.underlying3⟩⟩, True.intro⟩⟩), nofun, nofun, fun _ => ⟨_, Tryz.underlying281, by kernel_rfl⟩, nofun⟩
def jFy : Ty := tSl (.nils) 66 (.sl (.int .i64)) 24
theorem jGE : TyOk Tryz.prog 286 jFy := oSl Tryz.underlying286
def jFn : Ty := tIn .i64
theorem jF9 : TyOk Tryz.prog 295 jFn := oIn Tryz.underlying295
def jFD : Ty := tIn .u32
theorem jF4 : TyOk Tryz.prog 303 jFD := oIn Tryz.underlying303
def jFz : Ty := tIn .u64
theorem jFY : TyOk Tryz.prog 305 jFz := oIn Tryz.underlying305
def jFj : Ty := tIn .u64
theorem jFM : TyOk Tryz.prog 329 jFj := oIn Tryz.underlying329
def jFA : Ty := tPt (.nilp)
theorem jFR : TyOk Tryz.prog 333 jFA := oPt Tryz.underlying333
def jFl : Ty := tPt (.nilp)
theorem jGx : TyOk Tryz.prog 358 jFl := oPt Tryz.underlying358
def jFh : Ty := tSt 2 [.nilp, .nils] [(0, 1), (1, 1)] [(358, 0), (55, 1)]
theorem jGn : TyOk Tryz.prog 359 jFh := oSt Tryz.underlying359
def jFw : Ty := tSt 2 [.nilp, .nils] [(0, 1), (1, 1)] [(358, 0), (55, 1)]
theorem jFO : TyOk Tryz.prog 360 jFw := oSt Tryz.underlying360
def jFH : Ty := tPt (.nilp)
theorem jGj : TyOk Tryz.prog 369 jFH := oPt Tryz.underlying369
def jHP : Ty := tSl (.nils) 392 (.pair (.int .i64) (.sl (.int .i64))) 32
theorem jIp : TyOk Tryz.prog 376 jHP := oSl Tryz.underlying376
def jHY : Ty := tSt 3 [.pv .str [], .pv .str [], .nils] [(0, 1), (1, 1), (2, 1)] [(9, 0), (9, 1), (376, 2)]
theorem jJi : TyOk Tryz.prog 377 jHY := oSt Tryz.underlying377
def jHZ : Ty := tSt 3 [.pv .str [], .pv .str [], .nils] [(0, 1), (1, 1), (2, 1)] [(9, 0), (9, 1), (376, 2)]
theorem jH8 : TyOk Tryz.prog 378 jHZ := oSt Tryz.underlying378
def jHU : Ty := tSt 2 [.pv (.int .i64) 0, .nils] [(0, 1), (1, 1)] [(3, 0), (66, 1)]
theorem jJq : TyOk Tryz.prog 392 jHU := oSt Tryz.underlying392
def jcH : List (Nat × Ty) -> Nat -> Option Ty
 | [], _ => none
 | (k, y) :: l, t => bif Nat.beq t k then some y else jcH l t
def jc4 (P : Program) : List (Nat × Ty) -> Prop
 | [] => True
 | (k, y) :: l => TyOk P k y /\ jc4 P l
theorem jeo {P : Program} : ∀ {l : List (Nat × Ty)}, jc4 P l -> ∀ t y, jcH l t = some y -> TyOk P t y
 | [], _, t, y, h => by cases h
 | (k, z) :: l, hl, t, y, h => by
  simp only [jcH] at h
  cases e : Nat.beq t k with
  | true => rw [e] at h; cases h; rw [zby e]; exact hl.1
  | false => rw [e] at h; exact jeo hl.2 t y h
def tyL : List (Nat × Ty) := [(2, ty2), (3, ty3), (4, ty4), (5, ty5), (6, ty6), (7, ty7), (9, ty9), (23, ty23), (24, ty24), (25, ty25), (26, ty26), (27, ty27), (28, ty28), (29, ty29), (30, ty30), (37, ty37), (38, ty38), (39, ty39), (41, ty41), (42, ty42), (43, ty43), (44, ty44), (55, ty55), (61, ty61), (62, ty62), (63, ty63), (64, ty64), (66, ty66), (68, ty68), (69, ty69), (70, ty70), (76, ty76), (89, ty89), (90, ty90), (91, ty91), (92, ty92), (93, ty93), (94, ty94), (98, ty98), (99, ty99), (100, jHW), (137, jeD), (138, jFe), (142, jhm), (143, jem), (144, jzF), (145, jfd), (148, jzx), (150, jFx), (151, jiW), (154, jFJ), (155, jFk), (156, jFu), (161, jE9), (162, jg0), (193, jGX), (195, jGV), (197, jGY), (214, jij), (215, jFg), (216, jFv), (228, jFb), (230, jFI), (231, jFG), (232, jFq), (234, jFC), (238, jFm), (239, jFi), (242, jFc), (249, jFF), (250, jFs), (252, jFf), (256, jf0), (257, jAC), (258, jhO), (259, jHX), (260, jH0), (261, jHO), (262, jHT), (263, jH1), (280, jFp), (281, jt7), (286, jFy), (295, jFn), (303, jFD), (305, jFz), (329, jFj), (333, jFA), (358, jFl), (359, jFh), (360, jFw), (369, jFH), (376, jHP), (377, jHY), (378, jHZ), (392, jHU)]
theorem jnJ : jc4 Tryz.prog tyL := ⟨jnr, jkV, jsX, joh, jDG, jCK, jlm, jlb, jo8, jtq, jmW, jtj, jmp, jse, jlj, jA1, jBk, jBJ, jDk, jAG, jk9, jrr, jlw, jGN, jDo, jF5, jGi, jA3, ju2, jBa, jGQ, jFP, jp6, jmN, joR, jG1, jHo, jHc, joL, jBr, jIL, jlt, jGJ, jpp, joF, jAP, jsq, jBf, jFN, jmC, jGp, jFL, jGu, jF8, jqt, jHa, jG9, jHn, jqh, jGs, jGq, jF1, jF7, jFW, jF2, jGh, jFV, jGB, jGL, jGm, jGH, jGO, jmQ, jBN, jtS, jJv, jJb, jIB, jIm, jIc, jGv, juB, jGE, jF9, jF4, jFY, jFM, jFR, jGx, jGn, jFO, jGj, jIp, jJi, jH8, jJq, True.intro⟩
def ja1 : List (Nat × Model) -> Nat -> List Model
 | [], _ => []
 | (k, m) :: l, f => bif Nat.beq f k then m :: ja1 l f else ja1 l f
def jR (P : Program) : List (Nat × Model) -> Prop
 | [] => True
 | (k, m) :: l => ModelOk P k m /\ jR P l
theorem jef {P : Program} : ∀ {l : List (Nat × Model)}, jR P l -> ∀ f m, m ∈ ja1 l f -> ModelOk P f m
 | [], _, f, m, h => by cases h
 | (k, x) :: l, hl, f, m, h => by
  simp only [ja1] at h
  cases e : Nat.beq f k with
  | true =>
   rw [e] at h
   rcases zp.1 h with h | h
   .subst h; rw [zby e]; exact hl.1
   .exact jef hl.2 f m h
  | false => rw [e] at h; exact jef hl.2 f m h
theorem ja {P : Program} : jR P [] := True.intro
theorem jsH {P : Program} {k : Nat} {m : Model} {l : List (Nat × Model)} (h : ModelOk P k m) (hl : jR P l) : jR P ((k, m) :: l) := And.intro h hl
def memB : List Nat -> Nat -> Bool
 | [], _ => false
 | k :: l, j => bif Nat.beq j k then true else memB l j
noncomputable def jbC (l : List (Nat × Model)) (wr res : List Nat) (dw : List Nat := []) : Env := ⟨Tryz.prog, jcH tyL, ja1 l, memB wr, memB res, memB dw⟩
theorem jtQ {l : List (Nat × Model)} (h : jR Tryz.prog l) (wr res : List Nat) (dw : List Nat := []) : EnvOk (jbC l wr res dw) := ⟨by kernel_rfl, jeo jnJ, jef h⟩
end Go.Proofs.YtfgcmhhacfkhcaaGreatDoor
