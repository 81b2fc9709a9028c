/- The table of types, by program. -/
import Derived.Test.YtobfngpkemkojaaGreatDoorKX
import Derived.Test.YtobfngpkemkojaaGreatDoorProg
import Derived.KernelRfl
set_option linter.unusedSimpArgs false
set_option linter.unusedVariables false
namespace Go.Proofs.YtobfngpkemkojaaGreatDoor
open Go.RowKit
set_option maxRecDepth 100000
abbrev jEt (P : Program) (k n : Nat) (z : List AV) : Prop := ∃ i y, P.info? k = some i ∧ i.size = n ∧ i.zero = some y ∧ y.cells.size = n ∧ ∀ c, All2 (V1c c) z y.cells.toList
abbrev tSl (z : AV) (e : TypeId) (r : Tp) (b : Nat) : Ty := ⟨false, 1, [z], some (e, r, b), [], false, false, none, none, none, false, [], none⟩
theorem oSl {P : Program} {k e : TypeId} {r : Tp} {b : Nat} {z : AV} (h : P.underlying k = some (.slice e)) (hi : jEt P k 1 [z] := by exact ⟨_, _, rfl, rfl, rfl, rfl, fun c => ⟨⟨rfl, rfl⟩, True.intro⟩⟩)
  (he : 0 < r.w ∧ ∃ ie z, P.info? e = some ie ∧ ie.size = r.w ∧ ie.bytes = b ∧ ie.zero = some z ∧ z.cells.size = r.w := by exact ⟨by decide, _, _, rfl, rfl, rfl, rfl, rfl⟩) : TyOk P k (tSl z e r b) :=
 ⟨⟨_, h, rfl⟩, hi, fun _ _ _ g => by cases g; exact ⟨h, he⟩, fun h => absurd rfl h, nofun, nofun, nofun, nofun, nofun, nofun, fun h => absurd rfl h, nofun⟩
abbrev tSt (n : Nat) (z : List AV) (o f : List (Nat × Nat)) : Ty := ⟨true, n, z, none, o, false, false, none, none, none, false, f, none⟩
theorem oSt {P : Program} {k n : Nat} {z : List AV} {o f : List (Nat × Nat)} {fs : Array Field} (h : P.underlying k = some (.struct fs))
  (hi : jEt P k n z := by exact ⟨_, _, rfl, rfl, rfl, rfl, fun c => by repeat' first | exact True.intro | exact ⟨⟨_, rfl, Rep.int _ _⟩, rfl⟩ | exact ⟨⟨_, rfl, Rep.str _⟩, rfl⟩ | exact ⟨⟨_, rfl, Rep.bool _⟩, rfl⟩ | exact ⟨rfl, rfl⟩ | exact ⟨True.intro, rfl⟩ | refine ⟨?_, ?_⟩⟩)
  (ho : fs.toList.mapM (fun f => (P.info? f.type).map fun i => (f.offset, i.size)) = some o := by kernel_rfl) (hf : fs.toList.map (fun f => (f.type, f.offset)) = f := by kernel_rfl) : TyOk P k (tSt n z o f) :=
 ⟨⟨_, h, rfl⟩, hi, nofun, fun _ => ⟨_, h, ho⟩, nofun, nofun, nofun, nofun, nofun, nofun, fun _ => ⟨_, h, hf⟩, nofun⟩
abbrev tIn (i : IntKind) : Ty := ⟨false, 1, [.pv (.int i) (0 : Int)], none, [], false, false, some i, none, none, false, [], none⟩
abbrev tPt (z : AV) : Ty := ⟨false, 1, [z], none, [], false, false, none, none, none, true, [], none⟩
theorem oIn {P : Program} {k : Nat} {i : IntKind} (h : P.underlying k = some (.int i)) (hi : jEt P k 1 [.pv (.int i) (0 : Int)] := by exact ⟨_, _, rfl, rfl, rfl, rfl, fun c => ⟨⟨⟨_, rfl, Rep.int _ _⟩, rfl⟩, True.intro⟩⟩) : TyOk P k (tIn i) :=
 ⟨⟨_, h, rfl⟩, hi, nofun, fun h => absurd rfl h, nofun, nofun, fun _ g => by cases g; exact h, nofun, nofun, nofun, fun h => absurd rfl h, nofun⟩
theorem oPt {P : Program} {k u : Nat} {z : AV} (h : P.underlying k = some (.pointer u)) (hi : jEt P k 1 [z] := by exact ⟨_, _, rfl, rfl, rfl, rfl, fun c => ⟨⟨rfl, rfl⟩, True.intro⟩⟩) : TyOk P k (tPt z) :=
 ⟨⟨_, h, rfl⟩, hi, nofun, fun h => absurd rfl h, nofun, nofun, nofun, nofun, nofun, fun _ => ⟨_, h⟩, fun h => absurd rfl h, nofun⟩
def ty2 : Ty := tIn .i64
theorem jnr : TyOk Tryz.prog 2 ty2 := oIn Tryz.underlying2
def ty3 : Ty := tIn .i64
theorem jkV : TyOk Tryz.prog 3 ty3 := oIn Tryz.underlying3
def ty4 : Ty := ⟨false, 1, [.pv .bool false], none, [], false, true, none, none, none, false, [], none⟩
theorem jsX : TyOk Tryz.prog 4 ty4 := ⟨⟨_, Tryz.underlying4, rfl⟩, ⟨_, _, rfl, rfl, rfl, rfl, fun c => ⟨⟨⟨_, rfl, Rep.bool _⟩, rfl⟩, True.intro⟩⟩, nofun, fun h => absurd rfl h, nofun, fun _ => Tryz.underlying4, nofun, nofun, nofun, nofun, fun h => absurd rfl h, nofun⟩
def ty5 : Ty := tIn .u8
theorem joh : TyOk Tryz.prog 5 ty5 := oIn Tryz.underlying5
def ty6 : Ty := tIn .u8
theorem jDG : TyOk Tryz.prog 6 ty6 := oIn Tryz.underlying6
def ty7 : Ty := tSt 4 [.pv (.int .i64) 0, .pv (.int .i64) 0, .pv .bool false, .pv (.int .u8) 0] [(0, 1), (1, 1), (2, 1), (3, 1)] [(2, 0), (3, 1), (4, 2), (6, 3)]
theorem jCK : TyOk Tryz.prog 7 ty7 := oSt Tryz.underlying7
def ty9 : Ty := ⟨false, 1, [.pv .str []], none, [], true, false, none, none, none, false, [], none⟩
theorem jlm : TyOk Tryz.prog 9 ty9 := ⟨⟨_, Tryz.underlying9, rfl⟩, ⟨_, _, rfl, rfl, rfl, rfl, fun c => ⟨⟨⟨_, rfl, Rep.str _⟩, rfl⟩, True.intro⟩⟩, nofun, fun h => absurd rfl h, fun _ => Tryz.underlying9, nofun, nofun, nofun, nofun, nofun, fun h => absurd rfl h, nofun⟩
def ty22 : Ty := tSl (.nils) 9 .str 16
theorem jkf : TyOk Tryz.prog 22 ty22 := oSl Tryz.underlying22
def ty23 : Ty := tSl (.nils) 120 (.pair (.sl .str) .str) 40
theorem jlb : TyOk Tryz.prog 23 ty23 := oSl Tryz.underlying23
def ty24 : Ty := tSt 2 [.nils, .nils] [(0, 1), (1, 1)] [(22, 0), (23, 1)]
theorem jo8 : TyOk Tryz.prog 24 ty24 := oSt Tryz.underlying24
def ty25 : Ty := tSt 2 [.nils, .nils] [(0, 1), (1, 1)] [(22, 0), (23, 1)]
theorem jtq : TyOk Tryz.prog 25 ty25 := oSt Tryz.underlying25
def ty26 : Ty := tSl (.nils) 125 (.pair (.int .i64) (.pair (.sl (.pair .str .str)) (.sl (.pair .str (.int .i64))))) 56
theorem jmW : TyOk Tryz.prog 26 ty26 := oSl Tryz.underlying26
def ty27 : Ty := tSl (.nils) 129 (.pair .str (.pair .str (.sl (.pair (.int .i64) (.sl (.int .i64)))))) 56
theorem jtj : TyOk Tryz.prog 27 ty27 := oSl Tryz.underlying27
def ty28 : Ty := tSt 2 [.nils, .nils] [(0, 1), (1, 1)] [(26, 0), (27, 1)]
theorem jmp : TyOk Tryz.prog 28 ty28 := oSt Tryz.underlying28
def ty29 : Ty := tSt 2 [.nils, .nils] [(0, 1), (1, 1)] [(26, 0), (27, 1)]
theorem jse : TyOk Tryz.prog 29 ty29 := oSt Tryz.underlying29
def ty30 : Ty := tSl (.nils) 32 .q 88
theorem jlj : TyOk Tryz.prog 30 ty30 := oSl Tryz.underlying30
def ty31 : Ty := tSt 6 [.pv (.int .i64) 0, .pv .str [], .nils, .pv (.int .i64) 0, .pv (.int .i64) 0, .nils] [(0, 1), (1, 1), (2, 1), (3, 1), (4, 1), (5, 1)] [(3, 0), (9, 1), (22, 2), (3, 3), (3, 4), (30, 5)]
theorem jD0 : TyOk Tryz.prog 31 ty31 := oSt Tryz.underlying31
def ty32 : Ty := tSt 6 [.pv (.int .i64) 0, .pv .str [], .nils, .pv (.int .i64) 0, .pv (.int .i64) 0, .nils] [(0, 1), (1, 1), (2, 1), (3, 1), (4, 1), (5, 1)] [(3, 0), (9, 1), (22, 2), (3, 3), (3, 4), (30, 5)]
theorem jB5 : TyOk Tryz.prog 32 ty32 := oSt Tryz.underlying32
def ty37 : Ty := tSl (.nils) 144 (.pair (.sl .str) .str) 40
theorem jA1 : TyOk Tryz.prog 37 ty37 := oSl Tryz.underlying37
def ty38 : Ty := tSt 2 [.nils, .nils] [(0, 1), (1, 1)] [(22, 0), (37, 1)]
theorem jBk : TyOk Tryz.prog 38 ty38 := oSt Tryz.underlying38
def ty39 : Ty := tSt 2 [.nils, .nils] [(0, 1), (1, 1)] [(22, 0), (37, 1)]
theorem jBJ : TyOk Tryz.prog 39 ty39 := oSt Tryz.underlying39
def ty41 : Ty := tSl (.nils) 88 (.pair (.int .i64) (.pair (.sl (.pair .str .str)) (.sl (.pair .str (.int .i64))))) 56
theorem jDk : TyOk Tryz.prog 41 ty41 := oSl Tryz.underlying41
def ty42 : Ty := tSl (.nils) 136 (.pair .str (.pair .str (.sl (.pair (.int .i64) (.sl (.int .i64)))))) 56
theorem jAG : TyOk Tryz.prog 42 ty42 := oSl Tryz.underlying42
def ty43 : Ty := tSt 2 [.nils, .nils] [(0, 1), (1, 1)] [(41, 0), (42, 1)]
theorem jk9 : TyOk Tryz.prog 43 ty43 := oSt Tryz.underlying43
def ty44 : Ty := tSt 2 [.nils, .nils] [(0, 1), (1, 1)] [(41, 0), (42, 1)]
theorem jrr : TyOk Tryz.prog 44 ty44 := oSt Tryz.underlying44
def ty46 : Ty := tSl (.nils) 48 .q 88
theorem jl4 : TyOk Tryz.prog 46 ty46 := oSl Tryz.underlying46
def ty47 : Ty := tSt 6 [.pv (.int .i64) 0, .pv .str [], .nils, .pv (.int .i64) 0, .pv (.int .i64) 0, .nils] [(0, 1), (1, 1), (2, 1), (3, 1), (4, 1), (5, 1)] [(3, 0), (9, 1), (22, 2), (3, 3), (3, 4), (46, 5)]
theorem jwu : TyOk Tryz.prog 47 ty47 := oSt Tryz.underlying47
def ty48 : Ty := tSt 6 [.pv (.int .i64) 0, .pv .str [], .nils, .pv (.int .i64) 0, .pv (.int .i64) 0, .nils] [(0, 1), (1, 1), (2, 1), (3, 1), (4, 1), (5, 1)] [(3, 0), (9, 1), (22, 2), (3, 3), (3, 4), (46, 5)]
theorem jwS : TyOk Tryz.prog 48 ty48 := oSt Tryz.underlying48
def ty54 : Ty := tSl (.nils) 3 (.int .i64) 8
theorem joI : TyOk Tryz.prog 54 ty54 := oSl Tryz.underlying54
def ty62 : Ty := tSl (.nils) 69 (.pair (.int .i64) (.int .i64)) 16
theorem jDo : TyOk Tryz.prog 62 ty62 := oSl Tryz.underlying62
def ty66 : Ty := tSt 2 [.pv (.int .i64) 0, .pv (.int .i64) 0] [(0, 1), (1, 1)] [(3, 0), (3, 1)]
theorem jA3 : TyOk Tryz.prog 66 ty66 := oSt Tryz.underlying66
def ty69 : Ty := ⟨true, 2, [.pv (.int .i64) 0, .pv (.int .i64) 0], none, [(0, 1), (1, 1)], false, false, none, some (.pair (.int .i64) (.int .i64)), none, false, [(3, 0), (3, 1)], none⟩
theorem jBa : TyOk Tryz.prog 69 ty69 := ⟨⟨_, Tryz.underlying69, rfl⟩, ⟨_, _, rfl, rfl, rfl, rfl, fun c => ⟨⟨⟨_, rfl, Rep.int _ _⟩, rfl⟩, ⟨⟨_, rfl, Rep.int _ _⟩, rfl⟩, True.intro⟩⟩, nofun, fun _ => ⟨_, Tryz.underlying69, by kernel_rfl⟩, nofun, nofun, nofun, fun r h => by cases h; exact eqs_of _ rfl (by kernel_rfl) (by kernel_rfl) (by kernel_rfl) [(false, 3, 0), (false, 3, 1)] (by kernel_rfl) (fun x y => ⟨⟨rfl, rfl, ⟨rfl, _, Tryz.underlying3⟩⟩, ⟨⟨rfl, rfl, ⟨rfl, _, Tryz.underlying3⟩⟩, True.intro⟩⟩), nofun, nofun, fun _ => ⟨_, Tryz.underlying69, by kernel_rfl⟩, nofun⟩
def ty85 : Ty := tSl (.nils) 199 (.pair .str .str) 32
theorem jCc : TyOk Tryz.prog 85 ty85 := oSl Tryz.underlying85
def ty86 : Ty := tSl (.nils) 192 (.pair .str (.int .i64)) 24
theorem jA4 : TyOk Tryz.prog 86 ty86 := oSl Tryz.underlying86
def ty87 : Ty := tSt 3 [.pv (.int .i64) 0, .nils, .nils] [(0, 1), (1, 1), (2, 1)] [(3, 0), (85, 1), (86, 2)]
theorem jB4 : TyOk Tryz.prog 87 ty87 := oSt Tryz.underlying87
def ty88 : Ty := tSt 3 [.pv (.int .i64) 0, .nils, .nils] [(0, 1), (1, 1), (2, 1)] [(3, 0), (85, 1), (86, 2)]
theorem jB7 : TyOk Tryz.prog 88 ty88 := oSt Tryz.underlying88
def ty97 : Ty := tPt (.nilp)
theorem jtz : TyOk Tryz.prog 97 ty97 := oPt Tryz.underlying97
def ty98 : Ty := tSt 4 [.nils, .nils, .nils, .nils] [(0, 2), (2, 2)] [(39, 0), (44, 2)]
theorem joL : TyOk Tryz.prog 98 ty98 := oSt Tryz.underlying98
def ty99 : Ty := tSt 4 [.nils, .nils, .nils, .nils] [(0, 2), (2, 2)] [(39, 0), (44, 2)]
theorem jBr : TyOk Tryz.prog 99 ty99 := oSt Tryz.underlying99
def jzr : Ty := tSt 2 [.nils, .pv .str []] [(0, 1), (1, 1)] [(22, 0), (9, 1)]
theorem jBF : TyOk Tryz.prog 119 jzr := oSt Tryz.underlying119
def jz3 : Ty := tSt 2 [.nils, .pv .str []] [(0, 1), (1, 1)] [(22, 0), (9, 1)]
theorem jCj : TyOk Tryz.prog 120 jz3 := oSt Tryz.underlying120
def jus : Ty := tSl (.nils) 223 (.pair .str .str) 32
theorem ju6 : TyOk Tryz.prog 122 jus := oSl Tryz.underlying122
def jt5 : Ty := tSl (.nils) 225 (.pair .str (.int .i64)) 24
theorem ju9 : TyOk Tryz.prog 123 jt5 := oSl Tryz.underlying123
def jAv : Ty := tSt 3 [.pv (.int .i64) 0, .nils, .nils] [(0, 1), (1, 1), (2, 1)] [(3, 0), (122, 1), (123, 2)]
theorem jCH : TyOk Tryz.prog 124 jAv := oSt Tryz.underlying124
def jiF : Ty := tSt 3 [.pv (.int .i64) 0, .nils, .nils] [(0, 1), (1, 1), (2, 1)] [(3, 0), (122, 1), (123, 2)]
theorem joS : TyOk Tryz.prog 125 jiF := oSt Tryz.underlying125
def jzj : Ty := tSl (.nils) 227 (.pair (.int .i64) (.sl (.int .i64))) 32
theorem jDH : TyOk Tryz.prog 127 jzj := oSl Tryz.underlying127
def jy2 : Ty := tSt 3 [.pv .str [], .pv .str [], .nils] [(0, 1), (1, 1), (2, 1)] [(9, 0), (9, 1), (127, 2)]
theorem jB6 : TyOk Tryz.prog 128 jy2 := oSt Tryz.underlying128
def jzu : Ty := tSt 3 [.pv .str [], .pv .str [], .nils] [(0, 1), (1, 1), (2, 1)] [(9, 0), (9, 1), (127, 2)]
theorem jDc : TyOk Tryz.prog 129 jzu := oSt Tryz.underlying129
def jAl : Ty := tSl (.nils) 175 (.pair (.int .i64) (.sl (.int .i64))) 32
theorem jC2 : TyOk Tryz.prog 134 jAl := oSl Tryz.underlying134
def jzO : Ty := tSt 3 [.pv .str [], .pv .str [], .nils] [(0, 1), (1, 1), (2, 1)] [(9, 0), (9, 1), (134, 2)]
theorem jBv : TyOk Tryz.prog 135 jzO := oSt Tryz.underlying135
def jg9 : Ty := tSt 3 [.pv .str [], .pv .str [], .nils] [(0, 1), (1, 1), (2, 1)] [(9, 0), (9, 1), (134, 2)]
theorem joi : TyOk Tryz.prog 136 jg9 := oSt Tryz.underlying136
def jzF : Ty := tSt 2 [.nils, .pv .str []] [(0, 1), (1, 1)] [(22, 0), (9, 1)]
theorem jAP : TyOk Tryz.prog 144 jzF := oSt Tryz.underlying144
def jzx : Ty := tPt (.nilp)
theorem jBf : TyOk Tryz.prog 148 jzx := oPt Tryz.underlying148
def jAd : Ty := tSt 2 [.pv (.int .i64) 0, .nils] [(0, 1), (1, 1)] [(3, 0), (54, 1)]
theorem jDj : TyOk Tryz.prog 174 jAd := oSt Tryz.underlying174
def jy6 : Ty := tSt 2 [.pv (.int .i64) 0, .nils] [(0, 1), (1, 1)] [(3, 0), (54, 1)]
theorem jDI : TyOk Tryz.prog 175 jy6 := oSt Tryz.underlying175
def jAr : Ty := tSt 2 [.pv (.int .i64) 0, .pv (.int .i64) 0] [(0, 1), (1, 1)] [(3, 0), (3, 1)]
theorem jAM : TyOk Tryz.prog 177 jAr := oSt Tryz.underlying177
def jzn : Ty := ⟨true, 2, [.pv (.int .i64) 0, .pv (.int .i64) 0], none, [(0, 1), (1, 1)], false, false, none, some (.pair (.int .i64) (.int .i64)), none, false, [(3, 0), (3, 1)], none⟩
theorem jAT : TyOk Tryz.prog 178 jzn := ⟨⟨_, Tryz.underlying178, rfl⟩, ⟨_, _, rfl, rfl, rfl, rfl, fun c => ⟨⟨⟨_, rfl, Rep.int _ _⟩, rfl⟩, ⟨⟨_, rfl, Rep.int _ _⟩, rfl⟩, True.intro⟩⟩, nofun, fun _ => ⟨_, Tryz.underlying178, by kernel_rfl⟩, nofun, nofun, nofun, fun r h => by cases h; exact eqs_of _ rfl (by kernel_rfl) (by kernel_rfl) (by kernel_rfl) [(false, 3, 0), (false, 3, 1)] (by kernel_rfl) (fun x y => ⟨⟨rfl, rfl, ⟨rfl, _, Tryz.underlying3⟩⟩, ⟨⟨rfl, rfl, ⟨rfl, _, Tryz.underlying3⟩⟩, True.intro⟩⟩), nofun, nofun, fun _ => ⟨_, Tryz.underlying178, by kernel_rfl⟩, nofun⟩
def jzL : Ty := tSl (.nils) 186 (.pair .str (.int .i64)) 24
theorem jDr : TyOk Tryz.prog 183 jzL := oSl Tryz.underlying183
def jyY : Ty := tSt 2 [.pv .str [], .pv (.int .i64) 0] [(0, 1), (1, 1)] [(9, 0), (3, 1)]
theorem jCr : TyOk Tryz.prog 185 jyY := oSt Tryz.underlying185
def jzX : Ty := ⟨true, 2, [.pv .str [], .pv (.int .i64) 0], none, [(0, 1), (1, 1)], false, false, none, some (.pair .str (.int .i64)), none, false, [(9, 0), (3, 1)], none⟩
theorem jEa : TyOk Tryz.prog 186 jzX := ⟨⟨_, Tryz.underlying186, rfl⟩, ⟨_, _, rfl, rfl, rfl, rfl, fun c => ⟨⟨⟨_, rfl, Rep.str _⟩, rfl⟩, ⟨⟨_, rfl, Rep.int _ _⟩, rfl⟩, True.intro⟩⟩, nofun, fun _ => ⟨_, Tryz.underlying186, by kernel_rfl⟩, nofun, nofun, nofun, fun r h => by cases h; exact eqs_of _ rfl (by kernel_rfl) (by kernel_rfl) (by kernel_rfl) [(false, 9, 0), (false, 3, 1)] (by kernel_rfl) (fun x y => ⟨⟨rfl, rfl, Tryz.underlying9⟩, ⟨⟨rfl, rfl, ⟨rfl, _, Tryz.underlying3⟩⟩, True.intro⟩⟩), nofun, nofun, fun _ => ⟨_, Tryz.underlying186, by kernel_rfl⟩, nofun⟩
def jzm : Ty := tSl (.nils) 54 (.sl (.int .i64)) 24
theorem jDm : TyOk Tryz.prog 187 jzm := oSl Tryz.underlying187
def jzl : Ty := tSt 2 [.pv .str [], .pv (.int .i64) 0] [(0, 1), (1, 1)] [(9, 0), (3, 1)]
theorem jCq : TyOk Tryz.prog 191 jzl := oSt Tryz.underlying191
def jjh : Ty := ⟨true, 2, [.pv .str [], .pv (.int .i64) 0], none, [(0, 1), (1, 1)], false, false, none, some (.pair .str (.int .i64)), none, false, [(9, 0), (3, 1)], none⟩
theorem jry : TyOk Tryz.prog 192 jjh := ⟨⟨_, Tryz.underlying192, rfl⟩, ⟨_, _, rfl, rfl, rfl, rfl, fun c => ⟨⟨⟨_, rfl, Rep.str _⟩, rfl⟩, ⟨⟨_, rfl, Rep.int _ _⟩, rfl⟩, True.intro⟩⟩, nofun, fun _ => ⟨_, Tryz.underlying192, by kernel_rfl⟩, nofun, nofun, nofun, fun r h => by cases h; exact eqs_of _ rfl (by kernel_rfl) (by kernel_rfl) (by kernel_rfl) [(false, 9, 0), (false, 3, 1)] (by kernel_rfl) (fun x y => ⟨⟨rfl, rfl, Tryz.underlying9⟩, ⟨⟨rfl, rfl, ⟨rfl, _, Tryz.underlying3⟩⟩, True.intro⟩⟩), nofun, nofun, fun _ => ⟨_, Tryz.underlying192, by kernel_rfl⟩, nofun⟩
def jzp : Ty := tSt 2 [.pv .str [], .pv .str []] [(0, 1), (1, 1)] [(9, 0), (9, 1)]
theorem jAZ : TyOk Tryz.prog 198 jzp := oSt Tryz.underlying198
def jzq : Ty := ⟨true, 2, [.pv .str [], .pv .str []], none, [(0, 1), (1, 1)], false, false, none, some (.pair .str .str), none, false, [(9, 0), (9, 1)], none⟩
theorem jDR : TyOk Tryz.prog 199 jzq := ⟨⟨_, Tryz.underlying199, rfl⟩, ⟨_, _, rfl, rfl, rfl, rfl, fun c => ⟨⟨⟨_, rfl, Rep.str _⟩, rfl⟩, ⟨⟨_, rfl, Rep.str _⟩, rfl⟩, True.intro⟩⟩, nofun, fun _ => ⟨_, Tryz.underlying199, by kernel_rfl⟩, nofun, nofun, nofun, fun r h => by cases h; exact eqs_of _ rfl (by kernel_rfl) (by kernel_rfl) (by kernel_rfl) [(false, 9, 0), (false, 9, 1)] (by kernel_rfl) (fun x y => ⟨⟨rfl, rfl, Tryz.underlying9⟩, ⟨⟨rfl, rfl, Tryz.underlying9⟩, True.intro⟩⟩), nofun, nofun, fun _ => ⟨_, Tryz.underlying199, by kernel_rfl⟩, nofun⟩
def jzW : Ty := tSt 8 [.pv .bool false, .pv (.int .i64) 0, .pv (.int .i64) 0, .pv (.int .i64) 0, .pv (.int .i64) 0, .pv .bool false, .pv (.int .i64) 0, .pv (.int .i64) 0] [(0, 1), (1, 1), (2, 1), (3, 1), (4, 1), (5, 1), (6, 1), (7, 1)] [(4, 0), (3, 1), (3, 2), (3, 3), (3, 4), (4, 5), (3, 6), (3, 7)]
theorem jAE : TyOk Tryz.prog 205 jzW := oSt Tryz.underlying205
def jzz : Ty := ⟨true, 8, [.pv .bool false, .pv (.int .i64) 0, .pv (.int .i64) 0, .pv (.int .i64) 0, .pv (.int .i64) 0, .pv .bool false, .pv (.int .i64) 0, .pv (.int .i64) 0], none, [(0, 1), (1, 1), (2, 1), (3, 1), (4, 1), (5, 1), (6, 1), (7, 1)], false, false, none, some (.pair .bool (.pair (.int .i64) (.pair (.int .i64) (.pair (.int .i64) (.pair (.int .i64) (.pair .bool (.pair (.int .i64) (.int .i64)))))))), none, false, [(4, 0), (3, 1), (3, 2), (3, 3), (3, 4), (4, 5), (3, 6), (3, 7)], none⟩
theorem jCD : TyOk Tryz.prog 206 jzz := ⟨⟨_, Tryz.underlying206, rfl⟩, ⟨_, _, rfl, rfl, rfl, rfl, fun c => ⟨⟨⟨_, rfl, Rep.bool _⟩, rfl⟩, ⟨⟨_, rfl, Rep.int _ _⟩, rfl⟩, ⟨⟨_, rfl, Rep.int _ _⟩, rfl⟩, ⟨⟨_, rfl, Rep.int _ _⟩, rfl⟩, ⟨⟨_, rfl, Rep.int _ _⟩, rfl⟩, ⟨⟨_, rfl, Rep.bool _⟩, rfl⟩, ⟨⟨_, rfl, Rep.int _ _⟩, rfl⟩, ⟨⟨_, rfl, Rep.int _ _⟩, rfl⟩, True.intro⟩⟩, nofun, fun _ => ⟨_, Tryz.underlying206, by kernel_rfl⟩, nofun, nofun, nofun, fun r h => by cases h; exact eqs_of _ rfl (by kernel_rfl) (by kernel_rfl) (by kernel_rfl) [(false, 4, 0), (false, 3, 1), (false, 3, 2), (false, 3, 3), (false, 3, 4), (false, 4, 5), (false, 3, 6), (false, 3, 7)] (by kernel_rfl) (fun x y => ⟨⟨rfl, rfl, Tryz.underlying4⟩, ⟨⟨rfl, rfl, ⟨rfl, _, Tryz.underlying3⟩⟩, ⟨⟨rfl, rfl, ⟨rfl, _, Tryz.underlying3⟩⟩, ⟨⟨rfl, rfl, ⟨rfl, _, Tryz.underlying3⟩⟩, ⟨⟨rfl, rfl, ⟨rfl, _, Tryz.underlying3⟩⟩, ⟨⟨rfl, rfl, Tryz.underlying4⟩, ⟨⟨rfl, rfl, ⟨rfl, _, Tryz.underlying3⟩⟩, ⟨⟨rfl, rfl, ⟨rfl, _, Tryz.underlying3⟩⟩, True.intro⟩⟩⟩⟩⟩⟩⟩⟩), nofun, nofun, fun _ => ⟨_, Tryz.underlying206, by kernel_rfl⟩, nofun⟩
def jje : Ty := ⟨false, 1, [.dead], none, [], false, false, none, none, none, false, [], some (3, 206, .int .i64, .pair .bool (.pair (.int .i64) (.pair (.int .i64) (.pair (.int .i64) (.pair (.int .i64) (.pair .bool (.pair (.int .i64) (.int .i64))))))), true)⟩
theorem jqy : TyOk Tryz.prog 208 jje := ⟨⟨_, Tryz.underlying208, rfl⟩, ⟨_, _, rfl, rfl, rfl, rfl, fun c => ⟨⟨True.intro, rfl⟩, True.intro⟩⟩, nofun, fun h => absurd rfl h, nofun, nofun, nofun, nofun, nofun, nofun, fun h => absurd rfl h, fun K V kt vt agg h => by cases h; exact ⟨Tryz.underlying208, Tryz.underlying3, rfl, (fun h => by first | rfl | cases h), _, _, rfl, rfl, rfl⟩⟩
def jza : Ty := tSl (.nils) 5 (.int .u8) 1
theorem jDi : TyOk Tryz.prog 217 jza := oSl Tryz.underlying217
def jy7 : Ty := tIn .u64
theorem jCh : TyOk Tryz.prog 220 jy7 := oIn Tryz.underlying220
def jAm : Ty := ⟨true, 2, [.pv .str [], .pv .str []], none, [(0, 1), (1, 1)], false, false, none, some (.pair .str .str), none, false, [(9, 0), (9, 1)], none⟩
theorem jBU : TyOk Tryz.prog 223 jAm := ⟨⟨_, Tryz.underlying223, rfl⟩, ⟨_, _, rfl, rfl, rfl, rfl, fun c => ⟨⟨⟨_, rfl, Rep.str _⟩, rfl⟩, ⟨⟨_, rfl, Rep.str _⟩, rfl⟩, True.intro⟩⟩, nofun, fun _ => ⟨_, Tryz.underlying223, by kernel_rfl⟩, nofun, nofun, nofun, fun r h => by cases h; exact eqs_of _ rfl (by kernel_rfl) (by kernel_rfl) (by kernel_rfl) [(false, 9, 0), (false, 9, 1)] (by kernel_rfl) (fun x y => ⟨⟨rfl, rfl, Tryz.underlying9⟩, ⟨⟨rfl, rfl, Tryz.underlying9⟩, True.intro⟩⟩), nofun, nofun, fun _ => ⟨_, Tryz.underlying223, by kernel_rfl⟩, nofun⟩
def jz5 : Ty := ⟨true, 2, [.pv .str [], .pv (.int .i64) 0], none, [(0, 1), (1, 1)], false, false, none, some (.pair .str (.int .i64)), none, false, [(9, 0), (3, 1)], none⟩
theorem jAK : TyOk Tryz.prog 225 jz5 := ⟨⟨_, Tryz.underlying225, rfl⟩, ⟨_, _, rfl, rfl, rfl, rfl, fun c => ⟨⟨⟨_, rfl, Rep.str _⟩, rfl⟩, ⟨⟨_, rfl, Rep.int _ _⟩, rfl⟩, True.intro⟩⟩, nofun, fun _ => ⟨_, Tryz.underlying225, by kernel_rfl⟩, nofun, nofun, nofun, fun r h => by cases h; exact eqs_of _ rfl (by kernel_rfl) (by kernel_rfl) (by kernel_rfl) [(false, 9, 0), (false, 3, 1)] (by kernel_rfl) (fun x y => ⟨⟨rfl, rfl, Tryz.underlying9⟩, ⟨⟨rfl, rfl, ⟨rfl, _, Tryz.underlying3⟩⟩, True.intro⟩⟩), nofun, nofun, fun _ => ⟨_, Tryz.underlying225, by kernel_rfl⟩, nofun⟩
def jy1 : Ty := tSt 2 [.pv (.int .i64) 0, .nils] [(0, 1), (1, 1)] [(3, 0), (54, 1)]
theorem jCd : TyOk Tryz.prog 227 jy1 := oSt Tryz.underlying227
def jzG : Ty := tSl (.nils) 246 (.pair .str (.pair (.int .i64) (.pair (.int .i64) (.int .i64)))) 40
theorem jA8 : TyOk Tryz.prog 243 jzG := oSl Tryz.underlying243
def jzE : Ty := tSt 4 [.pv .str [], .pv (.int .i64) 0, .pv (.int .i64) 0, .pv (.int .i64) 0] [(0, 1), (1, 1), (2, 1), (3, 1)] [(9, 0), (3, 1), (3, 2), (3, 3)]
theorem jCP : TyOk Tryz.prog 245 jzE := oSt Tryz.underlying245
def jz6 : Ty := ⟨true, 4, [.pv .str [], .pv (.int .i64) 0, .pv (.int .i64) 0, .pv (.int .i64) 0], none, [(0, 1), (1, 1), (2, 1), (3, 1)], false, false, none, some (.pair .str (.pair (.int .i64) (.pair (.int .i64) (.int .i64)))), none, false, [(9, 0), (3, 1), (3, 2), (3, 3)], none⟩
theorem jCn : TyOk Tryz.prog 246 jz6 := ⟨⟨_, Tryz.underlying246, rfl⟩, ⟨_, _, rfl, rfl, rfl, rfl, fun c => ⟨⟨⟨_, rfl, Rep.str _⟩, rfl⟩, ⟨⟨_, rfl, Rep.int _ _⟩, rfl⟩, ⟨⟨_, rfl, Rep.int _ _⟩, rfl⟩, ⟨⟨_, rfl, Rep.int _ _⟩, rfl⟩, True.intro⟩⟩, nofun, fun _ => ⟨_, Tryz.underlying246, by kernel_rfl⟩, nofun, nofun, nofun, fun r h => by cases h; exact eqs_of _ rfl (by kernel_rfl) (by kernel_rfl) (by kernel_rfl) [(false, 9, 0), (false, 3, 1), (false, 3, 2), (false, 3, 3)] (by kernel_rfl) (fun x y => ⟨⟨rfl, rfl, Tryz.underlying9⟩, ⟨⟨rfl, rfl, ⟨rfl, _, Tryz.underlying3⟩⟩, ⟨⟨rfl, rfl, ⟨rfl, _, Tryz.underlying3⟩⟩, ⟨⟨rfl, rfl, ⟨rfl, _, Tryz.underlying3⟩⟩, True.intro⟩⟩⟩⟩), nofun, nofun, fun _ => ⟨_, Tryz.underlying246, by kernel_rfl⟩, nofun⟩
def jzR : Ty := tPt (.nilp)
theorem jBj : TyOk Tryz.prog 247 jzR := oPt Tryz.underlying247
def jzd : Ty := tPt (.nilp)
theorem jCs : TyOk Tryz.prog 255 jzd := oPt Tryz.underlying255
def jf0 : Ty := tSt 2 [.nilp, .nils] [(0, 1), (1, 1)] [(255, 0), (217, 1)]
theorem jmQ : TyOk Tryz.prog 256 jf0 := oSt Tryz.underlying256
def jAC : Ty := tSt 2 [.nilp, .nils] [(0, 1), (1, 1)] [(255, 0), (217, 1)]
theorem jBN : TyOk Tryz.prog 257 jAC := oSt Tryz.underlying257
def jzg : Ty := tIn .i64
theorem jCa : TyOk Tryz.prog 270 jzg := oIn Tryz.underlying270
def jAw : Ty := tIn .u32
theorem jC8 : TyOk Tryz.prog 277 jAw := oIn Tryz.underlying277
def jAg : Ty := tIn .u64
theorem jCe : TyOk Tryz.prog 279 jAg := oIn Tryz.underlying279
def jzs : Ty := tIn .u64
theorem jDD : TyOk Tryz.prog 289 jzs := oIn Tryz.underlying289
def jzJ : Ty := tPt (.nilp)
theorem jCW : TyOk Tryz.prog 293 jzJ := oPt Tryz.underlying293
def jzU : Ty := tPt (.nilp)
theorem jAJ : TyOk Tryz.prog 300 jzU := oPt Tryz.underlying300
def jcH : List (Nat × Ty) → Nat → Option Ty
 | [], _ => none
 | (k, y) :: l, t => bif Nat.beq t k then some y else jcH l t
def jc4 (P : Program) : List (Nat × Ty) → Prop
 | [] => True
 | (k, y) :: l => TyOk P k y ∧ jc4 P l
theorem jeo {P : Program} : ∀ {l : List (Nat × Ty)}, jc4 P l → ∀ t y, jcH l t = some y → TyOk P t y
 | [], _, t, y, h => by cases h
 | (k, z) :: l, hl, t, y, h => by
  simp only [jcH] at h
  cases e : Nat.beq t k with
  | true => rw [e] at h; cases h; rw [zby e]; exact hl.1
  | false => rw [e] at h; exact jeo hl.2 t y h
def tyL : List (Nat × Ty) := [(2, ty2), (3, ty3), (4, ty4), (5, ty5), (6, ty6), (7, ty7), (9, ty9), (22, ty22), (23, ty23), (24, ty24), (25, ty25), (26, ty26), (27, ty27), (28, ty28), (29, ty29), (30, ty30), (31, ty31), (32, ty32), (37, ty37), (38, ty38), (39, ty39), (41, ty41), (42, ty42), (43, ty43), (44, ty44), (46, ty46), (47, ty47), (48, ty48), (54, ty54), (62, ty62), (66, ty66), (69, ty69), (85, ty85), (86, ty86), (87, ty87), (88, ty88), (97, ty97), (98, ty98), (99, ty99), (119, jzr), (120, jz3), (122, jus), (123, jt5), (124, jAv), (125, jiF), (127, jzj), (128, jy2), (129, jzu), (134, jAl), (135, jzO), (136, jg9), (144, jzF), (148, jzx), (174, jAd), (175, jy6), (177, jAr), (178, jzn), (183, jzL), (185, jyY), (186, jzX), (187, jzm), (191, jzl), (192, jjh), (198, jzp), (199, jzq), (205, jzW), (206, jzz), (208, jje), (217, jza), (220, jy7), (223, jAm), (225, jz5), (227, jy1), (243, jzG), (245, jzE), (246, jz6), (247, jzR), (255, jzd), (256, jf0), (257, jAC), (270, jzg), (277, jAw), (279, jAg), (289, jzs), (293, jzJ), (300, jzU)]
theorem jnJ : jc4 Tryz.prog tyL := ⟨jnr, jkV, jsX, joh, jDG, jCK, jlm, jkf, jlb, jo8, jtq, jmW, jtj, jmp, jse, jlj, jD0, jB5, jA1, jBk, jBJ, jDk, jAG, jk9, jrr, jl4, jwu, jwS, joI, jDo, jA3, jBa, jCc, jA4, jB4, jB7, jtz, joL, jBr, jBF, jCj, ju6, ju9, jCH, joS, jDH, jB6, jDc, jC2, jBv, joi, jAP, jBf, jDj, jDI, jAM, jAT, jDr, jCr, jEa, jDm, jCq, jry, jAZ, jDR, jAE, jCD, jqy, jDi, jCh, jBU, jAK, jCd, jA8, jCP, jCn, jBj, jCs, jmQ, jBN, jCa, jC8, jCe, jDD, jCW, jAJ, True.intro⟩
def ja1 : List (Nat × Model) → Nat → List Model
 | [], _ => []
 | (k, m) :: l, f => bif Nat.beq f k then m :: ja1 l f else ja1 l f
def jR (P : Program) : List (Nat × Model) → Prop
 | [] => True
 | (k, m) :: l => ModelOk P k m ∧ jR P l
theorem jef {P : Program} : ∀ {l : List (Nat × Model)}, jR P l → ∀ f m, m ∈ ja1 l f → ModelOk P f m
 | [], _, f, m, h => by cases h
 | (k, x) :: l, hl, f, m, h => by
  simp only [ja1] at h
  cases e : Nat.beq f k with
  | true =>
   rw [e] at h
   rcases zp.1 h with h | h
   ·subst h; rw [zby e]; exact hl.1
   ·exact jef hl.2 f m h
  | false => rw [e] at h; exact jef hl.2 f m h
theorem ja {P : Program} : jR P [] := True.intro
theorem jsH {P : Program} {k : Nat} {m : Model} {l : List (Nat × Model)} (h : ModelOk P k m) (hl : jR P l) : jR P ((k, m) :: l) := And.intro h hl
def memB : List Nat → Nat → Bool
 | [], _ => false
 | k :: l, j => bif Nat.beq j k then true else memB l j
noncomputable def jbC (l : List (Nat × Model)) (wr res : List Nat) (dw : List Nat := []) : Env := ⟨Tryz.prog, jcH tyL, ja1 l, memB wr, memB res, memB dw⟩
theorem jtQ {l : List (Nat × Model)} (h : jR Tryz.prog l) (wr res : List Nat) (dw : List Nat := []) : EnvOk (jbC l wr res dw) := ⟨by kernel_rfl, jeo jnJ, jef h⟩
end Go.Proofs.YtobfngpkemkojaaGreatDoor
