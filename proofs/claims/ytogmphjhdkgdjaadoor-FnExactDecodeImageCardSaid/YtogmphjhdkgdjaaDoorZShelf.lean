/-
 DERIVED: THE SHELF's CONTRACTS AT THIS DUMP, IN PLAIN WORDS (tools/lay-plain.mjs out of 'TrydShelf.lean', which tools/lay-shelf.mjs wrote): THE SAME DECLARATIONS UNDER THE SAME NAMES: 'import', 'namespace', 'open', 'def', 'theorem' AND NOTHING ELSE: no command of the shelf's: FOR A HAND-IN. Each laying: the table of numbers ('.._ren') and one theorem, a field a fact of the dump's own or the kernel's comparison; each contract: ONE APPLICATION.
-/
import Derived.Shelf.Small.Strs
import Derived.Shelf.Strings.SlTrimAscii
import Derived.Test.YtogmphjhdkgdjaaDoorProg
namespace Go.Proofs
open Go.Shelf
def Tryd.lays160_ren : Go.Shelf.Ren := ⟨fun | 160 => 117 | 232 => 124 | 231 => 123 | 227 => 125 | 234 => 127 | 233 => 126 | 236 => 129 | 235 => 128 | 228 => 136 | 271 => 139 | 151 => 138 | 197 => 137 | 120 => 144 | 152 => 143 | 260 => 142 | 137 => 112 | 119 => 145 | 224 => 146 | 225 => 147 | 217 => 118 | 266 => 130 | n => n, fun | 9 => 9 | 4 => 4 | 3 => 3 | 5 => 5 | 117 => 162 | 116 => 161 | 0 => 0 | 124 => 165 | 21 => 21 | 105 => 170 | 46 => 128 | 119 => 177 | 139 => 180 | 138 => 179 | n => n, fun | 3 => 4 | 4 => 5 | n => n⟩
theorem Tryd.lays160 : Go.Proofs.Lays.n160 Tryd.prog Tryd.lays160_ren := {
 mixed := by kernel_rfl
 f119 := Tryd.func145.trans (congrArg some (by kernel_rfl))
 f120 := Tryd.func144.trans (congrArg some (by kernel_rfl))
 f137 := Tryd.func112.trans (congrArg some (by kernel_rfl))
 f151 := Tryd.func138.trans (congrArg some (by kernel_rfl))
 f152 := Tryd.func143.trans (congrArg some (by kernel_rfl))
 f160 := Tryd.func117.trans (congrArg some (by kernel_rfl))
 f197 := Tryd.func137.trans (congrArg some (by kernel_rfl))
 f217 := Tryd.func118.trans (congrArg some (by kernel_rfl))
 f224 := Tryd.func146.trans (congrArg some (by kernel_rfl))
 f225 := Tryd.func147.trans (congrArg some (by kernel_rfl))
 f227 := Tryd.func125.trans (congrArg some (by kernel_rfl))
 f228 := Tryd.func136.trans (congrArg some (by kernel_rfl))
 f231 := Tryd.func123.trans (congrArg some (by kernel_rfl))
 f232 := Tryd.func124.trans (congrArg some (by kernel_rfl))
 f233 := Tryd.func126.trans (congrArg some (by kernel_rfl))
 f234 := Tryd.func127.trans (congrArg some (by kernel_rfl))
 f235 := Tryd.func128.trans (congrArg some (by kernel_rfl))
 f236 := Tryd.func129.trans (congrArg some (by kernel_rfl))
 f260 := Tryd.func142.trans (congrArg some (by kernel_rfl))
 f266 := Tryd.func130.trans (congrArg some (by kernel_rfl))
 f271 := Tryd.func139.trans (congrArg some (by kernel_rfl))
 t0 := Tryd.underlying0
 a0 := Tryd.isAgg0
 z0 := Tryd.sizeOf0
 v0 := Tryd.zeroValue0
 t3 := Tryd.underlying3
 a3 := Tryd.isAgg3
 z3 := Tryd.sizeOf3
 v3 := Tryd.zeroValue3
 t4 := Tryd.underlying4
 a4 := Tryd.isAgg4
 z4 := Tryd.sizeOf4
 v4 := Tryd.zeroValue4
 t5 := Tryd.underlying5
 a5 := Tryd.isAgg5
 z5 := Tryd.sizeOf5
 v5 := Tryd.zeroValue5
 t9 := Tryd.underlying9
 a9 := Tryd.isAgg9
 z9 := Tryd.sizeOf9
 v9 := Tryd.zeroValue9
 t21 := Tryd.underlying21
 a21 := Tryd.isAgg21
 z21 := Tryd.sizeOf21
 v21 := Tryd.zeroValue21
 t46 := Tryd.underlying128
 a46 := Tryd.isAgg128
 z46 := Tryd.sizeOf128
 v46 := Tryd.zeroValue128
 t105 := Tryd.underlying170
 a105 := Tryd.isAgg170
 z105 := Tryd.sizeOf170
 v105 := Tryd.zeroValue170
 t116 := Tryd.underlying161
 a116 := Tryd.isAgg161
 z116 := Tryd.sizeOf161
 t117 := Tryd.underlying162
 a117 := Tryd.isAgg162
 z117 := Tryd.sizeOf162
 v117 := Tryd.zeroValue162
 t119 := Tryd.underlying177
 a119 := Tryd.isAgg177
 z119 := Tryd.sizeOf177
 t124 := Tryd.underlying165
 a124 := Tryd.isAgg165
 z124 := Tryd.sizeOf165
 v124 := Tryd.zeroValue165
 t138 := Tryd.underlying179
 a138 := Tryd.isAgg179
 z138 := Tryd.sizeOf179
 v138 := Tryd.zeroValue179
 t139 := Tryd.underlying180
 a139 := Tryd.isAgg180
 z139 := Tryd.sizeOf180
 v139 := Tryd.zeroValue180
 g3 := by kernel_rfl
 g4 := by kernel_rfl }
open Go.RowKit Go.Lib in
/-- strings.Trim at a cutset of ASCII bytes. -/
theorem Tryd.strings_Trim_laid (s cutset : ByteArray) (w : World) (hs : s.size ≤ 9223372036854775807) (hcs : cutset.size < 4294967281) (hascii : ∀ (j : Nat) b, cutset.data.toList[j]? = some b → b.toNat < 128) :
  Calls Tryd.prog 117 #[.string s, .string cutset] w fun e w' => e = .returned (.string ⟨(Lib.trimS s.data.toList cutset.data.toList).toArray⟩) ∧ Below w.heap.size w w' := Any.strings_Trim_laid Tryd.lays160 (by kernel_rfl) s cutset w hs hcs hascii
def Tryd.lays137_ren : Go.Shelf.Ren := ⟨fun | 137 => 112 | 217 => 118 | 266 => 130 | n => n, fun | 9 => 9 | 5 => 5 | 3 => 3 | n => n, fun | n => n⟩
theorem Tryd.lays137 : Go.Proofs.Lays.n137 Tryd.prog Tryd.lays137_ren := {
 mixed := by kernel_rfl
 f137 := Tryd.func112.trans (congrArg some (by kernel_rfl))
 f217 := Tryd.func118.trans (congrArg some (by kernel_rfl))
 f266 := Tryd.func130.trans (congrArg some (by kernel_rfl))
 t3 := Tryd.underlying3
 a3 := Tryd.isAgg3
 z3 := Tryd.sizeOf3
 v3 := Tryd.zeroValue3
 t5 := Tryd.underlying5
 a5 := Tryd.isAgg5
 z5 := Tryd.sizeOf5
 v5 := Tryd.zeroValue5
 t9 := Tryd.underlying9
 a9 := Tryd.isAgg9
 z9 := Tryd.sizeOf9
 v9 := Tryd.zeroValue9 }
open Go.RowKit in
/-- strings.IndexByte: "IndexByte returns the index of the first instance of c in s, or -1 if c is not present in s.": IT RETURNS 'Lib.indexByte s c'; the world is as it was. (LAID: no walk: one application.) -/
theorem Tryd.strings_IndexByte (s : ByteArray) (c : Int) (w : World) :
  Calls Tryd.prog 112 #[.string s, .int .u8 c] w fun e w' => e = .returned (.int .i64 (Lib.indexByte s.data.toList c.toNat.toUInt8)) ∧ w' = w := Any.strings_IndexByte Tryd.lays137 s c w
end Go.Proofs
