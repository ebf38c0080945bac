/- The contracts of the library's functions, at this program's numbers. -/
import Derived.Test.YtmkijgmfefkgeaaGreatDoorT
import Derived.Shelf.Strings.Search3
import Derived.Shelf.Strings.Prefix
import Derived.Shelf.Small.Strs
import Derived.Shelf.Strconv.ParseUint10b64
import Derived.Shelf.Strconv.RangeError
import Derived.Shelf.Strings.BuilderK
import Derived.Lib.AtoiErrMem
set_option autoImplicit false
set_option linter.unusedVariables false
set_option linter.unusedSimpArgs false
set_option linter.unusedSectionVars false
namespace Go.Proofs.YtmkijgmfefkgeaaGreatDoor
open Go Go.Shelf Go.RowKit
def lx144_ren : Ren := ⟨fun | 144 => 94 | 143 => 130 | 219 => 165 | 217 => 168 | 225 => 190 | 224 => 191 | 267 => 192 | 266 => 198 | 314 => 215 | n => n, fun | 9 => 9 | 4 => 4 | 3 => 3 | 5 => 5 | 46 => 182 | 146 => 202 | 51 => 200 | n => n, fun | 1 => 0 | n => n⟩
theorem lx144 : Go.Proofs.Lays.n144 Tryz.prog lx144_ren := {
  mixed := by kernel_rfl,
  f143 := Tryz.func130.trans (congrArg some (by kernel_rfl)),
  f144 := Tryz.func94.trans (congrArg some (by kernel_rfl)),
  f217 := Tryz.func168.trans (congrArg some (by kernel_rfl)),
  f219 := Tryz.func165.trans (congrArg some (by kernel_rfl)),
  f224 := Tryz.func191.trans (congrArg some (by kernel_rfl)),
  f225 := Tryz.func190.trans (congrArg some (by kernel_rfl)),
  f266 := Tryz.func198.trans (congrArg some (by kernel_rfl)),
  f267 := Tryz.func192.trans (congrArg some (by kernel_rfl)),
  f314 := Tryz.func215.trans (congrArg some (by kernel_rfl)),
  t3 := Tryz.underlying3,
  a3 := Tryz.isAgg3,
  z3 := Tryz.sizeOf3,
  v3 := Tryz.zeroValue3,
  t4 := Tryz.underlying4,
  a4 := Tryz.isAgg4,
  z4 := Tryz.sizeOf4,
  v4 := Tryz.zeroValue4,
  t5 := Tryz.underlying5,
  a5 := Tryz.isAgg5,
  z5 := Tryz.sizeOf5,
  v5 := Tryz.zeroValue5,
  t9 := Tryz.underlying9,
  a9 := Tryz.isAgg9,
  z9 := Tryz.sizeOf9,
  v9 := Tryz.zeroValue9,
  t46 := Tryz.underlying182,
  a46 := Tryz.isAgg182,
  z46 := Tryz.sizeOf182,
  v46 := Tryz.zeroValue182,
  t51 := Tryz.underlying200,
  a51 := Tryz.isAgg200,
  z51 := Tryz.sizeOf200,
  v51 := Tryz.zeroValue200,
  t146 := Tryz.underlying202,
  a146 := Tryz.isAgg202,
  z146 := Tryz.sizeOf202,
  v146 := Tryz.zeroValue202,
  g1 := by kernel_rfl }
def lx99_ren : Ren := ⟨fun | 99 => 52 | 206 => 93 | n => n, fun | 9 => 9 | 4 => 4 | 3 => 3 | n => n, fun | n => n⟩
theorem lx99 : Go.Proofs.Lays.n99 Tryz.prog lx99_ren := {
  mixed := by kernel_rfl,
  f99 := Tryz.func52.trans (congrArg some (by kernel_rfl)),
  f206 := Tryz.func93.trans (congrArg some (by kernel_rfl)),
  t3 := Tryz.underlying3,
  a3 := Tryz.isAgg3,
  z3 := Tryz.sizeOf3,
  v3 := Tryz.zeroValue3,
  t4 := Tryz.underlying4,
  a4 := Tryz.isAgg4,
  z4 := Tryz.sizeOf4,
  v4 := Tryz.zeroValue4,
  t9 := Tryz.underlying9,
  a9 := Tryz.isAgg9,
  z9 := Tryz.sizeOf9,
  v9 := Tryz.zeroValue9 }
def lx137_ren : Ren := ⟨fun | 137 => 132 | 217 => 168 | 266 => 198 | n => n, fun | 9 => 9 | 5 => 5 | 3 => 3 | n => n, fun | n => n⟩
theorem lx137 : Go.Proofs.Lays.n137 Tryz.prog lx137_ren := {
  mixed := by kernel_rfl,
  f137 := Tryz.func132.trans (congrArg some (by kernel_rfl)),
  f217 := Tryz.func168.trans (congrArg some (by kernel_rfl)),
  f266 := Tryz.func198.trans (congrArg some (by kernel_rfl)),
  t3 := Tryz.underlying3,
  a3 := Tryz.isAgg3,
  z3 := Tryz.sizeOf3,
  v3 := Tryz.zeroValue3,
  t5 := Tryz.underlying5,
  a5 := Tryz.isAgg5,
  z5 := Tryz.sizeOf5,
  v5 := Tryz.zeroValue5,
  t9 := Tryz.underlying9,
  a9 := Tryz.isAgg9,
  z9 := Tryz.sizeOf9,
  v9 := Tryz.zeroValue9 }
def lx287_ren : Ren := ⟨fun | 287 => 193 | 321 => 216 | 322 => 217 | n => n, fun | 9 => 9 | 3 => 3 | 53 => 145 | 75 => 98 | 4 => 4 | 167 => 183 | 5 => 5 | 46 => 182 | 37 => 94 | 0 => 0 | 21 => 21 | 80 => 103 | n => n, fun | n => n⟩
theorem lx287 : Go.Proofs.Lays.n287 Tryz.prog lx287_ren := {
  mixed := by kernel_rfl,
  f287 := Tryz.func193.trans (congrArg some (by kernel_rfl)),
  f321 := Tryz.func216.trans (congrArg some (by kernel_rfl)),
  f322 := Tryz.func217.trans (congrArg some (by kernel_rfl)),
  t0 := Tryz.underlying0,
  a0 := Tryz.isAgg0,
  z0 := Tryz.sizeOf0,
  v0 := Tryz.zeroValue0,
  t3 := Tryz.underlying3,
  a3 := Tryz.isAgg3,
  z3 := Tryz.sizeOf3,
  v3 := Tryz.zeroValue3,
  t4 := Tryz.underlying4,
  a4 := Tryz.isAgg4,
  z4 := Tryz.sizeOf4,
  v4 := Tryz.zeroValue4,
  t5 := Tryz.underlying5,
  a5 := Tryz.isAgg5,
  z5 := Tryz.sizeOf5,
  v5 := Tryz.zeroValue5,
  t9 := Tryz.underlying9,
  a9 := Tryz.isAgg9,
  z9 := Tryz.sizeOf9,
  v9 := Tryz.zeroValue9,
  t21 := Tryz.underlying21,
  a21 := Tryz.isAgg21,
  z21 := Tryz.sizeOf21,
  v21 := Tryz.zeroValue21,
  t37 := Tryz.underlying94,
  a37 := Tryz.isAgg94,
  z37 := Tryz.sizeOf94,
  v37 := Tryz.zeroValue94,
  t46 := Tryz.underlying182,
  a46 := Tryz.isAgg182,
  z46 := Tryz.sizeOf182,
  v46 := Tryz.zeroValue182,
  t53 := Tryz.underlying145,
  a53 := Tryz.isAgg145,
  z53 := Tryz.sizeOf145,
  v53 := Tryz.zeroValue145,
  t75 := Tryz.underlying98,
  a75 := Tryz.isAgg98,
  z75 := Tryz.sizeOf98,
  v75 := Tryz.zeroValue98,
  t167 := Tryz.underlying183,
  a167 := Tryz.isAgg183,
  z167 := Tryz.sizeOf183,
  v167 := Tryz.zeroValue183 }
def lx280_ren : Ren := ⟨fun | 280 => 195 | 316 => 218 | n => n, fun | 9 => 9 | 168 => 186 | 75 => 98 | 210 => 207 | 3 => 3 | 4 => 4 | 37 => 94 | 0 => 0 | 127 => 140 | 80 => 103 | 5 => 5 | n => n, fun | 16 => 2 | n => n⟩
theorem lx280 : Go.Proofs.LaysM.n280 Tryz.prog lx280_ren := {
  mixed := by kernel_rfl,
  f280 := Tryz.func195.trans (congrArg some (by kernel_rfl)),
  f316 := Tryz.func218.trans (congrArg some (by kernel_rfl)),
  t0 := Tryz.underlying0,
  a0 := Tryz.isAgg0,
  z0 := Tryz.sizeOf0,
  v0 := Tryz.zeroValue0,
  t3 := Tryz.underlying3,
  a3 := Tryz.isAgg3,
  z3 := Tryz.sizeOf3,
  v3 := Tryz.zeroValue3,
  t4 := Tryz.underlying4,
  a4 := Tryz.isAgg4,
  z4 := Tryz.sizeOf4,
  v4 := Tryz.zeroValue4,
  t9 := Tryz.underlying9,
  a9 := Tryz.isAgg9,
  z9 := Tryz.sizeOf9,
  v9 := Tryz.zeroValue9,
  t37 := Tryz.underlying94,
  a37 := Tryz.isAgg94,
  z37 := Tryz.sizeOf94,
  v37 := Tryz.zeroValue94,
  t75 := Tryz.underlying98,
  a75 := Tryz.isAgg98,
  z75 := Tryz.sizeOf98,
  v75 := Tryz.zeroValue98,
  t127 := Tryz.underlying140,
  a127 := Tryz.isAgg140,
  z127 := Tryz.sizeOf140,
  v127 := Tryz.zeroValue140,
  t168 := Tryz.underlying186,
  a168 := Tryz.isAgg186,
  z168 := Tryz.sizeOf186,
  v168 := Tryz.zeroValue186,
  t210 := Tryz.underlying207,
  a210 := Tryz.isAgg207,
  z210 := Tryz.sizeOf207,
  v210 := Tryz.zeroValue207,
  g16 := by kernel_rfl,
  t5 := Tryz.underlying5,
  a5 := Tryz.isAgg5,
  z5 := Tryz.sizeOf5,
  v5 := Tryz.zeroValue5,
  t80 := Tryz.underlying103,
  a80 := Tryz.isAgg103,
  z80 := Tryz.sizeOf103,
  v80 := Tryz.zeroValue103,
  i0 := by kernel_rfl,
  i3 := by kernel_rfl,
  i4 := by kernel_rfl,
  i5 := by kernel_rfl,
  i9 := by kernel_rfl,
  i37 := by kernel_rfl,
  i75 := by kernel_rfl,
  i80 := by kernel_rfl,
  i127 := by kernel_rfl,
  i168 := by kernel_rfl,
  i210 := by kernel_rfl,
  m16 := by kernel_rfl }
def lx169_ren : Ren := ⟨fun | 169 => 64 | n => n, fun | 70 => 93 | 9 => 9 | 0 => 0 | 72 => 96 | 37 => 94 | 127 => 140 | 3 => 3 | 5 => 5 | n => n, fun | n => n⟩
theorem lx169 : Go.Proofs.Lays.n169 Tryz.prog lx169_ren := {
  mixed := by kernel_rfl,
  f169 := Tryz.func64.trans (congrArg some (by kernel_rfl)),
  t0 := Tryz.underlying0,
  a0 := Tryz.isAgg0,
  z0 := Tryz.sizeOf0,
  v0 := Tryz.zeroValue0,
  t3 := Tryz.underlying3,
  a3 := Tryz.isAgg3,
  z3 := Tryz.sizeOf3,
  v3 := Tryz.zeroValue3,
  t9 := Tryz.underlying9,
  a9 := Tryz.isAgg9,
  z9 := Tryz.sizeOf9,
  v9 := Tryz.zeroValue9,
  t37 := Tryz.underlying94,
  a37 := Tryz.isAgg94,
  z37 := Tryz.sizeOf94,
  v37 := Tryz.zeroValue94,
  t70 := Tryz.underlying93,
  a70 := Tryz.isAgg93,
  z70 := Tryz.sizeOf93,
  v70 := Tryz.zeroValue93,
  t72 := Tryz.underlying96,
  a72 := Tryz.isAgg96,
  z72 := Tryz.sizeOf96,
  v72 := Tryz.zeroValue96,
  t127 := Tryz.underlying140,
  a127 := Tryz.isAgg140,
  z127 := Tryz.sizeOf140,
  v127 := Tryz.zeroValue140 }
def lx170_ren : Ren := ⟨fun | 170 => 63 | n => n, fun | 70 => 93 | 3 => 3 | 0 => 0 | 72 => 96 | 37 => 94 | 5 => 5 | n => n, fun | n => n⟩
theorem lx170 : Go.Proofs.Lays.n170 Tryz.prog lx170_ren := {
  mixed := by kernel_rfl,
  f170 := Tryz.func63.trans (congrArg some (by kernel_rfl)),
  t0 := Tryz.underlying0,
  a0 := Tryz.isAgg0,
  z0 := Tryz.sizeOf0,
  v0 := Tryz.zeroValue0,
  t3 := Tryz.underlying3,
  a3 := Tryz.isAgg3,
  z3 := Tryz.sizeOf3,
  v3 := Tryz.zeroValue3,
  t37 := Tryz.underlying94,
  a37 := Tryz.isAgg94,
  z37 := Tryz.sizeOf94,
  v37 := Tryz.zeroValue94,
  t70 := Tryz.underlying93,
  a70 := Tryz.isAgg93,
  z70 := Tryz.sizeOf93,
  v70 := Tryz.zeroValue93,
  t72 := Tryz.underlying96,
  a72 := Tryz.isAgg96,
  z72 := Tryz.sizeOf96,
  v72 := Tryz.zeroValue96 }

theorem Own.below {g w w' : World} {L : List SP} (H : Own g L w) (h : Below w.heap.size w w') : Own g L w' :=
  H.keep h.os h.tape h.output fun k o e => by rw [h.block k (Array.getElem?_eq_some_iff.1 e).1]; exact e
section
variable {g w : World} {L : List SP} [Glo g]
theorem Own.v0 (H : Own g L w) : ∃ m, w.cell? ⟨0, 0, none⟩ = some (.int .i64 m) := by
  obtain ⟨m, t, fr, h⟩ := Glo.v0 (g := g)
  exact ⟨m, by rw [cell_at (H.var (by simpa [gl] using h))]; rfl⟩
theorem Own.v1 (H : Own g L w) : ∃ u x, w.cell? ⟨1, 0, none⟩ = some (.iface u x) := by
  obtain ⟨u, x, t, fr, h⟩ := Glo.v1 (g := g)
  exact ⟨u, x, by rw [cell_at (H.var (by simpa [gl] using h))]; rfl⟩
theorem Own.v2 (H : Own g L w) : ∃ u x, w.cell? ⟨2, 0, none⟩ = some (.iface u x) := by
  obtain ⟨u, x, t, fr, h⟩ := Glo.v2 (g := g)
  exact ⟨u, x, by rw [cell_at (H.var (by simpa [gl] using h))]; rfl⟩
theorem stringsContains_c (s sub : ByteArray) (H : Own g L w) (hs : s.size < 4294967281) : Calls Pg 94 #[.string s, .string sub] w fun e w' => e = .returned (.bool (Lib.contains s.data.toList sub.data.toList)) ∧ Own g L w' := by
  obtain ⟨m, hm⟩ := H.v0
  exact (Any.strings_Contains lx144 s sub m w hs hm).mono fun e w' h => ⟨h.1, h.2 ▸ H⟩
theorem hasPrefix_c (s p : ByteArray) (H : Own g L w) : Calls Pg 52 #[.string s, .string p] w fun e w' => e = .returned (.bool (Lib.hasPrefix s.data.toList p.data.toList)) ∧ Own g L w' :=
  (Any.strings_HasPrefix lx99 s p w).mono fun e w' h => ⟨h.1, h.2 ▸ H⟩
theorem stringsIndexByte_c (s : ByteArray) (c : Int) (H : Own g L w) : Calls Pg 132 #[.string s, .int .u8 c] w fun e w' => e = .returned (.int .i64 (Lib.indexByte s.data.toList c.toNat.toUInt8)) ∧ Own g L w' :=
  (Any.strings_IndexByte lx137 s c w).mono fun e w' h => ⟨h.1, h.2 ▸ H⟩
theorem parseUint_c (t : ByteArray) (H : Own g L w) (hne : t.size ≠ 0) (hmax : t.size ≤ 9223372036854775806) : Calls Pg 193 #[.string t, .int .i64 10, .int .i64 64] w fun e w' => e = .returned (Lib.uintTuple 183 (Lib.parseUint10 0 t.data.toList)) ∧ Own g L w' :=
  (Any.internal_strconv_ParseUint_10_b64 lx287 t hne hmax w).mono fun e w' h => ⟨h.1, H.below (h.2 ▸ Lib.bytesWorld_below w _ t)⟩
end
end Go.Proofs.YtmkijgmfefkgeaaGreatDoor
