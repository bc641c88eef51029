/- The shelf's layings of library functions, written out (by genlay.py). Plain law: where a string is cut. Contracts: ruleset.named, timed, conditions, posix, Least, Other. A loop unrolled. Contracts: slices.ContainsFunc at rules, ruleset.Check$1, Check$2, last$1; an array's element by its number. -/
import Derived.Shelf.Lay
import Derived.Shelf.Strings.OnBuilder
import Derived.Shelf.Strings.Prefix
import Derived.Shelf.Strings.Shaped
import Derived.Shelf.Strings.Cut
import Derived.Shelf.Pu.ParseUintPublic10
import Derived.Shelf.GgClosure.StringsRunes
import Derived.Test.YtonjepladadmhaaGreatDoorR07
import Derived.Lib.CutLaws
import Derived.Test.YtonjepladadmhaaGreatDoorR02
import Derived.Test.YtonjepladadmhaaGreatDoorR21
import Derived.Test.YtonjepladadmhaaGreatDoorR08
import Derived.LoopN
set_option maxHeartbeats 4000000
set_option linter.unusedVariables false
set_option linter.unusedSimpArgs false
namespace Go.Proofs.YtonjepladadmhaaGreatDoor
open Go.Shelf Go.RowKit Go.Lib
def joinLay_ren : Ren where
 f := fun | 156 => 236 | 165 => 246 | 166 => 247 | 169 => 248 | 240 => 257 | 241 => 258 | 276 => 261 | 277 => 262 | n => n
 t := fun | 31 => 43 | 9 => 9 | 3 => 3 | 4 => 4 | 0 => 0 | 20 => 20 | 72 => 324 | 76 => 326 | 70 => 322 | 37 => 37 | 75 => 309 | 127 => 339 | 164 => 344 | 5 => 5 | 80 => 328 | n => n
 g := fun n => n
theorem joinLay : Lays.n156 Tryz.prog joinLay_ren where
 mixed := by kernel_rfl
 f156 := Tryz.func236.trans (congrArg some (by kernel_rfl))
 f165 := Tryz.func246.trans (congrArg some (by kernel_rfl))
 f166 := Tryz.func247.trans (congrArg some (by kernel_rfl))
 f169 := Tryz.func248.trans (congrArg some (by kernel_rfl))
 f240 := Tryz.func257.trans (congrArg some (by kernel_rfl))
 f241 := Tryz.func258.trans (congrArg some (by kernel_rfl))
 f276 := Tryz.func261.trans (congrArg some (by kernel_rfl))
 f277 := Tryz.func262.trans (congrArg some (by kernel_rfl))
 t0 := Tryz.underlying0
 a0 := Tryz.isAgg0
 z0 := Tryz.sizeOf0
 v0 := Tryz.zeroValue0
 t3 := Tryz.underlying3
 a3 := Tryz.isAgg3
 z3 := Tryz.sizeOf3
 v3 := Tryz.zeroValue3
 t4 := Tryz.underlying4
 a4 := Tryz.isAgg4
 z4 := Tryz.sizeOf4
 v4 := Tryz.zeroValue4
 t9 := Tryz.underlying9
 a9 := Tryz.isAgg9
 z9 := Tryz.sizeOf9
 v9 := Tryz.zeroValue9
 t20 := Tryz.underlying20
 a20 := Tryz.isAgg20
 z20 := Tryz.sizeOf20
 v20 := Tryz.zeroValue20
 t31 := Tryz.underlying43
 a31 := Tryz.isAgg43
 z31 := Tryz.sizeOf43
 v31 := Tryz.zeroValue43
 t37 := Tryz.underlying37
 a37 := Tryz.isAgg37
 z37 := Tryz.sizeOf37
 v37 := Tryz.zeroValue37
 t70 := Tryz.underlying322
 a70 := Tryz.isAgg322
 z70 := Tryz.sizeOf322
 v70 := Tryz.zeroValue322
 t72 := Tryz.underlying324
 a72 := Tryz.isAgg324
 z72 := Tryz.sizeOf324
 v72 := Tryz.zeroValue324
 t75 := Tryz.underlying309
 a75 := Tryz.isAgg309
 z75 := Tryz.sizeOf309
 v75 := Tryz.zeroValue309
 t76 := Tryz.underlying326
 a76 := Tryz.isAgg326
 z76 := Tryz.sizeOf326
 v76 := Tryz.zeroValue326
 t127 := Tryz.underlying339
 a127 := Tryz.isAgg339
 z127 := Tryz.sizeOf339
 v127 := Tryz.zeroValue339
 t164 := Tryz.underlying344
 a164 := Tryz.isAgg344
 z164 := Tryz.sizeOf344
 v164 := Tryz.zeroValue344
def prefLay_ren : Ren where
 f := fun | 99 => 225 | 206 => 243 | n => n
 t := fun | 9 => 9 | 4 => 4 | 3 => 3 | n => n
 g := fun n => n
theorem prefLay : Lays.n99 Tryz.prog prefLay_ren where
 mixed := by kernel_rfl
 f99 := Tryz.func225.trans (congrArg some (by kernel_rfl))
 f206 := Tryz.func243.trans (congrArg some (by kernel_rfl))
 t3 := Tryz.underlying3
 a3 := Tryz.isAgg3
 z3 := Tryz.sizeOf3
 v3 := Tryz.zeroValue3
 t4 := Tryz.underlying4
 a4 := Tryz.isAgg4
 z4 := Tryz.sizeOf4
 v4 := Tryz.zeroValue4
 t9 := Tryz.underlying9
 a9 := Tryz.isAgg9
 z9 := Tryz.sizeOf9
 v9 := Tryz.zeroValue9
def puLay_ren : Ren where
 f := fun | 14 => 224 | 16 => 241 | 17 => 242 | 19 => 251 | 20 => 252 | 21 => 253 | 22 => 254 | 23 => 255 | 24 => 256 | 25 => 259 | 27 => 49 | 26 => 260 | 28 => 95 | 29 => 144 | 30 => 184 | 31 => 185 | 32 => 186 | 33 => 187 | 35 => 154 | 34 => 216 | 36 => 217 | 37 => 218 | 38 => 219 | 39 => 230 | 40 => 231 | n => n
 t := fun | 9 => 9 | 3 => 3 | 22 => 133 | 24 => 309 | 25 => 310 | 4 => 4 | 34 => 331 | 5 => 5 | 36 => 186 | 37 => 37 | 0 => 0 | 39 => 333 | 21 => 21 | 44 => 342 | 47 => 339 | 50 => 349 | 48 => 347 | 2 => 2 | 52 => 271 | 55 => 273 | 59 => 300 | 60 => 61 | 20 => 20 | 61 => 301 | 65 => 320 | 66 => 321 | 67 => 328 | n => n
 g := fun | 0 => 11 | 1 => 12 | 2 => 5 | 3 => 7 | 4 => 8 | n => n
theorem puLay : LaysPu.n14 Tryz.prog puLay_ren where
 mixed := by kernel_rfl
 f14 := Tryz.func224.trans (congrArg some (by kernel_rfl))
 f16 := Tryz.func241.trans (congrArg some (by kernel_rfl))
 f17 := Tryz.func242.trans (congrArg some (by kernel_rfl))
 f19 := Tryz.func251.trans (congrArg some (by kernel_rfl))
 f20 := Tryz.func252.trans (congrArg some (by kernel_rfl))
 f21 := Tryz.func253.trans (congrArg some (by kernel_rfl))
 f22 := Tryz.func254.trans (congrArg some (by kernel_rfl))
 f23 := Tryz.func255.trans (congrArg some (by kernel_rfl))
 f24 := Tryz.func256.trans (congrArg some (by kernel_rfl))
 f25 := Tryz.func259.trans (congrArg some (by kernel_rfl))
 f26 := Tryz.func260.trans (congrArg some (by kernel_rfl))
 f27 := Tryz.func49.trans (congrArg some (by kernel_rfl))
 f28 := Tryz.func95.trans (congrArg some (by kernel_rfl))
 f29 := Tryz.func144.trans (congrArg some (by kernel_rfl))
 f30 := Tryz.func184.trans (congrArg some (by kernel_rfl))
 f31 := Tryz.func185.trans (congrArg some (by kernel_rfl))
 f32 := Tryz.func186.trans (congrArg some (by kernel_rfl))
 f33 := Tryz.func187.trans (congrArg some (by kernel_rfl))
 f34 := Tryz.func216.trans (congrArg some (by kernel_rfl))
 f35 := Tryz.func154.trans (congrArg some (by kernel_rfl))
 f36 := Tryz.func217.trans (congrArg some (by kernel_rfl))
 f37 := Tryz.func218.trans (congrArg some (by kernel_rfl))
 f38 := Tryz.func219.trans (congrArg some (by kernel_rfl))
 f39 := Tryz.func230.trans (congrArg some (by kernel_rfl))
 f40 := Tryz.func231.trans (congrArg some (by kernel_rfl))
 t0 := Tryz.underlying0
 a0 := Tryz.isAgg0
 z0 := Tryz.sizeOf0
 v0 := Tryz.zeroValue0
 t2 := Tryz.underlying2
 a2 := Tryz.isAgg2
 z2 := Tryz.sizeOf2
 v2 := Tryz.zeroValue2
 t3 := Tryz.underlying3
 a3 := Tryz.isAgg3
 z3 := Tryz.sizeOf3
 v3 := Tryz.zeroValue3
 t4 := Tryz.underlying4
 a4 := Tryz.isAgg4
 z4 := Tryz.sizeOf4
 v4 := Tryz.zeroValue4
 t5 := Tryz.underlying5
 a5 := Tryz.isAgg5
 z5 := Tryz.sizeOf5
 v5 := Tryz.zeroValue5
 t9 := Tryz.underlying9
 a9 := Tryz.isAgg9
 z9 := Tryz.sizeOf9
 v9 := Tryz.zeroValue9
 t20 := Tryz.underlying20
 a20 := Tryz.isAgg20
 z20 := Tryz.sizeOf20
 v20 := Tryz.zeroValue20
 t21 := Tryz.underlying21
 a21 := Tryz.isAgg21
 z21 := Tryz.sizeOf21
 v21 := Tryz.zeroValue21
 t22 := Tryz.underlying133
 a22 := Tryz.isAgg133
 z22 := Tryz.sizeOf133
 v22 := Tryz.zeroValue133
 t24 := Tryz.underlying309
 a24 := Tryz.isAgg309
 z24 := Tryz.sizeOf309
 v24 := Tryz.zeroValue309
 t25 := Tryz.underlying310
 a25 := Tryz.isAgg310
 z25 := Tryz.sizeOf310
 v25 := Tryz.zeroValue310
 t34 := Tryz.underlying331
 a34 := Tryz.isAgg331
 z34 := Tryz.sizeOf331
 v34 := Tryz.zeroValue331
 t36 := Tryz.underlying186
 a36 := Tryz.isAgg186
 z36 := Tryz.sizeOf186
 v36 := Tryz.zeroValue186
 t37 := Tryz.underlying37
 a37 := Tryz.isAgg37
 z37 := Tryz.sizeOf37
 v37 := Tryz.zeroValue37
 t39 := Tryz.underlying333
 a39 := Tryz.isAgg333
 z39 := Tryz.sizeOf333
 v39 := Tryz.zeroValue333
 t44 := Tryz.underlying342
 a44 := Tryz.isAgg342
 z44 := Tryz.sizeOf342
 v44 := Tryz.zeroValue342
 t47 := Tryz.underlying339
 a47 := Tryz.isAgg339
 z47 := Tryz.sizeOf339
 v47 := Tryz.zeroValue339
 t48 := Tryz.underlying347
 a48 := Tryz.isAgg347
 z48 := Tryz.sizeOf347
 v48 := Tryz.zeroValue347
 t50 := Tryz.underlying349
 a50 := Tryz.isAgg349
 z50 := Tryz.sizeOf349
 v50 := Tryz.zeroValue349
 t52 := Tryz.underlying271
 a52 := Tryz.isAgg271
 z52 := Tryz.sizeOf271
 v52 := Tryz.zeroValue271
 t55 := Tryz.underlying273
 a55 := Tryz.isAgg273
 z55 := Tryz.sizeOf273
 v55 := Tryz.zeroValue273
 t59 := Tryz.underlying300
 a59 := Tryz.isAgg300
 z59 := Tryz.sizeOf300
 v59 := Tryz.zeroValue300
 t60 := Tryz.underlying61
 a60 := Tryz.isAgg61
 z60 := Tryz.sizeOf61
 v60 := Tryz.zeroValue61
 t61 := Tryz.underlying301
 a61 := Tryz.isAgg301
 z61 := Tryz.sizeOf301
 t65 := Tryz.underlying320
 a65 := Tryz.isAgg320
 z65 := Tryz.sizeOf320
 v65 := Tryz.zeroValue320
 t66 := Tryz.underlying321
 a66 := Tryz.isAgg321
 z66 := Tryz.sizeOf321
 v66 := Tryz.zeroValue321
 t67 := Tryz.underlying328
 a67 := Tryz.isAgg328
 z67 := Tryz.sizeOf328
 v67 := Tryz.zeroValue328
 i0 := by kernel_rfl
 i2 := by kernel_rfl
 i3 := by kernel_rfl
 i4 := by kernel_rfl
 i5 := by kernel_rfl
 i9 := by kernel_rfl
 i20 := by kernel_rfl
 i21 := by kernel_rfl
 i22 := by kernel_rfl
 i24 := by kernel_rfl
 i25 := by kernel_rfl
 i34 := by kernel_rfl
 c34 := by kernel_rfl
 i36 := by kernel_rfl
 i37 := by kernel_rfl
 i39 := by kernel_rfl
 i44 := by kernel_rfl
 i47 := by kernel_rfl
 i48 := by kernel_rfl
 i50 := by kernel_rfl
 i52 := by kernel_rfl
 i55 := by kernel_rfl
 i59 := by kernel_rfl
 i60 := by kernel_rfl
 i65 := by kernel_rfl
 i66 := by kernel_rfl
 i67 := by kernel_rfl
 g0 := by kernel_rfl
 m0 := by kernel_rfl
 g1 := by kernel_rfl
 m1 := by kernel_rfl
 g2 := by kernel_rfl
 m2 := by kernel_rfl
 g3 := by kernel_rfl
 m3 := by kernel_rfl
 g4 := by kernel_rfl
 m4 := by kernel_rfl
def cutLay_ren : Ren where
 f := fun | 145 => 177 | 220 => 204 | 219 => 223 | 217 => 237 | 225 => 238 | 224 => 239 | 267 => 240 | 266 => 249 | 314 => 250 | n => n
 t := fun | 9 => 9 | 4 => 4 | 59 => 214 | 3 => 3 | 5 => 5 | 46 => 186 | 146 => 329 | 51 => 61 | n => n
 g := fun | 1 => 6 | n => n
theorem cutLay : LaysM.n145 Tryz.prog cutLay_ren where
 mixed := by kernel_rfl
 f145 := Tryz.func177.trans (congrArg some (by kernel_rfl))
 f217 := Tryz.func237.trans (congrArg some (by kernel_rfl))
 f219 := Tryz.func223.trans (congrArg some (by kernel_rfl))
 f220 := Tryz.func204.trans (congrArg some (by kernel_rfl))
 f224 := Tryz.func239.trans (congrArg some (by kernel_rfl))
 f225 := Tryz.func238.trans (congrArg some (by kernel_rfl))
 f266 := Tryz.func249.trans (congrArg some (by kernel_rfl))
 f267 := Tryz.func240.trans (congrArg some (by kernel_rfl))
 f314 := Tryz.func250.trans (congrArg some (by kernel_rfl))
 t3 := Tryz.underlying3
 a3 := Tryz.isAgg3
 z3 := Tryz.sizeOf3
 v3 := Tryz.zeroValue3
 t4 := Tryz.underlying4
 a4 := Tryz.isAgg4
 z4 := Tryz.sizeOf4
 v4 := Tryz.zeroValue4
 t5 := Tryz.underlying5
 a5 := Tryz.isAgg5
 z5 := Tryz.sizeOf5
 v5 := Tryz.zeroValue5
 t9 := Tryz.underlying9
 a9 := Tryz.isAgg9
 z9 := Tryz.sizeOf9
 v9 := Tryz.zeroValue9
 t46 := Tryz.underlying186
 a46 := Tryz.isAgg186
 z46 := Tryz.sizeOf186
 v46 := Tryz.zeroValue186
 t51 := Tryz.underlying61
 a51 := Tryz.isAgg61
 z51 := Tryz.sizeOf61
 v51 := Tryz.zeroValue61
 t59 := Tryz.underlying214
 a59 := Tryz.isAgg214
 z59 := Tryz.sizeOf214
 v59 := Tryz.zeroValue214
 t146 := Tryz.underlying329
 a146 := Tryz.isAgg329
 z146 := Tryz.sizeOf329
 v146 := Tryz.zeroValue329
 g1 := by kernel_rfl
 i3 := by kernel_rfl
 i4 := by kernel_rfl
 i5 := by kernel_rfl
 i9 := by kernel_rfl
 i46 := by kernel_rfl
 i51 := by kernel_rfl
 i59 := by kernel_rfl
 i146 := by kernel_rfl
 m1 := by kernel_rfl
 s1_3 := fun w h => cell_of_shapedOpen_int (zero := #[.int .i64 0]) h (by decide) (by kernel_rfl) rfl (by kernel_rfl) (by kernel_rfl) Tryz.underlying3
def ixfLay_ren : Ren where
 f := fun | 15 => 179 | 20 => 206 | n => n
 t := fun | 9 => 9 | 23 => 266 | 3 => 3 | 4 => 4 | 0 => 0 | 21 => 21 | n => n
 g := fun n => n
theorem ixfLay : LaysGw.n15 Tryz.prog ixfLay_ren where
 mixed := by kernel_rfl
 f15 := Tryz.func179.trans (congrArg some (by kernel_rfl))
 f20 := Tryz.func206.trans (congrArg some (by kernel_rfl))
 t0 := Tryz.underlying0
 a0 := Tryz.isAgg0
 z0 := Tryz.sizeOf0
 v0 := Tryz.zeroValue0
 t3 := Tryz.underlying3
 a3 := Tryz.isAgg3
 z3 := Tryz.sizeOf3
 v3 := Tryz.zeroValue3
 t4 := Tryz.underlying4
 a4 := Tryz.isAgg4
 z4 := Tryz.sizeOf4
 v4 := Tryz.zeroValue4
 t9 := Tryz.underlying9
 a9 := Tryz.isAgg9
 z9 := Tryz.sizeOf9
 v9 := Tryz.zeroValue9
 t21 := Tryz.underlying21
 a21 := Tryz.isAgg21
 z21 := Tryz.sizeOf21
 v21 := Tryz.zeroValue21
 t23 := Tryz.underlying266
 a23 := Tryz.isAgg266
 z23 := Tryz.sizeOf266
 v23 := Tryz.zeroValue266
 i0 := by kernel_rfl
 i3 := by kernel_rfl
 i4 := by kernel_rfl
 i9 := by kernel_rfl
 i21 := by kernel_rfl
 i23 := by kernel_rfl
theorem joinExtra : Builder.Extra Tryz.prog joinLay_ren where
 sizeBuilder := by kernel_rfl
 liesBuilder := by kernel_rfl
 t5 := Tryz.underlying5
 a5 := Tryz.isAgg5
 z5 := Tryz.sizeOf5
 v5 := Tryz.zeroValue5
 infoByte := by kernel_rfl
 cellsByte := by kernel_rfl
 sizeByte := by kernel_rfl
 neB5 := by decide
end Go.Proofs.YtonjepladadmhaaGreatDoor
namespace Go.Wk
open Go Go.RowKit
theorem cutAt_ix (p : List UInt8) : ∀ (f acc : List UInt8), cutAt p f acc = if 0 ≤ Lib.index f p then some (acc ++ f.take (Lib.index f p).toNat, f.drop ((Lib.index f p).toNat + p.length)) else none
 | [], acc => by
  simp only [cutAt, Lib.index, List.isEmpty_iff]
  by_cases h : p = []
  ·simp [h]
  ·rw [if_neg h, if_neg h]; rfl
 | c :: l, acc => by
  by_cases h : p.isPrefixOf (c :: l) = true
  ·simp [cutAt, Lib.index, h]
  ·have e0 : Lib.index (c :: l) p = if (Lib.index l p == -1) = true then -1 else Lib.index l p + 1 := by rw [Lib.index, if_neg h]
   generalize hI : Lib.index (c :: l) p = I at *
   subst e0
   rw [cutAt, if_neg h, cutAt_ix p l]
   clear hI
   have hge := Lib.index_ge l p
   by_cases h2 : Lib.index l p = -1
   ·simp [h2]
   ·rw [if_pos (show 0 ≤ Lib.index l p by omega)]
    have hb : (Lib.index l p == -1) = false := by simpa using h2
    rw [hb]
    simp only [Bool.false_eq_true, if_false]
    rw [if_pos (show 0 ≤ Lib.index l p + 1 by omega)]
    have e : (Lib.index l p + 1).toNat = (Lib.index l p).toNat + 1 := by omega
    rw [e, show (Lib.index l p).toNat + 1 + p.length = ((Lib.index l p).toNat + p.length) + 1 by omega]
    simp
def cutV (f p : List UInt8) : List UInt8 × List UInt8 × Bool := match cutAt p f [] with | some (a, b) => (a, b, true) | none => (f, [], false)
theorem cutV_eq (f p : List UInt8) : Lib.cut f p = cutV f p := by
 unfold Lib.cut cutV
 rw [cutAt_ix]
 by_cases h : 0 ≤ Lib.index f p
 ·rw [if_pos h, if_pos h]; rfl
 ·rw [if_neg h, if_neg h]
theorem cutAt_len {p f acc a b : List UInt8} (h : cutAt p f acc = some (a, b)) : a.length + b.length + p.length ≤ acc.length + f.length := by
 induction f generalizing acc with
 | nil =>
  simp only [cutAt] at h
  split at h
  ·rename_i hp; simp only [Option.some.injEq, Prod.mk.injEq] at h; obtain ⟨rfl, rfl⟩ := h; simp [hp]
  ·cases h
 | cons c l ih =>
  simp only [cutAt] at h
  split at h
  ·rename_i hp
   simp only [Option.some.injEq, Prod.mk.injEq] at h
   obtain ⟨rfl, rfl⟩ := h
   have := List.IsPrefix.length_le (List.isPrefixOf_iff_prefix.1 hp)
   rw [List.length_drop]
   omega
  ·have := ih h
   simp only [List.length_append, List.length_cons, List.length_nil] at this ⊢
   omega
def condB (r : DRule) (least : Int) : Nat → Bool
 | 0 => namedY r.from_ && (namedY r.to || decide (r.to = 1048576))
 | 1 => decide (r.from_ ≤ r.to)
 | 2 => alwaysD r.from_ r.to r.month r.day
 | 3 => timedB r.at_ least
 | 4 => decide (-10800 ≤ r.save) && decide (r.save ≤ 10800)
 | _ => decide (r.letter = ByteArray.empty) || letterB r.letter
theorem Pu_addWE {P : Program} {n : Nat} {wr : World} {fr : Fr} {O : List It} {ty t t' : TypeId} {x y : Operand} {i j m : Int} (hx : ev fr x = some (.int .i64 i)) (hy : ev fr y = some (.int .i64 j)) (hm : IntKind.i64.wrap (i + j) = m) : Pu P n wr fr O (.binOp .add t x y t') ty (.int .i64 m) := hm ▸ Pu_addW hx hy
end Go.Wk
namespace Go.Proofs.YtonjepladadmhaaGreatDoor
open Go Go.RowKit Go.Wk
attribute [local irreducible] W RL Does thenQ blockQ retQ Calls Pu Stp RD Qy Ay DoesIn nameB
theorem namedY_spec (y : Int) (w : World) : Does Tryz.prog 300 [.int .i64 y] w (fun v O => v = .bool (namedY y) ∧ O = []) := by
 refine Does_of_W Tryz.func300 rfl rfl rfl rfl ?_
 repeat' (first | refine walk ?_ | refine und ?_ | (refine RL_gsplit rfl rfl rfl (fun hc => ?_) (fun hc => ?_)) | (refine RD_gsplit rfl rfl rfl (fun hc => ?_) (fun hc => ?_)) | (refine W_cond rfl (fun hc => ?_) (fun hc => ?_)))
 all_goals first | (refine ret_1 _ [] (.tmp rfl) .nil ⟨?_, rfl⟩; first | rfl | (simp only [*, Bool.true_and, Bool.false_and, Bool.true_or, Bool.false_or, Bool.not_true, Bool.not_false]; done) | (simp_all [namedY]; done) | (simp_all [namedY]; omega) | (simp_all [namedY]; rw [Bool.eq_iff_iff]; simp; omega)) | (exfalso; simp_all [namedY]; done) | (exfalso; simp_all [namedY]; omega) | (exfalso; omega)
theorem timed_spec (c : DClock) (least : Int) (hl : -9223372036854775808 ≤ least ∧ least ≤ 0) (w : World) : Does Tryz.prog 305 [.agg (DClock.enc c).toArray, .int .i64 least] w (fun v O => v = .bool (timedB c least) ∧ O = []) := by
 by_cases hc : clkChk c = true
 ·have hb : -604799 ≤ c.sec ∧ c.sec ≤ 604799 := by
   simp only [clkChk, Bool.and_eq_true, decide_eq_true_eq] at hc
   omega
  obtain ⟨m, hm⟩ : ∃ m, IntKind.i64.wrap (c.sec + least) = m := ⟨_, rfl⟩
  have hmm : (decide (-86400 ≤ m) && decide (m ≤ 172800)) = (decide (-86400 ≤ c.sec + least) && decide (c.sec + least ≤ 172800)) := by
   have hw : IntKind.i64.wrap (c.sec + least) = if c.sec + least < -9223372036854775808 then c.sec + least + 18446744073709551616 else c.sec + least := by
    rw [IntKind.wrap_i64]
    repeat' split
    all_goals omega
   rw [hw] at hm
   rw [Bool.eq_iff_iff]
   simp only [Bool.and_eq_true, decide_eq_true_eq]
   split at hm <;> omega
  have hT : timedB c least = (clkChk c && (if c.base = 1 then (decide (-86400 ≤ m) && decide (m ≤ 172800)) else (decide (-86400 ≤ c.sec) && decide (c.sec ≤ 172800)))) := by
   unfold timedB
   dsimp only
   congr 1
   by_cases hb1 : c.base = 1
   ·rw [if_pos hb1, if_pos hb1, hmm]
   ·rw [if_neg hb1, if_neg hb1]
  rw [hT]
  clear hT hmm
  have hcs := ccheck_spec c
  rw [hc] at hcs ⊢
  obtain ⟨s, b⟩ := c
  simp only at *
  show Does _ _ [.agg #[.int .i64 s, .int .i64 b], .int .i64 least] w _
  refine Does_of_W Tryz.func305 rfl rfl rfl rfl ?_
  repeat' (first | (apply RL_pu; rfl; (apply Pu_addWE; rfl; rfl; exact hm)) | (refine js ?_; (first | (refine callE (fun w' _ => hcs w') ?_) | (refine bx ?_; intro bk))) | refine walk1 ?_ | refine und ?_ | (refine RL_gsplit rfl rfl rfl (fun hc => ?_) (fun hc => ?_)) | (refine RD_gsplit rfl rfl rfl (fun hc => ?_) (fun hc => ?_)) | (refine W_cond rfl (fun hc => ?_) (fun hc => ?_)))
  all_goals exact clo1
 ·unfold timedB
  have hcs := ccheck_spec c
  rw [Bool.not_eq_true] at hc
  rw [hc] at hcs ⊢
  obtain ⟨s, b⟩ := c
  simp only at *
  show Does _ _ [.agg #[.int .i64 s, .int .i64 b], .int .i64 least] w _
  refine Does_of_W Tryz.func305 rfl rfl rfl rfl ?_
  repeat' (first | (refine js ?_; (first | (refine callE (fun w' _ => hcs w') ?_) | (refine bx ?_; intro bk))) | refine walk ?_ | refine und ?_ | (refine RL_gsplit rfl rfl rfl (fun hc => ?_) (fun hc => ?_)) | (refine RD_gsplit rfl rfl rfl (fun hc => ?_) (fun hc => ?_)) | (refine W_cond rfl (fun hc => ?_) (fun hc => ?_)))
  all_goals exact clo1
theorem cond1_spec (r : DRule) (least : Int) (w : World) : Does Tryz.prog 299 [.agg (DRule.enc r).toArray, .int .i64 least] w (fun v O => v = .bool (condB r least 0) ∧ O = []) := by
 unfold condB
 have h1 := namedY_spec r.from_
 have h2 := namedY_spec r.to
 generalize namedY r.from_ = x1 at *
 generalize namedY r.to = x2 at *
 obtain ⟨nm, fr, to, mo, ⟨dk, dw, dd⟩, ⟨cs, cb⟩, sv, le⟩ := r
 simp only at *
 show Does _ _ [.agg #[.string nm, .int .i64 fr, .int .i64 to, .int .i64 mo, .int .i64 dk, .int .i64 dw, .int .i64 dd, .int .i64 cs, .int .i64 cb, .int .i64 sv, .string le], .int .i64 least] w _
 refine Does_of_W Tryz.func299 rfl rfl rfl rfl ?_
 repeat' (first | (refine js ?_; (first | (refine callE (fun w' _ => h1 w') ?_) | (refine callE (fun w' _ => h2 w') ?_) | (refine bx ?_; intro bk))) | refine walk ?_ | refine und ?_ | (refine RL_gsplit rfl rfl rfl (fun hc => ?_) (fun hc => ?_)) | (refine RD_gsplit rfl rfl rfl (fun hc => ?_) (fun hc => ?_)) | (refine W_cond rfl (fun hc => ?_) (fun hc => ?_)))
 all_goals exact clo1
theorem cond2_spec (r : DRule) (least : Int) (w : World) : Does Tryz.prog 301 [.agg (DRule.enc r).toArray, .int .i64 least] w (fun v O => v = .bool (condB r least 1) ∧ O = []) := by
 unfold condB
 obtain ⟨nm, fr, to, mo, ⟨dk, dw, dd⟩, ⟨cs, cb⟩, sv, le⟩ := r
 simp only at *
 show Does _ _ [.agg #[.string nm, .int .i64 fr, .int .i64 to, .int .i64 mo, .int .i64 dk, .int .i64 dw, .int .i64 dd, .int .i64 cs, .int .i64 cb, .int .i64 sv, .string le], .int .i64 least] w _
 refine Does_of_W Tryz.func301 rfl rfl rfl rfl ?_
 repeat' (first | (refine js ?_; (refine bx ?_; intro bk)) | refine walk ?_ | (refine W_cond rfl (fun hc => ?_) (fun hc => ?_)))
 all_goals exact clo1
theorem cond3_spec (r : DRule) (least : Int) (w : World) (hG : Glob w) : Does Tryz.prog 302 [.agg (DRule.enc r).toArray, .int .i64 least] w (fun v O => v = .bool (condB r least 2) ∧ O = []) := by
 unfold condB
 have h1 := fun w' hw => always_spec r.from_ r.to r.month r.day w' (Glob.up (w' := w') hG hw)
 generalize alwaysD r.from_ r.to r.month r.day = x1 at *
 obtain ⟨nm, fr, to, mo, ⟨dk, dw, dd⟩, ⟨cs, cb⟩, sv, le⟩ := r
 simp only at *
 show Does _ _ [.agg #[.string nm, .int .i64 fr, .int .i64 to, .int .i64 mo, .int .i64 dk, .int .i64 dw, .int .i64 dd, .int .i64 cs, .int .i64 cb, .int .i64 sv, .string le], .int .i64 least] w _
 refine Does_of_W Tryz.func302 rfl rfl rfl rfl ?_
 repeat' (first | (refine js ?_; (first | (refine callE h1 ?_) | (refine bx ?_; intro bk))) | refine walk ?_ | (refine W_cond rfl (fun hc => ?_) (fun hc => ?_)))
 all_goals exact clo1
theorem cond4_spec (r : DRule) (least : Int) (hl : -9223372036854775808 ≤ least ∧ least ≤ 0) (w : World) : Does Tryz.prog 304 [.agg (DRule.enc r).toArray, .int .i64 least] w (fun v O => v = .bool (condB r least 3) ∧ O = []) := by
 unfold condB
 have h1 := timed_spec r.at_ least hl
 generalize timedB r.at_ least = x1 at *
 obtain ⟨nm, fr, to, mo, ⟨dk, dw, dd⟩, ⟨cs, cb⟩, sv, le⟩ := r
 simp only at *
 show Does _ _ [.agg #[.string nm, .int .i64 fr, .int .i64 to, .int .i64 mo, .int .i64 dk, .int .i64 dw, .int .i64 dd, .int .i64 cs, .int .i64 cb, .int .i64 sv, .string le], .int .i64 least] w _
 refine Does_of_W Tryz.func304 rfl rfl rfl rfl ?_
 repeat' (first | (refine js ?_; (first | (refine callE (fun w' hw => h1 w') ?_) | (refine bx ?_; intro bk))) | refine walk ?_ | (refine W_cond rfl (fun hc => ?_) (fun hc => ?_)))
 all_goals exact clo1
theorem cond5_spec (r : DRule) (least : Int) (w : World) : Does Tryz.prog 306 [.agg (DRule.enc r).toArray, .int .i64 least] w (fun v O => v = .bool (condB r least 4) ∧ O = []) := by
 unfold condB
 obtain ⟨nm, fr, to, mo, ⟨dk, dw, dd⟩, ⟨cs, cb⟩, sv, le⟩ := r
 simp only at *
 show Does _ _ [.agg #[.string nm, .int .i64 fr, .int .i64 to, .int .i64 mo, .int .i64 dk, .int .i64 dw, .int .i64 dd, .int .i64 cs, .int .i64 cb, .int .i64 sv, .string le], .int .i64 least] w _
 refine Does_of_W Tryz.func306 rfl rfl rfl rfl ?_
 repeat' (first | (refine js ?_; (refine bx ?_; intro bk)) | refine walk ?_ | refine und ?_ | (refine RL_gsplit rfl rfl rfl (fun hc => ?_) (fun hc => ?_)) | (refine RD_gsplit rfl rfl rfl (fun hc => ?_) (fun hc => ?_)) | (refine W_cond rfl (fun hc => ?_) (fun hc => ?_)))
 all_goals exact clo1
theorem cond6_spec (r : DRule) (least : Int) (hs : (r.letter.size : Int) ≤ 9223372036854775807) (w : World) : Does Tryz.prog 307 [.agg (DRule.enc r).toArray, .int .i64 least] w (fun v O => v = .bool (condB r least 5) ∧ O = []) := by
 unfold condB
 rw [show ByteArray.empty = ⟨#[]⟩ from rfl]
 have h1 := letter_spec r.letter hs
 generalize letterB r.letter = x1 at *
 obtain ⟨nm, fr, to, mo, ⟨dk, dw, dd⟩, ⟨cs, cb⟩, sv, le⟩ := r
 simp only at *
 show Does _ _ [.agg #[.string nm, .int .i64 fr, .int .i64 to, .int .i64 mo, .int .i64 dk, .int .i64 dw, .int .i64 dd, .int .i64 cs, .int .i64 cb, .int .i64 sv, .string le], .int .i64 least] w _
 refine Does_of_W Tryz.func307 rfl rfl rfl rfl ?_
 repeat' (first | (refine js ?_; (first | (refine callE (fun w' hw => h1 w') ?_) | (refine bx ?_; intro bk))) | refine walk ?_ | refine und ?_ | (refine RL_gsplit rfl rfl rfl (fun hc => ?_) (fun hc => ?_)) | (refine RD_gsplit rfl rfl rfl (fun hc => ?_) (fun hc => ?_)) | (refine W_cond rfl (fun hc => ?_) (fun hc => ?_)))
 all_goals exact clo1
theorem posix_spec (r : DRule) (w : World) : Does Tryz.prog 199 [.agg (DRule.enc r).toArray] w (fun v O => v = .bool (posixB r) ∧ O = []) := by
 unfold posixB
 obtain ⟨nm, fr, to, mo, ⟨dk, dw, dd⟩, ⟨cs, cb⟩, sv, le⟩ := r
 simp only at *
 show Does _ _ [.agg #[.string nm, .int .i64 fr, .int .i64 to, .int .i64 mo, .int .i64 dk, .int .i64 dw, .int .i64 dd, .int .i64 cs, .int .i64 cb, .int .i64 sv, .string le]] w _
 refine Does_of_W Tryz.func199 rfl rfl rfl rfl ?_
 repeat' (first | (apply RL_pu; rfl; (apply Pu_rem; rfl; rfl; decide)) | (refine js ?_; (refine bx ?_; intro bk)) | refine walk1 ?_ | refine und ?_ | (refine RL_gsplit rfl rfl rfl (fun hc => ?_) (fun hc => ?_)) | (refine RD_gsplit rfl rfl rfl (fun hc => ?_) (fun hc => ?_)) | (refine W_cond rfl (fun hc => ?_) (fun hc => ?_)))
 all_goals exact clo1
theorem least_spec (A : Option Addr) (c : Nat) (l : List DRule) (w : World) (hA : RdSl w A c DRule.enc 11 l) : Does Tryz.prog 67 [.slice A l.length c] w (fun v O => v = .int .i64 (leastD l) ∧ O = []) := by
 have hle := hA.le
 have hcp := hA.cap
 unfold maxLen at hcp
 generalize hres : leastD l = res
 unfold leastD at hres
 refine Does_of_W Tryz.func67 rfl rfl rfl rfl ?_
 repeat (first | (refine js ?_; (refine bx ?_; intro bk)) | refine walk ?_)
 refine W_loopF [(6, _), (7, _)] [] (fun g : Nat × Int => [(3, .int .i64 g.2), (8, .int .i64 g.1)]) (fun _ => []) (fun g => g.1 ≤ l.length ∧ (l.drop g.1).foldl (fun m r => min m r.save) g.2 = res) (fun g => l.length - g.1) (0, 0) SFA SOA ⟨Nat.zero_le _, hres⟩ ?_
 rintro ⟨k, m⟩ ⟨hk, hi⟩
 dsimp only at hk hi ⊢
 repeat (first | (refine js ?_; (refine bx ?_; intro bk)) | refine walk ?_)
 refine W_cond rfl (fun h => ?_) (fun h => ?_)
 ·have hlt : k < l.length := by simpa using h
  obtain ⟨hna, hca⟩ := hA.rd k _ (List.getElem?_eq_getElem hlt)
  rw [drop_cons hlt] at hi
  generalize l[k] = r at *
  obtain ⟨nm, fr, to, mo, ⟨dk, dw, dd⟩, ⟨cs, cb⟩, sv, le⟩ := r
  simp only [DRule.enc, List.foldl_cons] at hca hi
  repeat (first | (apply RL_pu; rfl; (first | exact PuI | (apply Pu_minI; rfl; rfl))) | (refine js ?_; (refine bx ?_; intro bk)) | refine walk1 ?_)
  rw [show (if sv < m then sv else m) = min m sv by split <;> omega]
  exact ⟨(k + 1, min m sv), OA, ⟨OA, hi⟩, SFA, .nil⟩
 ·have hkl : k = l.length := by
   have := of_decide_eq_false h
   omega
  subst hkl
  rw [List.drop_length] at hi
  repeat (first | (refine js ?_; (refine bx ?_; intro bk)) | refine walk ?_)
  exact ret_1 _ [] (.tmp rfl) .nil ⟨by rw [← hi]; rfl, rfl⟩
theorem other_spec (A : Option Addr) (c : Nat) (l : List DRule) (w : World) (hA : RdSl w A c DRule.enc 11 l) : Does Tryz.prog 110 [.slice A l.length c] w (fun v O => v = .tuple #[.int .i64 (otherD l).1, .bool (otherD l).2] ∧ O = []) := by
 have hle := hA.le
 have hcp := hA.cap
 unfold maxLen at hcp
 generalize hres : otherD l = res
 unfold otherD at hres
 refine Does_of_W Tryz.func110 rfl rfl rfl rfl ?_
 repeat (first | (refine js ?_; (refine bx ?_; intro bk)) | refine walk ?_)
 refine W_loopF [(7, _), (8, _)] [] (fun g : Nat × Int => [(4, .int .i64 g.2), (9, .int .i64 g.1)]) (fun _ => []) (fun g => g.1 ≤ l.length ∧ otherGo (l.drop g.1) g.2 = res) (fun g => l.length - g.1) (0, 0) SFA SOA ⟨Nat.zero_le _, hres⟩ ?_
 rintro ⟨k, m⟩ ⟨hk, hi⟩
 dsimp only at hk hi ⊢
 repeat (first | (refine js ?_; (refine bx ?_; intro bk)) | refine walk ?_)
 refine W_cond rfl (fun h => ?_) (fun h => ?_)
 ·have hlt : k < l.length := by simpa using h
  obtain ⟨hna, hca⟩ := hA.rd k _ (List.getElem?_eq_getElem hlt)
  rw [drop_cons hlt, otherGo] at hi
  generalize l[k] = r at *
  obtain ⟨nm, fr, to, mo, ⟨dk, dw, dd⟩, ⟨cs, cb⟩, sv, le⟩ := r
  simp only [DRule.enc] at hca hi
  repeat (first | (apply RL_pu; rfl; exact PuI) | (refine js ?_; (refine bx ?_; intro bk)) | refine walk1 ?_)
  refine W_cond rfl (fun h1 => ?_) (fun h1 => ?_)
  ·rw [if_pos (of_decide_eq_true h1)] at hi
   repeat (first | (refine js ?_; (refine bx ?_; intro bk)) | refine walk ?_)
   exact ⟨(k + 1, m), OA, ⟨OA, hi⟩, SFA, .nil⟩
  rw [if_neg (of_decide_eq_false h1)] at hi
  repeat' (first | (refine js ?_; (refine bx ?_; intro bk)) | refine walk ?_ | refine und ?_ | (refine RL_gsplit rfl rfl rfl (fun hc => ?_) (fun hc => ?_)) | (refine RD_gsplit rfl rfl rfl (fun hc => ?_) (fun hc => ?_)) | (refine W_cond rfl (fun hc => ?_) (fun hc => ?_)))
  ·rename_i h0
   simp only [Bool.not_eq_true', decide_eq_false_iff_not] at h0 hc
   rw [if_pos ⟨h0, hc⟩] at hi
   exact ret_2 _ _ [] (.tmp rfl) (.tmp rfl) .nil ⟨by rw [← hi], rfl⟩
  ·simp only [Bool.not_eq_false', decide_eq_true_eq] at hc
   rw [if_neg (fun e => e.2 hc)] at hi
   exact ⟨(k + 1, sv), OA, ⟨OA, hi⟩, SFA, .nil⟩
  ·simp only [Bool.not_eq_false', decide_eq_true_eq] at hc
   rw [if_neg (fun e => e.1 hc)] at hi
   exact ⟨(k + 1, sv), OA, ⟨OA, hi⟩, SFA, .nil⟩
 ·have hkl : k = l.length := by
   have := of_decide_eq_false h
   omega
  subst hkl
  rw [List.drop_length, otherGo] at hi
  repeat (first | (refine js ?_; (refine bx ?_; intro bk)) | refine walk ?_)
  exact ret_2 _ _ [] (.tmp rfl) (.tmp rfl) .nil ⟨by rw [← hi], rfl⟩
end Go.Proofs.YtonjepladadmhaaGreatDoor
namespace Go.Wk
open Go Go.RowKit
section
variable {P : Program} {n : Nat} {wr : World} {fr : Fr} {O : List It} {Q : Exit → Fr → List It → Prop}
def RW (P : Program) (n : Nat) (wr : World) (c : Code) (Q : Exit → Fr → List It → Prop) : Nat → Fr → List It → Prop
 | 0, _, _ => False
 | k + 1, fr, O => W P n wr c (thenQ (RW P n wr c Q k) Q) fr O
theorem RW_rounds {c : Code} : ∀ (k : Nat) (fr : Fr) (O : List It), RW P n wr c Q k fr O → ∀ a w, St n wr fr O a w → Code.rounds P c (lift n wr Q) k a w
 | 0, _, _, h, _, _, _ => h
 | k + 1, fr, O, h, a, w, hs => by
  rw [rounds_succ]
  refine wp_mono (h a w hs) ?_
  rintro e a' w' ⟨fr', O', hs', hq⟩
  cases e with
  | normal => exact RW_rounds k fr' O' hq a' w' hs'
  | _ => exact ⟨fr', O', hs', hq⟩
theorem W_rounds {c : Code} (k : Nat) (h : RW P n wr c Q k fr O) : W P n wr (.loop c) Q fr O := fun a w hs => wp_loop_rounds k (RW_rounds k fr O h a w hs)
theorem RW_succ {c : Code} {k : Nat} (h : W P n wr c (thenQ (RW P n wr c Q k) Q) fr O) : RW P n wr c Q (k + 1) fr O := h
theorem Does.monoH {f : FuncId} {args : List Value} {w : World} {R R' : Value → List It → Prop} (h : Does P f args w R) (hr : ∀ v O base w', R v O → Holds base O w' → ∃ O', R' v O' ∧ Holds base O' w') : Does P f args w R' :=
 Calls.mono h fun _ _ ⟨v, O, h1, h2, h3, h4⟩ => by
  obtain ⟨O', h5, h6⟩ := hr v O _ _ h4 h3
  exact ⟨v, O', h1, h2, h6, h5⟩
end
section
variable {P : Program} {n : Nat} {wr : World} {fr : Fr} {O : List It} {ty : TypeId}
theorem Pu_indexArrN {t len e sz : Nat} {x ix : Operand} {kk : IntKind} {i : Int} {cs vs : List Value} [hA : ArrT P t len e sz true] (hx : ev fr x = some (.agg cs.toArray)) (hi : ev fr ix = some (.int kk i)) (h0 : 0 ≤ i) (h1 : i < len) (hv : (cs.drop (i.toNat * sz)).take sz = vs) :
  Pu P n wr fr O (.index t x ix) ty (.agg vs.toArray) := fun a w hs _ _ _ _ => by
 have h := hA.h
 unfold arrChk at h
 split at h
 ·rename_i len' e' hu
  split at h
  ·rename_i sz' ag' ht
   simp only [Option.some.injEq, Prod.mk.injEq] at h
   obtain ⟨rfl, rfl, rfl, rfl⟩ := h
   obtain ⟨inf, dd, hinf, hsz, hag, _⟩ := Ty.parts ht
   have : Ty P e' sz' true := ⟨ht⟩
   subst hv
   simp only [execOp, hs.sim.ev hx, hs.sim.ev hi, Instr.index, asIntOf, Sem.run_bind, Sem.run_pure, Result.andThen_ok, run_underlying hu, h0, h1, and_self, if_true, part, run_isAgg, run_sizeOf]
   simp [List.take_drop]
  ·cases h
 ·cases h
end
end Go.Wk
namespace Go.Proofs.YtonjepladadmhaaGreatDoor
open Go Go.RowKit Go.Wk
attribute [local irreducible] W RL Does thenQ blockQ retQ Calls Pu Stp RD Qy Ay DoesIn nameB
theorem findI_any {α : Type} (p : α → Bool) : ∀ (l : List α) (k : Nat), decide (0 ≤ findI p l k) = l.any p
 | [], k => rfl
 | x :: l, k => by
  rw [findI, List.any_cons]
  by_cases h : p x = true
  ·rw [if_pos h, h]; simp
  ·rw [if_neg h, findI_any p l (k + 1)]
   simp [h]
theorem containsFn_spec (A : Option Addr) (c : Nat) (l : List DRule) (f : FuncId) [Body Tryz.prog f] (us cs : List Value) (p : DRule → Bool) (w : World) (hA : RdSl w A c DRule.enc 11 l)
  (hf : ∀ r w', Bel w.heap.size w w' → Does Tryz.prog f (us ++ [.agg (DRule.enc r).toArray] ++ cs) w' (fun v O => v = .bool (p r) ∧ O = [])) :
  Does Tryz.prog 160 [.slice A l.length c, .func (.func f) us.toArray cs.toArray] w (fun v O => v = .bool (l.any p) ∧ O = []) := by
 have h := fun w' (hw : Bel w.heap.size w w') => indexFunc_spec A c l f us cs p w' (hA.up hw) fun r w2 h2 => hf r w2 (hw.trans (h2.mono hw.size))
 rw [← findI_any p l 0]
 generalize findI p l 0 = k at *
 refine Does_of_W Tryz.func160 rfl rfl rfl rfl ?_
 repeat (first | (refine js ?_; (refine callE h ?_)) | refine walk ?_)
 exact rtA
theorem chk1_spec (r : DRule) (w : World) : Does Tryz.prog 158 [.agg (DRule.enc r).toArray] w (fun v O => v = .bool (decide (r.save = 0)) ∧ O = []) := by
 obtain ⟨nm, fr, to, mo, ⟨dk, dw, dd⟩, ⟨cs, cb⟩, sv, le⟩ := r
 show Does _ _ [.agg #[.string nm, .int .i64 fr, .int .i64 to, .int .i64 mo, .int .i64 dk, .int .i64 dw, .int .i64 dd, .int .i64 cs, .int .i64 cb, .int .i64 sv, .string le]] w _
 refine Does_of_W Tryz.func158 rfl rfl rfl rfl ?_
 repeat' (first | (refine js ?_; (refine bx ?_; intro bk)) | refine walk ?_ | (refine W_cond rfl (fun hc => ?_) (fun hc => ?_)))
 all_goals exact clo1
theorem last1_spec (r : DRule) (w : World) : Does Tryz.prog 198 [.agg (DRule.enc r).toArray] w (fun v O => v = .bool (!decide (r.to = 1048576)) ∧ O = []) := by
 obtain ⟨nm, fr, to, mo, ⟨dk, dw, dd⟩, ⟨cs, cb⟩, sv, le⟩ := r
 show Does _ _ [.agg #[.string nm, .int .i64 fr, .int .i64 to, .int .i64 mo, .int .i64 dk, .int .i64 dw, .int .i64 dd, .int .i64 cs, .int .i64 cb, .int .i64 sv, .string le]] w _
 refine Does_of_W Tryz.func198 rfl rfl rfl rfl ?_
 repeat' (first | (refine js ?_; (refine bx ?_; intro bk)) | refine walk ?_ | (refine W_cond rfl (fun hc => ?_) (fun hc => ?_)))
 all_goals exact clo1
theorem chk2_spec (r : DRule) (ad : Addr) (m : Int) (w : World) (h : w.cell? ad = some (.int .i64 m)) : Does Tryz.prog 159 [.agg (DRule.enc r).toArray, .pointer (some ad)] w (fun v O => v = .bool (!decide (r.save = 0) && !decide (r.save = m)) ∧ O = []) := by
 obtain ⟨nm, fr, to, mo, ⟨dk, dw, dd⟩, ⟨cs, cb⟩, sv, le⟩ := r
 show Does _ _ [.agg #[.string nm, .int .i64 fr, .int .i64 to, .int .i64 mo, .int .i64 dk, .int .i64 dw, .int .i64 dd, .int .i64 cs, .int .i64 cb, .int .i64 sv, .string le], .pointer (some ad)] w _
 refine Does_of_W Tryz.func159 rfl rfl rfl rfl ?_
 repeat' (first | (apply RL_pu; rfl; (apply Pu_loadO1; rfl; exact h)) | (refine js ?_; (refine bx ?_; intro bk)) | refine walk1 ?_ | refine und ?_ | (refine RL_gsplit rfl rfl rfl (fun hc => ?_) (fun hc => ?_)) | (refine RD_gsplit rfl rfl rfl (fun hc => ?_) (fun hc => ?_)) | (refine W_cond rfl (fun hc => ?_) (fun hc => ?_)))
 all_goals exact clo1
end Go.Proofs.YtonjepladadmhaaGreatDoor
