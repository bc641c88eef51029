/- Parts of the proof. -/
import Derived.Shelf.Lay
import Derived.Shelf.Strings.OnBuilder
import Derived.Shelf.Strings.Prefix
import Derived.Shelf.Strings.Shaped
import Derived.Shelf.Strings.Cut
import Derived.Shelf.Pu.ParseUintPublic10
import Derived.Shelf.GgClosure.StringsRunes
import Derived.Test.YtdlmhmmhdbbliaaGreatDoorW05
import Derived.Lib.CutLaws
import Derived.Test.YtdlmhmmhdbbliaaGreatDoorW01
import Derived.Test.YtdlmhmmhdbbliaaGreatDoorW12
import Derived.Test.YtdlmhmmhdbbliaaGreatDoorW06
import Derived.LoopN
import Derived.Test.YtdlmhmmhdbbliaaGreatDoorW09
set_option maxHeartbeats 4000000
set_option linter.unusedVariables false
set_option linter.unusedSimpArgs false
namespace Go.Proofs.YtdlmhmmhdbbliaaGreatDoor
open Go.Shelf Go.RowKit Go.Lib
def Zic : Ren where
 f := fun | 156 => 249 | 165 => 257 | 166 => 258 | 169 => 259 | 240 => 262 | 241 => 263 | 276 => 264 | 277 => 265 | n => n
 t := fun | 31 => 30 | 9 => 9 | 3 => 3 | 4 => 4 | 0 => 0 | 20 => 20 | 72 => 343 | 76 => 213 | 70 => 341 | 37 => 24 | 75 => 210 | 127 => 318 | 164 => 349 | 5 => 5 | 80 => 119 | n => n
 g := fun n => n
theorem ZsD : Lays.n156 Tryz.prog Zic where
 mixed := by kernel_rfl
 f156 := Tryz.func249.trans (congrArg some (by kernel_rfl))
 f165 := Tryz.func257.trans (congrArg some (by kernel_rfl))
 f166 := Tryz.func258.trans (congrArg some (by kernel_rfl))
 f169 := Tryz.func259.trans (congrArg some (by kernel_rfl))
 f240 := Tryz.func262.trans (congrArg some (by kernel_rfl))
 f241 := Tryz.func263.trans (congrArg some (by kernel_rfl))
 f276 := Tryz.func264.trans (congrArg some (by kernel_rfl))
 f277 := Tryz.func265.trans (congrArg some (by kernel_rfl))
 t0 := Tryz.underlying0
 a0 := Tryz.isAgg0
 z0 := Tryz.sizeOf0
 v0 := Tryz.zeroValue0
 t3 := Tryz.underlying3
 a3 := Tryz.isAgg3
 z3 := Tryz.sizeOf3
 v3 := Tryz.zeroValue3
 t4 := Tryz.underlying4
 a4 := Tryz.isAgg4
 z4 := Tryz.sizeOf4
 v4 := Tryz.zeroValue4
 t9 := Tryz.underlying9
 a9 := Tryz.isAgg9
 z9 := Tryz.sizeOf9
 v9 := Tryz.zeroValue9
 t20 := Tryz.underlying20
 a20 := Tryz.isAgg20
 z20 := Tryz.sizeOf20
 v20 := Tryz.zeroValue20
 t31 := Tryz.underlying30
 a31 := Tryz.isAgg30
 z31 := Tryz.sizeOf30
 v31 := Tryz.zeroValue30
 t37 := Tryz.underlying24
 a37 := Tryz.isAgg24
 z37 := Tryz.sizeOf24
 v37 := Tryz.zeroValue24
 t70 := Tryz.underlying341
 a70 := Tryz.isAgg341
 z70 := Tryz.sizeOf341
 v70 := Tryz.zeroValue341
 t72 := Tryz.underlying343
 a72 := Tryz.isAgg343
 z72 := Tryz.sizeOf343
 v72 := Tryz.zeroValue343
 t75 := Tryz.underlying210
 a75 := Tryz.isAgg210
 z75 := Tryz.sizeOf210
 v75 := Tryz.zeroValue210
 t76 := Tryz.underlying213
 a76 := Tryz.isAgg213
 z76 := Tryz.sizeOf213
 v76 := Tryz.zeroValue213
 t127 := Tryz.underlying318
 a127 := Tryz.isAgg318
 z127 := Tryz.sizeOf318
 v127 := Tryz.zeroValue318
 t164 := Tryz.underlying349
 a164 := Tryz.isAgg349
 z164 := Tryz.sizeOf349
 v164 := Tryz.zeroValue349
def Znv : Ren where
 f := fun | 99 => 45 | 206 => 83 | n => n
 t := fun | 9 => 9 | 4 => 4 | 3 => 3 | n => n
 g := fun n => n
theorem Zxi : Lays.n99 Tryz.prog Znv where
 mixed := by kernel_rfl
 f99 := Tryz.func45.trans (congrArg some (by kernel_rfl))
 f206 := Tryz.func83.trans (congrArg some (by kernel_rfl))
 t3 := Tryz.underlying3
 a3 := Tryz.isAgg3
 z3 := Tryz.sizeOf3
 v3 := Tryz.zeroValue3
 t4 := Tryz.underlying4
 a4 := Tryz.isAgg4
 z4 := Tryz.sizeOf4
 v4 := Tryz.zeroValue4
 t9 := Tryz.underlying9
 a9 := Tryz.isAgg9
 z9 := Tryz.sizeOf9
 v9 := Tryz.zeroValue9
def ZhY : Ren where
 f := fun | 14 => 223 | 16 => 202 | 17 => 166 | 19 => 225 | 20 => 226 | 21 => 203 | 22 => 204 | 23 => 205 | 24 => 206 | 25 => 227 | 27 => 16 | 26 => 228 | 28 => 51 | 29 => 86 | 30 => 126 | 31 => 127 | 32 => 128 | 33 => 129 | 35 => 169 | 34 => 168 | 36 => 170 | 37 => 171 | 38 => 172 | 39 => 207 | 40 => 208 | n => n
 t := fun | 9 => 9 | 3 => 3 | 22 => 216 | 24 => 210 | 25 => 287 | 4 => 4 | 34 => 286 | 5 => 5 | 36 => 255 | 37 => 24 | 0 => 0 | 39 => 289 | 21 => 21 | 44 => 310 | 47 => 318 | 50 => 321 | 48 => 319 | 2 => 2 | 52 => 215 | 55 => 219 | 59 => 253 | 60 => 54 | 20 => 20 | 61 => 254 | 65 => 312 | 66 => 313 | 67 => 119 | n => n
 g := fun | 0 => 10 | 1 => 11 | 2 => 5 | 3 => 12 | 4 => 13 | n => n
theorem Zyu : LaysPu.n14 Tryz.prog ZhY where
 mixed := by kernel_rfl
 f14 := Tryz.func223.trans (congrArg some (by kernel_rfl))
 f16 := Tryz.func202.trans (congrArg some (by kernel_rfl))
 f17 := Tryz.func166.trans (congrArg some (by kernel_rfl))
 f19 := Tryz.func225.trans (congrArg some (by kernel_rfl))
 f20 := Tryz.func226.trans (congrArg some (by kernel_rfl))
 f21 := Tryz.func203.trans (congrArg some (by kernel_rfl))
 f22 := Tryz.func204.trans (congrArg some (by kernel_rfl))
 f23 := Tryz.func205.trans (congrArg some (by kernel_rfl))
 f24 := Tryz.func206.trans (congrArg some (by kernel_rfl))
 f25 := Tryz.func227.trans (congrArg some (by kernel_rfl))
 f26 := Tryz.func228.trans (congrArg some (by kernel_rfl))
 f27 := Tryz.func16.trans (congrArg some (by kernel_rfl))
 f28 := Tryz.func51.trans (congrArg some (by kernel_rfl))
 f29 := Tryz.func86.trans (congrArg some (by kernel_rfl))
 f30 := Tryz.func126.trans (congrArg some (by kernel_rfl))
 f31 := Tryz.func127.trans (congrArg some (by kernel_rfl))
 f32 := Tryz.func128.trans (congrArg some (by kernel_rfl))
 f33 := Tryz.func129.trans (congrArg some (by kernel_rfl))
 f34 := Tryz.func168.trans (congrArg some (by kernel_rfl))
 f35 := Tryz.func169.trans (congrArg some (by kernel_rfl))
 f36 := Tryz.func170.trans (congrArg some (by kernel_rfl))
 f37 := Tryz.func171.trans (congrArg some (by kernel_rfl))
 f38 := Tryz.func172.trans (congrArg some (by kernel_rfl))
 f39 := Tryz.func207.trans (congrArg some (by kernel_rfl))
 f40 := Tryz.func208.trans (congrArg some (by kernel_rfl))
 t0 := Tryz.underlying0
 a0 := Tryz.isAgg0
 z0 := Tryz.sizeOf0
 v0 := Tryz.zeroValue0
 t2 := Tryz.underlying2
 a2 := Tryz.isAgg2
 z2 := Tryz.sizeOf2
 v2 := Tryz.zeroValue2
 t3 := Tryz.underlying3
 a3 := Tryz.isAgg3
 z3 := Tryz.sizeOf3
 v3 := Tryz.zeroValue3
 t4 := Tryz.underlying4
 a4 := Tryz.isAgg4
 z4 := Tryz.sizeOf4
 v4 := Tryz.zeroValue4
 t5 := Tryz.underlying5
 a5 := Tryz.isAgg5
 z5 := Tryz.sizeOf5
 v5 := Tryz.zeroValue5
 t9 := Tryz.underlying9
 a9 := Tryz.isAgg9
 z9 := Tryz.sizeOf9
 v9 := Tryz.zeroValue9
 t20 := Tryz.underlying20
 a20 := Tryz.isAgg20
 z20 := Tryz.sizeOf20
 v20 := Tryz.zeroValue20
 t21 := Tryz.underlying21
 a21 := Tryz.isAgg21
 z21 := Tryz.sizeOf21
 v21 := Tryz.zeroValue21
 t22 := Tryz.underlying216
 a22 := Tryz.isAgg216
 z22 := Tryz.sizeOf216
 v22 := Tryz.zeroValue216
 t24 := Tryz.underlying210
 a24 := Tryz.isAgg210
 z24 := Tryz.sizeOf210
 v24 := Tryz.zeroValue210
 t25 := Tryz.underlying287
 a25 := Tryz.isAgg287
 z25 := Tryz.sizeOf287
 v25 := Tryz.zeroValue287
 t34 := Tryz.underlying286
 a34 := Tryz.isAgg286
 z34 := Tryz.sizeOf286
 v34 := Tryz.zeroValue286
 t36 := Tryz.underlying255
 a36 := Tryz.isAgg255
 z36 := Tryz.sizeOf255
 v36 := Tryz.zeroValue255
 t37 := Tryz.underlying24
 a37 := Tryz.isAgg24
 z37 := Tryz.sizeOf24
 v37 := Tryz.zeroValue24
 t39 := Tryz.underlying289
 a39 := Tryz.isAgg289
 z39 := Tryz.sizeOf289
 v39 := Tryz.zeroValue289
 t44 := Tryz.underlying310
 a44 := Tryz.isAgg310
 z44 := Tryz.sizeOf310
 v44 := Tryz.zeroValue310
 t47 := Tryz.underlying318
 a47 := Tryz.isAgg318
 z47 := Tryz.sizeOf318
 v47 := Tryz.zeroValue318
 t48 := Tryz.underlying319
 a48 := Tryz.isAgg319
 z48 := Tryz.sizeOf319
 v48 := Tryz.zeroValue319
 t50 := Tryz.underlying321
 a50 := Tryz.isAgg321
 z50 := Tryz.sizeOf321
 v50 := Tryz.zeroValue321
 t52 := Tryz.underlying215
 a52 := Tryz.isAgg215
 z52 := Tryz.sizeOf215
 v52 := Tryz.zeroValue215
 t55 := Tryz.underlying219
 a55 := Tryz.isAgg219
 z55 := Tryz.sizeOf219
 v55 := Tryz.zeroValue219
 t59 := Tryz.underlying253
 a59 := Tryz.isAgg253
 z59 := Tryz.sizeOf253
 v59 := Tryz.zeroValue253
 t60 := Tryz.underlying54
 a60 := Tryz.isAgg54
 z60 := Tryz.sizeOf54
 v60 := Tryz.zeroValue54
 t61 := Tryz.underlying254
 a61 := Tryz.isAgg254
 z61 := Tryz.sizeOf254
 t65 := Tryz.underlying312
 a65 := Tryz.isAgg312
 z65 := Tryz.sizeOf312
 v65 := Tryz.zeroValue312
 t66 := Tryz.underlying313
 a66 := Tryz.isAgg313
 z66 := Tryz.sizeOf313
 v66 := Tryz.zeroValue313
 t67 := Tryz.underlying119
 a67 := Tryz.isAgg119
 z67 := Tryz.sizeOf119
 v67 := Tryz.zeroValue119
 i0 := by kernel_rfl
 i2 := by kernel_rfl
 i3 := by kernel_rfl
 i4 := by kernel_rfl
 i5 := by kernel_rfl
 i9 := by kernel_rfl
 i20 := by kernel_rfl
 i21 := by kernel_rfl
 i22 := by kernel_rfl
 i24 := by kernel_rfl
 i25 := by kernel_rfl
 i34 := by kernel_rfl
 c34 := by kernel_rfl
 i36 := by kernel_rfl
 i37 := by kernel_rfl
 i39 := by kernel_rfl
 i44 := by kernel_rfl
 i47 := by kernel_rfl
 i48 := by kernel_rfl
 i50 := by kernel_rfl
 i52 := by kernel_rfl
 i55 := by kernel_rfl
 i59 := by kernel_rfl
 i60 := by kernel_rfl
 i65 := by kernel_rfl
 i66 := by kernel_rfl
 i67 := by kernel_rfl
 g0 := by kernel_rfl
 m0 := by kernel_rfl
 g1 := by kernel_rfl
 m1 := by kernel_rfl
 g2 := by kernel_rfl
 m2 := by kernel_rfl
 g3 := by kernel_rfl
 m3 := by kernel_rfl
 g4 := by kernel_rfl
 m4 := by kernel_rfl
def ZjY : Ren where
 f := fun | 145 => 153 | 220 => 192 | 219 => 222 | 217 => 224 | 225 => 201 | 224 => 200 | 267 => 235 | 266 => 236 | 314 => 251 | n => n
 t := fun | 9 => 9 | 4 => 4 | 59 => 186 | 3 => 3 | 5 => 5 | 46 => 255 | 146 => 333 | 51 => 54 | n => n
 g := fun | 1 => 9 | n => n
theorem Zwe : LaysM.n145 Tryz.prog ZjY where
 mixed := by kernel_rfl
 f145 := Tryz.func153.trans (congrArg some (by kernel_rfl))
 f217 := Tryz.func224.trans (congrArg some (by kernel_rfl))
 f219 := Tryz.func222.trans (congrArg some (by kernel_rfl))
 f220 := Tryz.func192.trans (congrArg some (by kernel_rfl))
 f224 := Tryz.func200.trans (congrArg some (by kernel_rfl))
 f225 := Tryz.func201.trans (congrArg some (by kernel_rfl))
 f266 := Tryz.func236.trans (congrArg some (by kernel_rfl))
 f267 := Tryz.func235.trans (congrArg some (by kernel_rfl))
 f314 := Tryz.func251.trans (congrArg some (by kernel_rfl))
 t3 := Tryz.underlying3
 a3 := Tryz.isAgg3
 z3 := Tryz.sizeOf3
 v3 := Tryz.zeroValue3
 t4 := Tryz.underlying4
 a4 := Tryz.isAgg4
 z4 := Tryz.sizeOf4
 v4 := Tryz.zeroValue4
 t5 := Tryz.underlying5
 a5 := Tryz.isAgg5
 z5 := Tryz.sizeOf5
 v5 := Tryz.zeroValue5
 t9 := Tryz.underlying9
 a9 := Tryz.isAgg9
 z9 := Tryz.sizeOf9
 v9 := Tryz.zeroValue9
 t46 := Tryz.underlying255
 a46 := Tryz.isAgg255
 z46 := Tryz.sizeOf255
 v46 := Tryz.zeroValue255
 t51 := Tryz.underlying54
 a51 := Tryz.isAgg54
 z51 := Tryz.sizeOf54
 v51 := Tryz.zeroValue54
 t59 := Tryz.underlying186
 a59 := Tryz.isAgg186
 z59 := Tryz.sizeOf186
 v59 := Tryz.zeroValue186
 t146 := Tryz.underlying333
 a146 := Tryz.isAgg333
 z146 := Tryz.sizeOf333
 v146 := Tryz.zeroValue333
 g1 := by kernel_rfl
 i3 := by kernel_rfl
 i4 := by kernel_rfl
 i5 := by kernel_rfl
 i9 := by kernel_rfl
 i46 := by kernel_rfl
 i51 := by kernel_rfl
 i59 := by kernel_rfl
 i146 := by kernel_rfl
 m1 := by kernel_rfl
 s1_3 := fun w h => cell_of_shapedOpen_int (zero := #[.int .i64 0]) h (by decide) (by kernel_rfl) rfl (by kernel_rfl) (by kernel_rfl) Tryz.underlying3
def ZqE : Ren where
 f := fun | 15 => 115 | 20 => 160 | n => n
 t := fun | 9 => 9 | 23 => 165 | 3 => 3 | 4 => 4 | 0 => 0 | 21 => 21 | n => n
 g := fun n => n
theorem ZyJ : LaysGw.n15 Tryz.prog ZqE where
 mixed := by kernel_rfl
 f15 := Tryz.func115.trans (congrArg some (by kernel_rfl))
 f20 := Tryz.func160.trans (congrArg some (by kernel_rfl))
 t0 := Tryz.underlying0
 a0 := Tryz.isAgg0
 z0 := Tryz.sizeOf0
 v0 := Tryz.zeroValue0
 t3 := Tryz.underlying3
 a3 := Tryz.isAgg3
 z3 := Tryz.sizeOf3
 v3 := Tryz.zeroValue3
 t4 := Tryz.underlying4
 a4 := Tryz.isAgg4
 z4 := Tryz.sizeOf4
 v4 := Tryz.zeroValue4
 t9 := Tryz.underlying9
 a9 := Tryz.isAgg9
 z9 := Tryz.sizeOf9
 v9 := Tryz.zeroValue9
 t21 := Tryz.underlying21
 a21 := Tryz.isAgg21
 z21 := Tryz.sizeOf21
 v21 := Tryz.zeroValue21
 t23 := Tryz.underlying165
 a23 := Tryz.isAgg165
 z23 := Tryz.sizeOf165
 v23 := Tryz.zeroValue165
 i0 := by kernel_rfl
 i3 := by kernel_rfl
 i4 := by kernel_rfl
 i9 := by kernel_rfl
 i21 := by kernel_rfl
 i23 := by kernel_rfl
theorem Zma : Builder.Extra Tryz.prog Zic where
 sizeBuilder := by kernel_rfl
 liesBuilder := by kernel_rfl
 t5 := Tryz.underlying5
 a5 := Tryz.isAgg5
 z5 := Tryz.sizeOf5
 v5 := Tryz.zeroValue5
 infoByte := by kernel_rfl
 cellsByte := by kernel_rfl
 sizeByte := by kernel_rfl
 neB5 := by decide
end Go.Proofs.YtdlmhmmhdbbliaaGreatDoor
namespace Go.Wk
open Go Go.RowKit
theorem Zpn (p : List UInt8) : ∀ (f acc : List UInt8), Zdj p f acc = if 0 <= Lib.index f p then some (acc ++ f.take (Lib.index f p).toNat, f.drop ((Lib.index f p).toNat + p.length)) else none
 | [], acc => by
  simp only [Zdj, Lib.index, List.isEmpty_iff]
  by_cases h : p = []
  ·simp [h]
  ·rw [if_neg h, if_neg h]; rfl
 | c :: l, acc => by
  by_cases h : p.isPrefixOf (c :: l) = true
  ·simp [Zdj, Lib.index, h]
  ·have e0 : Lib.index (c :: l) p = if (Lib.index l p == -1) = true then -1 else Lib.index l p + 1 := by rw [Lib.index, if_neg h]
   generalize hI : Lib.index (c :: l) p = I at *
   subst e0
   rw [Zdj, if_neg h, Zpn p l]
   clear hI
   have hge := Lib.index_ge l p
   by_cases h2 : Lib.index l p = -1
   ·simp [h2]
   ·rw [if_pos (show 0 <= Lib.index l p by omega)]
    have hb : (Lib.index l p == -1) = false := by simpa using h2
    rw [hb]
    simp only [Bool.false_eq_true, if_false]
    rw [if_pos (show 0 <= Lib.index l p + 1 by omega)]
    have e : (Lib.index l p + 1).toNat = (Lib.index l p).toNat + 1 := by omega
    rw [e, show (Lib.index l p).toNat + 1 + p.length = ((Lib.index l p).toNat + p.length) + 1 by omega]
    simp
def cutV (f p : List UInt8) : List UInt8 × List UInt8 × Bool := match Zdj p f [] with | some (a, b) => (a, b, true) | none => (f, [], false)
theorem ZxF (f p : List UInt8) : Lib.cut f p = cutV f p := by
 unfold Lib.cut cutV
 rw [Zpn]
 by_cases h : 0 <= Lib.index f p
 ·rw [if_pos h, if_pos h]; rfl
 ·rw [if_neg h, if_neg h]
theorem Zmz {p f acc a b : List UInt8} (h : Zdj p f acc = some (a, b)) : a.length + b.length + p.length <= acc.length + f.length := by
 induction f generalizing acc with
 | nil =>
  simp only [Zdj] at h
  split at h
  ·rename_i hp; simp only [Option.some.injEq, Prod.mk.injEq] at h; obtain ⟨rfl, rfl⟩ := h; simp [hp]
  ·cases h
 | cons c l ih =>
  simp only [Zdj] at h
  split at h
  ·rename_i hp
   simp only [Option.some.injEq, Prod.mk.injEq] at h
   obtain ⟨rfl, rfl⟩ := h
   have := List.IsPrefix.length_le (List.isPrefixOf_iff_prefix.1 hp)
   rw [List.length_drop]
   omega
  ·have := ih h
   simp only [List.length_append, List.length_cons, List.length_nil] at this ⊢
   omega
def Zc0 (r : Zaa) (least : Int) : Nat -> Bool
 | 0 => Zb6 r.from_ && (Zb6 r.to || decide (r.to = 1048576))
 | 1 => decide (r.from_ <= r.to)
 | 2 => ZfH r.from_ r.to r.month r.day
 | 3 => ZfM r.at_ least
 | 4 => decide (-10800 <= r.save) && decide (r.save <= 10800)
 | _ => decide (r.letter = ByteArray.empty) || Zh8 r.letter
theorem Zk9 {P : Program} {n : Nat} {wr : World} {fr : Fr} {O : List It} {ty t t' : TypeId} {x y : Operand} {i j m : Int} (hx : ev fr x = some (.int .i64 i)) (hy : ev fr y = some (.int .i64 j)) (hm : IntKind.i64.wrap (i + j) = m) : Pu P n wr fr O (.binOp .add t x y t') ty (.int .i64 m) := hm ▸ Zla hx hy
end Go.Wk
namespace Go.Proofs.YtdlmhmmhdbbliaaGreatDoor
open Go Go.RowKit Go.Wk
attribute [local irreducible] W RL Does Zau Zaj retQ Calls Pu Stp RD Qy Ay Zak ZcU
theorem Zh1 (y : Int) (w : World) : Does Tryz.prog 307 [.int .i64 y] w (fun v O => v = .bool (Zb6 y) /\ O = []) := by
 refine Zab Tryz.func307 rfl rfl rfl rfl ?_
 repeat' (first | refine walk ?_ | refine und ?_ | (refine Zas rfl rfl rfl (fun hc => ?_) (fun hc => ?_)) | (refine Zar rfl rfl rfl (fun hc => ?_) (fun hc => ?_)) | (refine Zaf rfl (fun hc => ?_) (fun hc => ?_)))
 all_goals first | (refine ret_1 _ [] (.tmp rfl) .nil ⟨?_, rfl⟩; first | rfl | (simp only [*, Bool.true_and, Bool.false_and, Bool.true_or, Bool.false_or, Bool.not_true, Bool.not_false]; done) | (simp_all [Zb6]; done) | (simp_all [Zb6]; omega) | (simp_all [Zb6]; rw [Bool.eq_iff_iff]; simp; omega)) | (exfalso; simp_all [Zb6]; done) | (exfalso; simp_all [Zb6]; omega) | (exfalso; omega)
theorem Zp4 (c : ZeK) (least : Int) (hl : -9223372036854775808 <= least /\ least <= 0) (w : World) : Does Tryz.prog 312 [.agg (ZeK.enc c).toArray, .int .i64 least] w (fun v O => v = .bool (ZfM c least) /\ O = []) := by
 by_cases hc : ZaL c = true
 ·have hb : -604799 <= c.sec /\ c.sec <= 604799 := by
   simp only [ZaL, Bool.and_eq_true, decide_eq_true_eq] at hc
   omega
  obtain ⟨m, hm⟩ : ∃ m, IntKind.i64.wrap (c.sec + least) = m := ⟨_, rfl⟩
  have hmm : (decide (-86400 <= m) && decide (m <= 172800)) = (decide (-86400 <= c.sec + least) && decide (c.sec + least <= 172800)) := by
   have hw : IntKind.i64.wrap (c.sec + least) = if c.sec + least < -9223372036854775808 then c.sec + least + 18446744073709551616 else c.sec + least := by
    rw [IntKind.wrap_i64]
    repeat' split
    all_goals omega
   rw [hw] at hm
   rw [Bool.eq_iff_iff]
   simp only [Bool.and_eq_true, decide_eq_true_eq]
   split at hm <;> omega
  have hT : ZfM c least = (ZaL c && (if c.base = 1 then (decide (-86400 <= m) && decide (m <= 172800)) else (decide (-86400 <= c.sec) && decide (c.sec <= 172800)))) := by
   unfold ZfM
   dsimp only
   congr 1
   by_cases hb1 : c.base = 1
   ·rw [if_pos hb1, if_pos hb1, hmm]
   ·rw [if_neg hb1, if_neg hb1]
  rw [hT]
  clear hT hmm
  have hcs := Zcb c
  rw [hc] at hcs ⊢
  obtain ⟨s, b⟩ := c
  simp only at *
  show Does _ _ [.agg #[.int .i64 s, .int .i64 b], .int .i64 least] w _
  refine Zab Tryz.func312 rfl rfl rfl rfl ?_
  repeat' (first | (apply RL_pu; rfl; (apply Zk9; rfl; rfl; exact hm)) | (refine js ?_; (first | (refine Zac (fun w' _ => hcs w') ?_) | (refine bx ?_; intro bk))) | refine walk1 ?_ | refine und ?_ | (refine Zas rfl rfl rfl (fun hc => ?_) (fun hc => ?_)) | (refine Zar rfl rfl rfl (fun hc => ?_) (fun hc => ?_)) | (refine Zaf rfl (fun hc => ?_) (fun hc => ?_)))
  all_goals exact clo1
 ·unfold ZfM
  have hcs := Zcb c
  rw [Bool.not_eq_true] at hc
  rw [hc] at hcs ⊢
  obtain ⟨s, b⟩ := c
  simp only at *
  show Does _ _ [.agg #[.int .i64 s, .int .i64 b], .int .i64 least] w _
  refine Zab Tryz.func312 rfl rfl rfl rfl ?_
  repeat' (first | (refine js ?_; (first | (refine Zac (fun w' _ => hcs w') ?_) | (refine bx ?_; intro bk))) | refine walk ?_ | refine und ?_ | (refine Zas rfl rfl rfl (fun hc => ?_) (fun hc => ?_)) | (refine Zar rfl rfl rfl (fun hc => ?_) (fun hc => ?_)) | (refine Zaf rfl (fun hc => ?_) (fun hc => ?_)))
  all_goals exact clo1
theorem Zq3 (r : Zaa) (least : Int) (w : World) : Does Tryz.prog 306 [.agg (Zaa.enc r).toArray, .int .i64 least] w (fun v O => v = .bool (Zc0 r least 0) /\ O = []) := by
 unfold Zc0
 have h1 := Zh1 r.from_
 have h2 := Zh1 r.to
 generalize Zb6 r.from_ = x1 at *
 generalize Zb6 r.to = x2 at *
 obtain ⟨nm, fr, to, mo, ⟨dk, dw, dd⟩, ⟨cs, cb⟩, sv, le⟩ := r
 simp only at *
 show Does _ _ [.agg #[.string nm, .int .i64 fr, .int .i64 to, .int .i64 mo, .int .i64 dk, .int .i64 dw, .int .i64 dd, .int .i64 cs, .int .i64 cb, .int .i64 sv, .string le], .int .i64 least] w _
 refine Zab Tryz.func306 rfl rfl rfl rfl ?_
 repeat' (first | (refine js ?_; (first | (refine Zac (fun w' _ => h1 w') ?_) | (refine Zac (fun w' _ => h2 w') ?_) | (refine bx ?_; intro bk))) | refine walk ?_ | refine und ?_ | (refine Zas rfl rfl rfl (fun hc => ?_) (fun hc => ?_)) | (refine Zar rfl rfl rfl (fun hc => ?_) (fun hc => ?_)) | (refine Zaf rfl (fun hc => ?_) (fun hc => ?_)))
 all_goals exact clo1
theorem Zq2 (r : Zaa) (least : Int) (w : World) : Does Tryz.prog 308 [.agg (Zaa.enc r).toArray, .int .i64 least] w (fun v O => v = .bool (Zc0 r least 1) /\ O = []) := by
 unfold Zc0
 obtain ⟨nm, fr, to, mo, ⟨dk, dw, dd⟩, ⟨cs, cb⟩, sv, le⟩ := r
 simp only at *
 show Does _ _ [.agg #[.string nm, .int .i64 fr, .int .i64 to, .int .i64 mo, .int .i64 dk, .int .i64 dw, .int .i64 dd, .int .i64 cs, .int .i64 cb, .int .i64 sv, .string le], .int .i64 least] w _
 refine Zab Tryz.func308 rfl rfl rfl rfl ?_
 repeat' (first | (refine js ?_; (refine bx ?_; intro bk)) | refine walk ?_ | (refine Zaf rfl (fun hc => ?_) (fun hc => ?_)))
 all_goals exact clo1
theorem Zq1 (r : Zaa) (least : Int) (w : World) (hG : Glob w) : Does Tryz.prog 309 [.agg (Zaa.enc r).toArray, .int .i64 least] w (fun v O => v = .bool (Zc0 r least 2) /\ O = []) := by
 unfold Zc0
 have h1 := fun w' hw => Zob r.from_ r.to r.month r.day w' (Glob.up (w' := w') hG hw)
 generalize ZfH r.from_ r.to r.month r.day = x1 at *
 obtain ⟨nm, fr, to, mo, ⟨dk, dw, dd⟩, ⟨cs, cb⟩, sv, le⟩ := r
 simp only at *
 show Does _ _ [.agg #[.string nm, .int .i64 fr, .int .i64 to, .int .i64 mo, .int .i64 dk, .int .i64 dw, .int .i64 dd, .int .i64 cs, .int .i64 cb, .int .i64 sv, .string le], .int .i64 least] w _
 refine Zab Tryz.func309 rfl rfl rfl rfl ?_
 repeat' (first | (refine js ?_; (first | (refine Zac h1 ?_) | (refine bx ?_; intro bk))) | refine walk ?_ | (refine Zaf rfl (fun hc => ?_) (fun hc => ?_)))
 all_goals exact clo1
theorem Zq0 (r : Zaa) (least : Int) (hl : -9223372036854775808 <= least /\ least <= 0) (w : World) : Does Tryz.prog 311 [.agg (Zaa.enc r).toArray, .int .i64 least] w (fun v O => v = .bool (Zc0 r least 3) /\ O = []) := by
 unfold Zc0
 have h1 := Zp4 r.at_ least hl
 generalize ZfM r.at_ least = x1 at *
 obtain ⟨nm, fr, to, mo, ⟨dk, dw, dd⟩, ⟨cs, cb⟩, sv, le⟩ := r
 simp only at *
 show Does _ _ [.agg #[.string nm, .int .i64 fr, .int .i64 to, .int .i64 mo, .int .i64 dk, .int .i64 dw, .int .i64 dd, .int .i64 cs, .int .i64 cb, .int .i64 sv, .string le], .int .i64 least] w _
 refine Zab Tryz.func311 rfl rfl rfl rfl ?_
 repeat' (first | (refine js ?_; (first | (refine Zac (fun w' hw => h1 w') ?_) | (refine bx ?_; intro bk))) | refine walk ?_ | (refine Zaf rfl (fun hc => ?_) (fun hc => ?_)))
 all_goals exact clo1
theorem ZqZ (r : Zaa) (least : Int) (w : World) : Does Tryz.prog 313 [.agg (Zaa.enc r).toArray, .int .i64 least] w (fun v O => v = .bool (Zc0 r least 4) /\ O = []) := by
 unfold Zc0
 obtain ⟨nm, fr, to, mo, ⟨dk, dw, dd⟩, ⟨cs, cb⟩, sv, le⟩ := r
 simp only at *
 show Does _ _ [.agg #[.string nm, .int .i64 fr, .int .i64 to, .int .i64 mo, .int .i64 dk, .int .i64 dw, .int .i64 dd, .int .i64 cs, .int .i64 cb, .int .i64 sv, .string le], .int .i64 least] w _
 refine Zab Tryz.func313 rfl rfl rfl rfl ?_
 repeat' (first | (refine js ?_; (refine bx ?_; intro bk)) | refine walk ?_ | refine und ?_ | (refine Zas rfl rfl rfl (fun hc => ?_) (fun hc => ?_)) | (refine Zar rfl rfl rfl (fun hc => ?_) (fun hc => ?_)) | (refine Zaf rfl (fun hc => ?_) (fun hc => ?_)))
 all_goals exact clo1
theorem ZqY (r : Zaa) (least : Int) (hs : (r.letter.size : Int) <= 9223372036854775807) (w : World) : Does Tryz.prog 314 [.agg (Zaa.enc r).toArray, .int .i64 least] w (fun v O => v = .bool (Zc0 r least 5) /\ O = []) := by
 unfold Zc0
 rw [show ByteArray.empty = ⟨#[]⟩ from rfl]
 have h1 := ZnJ r.letter hs
 generalize Zh8 r.letter = x1 at *
 obtain ⟨nm, fr, to, mo, ⟨dk, dw, dd⟩, ⟨cs, cb⟩, sv, le⟩ := r
 simp only at *
 show Does _ _ [.agg #[.string nm, .int .i64 fr, .int .i64 to, .int .i64 mo, .int .i64 dk, .int .i64 dw, .int .i64 dd, .int .i64 cs, .int .i64 cb, .int .i64 sv, .string le], .int .i64 least] w _
 refine Zab Tryz.func314 rfl rfl rfl rfl ?_
 repeat' (first | (refine js ?_; (first | (refine Zac (fun w' hw => h1 w') ?_) | (refine bx ?_; intro bk))) | refine walk ?_ | refine und ?_ | (refine Zas rfl rfl rfl (fun hc => ?_) (fun hc => ?_)) | (refine Zar rfl rfl rfl (fun hc => ?_) (fun hc => ?_)) | (refine Zaf rfl (fun hc => ?_) (fun hc => ?_)))
 all_goals exact clo1
theorem Zjv (r : Zaa) (w : World) : Does Tryz.prog 213 [.agg (Zaa.enc r).toArray] w (fun v O => v = .bool (Zd8 r) /\ O = []) := by
 unfold Zd8
 obtain ⟨nm, fr, to, mo, ⟨dk, dw, dd⟩, ⟨cs, cb⟩, sv, le⟩ := r
 simp only at *
 show Does _ _ [.agg #[.string nm, .int .i64 fr, .int .i64 to, .int .i64 mo, .int .i64 dk, .int .i64 dw, .int .i64 dd, .int .i64 cs, .int .i64 cb, .int .i64 sv, .string le]] w _
 refine Zab Tryz.func213 rfl rfl rfl rfl ?_
 repeat' (first | (apply RL_pu; rfl; (apply Pu_rem; rfl; rfl; decide)) | (refine js ?_; (refine bx ?_; intro bk)) | refine walk1 ?_ | refine und ?_ | (refine Zas rfl rfl rfl (fun hc => ?_) (fun hc => ?_)) | (refine Zar rfl rfl rfl (fun hc => ?_) (fun hc => ?_)) | (refine Zaf rfl (fun hc => ?_) (fun hc => ?_)))
 all_goals exact clo1
theorem ZcK (A : Option Addr) (c : Nat) (l : List Zaa) (w : World) (hA : RdSl w A c Zaa.enc 11 l) : Does Tryz.prog 92 [.slice A l.length c] w (fun v O => v = .int .i64 (Zah l) /\ O = []) := by
 have hle := hA.le
 have hcp := hA.cap
 unfold maxLen at hcp
 generalize hres : Zah l = res
 unfold Zah at hres
 refine Zab Tryz.func92 rfl rfl rfl rfl ?_
 repeat (first | (refine js ?_; (refine bx ?_; intro bk)) | refine walk ?_)
 refine Zao [(6, _), (7, _)] [] (fun g : Nat × Int => [(3, .int .i64 g.2), (8, .int .i64 g.1)]) (fun _ => []) (fun g => g.1 <= l.length /\ (l.drop g.1).foldl (fun m r => min m r.save) g.2 = res) (fun g => l.length - g.1) (0, 0) SFA SOA ⟨Nat.zero_le _, hres⟩ ?_
 rintro ⟨k, m⟩ ⟨hk, hi⟩
 dsimp only at hk hi ⊢
 repeat (first | (refine js ?_; (refine bx ?_; intro bk)) | refine walk ?_)
 refine Zaf rfl (fun h => ?_) (fun h => ?_)
 ·have hlt : k < l.length := by simpa using h
  obtain ⟨hna, hca⟩ := hA.rd k _ (List.getElem?_eq_getElem hlt)
  rw [Zan hlt] at hi
  generalize l[k] = r at *
  obtain ⟨nm, fr, to, mo, ⟨dk, dw, dd⟩, ⟨cs, cb⟩, sv, le⟩ := r
  simp only [Zaa.enc, List.foldl_cons] at hca hi
  repeat (first | (apply RL_pu; rfl; (first | exact PuI | (apply ZeH; rfl; rfl))) | (refine js ?_; (refine bx ?_; intro bk)) | refine walk1 ?_)
  rw [show (if sv < m then sv else m) = min m sv by split <;> omega]
  exact ⟨(k + 1, min m sv), OA, ⟨OA, hi⟩, SFA, .nil⟩
 ·have hkl : k = l.length := by
   have := of_decide_eq_false h
   omega
  subst hkl
  rw [List.drop_length] at hi
  repeat (first | (refine js ?_; (refine bx ?_; intro bk)) | refine walk ?_)
  exact ret_1 _ [] (.tmp rfl) .nil ⟨by rw [<- hi]; rfl, rfl⟩
theorem ZjA (A : Option Addr) (c : Nat) (l : List Zaa) (w : World) (hA : RdSl w A c Zaa.enc 11 l) : Does Tryz.prog 137 [.slice A l.length c] w (fun v O => v = .tuple #[.int .i64 (ZcT l).1, .bool (ZcT l).2] /\ O = []) := by
 have hle := hA.le
 have hcp := hA.cap
 unfold maxLen at hcp
 generalize hres : ZcT l = res
 unfold ZcT at hres
 refine Zab Tryz.func137 rfl rfl rfl rfl ?_
 repeat (first | (refine js ?_; (refine bx ?_; intro bk)) | refine walk ?_)
 refine Zao [(7, _), (8, _)] [] (fun g : Nat × Int => [(4, .int .i64 g.2), (9, .int .i64 g.1)]) (fun _ => []) (fun g => g.1 <= l.length /\ Zcu (l.drop g.1) g.2 = res) (fun g => l.length - g.1) (0, 0) SFA SOA ⟨Nat.zero_le _, hres⟩ ?_
 rintro ⟨k, m⟩ ⟨hk, hi⟩
 dsimp only at hk hi ⊢
 repeat (first | (refine js ?_; (refine bx ?_; intro bk)) | refine walk ?_)
 refine Zaf rfl (fun h => ?_) (fun h => ?_)
 ·have hlt : k < l.length := by simpa using h
  obtain ⟨hna, hca⟩ := hA.rd k _ (List.getElem?_eq_getElem hlt)
  rw [Zan hlt, Zcu] at hi
  generalize l[k] = r at *
  obtain ⟨nm, fr, to, mo, ⟨dk, dw, dd⟩, ⟨cs, cb⟩, sv, le⟩ := r
  simp only [Zaa.enc] at hca hi
  repeat (first | (apply RL_pu; rfl; exact PuI) | (refine js ?_; (refine bx ?_; intro bk)) | refine walk1 ?_)
  refine Zaf rfl (fun h1 => ?_) (fun h1 => ?_)
  ·rw [if_pos (of_decide_eq_true h1)] at hi
   repeat (first | (refine js ?_; (refine bx ?_; intro bk)) | refine walk ?_)
   exact ⟨(k + 1, m), OA, ⟨OA, hi⟩, SFA, .nil⟩
  rw [if_neg (of_decide_eq_false h1)] at hi
  repeat' (first | (refine js ?_; (refine bx ?_; intro bk)) | refine walk ?_ | refine und ?_ | (refine Zas rfl rfl rfl (fun hc => ?_) (fun hc => ?_)) | (refine Zar rfl rfl rfl (fun hc => ?_) (fun hc => ?_)) | (refine Zaf rfl (fun hc => ?_) (fun hc => ?_)))
  ·rename_i h0
   simp only [Bool.not_eq_true', decide_eq_false_iff_not] at h0 hc
   rw [if_pos ⟨h0, hc⟩] at hi
   exact ret_2 _ _ [] (.tmp rfl) (.tmp rfl) .nil ⟨by rw [<- hi], rfl⟩
  ·simp only [Bool.not_eq_false', decide_eq_true_eq] at hc
   rw [if_neg (fun e => e.2 hc)] at hi
   exact ⟨(k + 1, sv), OA, ⟨OA, hi⟩, SFA, .nil⟩
  ·simp only [Bool.not_eq_false', decide_eq_true_eq] at hc
   rw [if_neg (fun e => e.1 hc)] at hi
   exact ⟨(k + 1, sv), OA, ⟨OA, hi⟩, SFA, .nil⟩
 ·have hkl : k = l.length := by
   have := of_decide_eq_false h
   omega
  subst hkl
  rw [List.drop_length, Zcu] at hi
  repeat (first | (refine js ?_; (refine bx ?_; intro bk)) | refine walk ?_)
  exact ret_2 _ _ [] (.tmp rfl) (.tmp rfl) .nil ⟨by rw [<- hi], rfl⟩
end Go.Proofs.YtdlmhmmhdbbliaaGreatDoor
namespace Go.Wk
open Go Go.RowKit
section
variable {P : Program} {n : Nat} {wr : World} {fr : Fr} {O : List It} {Q : Exit -> Fr -> List It -> Prop}
def RW (P : Program) (n : Nat) (wr : World) (c : Code) (Q : Exit -> Fr -> List It -> Prop) : Nat -> Fr -> List It -> Prop
 | 0, _, _ => False
 | k + 1, fr, O => W P n wr c (Zau (RW P n wr c Q k) Q) fr O
theorem ZmN {c : Code} : ∀ (k : Nat) (fr : Fr) (O : List It), RW P n wr c Q k fr O -> ∀ a w, St n wr fr O a w -> Code.rounds P c (lift n wr Q) k a w
 | 0, _, _, h, _, _, _ => h
 | k + 1, fr, O, h, a, w, hs => by
  rw [rounds_succ]
  refine wp_mono (h a w hs) ?_
  rintro e a' w' ⟨fr', O', hs', hq⟩
  cases e with
  | normal => exact ZmN k fr' O' hq a' w' hs'
  | _ => exact ⟨fr', O', hs', hq⟩
theorem ZpA {c : Code} (k : Nat) (h : RW P n wr c Q k fr O) : W P n wr (.loop c) Q fr O := fun a w hs => wp_loop_rounds k (ZmN k fr O h a w hs)
theorem Zd3 {c : Code} {k : Nat} (h : W P n wr c (Zau (RW P n wr c Q k) Q) fr O) : RW P n wr c Q (k + 1) fr O := h
theorem Does.monoH {f : FuncId} {args : List Value} {w : World} {R R' : Value -> List It -> Prop} (h : Does P f args w R) (hr : ∀ v O base w', R v O -> Zaw base O w' -> ∃ O', R' v O' /\ Zaw base O' w') : Does P f args w R' :=
 Calls.mono h fun _ _ ⟨v, O, h1, h2, h3, h4⟩ => by
  obtain ⟨O', h5, h6⟩ := hr v O _ _ h4 h3
  exact ⟨v, O', h1, h2, h6, h5⟩
end
section
variable {P : Program} {n : Nat} {wr : World} {fr : Fr} {O : List It} {ty : TypeId}
theorem ZmV {t len e sz : Nat} {x ix : Operand} {kk : IntKind} {i : Int} {cs vs : List Value} [hA : ArrT P t len e sz true] (hx : ev fr x = some (.agg cs.toArray)) (hi : ev fr ix = some (.int kk i)) (h0 : 0 <= i) (h1 : i < len) (hv : (cs.drop (i.toNat * sz)).take sz = vs) :
  Pu P n wr fr O (.index t x ix) ty (.agg vs.toArray) := fun a w hs _ _ _ _ => by
 have h := hA.h
 unfold Zj5 at h
 split at h
 ·rename_i len' e' hu
  split at h
  ·rename_i sz' ag' ht
   simp only [Option.some.injEq, Prod.mk.injEq] at h
   obtain ⟨rfl, rfl, rfl, rfl⟩ := h
   obtain ⟨inf, dd, hinf, hsz, hag, _⟩ := Ty.parts ht
   have : Ty P e' sz' true := ⟨ht⟩
   subst hv
   simp only [execOp, hs.sim.ev hx, hs.sim.ev hi, Instr.index, asIntOf, Sem.run_bind, Sem.run_pure, Result.andThen_ok, run_underlying hu, h0, h1, and_self, if_true, part, Zdp, ZcJ]
   simp [List.take_drop]
  ·cases h
 ·cases h
end
end Go.Wk
namespace Go.Proofs.YtdlmhmmhdbbliaaGreatDoor
open Go Go.RowKit Go.Wk
attribute [local irreducible] W RL Does Zau Zaj retQ Calls Pu Stp RD Qy Ay Zak ZcU
theorem Zip {α : Type} (p : α -> Bool) : ∀ (l : List α) (k : Nat), decide (0 <= ZbS p l k) = l.any p
 | [], k => rfl
 | x :: l, k => by
  rw [ZbS, List.any_cons]
  by_cases h : p x = true
  ·rw [if_pos h, h]; simp
  ·rw [if_neg h, Zip p l (k + 1)]
   simp [h]
theorem ZeB (A : Option Addr) (c : Nat) (l : List Zaa) (f : FuncId) [Body Tryz.prog f] (us cs : List Value) (p : Zaa -> Bool) (w : World) (hA : RdSl w A c Zaa.enc 11 l)
  (hf : ∀ r w', Bel w.heap.size w w' -> Does Tryz.prog f (us ++ [.agg (Zaa.enc r).toArray] ++ cs) w' (fun v O => v = .bool (p r) /\ O = [])) :
  Does Tryz.prog 175 [.slice A l.length c, .func (.func f) us.toArray cs.toArray] w (fun v O => v = .bool (l.any p) /\ O = []) := by
 have h := fun w' (hw : Bel w.heap.size w w') => Zfk A c l f us cs p w' (hA.up hw) fun r w2 h2 => hf r w2 (hw.trans (h2.mono hw.size))
 rw [<- Zip p l 0]
 generalize ZbS p l 0 = k at *
 refine Zab Tryz.func175 rfl rfl rfl rfl ?_
 repeat (first | (refine js ?_; (refine Zac h ?_)) | refine walk ?_)
 exact rtA
theorem Ztb (r : Zaa) (w : World) : Does Tryz.prog 173 [.agg (Zaa.enc r).toArray] w (fun v O => v = .bool (decide (r.save = 0)) /\ O = []) := by
 obtain ⟨nm, fr, to, mo, ⟨dk, dw, dd⟩, ⟨cs, cb⟩, sv, le⟩ := r
 show Does _ _ [.agg #[.string nm, .int .i64 fr, .int .i64 to, .int .i64 mo, .int .i64 dk, .int .i64 dw, .int .i64 dd, .int .i64 cs, .int .i64 cb, .int .i64 sv, .string le]] w _
 refine Zab Tryz.func173 rfl rfl rfl rfl ?_
 repeat' (first | (refine js ?_; (refine bx ?_; intro bk)) | refine walk ?_ | (refine Zaf rfl (fun hc => ?_) (fun hc => ?_)))
 all_goals exact clo1
theorem ZqC (r : Zaa) (w : World) : Does Tryz.prog 212 [.agg (Zaa.enc r).toArray] w (fun v O => v = .bool (!decide (r.to = 1048576)) /\ O = []) := by
 obtain ⟨nm, fr, to, mo, ⟨dk, dw, dd⟩, ⟨cs, cb⟩, sv, le⟩ := r
 show Does _ _ [.agg #[.string nm, .int .i64 fr, .int .i64 to, .int .i64 mo, .int .i64 dk, .int .i64 dw, .int .i64 dd, .int .i64 cs, .int .i64 cb, .int .i64 sv, .string le]] w _
 refine Zab Tryz.func212 rfl rfl rfl rfl ?_
 repeat' (first | (refine js ?_; (refine bx ?_; intro bk)) | refine walk ?_ | (refine Zaf rfl (fun hc => ?_) (fun hc => ?_)))
 all_goals exact clo1
theorem Zta (r : Zaa) (ad : Addr) (m : Int) (w : World) (h : w.cell? ad = some (.int .i64 m)) : Does Tryz.prog 174 [.agg (Zaa.enc r).toArray, .pointer (some ad)] w (fun v O => v = .bool (!decide (r.save = 0) && !decide (r.save = m)) /\ O = []) := by
 obtain ⟨nm, fr, to, mo, ⟨dk, dw, dd⟩, ⟨cs, cb⟩, sv, le⟩ := r
 show Does _ _ [.agg #[.string nm, .int .i64 fr, .int .i64 to, .int .i64 mo, .int .i64 dk, .int .i64 dw, .int .i64 dd, .int .i64 cs, .int .i64 cb, .int .i64 sv, .string le], .pointer (some ad)] w _
 refine Zab Tryz.func174 rfl rfl rfl rfl ?_
 repeat' (first | (apply RL_pu; rfl; (apply Pu_loadO1; rfl; exact h)) | (refine js ?_; (refine bx ?_; intro bk)) | refine walk1 ?_ | refine und ?_ | (refine Zas rfl rfl rfl (fun hc => ?_) (fun hc => ?_)) | (refine Zar rfl rfl rfl (fun hc => ?_) (fun hc => ?_)) | (refine Zaf rfl (fun hc => ?_) (fun hc => ?_)))
 all_goals exact clo1
end Go.Proofs.YtdlmhmmhdbbliaaGreatDoor
namespace Go.Wk
open Go Go.RowKit
theorem Zro (z : Array Value) (k : Nat) (h : z.toList.all Value.oneCell' = true) (h0 : 0 < z.size) : (Builtin.zeroCells z k).toList.all Value.oneCell' = true := by
 rw [List.all_eq_true] at h ⊢
 intro x hx
 unfold Builtin.zeroCells at hx
 rw [Array.toList_map, List.mem_map] at hx
 obtain ⟨i, hi, rfl⟩ := hx
 have hlt := Nat.mod_lt i h0
 rw [getElem!_pos z (i % z.size) hlt]
 exact h _ (by simp)
theorem Zpa : ∀ (vs xs : List Value) (j : Nat), xs.length <= j -> lay xs j vs = xs
 | [], _, _, _ => rfl
 | v :: r, xs, j, h => by rw [lay, List.set_eq_of_length_le h, Zpa r xs (j + 1) (by omega)]
theorem Zv5 : ∀ (vs pre cs post : List Value), cs.length = vs.length -> lay (pre ++ cs ++ post) pre.length vs = pre ++ vs ++ post
 | [], pre, cs, post, h => by
  have : cs = [] := List.eq_nil_of_length_eq_zero h
  rw [this]; rfl
 | v :: r, pre, [], post, h => by simp at h
 | v :: r, pre, c :: cs, post, h => by
  have := Zv5 r (pre ++ [v]) cs post (by simpa using h)
  rw [lay]
  rw [show (pre ++ c :: cs ++ post).set pre.length v = pre ++ [v] ++ cs ++ post by simp]
  rw [List.length_append] at this
  simpa using this
end Go.Wk
namespace Go.Proofs.YtdlmhmmhdbbliaaGreatDoor
open Go Go.RowKit Go.Wk
attribute [local irreducible] W RL Does Zau Zaj retQ Calls Pu Stp RD Qy Ay Zak ZcU
theorem Zio {α : Type} (p : α -> Bool) : ∀ (l : List α) (k : Nat), (ZbS p l k = -1 /\ l.filter (fun r => !p r) = l) \/ ∃ i, ZbS p l k = ((k + i : Nat) : Int) /\ i < l.length /\ (l.take (i + 1)).filter (fun r => !p r) = l.take i
 | [], k => .inl ⟨rfl, rfl⟩
 | x :: l, k => by
  rw [ZbS]
  by_cases h : p x = true
  ·rw [if_pos h]
   exact .inr ⟨0, rfl, by simp, by simp [h]⟩
  ·rw [if_neg h]
   rcases Zio p l (k + 1) with ⟨h1, h2⟩ | ⟨i, h1, h2, h3⟩
   ·exact .inl ⟨h1, by rw [List.filter_cons, if_pos (by simp [h]), h2]⟩
   ·refine .inr ⟨i + 1, by rw [h1]; omega, by simpa using h2, ?_⟩
    rw [List.take_succ_cons, List.filter_cons, if_pos (by simp [h]), h3, List.take_succ_cons]
theorem Zxf {base : Nat} {A : Option Addr} {c : Nat} {l : List Zaa} {w : World} {O R : List It} (h : Zaw base O w) (hp : Pick (rowR A c l) O R) (hlc : l.length <= c) (hcm : c <= maxLen) : RdSl w A c Zaa.enc 11 l :=
 ⟨hlc, hcm, fun k x hk => by
  have hs := h.sat _ (hp.perm.mem_iff.2 List.mem_cons_self)
  have hlt := (List.getElem?_eq_some_iff.1 hk).1
  refine ⟨ZoV hs (by omega), fun j v hj => ?_⟩
  rw [ZaZ]
  exact (ZaU hs (ZaB Zaa.len l k x j v hk hj)).2⟩
instance zeroRule : ZeroV Tryz.prog 82 (.agg #[.string ByteArray.empty, .int .i64 0, .int .i64 0, .int .i64 0, .int .i64 0, .int .i64 0, .int .i64 0, .int .i64 0, .int .i64 0, .int .i64 0, .string ByteArray.empty]) := ⟨by kernel_rfl⟩
structure DG where
 j : Nat
 C : List Zaa
set_option maxHeartbeats 2000000 in
theorem ZnW (A : Option Addr) (c : Nat) (l : List Zaa) (f : FuncId) [Body Tryz.prog f] (p : Zaa -> Bool) (wr : World) (hn : l.length <= 1000000) (hlc : l.length <= c) (hcm : c <= maxLen) (hAn : 0 < l.length -> A ≠ none) (hf : ∀ r w', Does Tryz.prog f [.agg (Zaa.enc r).toArray] w' (fun v O => v = .bool (p r) /\ O = [])) :
  Zak Tryz.prog 210 [.slice A l.length c, .func (.func f) #[] #[]] wr [rowR A c l] (fun v O => v = .slice A (l.filter fun r => !p r).length c /\ O = [rowR A c (l.filter fun r => !p r)]) := by
 have hidx := fun w' (hH : Zaw wr.heap.size [rowR A c l] w') => Zfk A c l f [] [] p w' (Zxf hH .here hlc hcm) fun r w2 _ => hf r w2
 unfold maxLen at hcm
 generalize hres : (l.filter fun r => !p r) = res
 rcases Zio p l 0 with ⟨h1, h2⟩ | ⟨i, h1, h2, h3⟩
 ·rw [h1] at hidx
  rw [h2] at hres
  subst hres
  refine Zbz Tryz.func210 rfl rfl rfl rfl ?_
  repeat (first | (refine js ?_; (first | (apply Zag (h := fun w' _ hH => hidx w' hH); rfl; rintro v O' ⟨rfl, rfl⟩) | (refine bx ?_; intro bk))) | refine walk ?_)
  exact ret_1 _ _ (.tmp rfl) (.refl _) ⟨rfl, rfl⟩
 ·rw [h1, Nat.zero_add] at hidx
  have hA := hAn (by omega)
  obtain ⟨ad, rfl⟩ : ∃ ad, A = some ad := by
   cases A with
   | none => exact absurd rfl hA
   | some ad => exact ⟨ad, rfl⟩
  clear hA hAn
  refine Zbz Tryz.func210 rfl rfl rfl rfl ?_
  repeat (first | (refine js ?_; (first | (apply Zag (h := fun w' _ hH => hidx w' hH); rfl; rintro v O' ⟨rfl, rfl⟩) | (refine bx ?_; intro bk))) | refine Zkq ?_)
  refine ZbZ (fun fr' O' => Go.Wk.Sub [(0, .slice (some ad) l.length c), (5, .int .i64 res.length)] fr' /\ SubO [.row (.slice (some ad) l.length c) 82 11 l.length ((res ++ l.drop res.length).flatMap Zaa.enc)] O') ?_ ?_
  ·apply W_block
   refine Zao [(0, _), (1, _)] [] (fun g : DG => [(5, .int .i64 g.C.length), (6, .int .i64 g.j)]) (fun g => [.row (.slice (some ad) l.length c) 82 11 l.length ((g.C ++ l.drop g.C.length).flatMap Zaa.enc)])
    (fun g => g.C = (l.take g.j).filter (fun r => !p r) /\ g.C.length + 1 <= g.j /\ g.j <= l.length) (fun g => l.length - g.j) ⟨i + 1, l.take i⟩ (by dsimp only; rw [List.length_take, Nat.min_eq_left (by omega)]; exact ⟨rfl, rfl, rfl, rfl, trivial⟩) (by dsimp only; rw [List.length_take, Nat.min_eq_left (by omega), List.take_append_drop]; exact .refl _) ⟨h3.symm, by show (l.take i).length + 1 <= i + 1; rw [List.length_take]; omega, by show i + 1 <= l.length; omega⟩ ?_
   rintro ⟨j, C⟩ ⟨hC, hCj, hj⟩
   dsimp only at hC hCj hj ⊢
   have hLl : (C ++ l.drop C.length).length = l.length := by rw [List.length_append, List.length_drop]; omega
   repeat (first | (refine js ?_; (refine bx ?_; intro bk)) | refine walk ?_)
   refine Zaf rfl (fun g => ?_) (fun g => ?_)
   ·have hjl : j < l.length := by simpa using g
    have hx : ∀ q v, (Zaa.enc l[j])[q]? = some v -> ((C ++ l.drop C.length).flatMap Zaa.enc)[(j : Int).toNat * 11 + q]? = some v := fun q v hv => by
     refine ZaB Zaa.len _ j l[j] q v ?_ hv
     rw [List.getElem?_append_right (by omega), List.getElem?_drop, show C.length + (j - C.length) = j from by omega, List.getElem?_eq_getElem hjl]
    have hst : (l.take (j + 1)).filter (fun r => !p r) = C ++ (if p l[j] then [] else [l[j]]) := by
     rw [List.take_succ_eq_append_getElem hjl, List.filter_append, <- hC]
     by_cases hp : p l[j] = true
     ·simp [hp]
     ·simp [hp]
    have hput : lay ((C ++ l.drop C.length).flatMap Zaa.enc) (C.length * 11) (Zaa.enc l[j]) = ((C ++ [l[j]]) ++ l.drop (C.length + 1)).flatMap Zaa.enc := by
     have hlt : C.length < l.length := by omega
     rw [Zan hlt, show C ++ l[C.length] :: l.drop (C.length + 1) = C ++ [l[C.length]] ++ l.drop (C.length + 1) by simp, List.flatMap_append, List.flatMap_append, List.flatMap_append, List.flatMap_append, List.flatMap_singleton, List.flatMap_singleton]
     have := Zv5 (Zaa.enc l[j]) (C.flatMap Zaa.enc) (Zaa.enc l[C.length]) ((l.drop (C.length + 1)).flatMap Zaa.enc) rfl
     rw [Zba Zaa.len] at this
     exact this
    generalize l[j] = r at *
    obtain ⟨nm, fr, to, mo, ⟨dk, dw, dd⟩, ⟨cs, cb⟩, sv, le⟩ := r
    have hfr := hf ⟨nm, fr, to, mo, ⟨dk, dw, dd⟩, ⟨cs, cb⟩, sv, le⟩
    generalize p ⟨nm, fr, to, mo, ⟨dk, dw, dd⟩, ⟨cs, cb⟩, sv, le⟩ = b at *
    simp only [Zaa.enc] at hx hput hfr
    repeat (first | (apply RL_pu; rfl; (first | (apply Pu_indexAddr; rfl; rfl; omega; omega; nofun) | (apply Za3; rfl; (focus repeat' constructor); exact hx; rfl))) | (refine js ?_; (first | (apply Zaq (f := f) (us := []) (cs := []) (vs := [.agg #[.string nm, .int .i64 fr, .int .i64 to, .int .i64 mo, .int .i64 dk, .int .i64 dw, .int .i64 dd, .int .i64 cs, .int .i64 cb, .int .i64 sv, .string le]]) (h := fun w' hw _ => hfr w'); rfl; rfl; rintro v O' ⟨rfl, rfl⟩) | (refine bx ?_; intro bk))) | refine walk1 ?_)
    refine Zaf rfl (fun g2 => ?_) (fun g2 => ?_)
    ·have hb : b = false := by simpa using g2
     rw [hb, if_neg (by decide)] at hst
     have hfl : ((C ++ l.drop C.length).flatMap Zaa.enc).length = l.length * 11 := by rw [Zba Zaa.len, hLl]
     repeat (first | (apply RL_pu; rfl; (apply Pu_indexAddr; rfl; rfl; omega; omega; nofun)) | (refine js ?_; (first | (apply Zj7 (vs := [.string nm, .int .i64 fr, .int .i64 to, .int .i64 mo, .int .i64 dk, .int .i64 dw, .int .i64 dd, .int .i64 cs, .int .i64 cb, .int .i64 sv, .string le]); rfl; rfl; (focus repeat' constructor); rfl; rfl; rfl; (rw [hfl]; omega); decide; exact hput) | (refine bx ?_; intro bk))) | refine walk1 ?_)
     refine ⟨⟨j + 1, _⟩, OA, ⟨hst.symm, by dsimp only; rw [List.length_append, List.length_singleton]; omega, OA⟩, ?_, ?_⟩
     ·dsimp only
      rw [List.length_append, List.length_singleton]
      exact SFA
     ·dsimp only
      rw [List.length_append, List.length_singleton]
      exact SOA
    ·have hb : b = true := by simpa using g2
     rw [hb, if_pos rfl, List.append_nil] at hst
     repeat (first | (refine js ?_; (refine bx ?_; intro bk)) | refine walk ?_)
     exact ⟨⟨j + 1, C⟩, OA, ⟨hst.symm, OA, OA⟩, SFA, SOA⟩
   ·have hjl : j = l.length := by
     have := of_decide_eq_false g
     omega
    rw [hjl, List.take_length, hres] at hC
    subst hC
    repeat (first | (refine js ?_; (refine bx ?_; intro bk)) | refine walk ?_)
    exact ⟨rfl, SFA, SOA⟩
  rintro fr' O' ⟨hf1, hO⟩
  apply thenQ_n
  refine Zcz hf1 hO ?_
  clear hf1 hO fr' O'
  have hrl : res.length < l.length := by
   have h4 : l.take (i + 1) ++ l.drop (i + 1) = l := List.take_append_drop _ _
   have h5 : res = l.take i ++ (l.drop (i + 1)).filter (fun r => !p r) := by rw [<- hres, <- h3, <- List.filter_append, h4]
   have h6 := List.length_filter_le (fun r => !p r) (l.drop (i + 1))
   rw [List.length_drop] at h6
   have h7 := congrArg List.length h5
   rw [List.length_append, List.length_take] at h7
   omega
  have hLl : ((res ++ l.drop res.length).flatMap Zaa.enc).length = l.length * 11 := by rw [Zba Zaa.len, List.length_append, List.length_drop]; congr 1; omega
  have htk : ∀ vs, (lay ((res ++ l.drop res.length).flatMap Zaa.enc) ((res.length : Int).toNat * 11) vs).take (res.length * 11) = res.flatMap Zaa.enc := fun vs => by
   rw [Zhv, List.flatMap_append, List.take_left' (by rw [Zba Zaa.len])]
   exact Zpa _ _ _ (by rw [Zba Zaa.len]; omega)
  repeat (first | ((apply RL_st0; apply Zrb (p := (res.length : Int).toNat * 11) (k := l.length - (res.length : Int).toNat); rfl; (focus repeat' constructor); exact Zro _ _ rfl (by decide); omega; (rw [hLl]; omega)); refine Zty (m := l.length) res.length (by omega) (by repeat' constructor) ?_; rw [htk]) | (apply RL_pu; rfl; (apply ZtR; rfl; rfl; omega; omega; omega)) | (refine js ?_; (refine bx ?_; intro bk)) | refine walk1 ?_)
  exact ret_1 _ _ (.tmp rfl) (.refl _) ⟨rfl, rfl⟩
attribute [local irreducible] Zd8
def Zzh (l : List Zaa) (v : Value) (O : List It) : Prop := ∃ A c, v = .slice A l.length c /\ O = [rowR A c l] /\ l.length <= c /\ c <= maxLen /\ (0 < l.length -> A ≠ none)
theorem ZkS (A : Option Addr) (c : Nat) (x : List Zaa) (w : World) (hA : RdSl w A c Zaa.enc 11 x) (hn : x.length <= 1000000) :
  Does Tryz.prog 211 [.slice A x.length c] w (Zzh x) :=
 (ZnZ A c x w hA hn).monoH fun v O base w' ⟨A, c, h1, h2⟩ hH => by
  subst h2
  obtain ⟨A2, c2, e1, h3, h4, h5, _⟩ := ZfQ (hH.sat _ List.mem_cons_self)
  injection e1 with e2 _ e3
  subst e2 e3
  exact ⟨_, ⟨A, c, h1, rfl, h3, h4, h5⟩, hH⟩
theorem ZtZ {G : Prop} (h : G := by (first | (apply Pu_indexAddr; rfl; rfl; (first | decide | omega); (first | decide | omega); nofun) | (apply Za3; rfl; (focus repeat' constructor); exact hx1; rfl) | (apply Za3; rfl; (focus repeat' constructor); exact hx2; rfl))) : G := h
theorem Zwn {G : Prop} (h : G := by first | (apply Qy_y; rfl; exact ZtZ) | exact QyA) : G := h
theorem Zy6 {G : Prop} (h : G := by repeat (first | exact QF.nil | (apply QF.mk; rfl; rfl; decide +kernel; exact Zwn))) : G := h
theorem ZsA (A : Option Addr) (c : Nat) (l : List Zaa) (w : World) (hA : RdSl w A c Zaa.enc 11 l) (hn : l.length <= 1000000) :
  Does Tryz.prog 176 [.slice A l.length c] w (fun v O => v = .bool (Zh9 l) /\ O = []) := by
 have hfl : (l.filter fun r => !(!decide (r.to = 1048576))) = l.filter fun r => decide (r.to = 1048576) := by
  congr 1; funext r; rw [Bool.not_not]
 have hlen := List.length_filter_le (fun r : Zaa => decide (r.to = 1048576)) l
 obtain ⟨res, hres⟩ : ∃ res, Zh9 l = res := ⟨_, rfl⟩
 rw [hres]
 unfold Zh9 at hres
 refine Zab Tryz.func176 rfl rfl rfl rfl ?_
 repeat (first | refine walk ?_ | (refine jg ?_; (try intro F); (first | (apply Zag (h := fun w' hw _ => ZkS A c l w' (hA.up hw) hn); rfl; rintro v O' ⟨B, d, rfl, rfl, hb1, hb2, hb3⟩) | (refine bx ?_; intro bk) | (refine stA ?_)); refine fin ?_) | (refine jn ?_; (try intro F); (first | (refine bx ?_; intro bk) | (refine stA ?_) | (apply Zae; exact PuA)); refine fin ?_) | (apply RD_W; rfl; intro bk))
 have hdel := ZnW B d l 212 (fun r => !decide (r.to = 1048576)) w hn hb1 hb2 hb3 ZqC
 rw [hfl] at hdel
 generalize (l.filter fun r => decide (r.to = 1048576)) = F at *
 repeat (first | refine walk ?_ | (refine ZeF ?_; intro F; (apply ZdC (h := hdel); rfl; exact .refl _; rintro v O' ⟨rfl, rfl⟩); refine ⟨_, EndsA, SubO.right _ _, ?_⟩) | (refine jn ?_; (try intro F); (first | (apply ZdC (h := hdel); rfl; exact .refl _; rintro v O' ⟨rfl, rfl⟩) | (refine bx ?_; intro bk) | (refine stA ?_) | (apply Zae; exact PuA)); refine fin ?_) | (apply RD_W; rfl; intro bk))
 rcases F with _ | ⟨a, _ | ⟨b, _ | ⟨x, F⟩⟩⟩
 ·repeat (first | refine walk ?_ | (refine jn ?_; (try intro F); (first | (refine bx ?_; intro bk) | (refine stA ?_) | (apply Zae; exact PuA)); refine fin ?_) | (apply RD_W; rfl; intro bk))
  exact ret_1 _ [] (.tmp rfl) .nil ⟨by rw [<- hres], rfl⟩
 ·repeat (first | refine walk ?_ | (refine jn ?_; (try intro F); (first | (refine bx ?_; intro bk) | (refine stA ?_) | (apply Zae; exact PuA)); refine fin ?_) | (apply RD_W; rfl; intro bk))
  exact ret_1 _ [] (.tmp rfl) .nil ⟨by rw [<- hres], rfl⟩
 ·have hB := hb3 (by simp at hlen; omega)
  obtain ⟨ad, rfl⟩ : ∃ ad, B = some ad := by
   cases B with
   | none => exact absurd rfl hB
   | some ad => exact ⟨ad, rfl⟩
  dsimp only at hres
  have hpa := Zjv a
  have hpb := Zjv b
  generalize Zd8 a = pa at *
  generalize Zd8 b = pb at *
  have hx1 : ∀ q v, (Zaa.enc a)[q]? = some v -> ([a, b].flatMap Zaa.enc)[(0 : Int).toNat * 11 + q]? = some v := fun q v hv => ZaB Zaa.len _ 0 a q v rfl hv
  have hx2 : ∀ q v, (Zaa.enc b)[q]? = some v -> ([a, b].flatMap Zaa.enc)[(1 : Int).toNat * 11 + q]? = some v := fun q v hv => ZaB Zaa.len _ 1 b q v rfl hv
  simp only [rowR, List.length_cons, List.length_nil, Nat.zero_add, Nat.reduceAdd]
  generalize hxs : [a, b].flatMap Zaa.enc = xs at *
  clear hxs
  obtain ⟨nm, fr, to, mo, ⟨dk, dw, dd⟩, ⟨cs, cb⟩, sv, le⟩ := a
  obtain ⟨nm2, fr2, to2, mo2, ⟨dk2, dw2, dd2⟩, ⟨cs2, cb2⟩, sv2, le2⟩ := b
  simp only [Zaa.enc] at hx1 hx2 hpa hpb
  repeat (first | (apply RL_pu; rfl; exact ZtZ) | (apply RD_Q; rfl; rfl; decide +kernel; rfl; rfl; exact Zwn) | refine walk1 ?_ | (refine jn ?_; (try intro F); (first | (refine bx ?_; intro bk) | (refine stA ?_) | (apply Zae; first | exact ZtZ | exact PuA)); first | refine ⟨_, EndsA, Zy6, ?_⟩ | refine fin ?_) | (apply RD_W; rfl; intro bk))
  repeat' (first | (refine js ?_; (first | (refine Zac (fun w' _ => hpa w') ?_) | (refine Zac (fun w' _ => hpb w') ?_) | (refine bx ?_; intro bk))) | refine walk ?_ | (refine ZeF ?_; intro F; (first | (refine Zac (fun w' _ => hpa w') ?_) | (refine Zac (fun w' _ => hpb w') ?_)); refine ⟨_, EndsA, SubO.right _ _, ?_⟩) | (refine RD_Lw ?_; intro F; (first | (refine Zac (fun w' _ => hpa w') ?_) | (refine Zac (fun w' _ => hpb w') ?_) | (refine bx ?_; intro bk) | (refine stA ?_) | (apply Zae; exact PuA)); refine ⟨_, EndsA, QFA, ?_⟩) | (apply RD_W; rfl; intro bk) | refine und ?_ | (refine Zas rfl rfl rfl (fun hc => ?_) (fun hc => ?_)) | (refine Zar rfl rfl rfl (fun hc => ?_) (fun hc => ?_)) | (refine Zaf rfl (fun hc => ?_) (fun hc => ?_)))
  all_goals clear hx1 hx2 hpa hpb hdel hA hb1 hb2
  all_goals subst hres
  all_goals exact clo1
 ·repeat (first | refine walk ?_ | (refine jn ?_; (try intro F); (first | (refine bx ?_; intro bk) | (refine stA ?_) | (apply Zae; exact PuA)); refine fin ?_) | (apply RD_W; rfl; intro bk))
  exact ret_1 _ [] (.tmp rfl) .nil ⟨by rw [<- hres], rfl⟩
end Go.Proofs.YtdlmhmmhdbbliaaGreatDoor
