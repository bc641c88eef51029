/- Contract: eras.Spans. The shelf's layings of library functions, written out (by genlay.py). Plain law: where a string is cut. Contracts: numeric.sum. Contracts: format.around$1, format.right. Contracts of library functions, by the shelf: strings.Cut, HasPrefix, IndexFunc, Join, strconv.ParseUint. -/
import Derived.Test.YtonjepladadmhaaGreatDoorS19
import Derived.Shelf.Lay
import Derived.Shelf.Strings.OnBuilder
import Derived.Shelf.Strings.Prefix
import Derived.Shelf.Strings.Shaped
import Derived.Shelf.Strings.Cut
import Derived.Shelf.Pu.ParseUintPublic10
import Derived.Shelf.GgClosure.StringsRunes
import Derived.Test.YtonjepladadmhaaGreatDoorS07
import Derived.Lib.CutLaws
import Derived.Test.YtonjepladadmhaaGreatDoorS02
import Derived.Test.YtonjepladadmhaaGreatDoorS14
import Derived.Lib.TrimUEq
import Derived.Lib.SmallJoins
import Derived.Test.YtonjepladadmhaaGreatDoorS15
set_option maxHeartbeats 4000000
set_option linter.unusedVariables false
set_option linter.unusedSimpArgs false
namespace Go.Wk
open Go Go.RowKit
structure SpG where
 k : Nat
 st : Int
 A : Option Addr
 c : Nat
 m : Nat
 xs : List Value
 acc : List DSpan
 mp : List (ByteArray × Value)
 S : Nat → Prop
 P : World → Prop
end Go.Wk
namespace Go.Proofs.YtonjepladadmhaaGreatDoor
open Go Go.RowKit Go.Wk
attribute [local irreducible] W RL Does thenQ blockQ retQ Calls Pu Stp RD Qy Ay DoesIn
def spGo (rs : List DRule) : List DEra → Int → Nat → Option (List DSpan)
 | [], _, _ => some []
 | [_], st, i => some [⟨st, 9223372036854775807, i⟩]
 | e :: f :: l, st, i => if endT e (ruEr rs e) ≤ st then none else (spGo rs (f :: l) (endT e (ruEr rs e)) (i + 1)).map fun r => ⟨st, endT e (ruEr rs e), i⟩ :: r
def spAll (rs : List DRule) (l : List DEra) : Option (List DSpan) := spGo rs l (-9223372036854775808) 0
def SpR (l : List DSpan) (v : Value) (O : List It) : Prop := ∃ A c, v = .tuple #[.slice A l.length c, .int .i64 0] ∧ O = [.row (.slice A l.length c) 101 3 l.length (l.flatMap DSpan.enc)]
theorem PuErC0 {G : Prop} (h : G := by (first | (apply Pu_lssB; rfl; rfl; exact hb0) | (apply Pu_geqB; rfl; rfl; exact hb1) | (apply Pu_indexAddr; rfl; rfl; omega; omega; exact hnz) | (apply Pu_loadO1; rfl; exact hcz 1 _ rfl))) : G := h
theorem QyErC0 {G : Prop} (h : G := by first | (apply Qy_y; rfl; exact PuErC0) | exact QyA) : G := h
theorem QFErC0 {G : Prop} (h : G := by repeat (first | exact QF.nil | (apply QF.mk; rfl; rfl; decide +kernel; exact QyErC0))) : G := h
theorem PuErC1 {G : Prop} (h : G := by (first | exact PuI | (apply Pu_lssB; rfl; rfl; exact q1) | (apply Pu_leqB; rfl; rfl; exact q2))) : G := h
theorem QyErC1 {G : Prop} (h : G := by first | (apply Qy_y; rfl; exact PuErC1) | exact QyA) : G := h
theorem QFErC1 {G : Prop} (h : G := by repeat (first | exact QF.nil | (apply QF.mk; rfl; rfl; decide +kernel; exact QyErC1))) : G := h
theorem PuErC2 {G : Prop} (h : G := by (first | exact PuI | (apply Pu_lssB; rfl; rfl; exact q1))) : G := h
theorem QyErC2 {G : Prop} (h : G := by first | (apply Qy_y; rfl; exact PuErC2) | exact QyA) : G := h
theorem QFErC2 {G : Prop} (h : G := by repeat (first | exact QF.nil | (apply QF.mk; rfl; rfl; decide +kernel; exact QyErC2))) : G := h
set_option maxHeartbeats 4000000 in
theorem spans_spec (Ar Az Al As : Option Addr) (cr cz cl cs : Nat) (a : DSource) (i : Nat) (z : DZone) (res : List DSpan) (w : World) (hG : Glob w) (hA : RdSource w Ar Az Al As cr cz cl cs a) (hn : a.rules.length ≤ 1000000) (hl : z.eras.length ≤ 1000000) (hz : a.zones[i]? = some z)
  (hE : ∀ k e, z.eras[k]? = some e → k + 1 < z.eras.length → RsSm (ruEr a.rules e) ∧ UnOk e (ruEr a.rules e)) (hsp : spAll a.rules z.eras = some res) :
  Does Tryz.prog 31 [srcV Ar Az Al As cr cz cl cs a, .int .i64 i] w (SpR res) := by
 have hil : i < a.zones.length := (List.getElem?_eq_some_iff.1 hz).1
 obtain ⟨hnz, cs1, ⟨Ae, ce, hEz, rfl⟩, hcz⟩ := hA.z i _ hz
 have hcpz := hA.zcap
 simp only [maxLen] at hcpz
 have hb0 : decide ((i : Int) < 0) = false := decide_eq_false (by omega)
 have hb1 : decide ((a.zones.length : Int) ≤ (i : Int)) = false := decide_eq_false (by omega)
 refine Does_of_W Tryz.func31 rfl rfl rfl rfl ?_
 repeat (first | (apply RL_pu; rfl; exact PuErC0) | (apply RD_Q; rfl; rfl; decide +kernel; rfl; rfl; exact QyErC0) | refine walk1 ?_ | (refine jn ?_; (try intro F); (first | (refine bx ?_; intro bk) | (refine stA ?_) | (apply Stp_pu; first | exact PuErC0 | exact PuA)); first | refine ⟨_, EndsA, QFErC0, ?_⟩ | refine fin ?_) | (apply RD_W; rfl; intro bk))
 rename_i bm _
 generalize bk = b6
 have hel := hEz.le
 have hec := hEz.cap
 simp only [maxLen] at hec
 refine W_nil 101 3 ?_
 refine W_toFact [] [.row (.slice none 0 0) 101 3 0 [], .blk b6 [.slice Ar a.rules.length cr, .slice Az a.zones.length cz, .slice Al a.links.length cl, .slice As a.shifts.length cs, .map (some bm)] 156, .mp bm []] (fun w => KnAt a.rules [] w) SOA (fun w' _ k A n c hk => by cases hk) ?_
 refine W_loopF [(6, .pointer (some ⟨b6, 0, none⟩)), (9, .slice Ae z.eras.length ce), (33, .slice Ae z.eras.length ce), (34, .int .i64 z.eras.length)] [.blk b6 [.slice Ar a.rules.length cr, .slice Az a.zones.length cz, .slice Al a.links.length cl, .slice As a.shifts.length cs, .map (some bm)] 156]
  (fun g : SpG => [(7, .slice g.A g.m g.c), (8, .int .i64 g.st), (35, .int .i64 g.k)]) (fun g => [.row (.slice g.A g.m g.c) 101 3 g.m g.xs, .mp bm g.mp, .fact g.S g.P])
  (fun g => g.k ≤ z.eras.length ∧ g.m = g.acc.length ∧ g.xs = g.acc.flatMap DSpan.enc ∧ g.m = g.k ∧ KnP a.rules g.mp ∧ (∀ w, g.P w → KnAt a.rules g.mp w) ∧ ∃ rest, spGo a.rules (z.eras.drop g.k) g.st g.k = some rest ∧ g.acc ++ rest = res) (fun g => z.eras.length - g.k)
  ⟨0, -9223372036854775808, none, 0, 0, [], [], [], foot [], KnAt a.rules []⟩ SFA SOA ⟨Nat.zero_le _, rfl, rfl, rfl, (fun k v hk => by cases hk), fun _ h => h, res, hsp, rfl⟩ ?_
 rintro ⟨k, st, A, c, m, xs, acc, mp, S, P⟩ ⟨hk, hm, hx, hmk, hP, hK, rest, hi, hacc⟩
 dsimp only at hk hm hx hmk hP hK hi hacc ⊢
 repeat (first | refine walk ?_ | (refine jn ?_; (try intro F); (first | (refine bx ?_; intro bk) | (refine stA ?_) | (apply Stp_pu; exact PuA)); refine fin ?_) | (apply RD_W; rfl; intro bk))
 refine W_cond rfl (fun hc => ?_) (fun hc => ?_)
 ·simp only [decide_eq_true_eq, Int.ofNat_lt] at hc
  obtain ⟨hna, hca⟩ := hEz.rd k _ (List.getElem?_eq_getElem hc)
  have hgk := List.getElem?_eq_getElem hc
  rw [drop_cons hc] at hi
  generalize z.eras[k] = e at *
  by_cases hlast : k + 1 < z.eras.length
  ·have q1 : decide ((k : Int) < (z.eras.length : Int) - 1) = true := decide_eq_true (by omega)
   obtain ⟨hsm, hun⟩ := hE k _ hgk hlast
   rw [drop_cons hlast, spGo] at hi
   have hin := fun (A3 : Option Addr) (c3 : Nat) w' (hw : Bel w.heap.size w w') hR => uinst_spec e A3 c3 (ruEr a.rules e) w' (hG.up hw) hR hsm hun
   have hru := fun R => brules_spec Ar Az Al As cr cz cl cs a bm mp S P R e w hA hn hP hK
   have hrl : (ruEr a.rules e).length ≤ 1000000 := hsm.n
   generalize endT e (ruEr a.rules e) = T at *
   by_cases hT : T ≤ st
   ·rw [if_pos hT] at hi
    cases hi
   rw [if_neg hT, ← drop_cons hlast] at hi
   have q2 : decide (T ≤ st) = false := decide_eq_false hT
   obtain ⟨r2, hr2, rfl⟩ := Option.map_eq_some_iff.1 hi
   unfold BkR at hru
   generalize ruEr a.rules e = rr at *
   obtain ⟨off, kd, esv, sset, fm, ⟨ui, uy, um, ⟨ud1, ud2, ud3⟩, ⟨uc1, uc2⟩⟩⟩ := e
   simp only [DEra.enc] at hca hin hru
   unfold bookV at hru
   repeat (first | (apply RL_pu; rfl; exact PuErC1) | (apply RD_Q; rfl; rfl; decide +kernel; rfl; rfl; exact QyErC1) | refine walk1 ?_ | (refine RD_G0w ?_; intro F; (first | (apply Stp_callIn (h := hru _); rfl; exact .cons (by repeat' constructor) (.cons (by repeat' constructor) (.refl _)); rintro v O' ⟨A3, c3, m3, S3, rfl, hP3, rfl⟩) | (apply Stp_call (h := fun w' hw hH => hin A3 c3 w' hw (fact_at (hH.of (A := .fact S3 (fun w => KnAt a.rules m3 w ∧ RdSl w A3 c3 DRule.enc 11 rr)) (by repeat' constructor))).2); rfl; rintro v O' ⟨rfl, rfl⟩)); refine ⟨_, EndsA, SubO.right _ _, ?_⟩) | (refine jn ?_; (try intro F); (first | (apply Stp_callIn (h := hru _); rfl; exact .cons (by repeat' constructor) (.cons (by repeat' constructor) (.refl _)); rintro v O' ⟨A3, c3, m3, S3, rfl, hP3, rfl⟩) | (apply Stp_call (h := fun w' hw hH => hin A3 c3 w' hw (fact_at (hH.of (A := .fact S3 (fun w => KnAt a.rules m3 w ∧ RdSl w A3 c3 DRule.enc 11 rr)) (by repeat' constructor))).2); rfl; rintro v O' ⟨rfl, rfl⟩) | (apply Stp_append; rfl; rfl; (intro A' c'; (focus repeat' constructor)); (intro w' _ hO; exact blkRaw (hO.of (by repeat' constructor))); rfl; rfl; (simp only [maxLen]; omega); omega; intro A' c' hc1 hc2 hc3) | (refine bx ?_; intro bk) | (refine stA ?_) | (apply Stp_pu; first | exact PuErC1 | exact PuA)); first | refine ⟨_, EndsA, QFErC1, ?_⟩ | refine fin ?_) | (apply RD_W; rfl; intro bk))
   exact ⟨⟨k + 1, T, A', c', m + 1, xs ++ (⟨st, T, k⟩ : DSpan).enc, acc ++ [⟨st, T, k⟩], m3, S3, fun w => KnAt a.rules m3 w ∧ RdSl w A3 c3 DRule.enc 11 rr⟩, OA, ⟨OA, by simp [hm], by rw [hx]; exact flat_snoc acc _, OA, hP3, fun _ h => h.1, r2, hr2, by rw [← hacc]; simp⟩, SFA, SOA⟩
  ·have q1 : decide ((k : Int) < (z.eras.length : Int) - 1) = false := decide_eq_false (by omega)
   rw [List.drop_eq_nil_of_le (by omega), spGo] at hi
   cases hi
   obtain ⟨off, kd, esv, sset, fm, ⟨ui, uy, um, ⟨ud1, ud2, ud3⟩, ⟨uc1, uc2⟩⟩⟩ := e
   simp only [DEra.enc] at hca
   repeat (first | (apply RL_pu; rfl; exact PuErC2) | (apply RD_Q; rfl; rfl; decide +kernel; rfl; rfl; exact QyErC2) | refine walk1 ?_ | (refine jn ?_; (try intro F); (first | (apply Stp_append; rfl; rfl; (intro A' c'; (focus repeat' constructor)); (intro w' _ hO; exact blkRaw (hO.of (by repeat' constructor))); rfl; rfl; (simp only [maxLen]; omega); omega; intro A' c' hc1 hc2 hc3) | (refine bx ?_; intro bk) | (refine stA ?_) | (apply Stp_pu; first | exact PuErC2 | exact PuA)); first | refine ⟨_, EndsA, QFErC2, ?_⟩ | refine fin ?_) | (apply RD_W; rfl; intro bk))
   exact ⟨⟨k + 1, 9223372036854775807, A', c', m + 1, xs ++ (⟨st, 9223372036854775807, k⟩ : DSpan).enc, acc ++ [⟨st, 9223372036854775807, k⟩], mp, S, P⟩, OA, ⟨OA, by simp [hm], by rw [hx]; exact flat_snoc acc _, OA, hP, hK, [], by dsimp only; rw [List.drop_eq_nil_of_le (by omega)]; rfl, by rw [List.append_nil]; exact hacc⟩, SFA, SOA⟩
 ·simp only [decide_eq_false_iff_not, Int.ofNat_lt] at hc
  obtain rfl : k = z.eras.length := by omega
  rw [List.drop_length, spGo] at hi
  cases hi
  rw [List.append_nil] at hacc
  subst hacc
  repeat (first | refine walk ?_ | (refine jn ?_; (try intro F); (first | (refine bx ?_; intro bk) | (refine stA ?_) | (apply Stp_pu; exact PuA)); refine fin ?_) | (apply RD_W; rfl; intro bk))
  exact ret_2 _ _ [.row (.slice A acc.length c) 101 3 acc.length (acc.flatMap DSpan.enc)] (.tmp rfl) (.tmp rfl) (by subst hm hx; exact SOA) ⟨A, c, by rw [hm], rfl⟩
end Go.Proofs.YtonjepladadmhaaGreatDoor
namespace Go.Proofs.YtonjepladadmhaaGreatDoor
open Go.Shelf Go.RowKit Go.Lib
def joinLay_ren : Ren where
 f := fun | 156 => 236 | 165 => 246 | 166 => 247 | 169 => 248 | 240 => 257 | 241 => 258 | 276 => 261 | 277 => 262 | n => n
 t := fun | 31 => 43 | 9 => 9 | 3 => 3 | 4 => 4 | 0 => 0 | 20 => 20 | 72 => 324 | 76 => 326 | 70 => 322 | 37 => 37 | 75 => 309 | 127 => 339 | 164 => 344 | 5 => 5 | 80 => 328 | n => n
 g := fun n => n
theorem joinLay : Lays.n156 Tryz.prog joinLay_ren where
 mixed := by kernel_rfl
 f156 := Tryz.func236.trans (congrArg some (by kernel_rfl))
 f165 := Tryz.func246.trans (congrArg some (by kernel_rfl))
 f166 := Tryz.func247.trans (congrArg some (by kernel_rfl))
 f169 := Tryz.func248.trans (congrArg some (by kernel_rfl))
 f240 := Tryz.func257.trans (congrArg some (by kernel_rfl))
 f241 := Tryz.func258.trans (congrArg some (by kernel_rfl))
 f276 := Tryz.func261.trans (congrArg some (by kernel_rfl))
 f277 := Tryz.func262.trans (congrArg some (by kernel_rfl))
 t0 := Tryz.underlying0
 a0 := Tryz.isAgg0
 z0 := Tryz.sizeOf0
 v0 := Tryz.zeroValue0
 t3 := Tryz.underlying3
 a3 := Tryz.isAgg3
 z3 := Tryz.sizeOf3
 v3 := Tryz.zeroValue3
 t4 := Tryz.underlying4
 a4 := Tryz.isAgg4
 z4 := Tryz.sizeOf4
 v4 := Tryz.zeroValue4
 t9 := Tryz.underlying9
 a9 := Tryz.isAgg9
 z9 := Tryz.sizeOf9
 v9 := Tryz.zeroValue9
 t20 := Tryz.underlying20
 a20 := Tryz.isAgg20
 z20 := Tryz.sizeOf20
 v20 := Tryz.zeroValue20
 t31 := Tryz.underlying43
 a31 := Tryz.isAgg43
 z31 := Tryz.sizeOf43
 v31 := Tryz.zeroValue43
 t37 := Tryz.underlying37
 a37 := Tryz.isAgg37
 z37 := Tryz.sizeOf37
 v37 := Tryz.zeroValue37
 t70 := Tryz.underlying322
 a70 := Tryz.isAgg322
 z70 := Tryz.sizeOf322
 v70 := Tryz.zeroValue322
 t72 := Tryz.underlying324
 a72 := Tryz.isAgg324
 z72 := Tryz.sizeOf324
 v72 := Tryz.zeroValue324
 t75 := Tryz.underlying309
 a75 := Tryz.isAgg309
 z75 := Tryz.sizeOf309
 v75 := Tryz.zeroValue309
 t76 := Tryz.underlying326
 a76 := Tryz.isAgg326
 z76 := Tryz.sizeOf326
 v76 := Tryz.zeroValue326
 t127 := Tryz.underlying339
 a127 := Tryz.isAgg339
 z127 := Tryz.sizeOf339
 v127 := Tryz.zeroValue339
 t164 := Tryz.underlying344
 a164 := Tryz.isAgg344
 z164 := Tryz.sizeOf344
 v164 := Tryz.zeroValue344
def prefLay_ren : Ren where
 f := fun | 99 => 225 | 206 => 243 | n => n
 t := fun | 9 => 9 | 4 => 4 | 3 => 3 | n => n
 g := fun n => n
theorem prefLay : Lays.n99 Tryz.prog prefLay_ren where
 mixed := by kernel_rfl
 f99 := Tryz.func225.trans (congrArg some (by kernel_rfl))
 f206 := Tryz.func243.trans (congrArg some (by kernel_rfl))
 t3 := Tryz.underlying3
 a3 := Tryz.isAgg3
 z3 := Tryz.sizeOf3
 v3 := Tryz.zeroValue3
 t4 := Tryz.underlying4
 a4 := Tryz.isAgg4
 z4 := Tryz.sizeOf4
 v4 := Tryz.zeroValue4
 t9 := Tryz.underlying9
 a9 := Tryz.isAgg9
 z9 := Tryz.sizeOf9
 v9 := Tryz.zeroValue9
def puLay_ren : Ren where
 f := fun | 14 => 224 | 16 => 241 | 17 => 242 | 19 => 251 | 20 => 252 | 21 => 253 | 22 => 254 | 23 => 255 | 24 => 256 | 25 => 259 | 27 => 49 | 26 => 260 | 28 => 95 | 29 => 144 | 30 => 184 | 31 => 185 | 32 => 186 | 33 => 187 | 35 => 154 | 34 => 216 | 36 => 217 | 37 => 218 | 38 => 219 | 39 => 230 | 40 => 231 | n => n
 t := fun | 9 => 9 | 3 => 3 | 22 => 133 | 24 => 309 | 25 => 310 | 4 => 4 | 34 => 331 | 5 => 5 | 36 => 186 | 37 => 37 | 0 => 0 | 39 => 333 | 21 => 21 | 44 => 342 | 47 => 339 | 50 => 349 | 48 => 347 | 2 => 2 | 52 => 271 | 55 => 273 | 59 => 300 | 60 => 61 | 20 => 20 | 61 => 301 | 65 => 320 | 66 => 321 | 67 => 328 | n => n
 g := fun | 0 => 11 | 1 => 12 | 2 => 5 | 3 => 7 | 4 => 8 | n => n
theorem puLay : LaysPu.n14 Tryz.prog puLay_ren where
 mixed := by kernel_rfl
 f14 := Tryz.func224.trans (congrArg some (by kernel_rfl))
 f16 := Tryz.func241.trans (congrArg some (by kernel_rfl))
 f17 := Tryz.func242.trans (congrArg some (by kernel_rfl))
 f19 := Tryz.func251.trans (congrArg some (by kernel_rfl))
 f20 := Tryz.func252.trans (congrArg some (by kernel_rfl))
 f21 := Tryz.func253.trans (congrArg some (by kernel_rfl))
 f22 := Tryz.func254.trans (congrArg some (by kernel_rfl))
 f23 := Tryz.func255.trans (congrArg some (by kernel_rfl))
 f24 := Tryz.func256.trans (congrArg some (by kernel_rfl))
 f25 := Tryz.func259.trans (congrArg some (by kernel_rfl))
 f26 := Tryz.func260.trans (congrArg some (by kernel_rfl))
 f27 := Tryz.func49.trans (congrArg some (by kernel_rfl))
 f28 := Tryz.func95.trans (congrArg some (by kernel_rfl))
 f29 := Tryz.func144.trans (congrArg some (by kernel_rfl))
 f30 := Tryz.func184.trans (congrArg some (by kernel_rfl))
 f31 := Tryz.func185.trans (congrArg some (by kernel_rfl))
 f32 := Tryz.func186.trans (congrArg some (by kernel_rfl))
 f33 := Tryz.func187.trans (congrArg some (by kernel_rfl))
 f34 := Tryz.func216.trans (congrArg some (by kernel_rfl))
 f35 := Tryz.func154.trans (congrArg some (by kernel_rfl))
 f36 := Tryz.func217.trans (congrArg some (by kernel_rfl))
 f37 := Tryz.func218.trans (congrArg some (by kernel_rfl))
 f38 := Tryz.func219.trans (congrArg some (by kernel_rfl))
 f39 := Tryz.func230.trans (congrArg some (by kernel_rfl))
 f40 := Tryz.func231.trans (congrArg some (by kernel_rfl))
 t0 := Tryz.underlying0
 a0 := Tryz.isAgg0
 z0 := Tryz.sizeOf0
 v0 := Tryz.zeroValue0
 t2 := Tryz.underlying2
 a2 := Tryz.isAgg2
 z2 := Tryz.sizeOf2
 v2 := Tryz.zeroValue2
 t3 := Tryz.underlying3
 a3 := Tryz.isAgg3
 z3 := Tryz.sizeOf3
 v3 := Tryz.zeroValue3
 t4 := Tryz.underlying4
 a4 := Tryz.isAgg4
 z4 := Tryz.sizeOf4
 v4 := Tryz.zeroValue4
 t5 := Tryz.underlying5
 a5 := Tryz.isAgg5
 z5 := Tryz.sizeOf5
 v5 := Tryz.zeroValue5
 t9 := Tryz.underlying9
 a9 := Tryz.isAgg9
 z9 := Tryz.sizeOf9
 v9 := Tryz.zeroValue9
 t20 := Tryz.underlying20
 a20 := Tryz.isAgg20
 z20 := Tryz.sizeOf20
 v20 := Tryz.zeroValue20
 t21 := Tryz.underlying21
 a21 := Tryz.isAgg21
 z21 := Tryz.sizeOf21
 v21 := Tryz.zeroValue21
 t22 := Tryz.underlying133
 a22 := Tryz.isAgg133
 z22 := Tryz.sizeOf133
 v22 := Tryz.zeroValue133
 t24 := Tryz.underlying309
 a24 := Tryz.isAgg309
 z24 := Tryz.sizeOf309
 v24 := Tryz.zeroValue309
 t25 := Tryz.underlying310
 a25 := Tryz.isAgg310
 z25 := Tryz.sizeOf310
 v25 := Tryz.zeroValue310
 t34 := Tryz.underlying331
 a34 := Tryz.isAgg331
 z34 := Tryz.sizeOf331
 v34 := Tryz.zeroValue331
 t36 := Tryz.underlying186
 a36 := Tryz.isAgg186
 z36 := Tryz.sizeOf186
 v36 := Tryz.zeroValue186
 t37 := Tryz.underlying37
 a37 := Tryz.isAgg37
 z37 := Tryz.sizeOf37
 v37 := Tryz.zeroValue37
 t39 := Tryz.underlying333
 a39 := Tryz.isAgg333
 z39 := Tryz.sizeOf333
 v39 := Tryz.zeroValue333
 t44 := Tryz.underlying342
 a44 := Tryz.isAgg342
 z44 := Tryz.sizeOf342
 v44 := Tryz.zeroValue342
 t47 := Tryz.underlying339
 a47 := Tryz.isAgg339
 z47 := Tryz.sizeOf339
 v47 := Tryz.zeroValue339
 t48 := Tryz.underlying347
 a48 := Tryz.isAgg347
 z48 := Tryz.sizeOf347
 v48 := Tryz.zeroValue347
 t50 := Tryz.underlying349
 a50 := Tryz.isAgg349
 z50 := Tryz.sizeOf349
 v50 := Tryz.zeroValue349
 t52 := Tryz.underlying271
 a52 := Tryz.isAgg271
 z52 := Tryz.sizeOf271
 v52 := Tryz.zeroValue271
 t55 := Tryz.underlying273
 a55 := Tryz.isAgg273
 z55 := Tryz.sizeOf273
 v55 := Tryz.zeroValue273
 t59 := Tryz.underlying300
 a59 := Tryz.isAgg300
 z59 := Tryz.sizeOf300
 v59 := Tryz.zeroValue300
 t60 := Tryz.underlying61
 a60 := Tryz.isAgg61
 z60 := Tryz.sizeOf61
 v60 := Tryz.zeroValue61
 t61 := Tryz.underlying301
 a61 := Tryz.isAgg301
 z61 := Tryz.sizeOf301
 t65 := Tryz.underlying320
 a65 := Tryz.isAgg320
 z65 := Tryz.sizeOf320
 v65 := Tryz.zeroValue320
 t66 := Tryz.underlying321
 a66 := Tryz.isAgg321
 z66 := Tryz.sizeOf321
 v66 := Tryz.zeroValue321
 t67 := Tryz.underlying328
 a67 := Tryz.isAgg328
 z67 := Tryz.sizeOf328
 v67 := Tryz.zeroValue328
 i0 := by kernel_rfl
 i2 := by kernel_rfl
 i3 := by kernel_rfl
 i4 := by kernel_rfl
 i5 := by kernel_rfl
 i9 := by kernel_rfl
 i20 := by kernel_rfl
 i21 := by kernel_rfl
 i22 := by kernel_rfl
 i24 := by kernel_rfl
 i25 := by kernel_rfl
 i34 := by kernel_rfl
 c34 := by kernel_rfl
 i36 := by kernel_rfl
 i37 := by kernel_rfl
 i39 := by kernel_rfl
 i44 := by kernel_rfl
 i47 := by kernel_rfl
 i48 := by kernel_rfl
 i50 := by kernel_rfl
 i52 := by kernel_rfl
 i55 := by kernel_rfl
 i59 := by kernel_rfl
 i60 := by kernel_rfl
 i65 := by kernel_rfl
 i66 := by kernel_rfl
 i67 := by kernel_rfl
 g0 := by kernel_rfl
 m0 := by kernel_rfl
 g1 := by kernel_rfl
 m1 := by kernel_rfl
 g2 := by kernel_rfl
 m2 := by kernel_rfl
 g3 := by kernel_rfl
 m3 := by kernel_rfl
 g4 := by kernel_rfl
 m4 := by kernel_rfl
def cutLay_ren : Ren where
 f := fun | 145 => 177 | 220 => 204 | 219 => 223 | 217 => 237 | 225 => 238 | 224 => 239 | 267 => 240 | 266 => 249 | 314 => 250 | n => n
 t := fun | 9 => 9 | 4 => 4 | 59 => 214 | 3 => 3 | 5 => 5 | 46 => 186 | 146 => 329 | 51 => 61 | n => n
 g := fun | 1 => 6 | n => n
theorem cutLay : LaysM.n145 Tryz.prog cutLay_ren where
 mixed := by kernel_rfl
 f145 := Tryz.func177.trans (congrArg some (by kernel_rfl))
 f217 := Tryz.func237.trans (congrArg some (by kernel_rfl))
 f219 := Tryz.func223.trans (congrArg some (by kernel_rfl))
 f220 := Tryz.func204.trans (congrArg some (by kernel_rfl))
 f224 := Tryz.func239.trans (congrArg some (by kernel_rfl))
 f225 := Tryz.func238.trans (congrArg some (by kernel_rfl))
 f266 := Tryz.func249.trans (congrArg some (by kernel_rfl))
 f267 := Tryz.func240.trans (congrArg some (by kernel_rfl))
 f314 := Tryz.func250.trans (congrArg some (by kernel_rfl))
 t3 := Tryz.underlying3
 a3 := Tryz.isAgg3
 z3 := Tryz.sizeOf3
 v3 := Tryz.zeroValue3
 t4 := Tryz.underlying4
 a4 := Tryz.isAgg4
 z4 := Tryz.sizeOf4
 v4 := Tryz.zeroValue4
 t5 := Tryz.underlying5
 a5 := Tryz.isAgg5
 z5 := Tryz.sizeOf5
 v5 := Tryz.zeroValue5
 t9 := Tryz.underlying9
 a9 := Tryz.isAgg9
 z9 := Tryz.sizeOf9
 v9 := Tryz.zeroValue9
 t46 := Tryz.underlying186
 a46 := Tryz.isAgg186
 z46 := Tryz.sizeOf186
 v46 := Tryz.zeroValue186
 t51 := Tryz.underlying61
 a51 := Tryz.isAgg61
 z51 := Tryz.sizeOf61
 v51 := Tryz.zeroValue61
 t59 := Tryz.underlying214
 a59 := Tryz.isAgg214
 z59 := Tryz.sizeOf214
 v59 := Tryz.zeroValue214
 t146 := Tryz.underlying329
 a146 := Tryz.isAgg329
 z146 := Tryz.sizeOf329
 v146 := Tryz.zeroValue329
 g1 := by kernel_rfl
 i3 := by kernel_rfl
 i4 := by kernel_rfl
 i5 := by kernel_rfl
 i9 := by kernel_rfl
 i46 := by kernel_rfl
 i51 := by kernel_rfl
 i59 := by kernel_rfl
 i146 := by kernel_rfl
 m1 := by kernel_rfl
 s1_3 := fun w h => cell_of_shapedOpen_int (zero := #[.int .i64 0]) h (by decide) (by kernel_rfl) rfl (by kernel_rfl) (by kernel_rfl) Tryz.underlying3
def ixfLay_ren : Ren where
 f := fun | 15 => 179 | 20 => 206 | n => n
 t := fun | 9 => 9 | 23 => 266 | 3 => 3 | 4 => 4 | 0 => 0 | 21 => 21 | n => n
 g := fun n => n
theorem ixfLay : LaysGw.n15 Tryz.prog ixfLay_ren where
 mixed := by kernel_rfl
 f15 := Tryz.func179.trans (congrArg some (by kernel_rfl))
 f20 := Tryz.func206.trans (congrArg some (by kernel_rfl))
 t0 := Tryz.underlying0
 a0 := Tryz.isAgg0
 z0 := Tryz.sizeOf0
 v0 := Tryz.zeroValue0
 t3 := Tryz.underlying3
 a3 := Tryz.isAgg3
 z3 := Tryz.sizeOf3
 v3 := Tryz.zeroValue3
 t4 := Tryz.underlying4
 a4 := Tryz.isAgg4
 z4 := Tryz.sizeOf4
 v4 := Tryz.zeroValue4
 t9 := Tryz.underlying9
 a9 := Tryz.isAgg9
 z9 := Tryz.sizeOf9
 v9 := Tryz.zeroValue9
 t21 := Tryz.underlying21
 a21 := Tryz.isAgg21
 z21 := Tryz.sizeOf21
 v21 := Tryz.zeroValue21
 t23 := Tryz.underlying266
 a23 := Tryz.isAgg266
 z23 := Tryz.sizeOf266
 v23 := Tryz.zeroValue266
 i0 := by kernel_rfl
 i3 := by kernel_rfl
 i4 := by kernel_rfl
 i9 := by kernel_rfl
 i21 := by kernel_rfl
 i23 := by kernel_rfl
theorem joinExtra : Builder.Extra Tryz.prog joinLay_ren where
 sizeBuilder := by kernel_rfl
 liesBuilder := by kernel_rfl
 t5 := Tryz.underlying5
 a5 := Tryz.isAgg5
 z5 := Tryz.sizeOf5
 v5 := Tryz.zeroValue5
 infoByte := by kernel_rfl
 cellsByte := by kernel_rfl
 sizeByte := by kernel_rfl
 neB5 := by decide
end Go.Proofs.YtonjepladadmhaaGreatDoor
namespace Go.Wk
open Go Go.RowKit
theorem cutAt_ix (p : List UInt8) : ∀ (f acc : List UInt8), cutAt p f acc = if 0 ≤ Lib.index f p then some (acc ++ f.take (Lib.index f p).toNat, f.drop ((Lib.index f p).toNat + p.length)) else none
 | [], acc => by
  simp only [cutAt, Lib.index, List.isEmpty_iff]
  by_cases h : p = []
  ·simp [h]
  ·rw [if_neg h, if_neg h]; rfl
 | c :: l, acc => by
  by_cases h : p.isPrefixOf (c :: l) = true
  ·simp [cutAt, Lib.index, h]
  ·have e0 : Lib.index (c :: l) p = if (Lib.index l p == -1) = true then -1 else Lib.index l p + 1 := by rw [Lib.index, if_neg h]
   generalize hI : Lib.index (c :: l) p = I at *
   subst e0
   rw [cutAt, if_neg h, cutAt_ix p l]
   clear hI
   have hge := Lib.index_ge l p
   by_cases h2 : Lib.index l p = -1
   ·simp [h2]
   ·rw [if_pos (show 0 ≤ Lib.index l p by omega)]
    have hb : (Lib.index l p == -1) = false := by simpa using h2
    rw [hb]
    simp only [Bool.false_eq_true, if_false]
    rw [if_pos (show 0 ≤ Lib.index l p + 1 by omega)]
    have e : (Lib.index l p + 1).toNat = (Lib.index l p).toNat + 1 := by omega
    rw [e, show (Lib.index l p).toNat + 1 + p.length = ((Lib.index l p).toNat + p.length) + 1 by omega]
    simp
def cutV (f p : List UInt8) : List UInt8 × List UInt8 × Bool := match cutAt p f [] with | some (a, b) => (a, b, true) | none => (f, [], false)
theorem cutV_eq (f p : List UInt8) : Lib.cut f p = cutV f p := by
 unfold Lib.cut cutV
 rw [cutAt_ix]
 by_cases h : 0 ≤ Lib.index f p
 ·rw [if_pos h, if_pos h]; rfl
 ·rw [if_neg h, if_neg h]
theorem cutAt_len {p f acc a b : List UInt8} (h : cutAt p f acc = some (a, b)) : a.length + b.length + p.length ≤ acc.length + f.length := by
 induction f generalizing acc with
 | nil =>
  simp only [cutAt] at h
  split at h
  ·rename_i hp; simp only [Option.some.injEq, Prod.mk.injEq] at h; obtain ⟨rfl, rfl⟩ := h; simp [hp]
  ·cases h
 | cons c l ih =>
  simp only [cutAt] at h
  split at h
  ·rename_i hp
   simp only [Option.some.injEq, Prod.mk.injEq] at h
   obtain ⟨rfl, rfl⟩ := h
   have := List.IsPrefix.length_le (List.isPrefixOf_iff_prefix.1 hp)
   rw [List.length_drop]
   omega
  ·have := ih h
   simp only [List.length_append, List.length_cons, List.length_nil] at this ⊢
   omega
end Go.Wk
namespace Go.Proofs.YtonjepladadmhaaGreatDoor
open Go Go.RowKit Go.Wk
attribute [local irreducible] W RL Does thenQ blockQ retQ Calls Pu Stp RD Qy Ay DoesIn
end Go.Proofs.YtonjepladadmhaaGreatDoor
namespace Go.Wk
open Go Go.RowKit
def notLet (c : Int) : Bool := (decide (c < 65) || decide (90 < c)) && (decide (c < 97) || decide (122 < c))
end Go.Wk
namespace Go.Proofs.YtonjepladadmhaaGreatDoor
open Go Go.RowKit Go.Wk
attribute [local irreducible] W RL Does thenQ blockQ retQ Calls Pu Stp RD Qy Ay DoesIn
theorem right_spec (s : ByteArray) (ok : Bool) (w : World) : Does Tryz.prog 133 [.string s, .bool ok] w (fun v O => v = .tuple #[.string (if ok then s else ByteArray.empty), .int .i64 (if ok then 0 else 15)] ∧ O = []) := by
 rw [show ByteArray.empty = ⟨#[]⟩ from rfl]
 refine Does_of_W Tryz.func133 rfl rfl rfl rfl ?_
 cases ok
 ·repeat' (first | refine walk ?_ | (refine W_cond rfl (fun hc => ?_) (fun hc => ?_)))
  all_goals exact clo2
 ·repeat' (first | refine walk ?_ | (refine W_cond rfl (fun hc => ?_) (fun hc => ?_)))
  all_goals exact clo2
end Go.Proofs.YtonjepladadmhaaGreatDoor
namespace Go.Wk
open Go Go.RowKit Go.Lib
theorem does_of {P : Program} {f : FuncId} {args : List Value} {w : World} {v : Value} (h : Calls P f args.toArray w fun e w' => e = .returned v ∧ Below w.heap.size w w') : Does P f args w fun v' O => v' = v ∧ O = [] :=
 h.mono fun _ _ ⟨he, hb⟩ => ⟨v, [], he, ⟨hb⟩, Holds.nil _ _, rfl, rfl⟩
theorem belDrew (B : Nat) (w : World) (n : Nat) : Below B w (w.drewN n) := ⟨rfl, rfl, rfl, Nat.le_refl _, fun _ _ => rfl⟩
theorem idx_let (s : ByteArray) : ∀ (f pos : Nat), s.size ≤ pos + f → (idxFuncFrom (fun r => notLet (r : Int)) true s f pos < 0 ↔ letterL (s.data.toList.drop pos) = true)
 | 0, pos, h => by
  rw [List.drop_eq_nil_of_le (by simpa using h)]
  simp [idxFuncFrom, letterL]
 | f + 1, pos, h => by
  unfold idxFuncFrom
  by_cases hp : pos < s.size
  ·rw [if_pos hp]
   have hp' : pos < s.data.toList.length := by simpa using hp
   rw [List.drop_eq_getElem_cons hp', letterL, List.all_cons]
   have hg : s.get! pos = s.data.toList[pos] := by
    rw [Array.getElem_toList]
    show s.data[pos]! = _
    rw [getElem!_pos s.data pos (by simpa using hp')]
   have ih := idx_let s f (pos + 1) (by omega)
   unfold letterL at ih
   have hd : (s.data.toList[pos].toNat < 128 ∧ Utf8.decode s pos = (s.data.toList[pos].toNat, 1)) ∨ (128 ≤ s.data.toList[pos].toNat ∧ 128 ≤ (Utf8.decode s pos).1) := by
    unfold Utf8.decode
    simp only [Nat.add_zero, hg]
    generalize s.data.toList[pos].toNat = b
    by_cases hb : b < 128
    ·exact .inl ⟨hb, by rw [if_pos hb]⟩
    ·refine .inr ⟨by omega, ?_⟩
     rw [if_neg hb]
     repeat' split
     all_goals first | (simp only [Utf8.runeError]; omega) | (dsimp only; omega) | (dsimp only; simp only [Bool.and_eq_true, decide_eq_true_eq, ge_iff_le] at *; omega) | decide
   generalize s.data.toList[pos] = b at *
   rcases hd with ⟨hb, hd⟩ | ⟨hb, hd⟩
   ·rw [hd]
    dsimp only
    by_cases hl : notLet (b.toNat : Int) = true
    ·rw [if_pos hl]
     have : decide (byteK b.toNat = 1) = false := by
      unfold notLet at hl
      simp only [Bool.and_eq_true, Bool.or_eq_true, decide_eq_true_eq] at hl
      unfold byteK
      rw [if_neg (by omega)]
      repeat' split
      all_goals decide
     rw [this]
     simp
    ·rw [if_neg hl, ih]
     have : decide (byteK b.toNat = 1) = true := by
      unfold notLet at hl
      simp only [Bool.and_eq_true, Bool.or_eq_true, decide_eq_true_eq] at hl
      unfold byteK
      rw [if_pos (by omega)]
      rfl
     rw [this, Bool.true_and]
   ·have hl : notLet ((Utf8.decode s pos).1 : Int) = true := by
     unfold notLet
     simp only [Bool.and_eq_true, Bool.or_eq_true, decide_eq_true_eq]
     omega
    rw [if_pos hl]
    have : decide (byteK b.toNat = 1) = false := by
     unfold byteK
     rw [if_neg (by omega)]
     repeat' split
     all_goals decide
    rw [this]
    simp
  ·rw [if_neg hp, List.drop_eq_nil_of_le (by simpa using hp)]
   simp [letterL]
theorem parse8_eq : ∀ (l : List UInt8), l.length ≤ 2 → (match numU l with | some n => ∃ u : Nat, parseUintB 8 l = .ok u ∧ n = u ∧ u ≤ 99 | none => parseUintB 8 l = .syntax)
 | [], _ => rfl
 | [a], _ => by
  unfold numU parseUintB
  simp only [parseUintM, List.isEmpty_cons, Bool.false_eq_true, if_false, List.all_cons, List.all_nil, Bool.and_true, List.foldl_cons, List.foldl_nil, reduceCtorEq]
  by_cases h : 48 ≤ a ∧ a ≤ 57
  ·have h1 : 48 ≤ a.toNat ∧ a.toNat ≤ 57 := ⟨UInt8.le_iff_toNat_le.1 h.1, UInt8.le_iff_toNat_le.1 h.2⟩
   rw [if_pos (by simp [h.1, h.2]), if_pos h1]
   dsimp only
   refine ⟨_, by rw [if_neg (by omega), if_neg (by omega)], by omega, by omega⟩
  ·have h1 : ¬ (48 ≤ a.toNat ∧ a.toNat ≤ 57) := fun hh => h ⟨UInt8.le_iff_toNat_le.2 hh.1, UInt8.le_iff_toNat_le.2 hh.2⟩
   rw [if_neg (by simpa using h), if_neg h1]
 | [a, b], _ => by
  unfold numU parseUintB
  simp only [parseUintM, List.isEmpty_cons, Bool.false_eq_true, if_false, List.all_cons, List.all_nil, Bool.and_true, List.foldl_cons, List.foldl_nil, reduceCtorEq]
  by_cases h : 48 ≤ a ∧ a ≤ 57
  ·have h1 : 48 ≤ a.toNat ∧ a.toNat ≤ 57 := ⟨UInt8.le_iff_toNat_le.1 h.1, UInt8.le_iff_toNat_le.1 h.2⟩
   by_cases h' : 48 ≤ b ∧ b ≤ 57
   ·have h2 : 48 ≤ b.toNat ∧ b.toNat ≤ 57 := ⟨UInt8.le_iff_toNat_le.1 h'.1, UInt8.le_iff_toNat_le.1 h'.2⟩
    rw [if_pos (by simp [h.1, h.2, h'.1, h'.2]), if_pos h1, if_neg (by omega), if_neg (by omega), if_pos h2]
    dsimp only
    refine ⟨_, by rw [if_neg (by omega), if_neg (by omega)], by omega, by omega⟩
   ·have h2 : ¬ (48 ≤ b.toNat ∧ b.toNat ≤ 57) := fun hh => h' ⟨UInt8.le_iff_toNat_le.2 hh.1, UInt8.le_iff_toNat_le.2 hh.2⟩
    rw [if_neg (by intro hh; simp only [Bool.and_eq_true, decide_eq_true_eq] at hh; exact h' hh.2), if_pos h1, if_neg (by omega), if_neg (by omega), if_neg h2]
  ·have h1 : ¬ (48 ≤ a.toNat ∧ a.toNat ≤ 57) := fun hh => h ⟨UInt8.le_iff_toNat_le.2 hh.1, UInt8.le_iff_toNat_le.2 hh.2⟩
   rw [if_neg (by intro hh; simp only [Bool.and_eq_true, decide_eq_true_eq] at hh; exact h hh.1), if_neg h1]
 | _ :: _ :: _ :: _, h => by simp only [List.length_cons] at h; omega
end Go.Wk
namespace Go.Proofs.YtonjepladadmhaaGreatDoor
open Go Go.RowKit Go.Wk Go.Lib
structure LibW (w : World) : Prop where
 mxl : ∃ m, w.cell? ⟨cutLay_ren.g 1, 0, none⟩ = some (.int .i64 m)
 syn : ∃ ev, w.cell? ⟨puLay_ren.g 0, 0, none⟩ = some ev ∧ (ev = .nilIface ∨ ∃ te pe, ev = .iface te pe)
theorem cut_spec (s p : ByteArray) (w : World) (hL : LibW w) (hs : s.size < 4294967281) :
  Does Tryz.prog 177 [.string s, .string p] w (fun v O => v = .tuple #[.string ⟨(cutV s.data.toList p.data.toList).1.toArray⟩, .string ⟨(cutV s.data.toList p.data.toList).2.1.toArray⟩, .bool (cutV s.data.toList p.data.toList).2.2] ∧ O = []) := by
 obtain ⟨m, hm⟩ := hL.mxl
 rw [← cutV_eq]
 exact does_of ((Any.strings_Cut { cutLay with } s p m w hs hm).mono fun e w' ⟨he, n, hw⟩ => ⟨he, hw ▸ belDrew _ _ _⟩)
theorem pref_spec (s p : ByteArray) (w : World) : Does Tryz.prog 225 [.string s, .string p] w (fun v O => v = .bool (p.data.toList.isPrefixOf s.data.toList) ∧ O = []) :=
 does_of ((Any.strings_HasPrefix prefLay s p w).mono fun e w' ⟨he, hw⟩ => ⟨he, hw ▸ Below.refl _ _⟩)
theorem around1_l (c : Int) (w : World) : Calls Tryz.prog 180 #[.int .i32 c] w fun e w' => e = .returned (.bool (notLet c)) ∧ ∃ q, w' = w.drewN q := by
 go_enter Tryz.func180, Tryz.ntmps180
 go_wp2
 all_goals go_ret
 all_goals refine ⟨congrArg Ending.returned (congrArg Value.bool (?_ : _ = notLet c)), 0, rfl⟩
 all_goals unfold notLet
 all_goals first | rfl | (simp [*]; done) | (simp_all; done) | (simp_all; omega)
theorem ixf_spec (s : ByteArray) (w : World) : Does Tryz.prog 179 [.string s, .func (.func 180) #[] #[]] w (fun v O => v = .int .i64 (idxFunc (fun r => notLet (r : Int)) true s) ∧ O = []) :=
 does_of (Any.strings_IndexFunc_runes ixfLay 180 #[] (enters_of Tryz.func180 (by kernel_rfl) rfl) (fun r => notLet (r : Int)) s w (fun W x _ _ => by unfold FnGives; simpa using around1_l x W))
theorem pu8_spec (s : ByteArray) (w : World) (hL : LibW w) (hs : s.size ≤ 2) :
  Does Tryz.prog 224 [.string s, .int .i64 10, .int .i64 8] w (fun v O => (match numU s.data.toList with | some n => v = .tuple #[.int .u64 n, .nilIface] ∧ 0 ≤ n ∧ n ≤ 99 | none => ∃ t p, v = .tuple #[.int .u64 0, .iface t (.pointer p)]) ∧ O = []) := by
 have h := parse8_eq s.data.toList (by simpa using hs)
 cases hn : numU s.data.toList with
 | none =>
  rw [hn] at h
  obtain ⟨ev, h1, h2⟩ := hL.syn
  exact (Any.strconv_ParseUint_10_at8_syntax puLay s (by omega) h ev w h1 h2).mono fun e w' ⟨N, he, _, _, hb⟩ => ⟨_, [], he, ⟨hb⟩, Holds.nil _ _, ⟨_, _, rfl⟩, rfl⟩
 | some n =>
  rw [hn] at h
  obtain ⟨u, h1, rfl, h3⟩ := h
  exact (Any.strconv_ParseUint_10_at8_ok puLay s (by omega) u h1 w).mono fun e w' ⟨he, hb⟩ => ⟨_, [], he, ⟨by rcases hb with rfl | rfl; exact Below.refl _ _; exact Go.Joins.below_bytesWorld _ _ _ _ (Nat.le_refl _)⟩, Holds.nil _ _, ⟨rfl, by omega, by omega⟩, rfl⟩
end Go.Proofs.YtonjepladadmhaaGreatDoor
