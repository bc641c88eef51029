/- Parts of the proof. -/
import Derived.Test.YtdlmhmmhdbbliaaGreatDoorW20
import Derived.Test.YtdlmhmmhdbbliaaGreatDoorW08
import Derived.Test.YtdlmhmmhdbbliaaGreatDoorW14
import Derived.Test.YtdlmhmmhdbbliaaGreatDoorW07
import Derived.Maps.RangeRun
import Derived.ChangeMaps4
import Derived.Test.YtdlmhmmhdbbliaaGreatDoorW11
import Derived.Test.YtdlmhmmhdbbliaaGreatDoorW12
import Derived.OrdersIn
set_option maxHeartbeats 4000000
set_option linter.unusedVariables false
set_option linter.unusedSimpArgs false
namespace Go.Proofs.YtdlmhmmhdbbliaaGreatDoor
open Go Go.RowKit Go.Wk
attribute [local irreducible] W RL Does Zau Zaj retQ Calls Pu Stp RD Qy Ay Zak
theorem Zn5 (w : World) : Bel w.heap.size w w := ⟨Below.refl _ _⟩
theorem ZsZ (br bz : Nat) (w : World) (hL : LibW w) (hG : Glob w) (hF : FtG w) (hA : Zat w (some ⟨br, 0, none⟩) (some ⟨bz, 0, none⟩) none none 3 1 0 0 Zms) :
  Does Tryz.prog 36 [srcV (some ⟨br, 0, none⟩) (some ⟨bz, 0, none⟩) none none 3 1 0 0 Zms, .agg istP.enc.toArray, .int .i64 1973] w (fun v O => v = .bool true /\ O = []) := by
 have h := ZxT hL hG (Zn5 w) (show okD Zms = true by decide +kernel) hA
 refine Zxd _ _ _ _ _ _ _ _ Zms istP 1973 w (fun w' hw => ?_) (fun w' hw => ?_)
 ·have := Zv4 _ _ _ _ _ _ _ _ Zms 0 ⟨dubN, [Zft, ZdI]⟩ ZdI 2 1 Zjq Zeg w' (h.up hw) (hF.up hw) Zpl rfl rfl rfl ⟨by decide, by decide⟩ (by decide +kernel) (by decide +kernel) (by decide +kernel) ⟨by decide, by decide⟩ ⟨by decide, by decide⟩
  rwa [ZxC] at this
 ·have := Zkl _ _ _ _ _ _ _ _ Zms 0 ⟨dubN, [Zft, ZdI]⟩ w' (h.up hw) Zpl rfl (by decide) (by rw [ZsX]; decide)
  rwa [ZsX] at this
theorem Zu3 (bz : Nat) (w : World) (hL : LibW w) (hG : Glob w) (hA : Zat w none (some ⟨bz, 0, none⟩) none none 0 1 0 0 oneS) :
  Does Tryz.prog 36 [srcV none (some ⟨bz, 0, none⟩) none none 0 1 0 0 oneS, .agg Zvo.enc.toArray, .int .i64 1850] w (fun v O => v = .bool true /\ O = []) := by
 have h := ZxT hL hG (Zn5 w) (show okD oneS = true by decide +kernel) hA
 refine Zxd _ _ _ _ _ _ _ _ oneS Zvo 1850 w (fun w' hw => ?_) (fun w' hw => ?_)
 ·have := Zsc _ _ _ _ _ _ _ _ oneS 0 ⟨zoA, [ZdH]⟩ ZdH w' (h.up hw) Zr7 rfl rfl (by decide) ⟨by decide, by decide⟩ (by decide)
  rwa [show Zbq ZdH ZdH.save ByteArray.empty = Zvo from Zyv] at this
 ·have := Zkl _ _ _ _ _ _ _ _ oneS 0 ⟨zoA, [ZdH]⟩ w' (h.up hw) Zr7 rfl (by decide) (by rw [Zv2]; decide)
  rwa [Zv2] at this
theorem ZuJ (bz : Nat) (w : World) (hL : LibW w) (hG : Glob w) (hA : Zat w none (some ⟨bz, 0, none⟩) none none 0 1 0 0 twoS) :
  Does Tryz.prog 36 [srcV none (some ⟨bz, 0, none⟩) none none 0 1 0 0 twoS, .agg mstP.enc.toArray, .int .i64 1951] w (fun v O => v = .bool true /\ O = []) := by
 have h := ZxT hL hG (Zn5 w) (show okD twoS = true by decide +kernel) hA
 refine Zxd _ _ _ _ _ _ _ _ twoS mstP 1951 w (fun w' hw => ?_) (fun w' hw => ?_)
 ·have := Zsc _ _ _ _ _ _ _ _ twoS 0 ⟨zoA, [ZhF, ZdG]⟩ ZdG w' (h.up hw) ZrA rfl rfl (by decide) ⟨by decide, by decide⟩ (by decide)
  rwa [show Zbq ZdG ZdG.save ByteArray.empty = mstP from Zrz] at this
 ·have := Zkl _ _ _ _ _ _ _ _ twoS 0 ⟨zoA, [ZhF, ZdG]⟩ w' (h.up hw) ZrA rfl (by decide) (by rw [ZvY]; decide)
  rwa [ZvY] at this
theorem ZwU {G : Prop} (h : G := by (first | (apply ZtT (i := (⟨3, 0, 3, 3, 7200⟩ : Zb2)) (j := ⟨3, 0, 3, 3, 7200⟩) (enc := Zb2.enc); rfl; rfl; rfl) | (apply ZtT (i := (⟨1, 304, 0, 0, 10800⟩ : Zb2)) (j := ⟨1, 304, 0, 0, 10800⟩) (enc := Zb2.enc); rfl; rfl; rfl))) : G := h
set_option maxHeartbeats 4000000 in
theorem Zln (w : World) (hL : LibW w) (hG : Glob w) (hF : FtG w) : Does Tryz.prog 11 [] w (fun v O => v = .bool true /\ O = []) := by
 have d1 : ∀ w', Bel w.heap.size w w' -> Does Tryz.prog 31 [.agg Zeg.enc.toArray, .int .i64 3600, .int .i64 (-3600)] w' (fun v O => v = .tuple #[.agg #[.int .i64 3, .int .i64 0, .int .i64 3, .int .i64 3, .int .i64 7200], .int .i64 0] /\ O = []) := fun w' hw => ZsS Zeg 3600 (-3600) _ 0 w' (hG.up hw) (hF.up hw) Zyl
 have d2 : ∀ w', Bel w.heap.size w w' -> Does Tryz.prog 31 [.agg Zrx.enc.toArray, .int .i64 0, .int .i64 3600] w' (fun v O => v = .tuple #[.agg #[.int .i64 1, .int .i64 304, .int .i64 0, .int .i64 0, .int .i64 10800], .int .i64 0] /\ O = []) := fun w' hw => ZsS Zrx 0 3600 _ 0 w' (hG.up hw) (hF.up hw) Zyk
 have f1 := fun w' (hw : Bel w.heap.size w w') => ZsT (ZlC 2 ⟨1, 0, 29⟩ 0 0) w' (hG.up hw) (hF.up hw) Zyj
 have f2 := fun w' (hw : Bel w.heap.size w w') => ZsT (ZlC 3 (sunD 9) 0 0) w' (hG.up hw) (hF.up hw) Zyi
 have f3 := fun w' (hw : Bel w.heap.size w w') => ZsT { Zeg with to := 2010 } w' (hG.up hw) (hF.up hw) Zyh
 refine Zab Tryz.func11 rfl rfl rfl rfl ?_
 repeat (first | refine und ?_ | (apply RL_pu; rfl; exact ZwU) | (apply RD_Q; rfl; rfl; decide +kernel; rfl; rfl; exact QyFtW0) | refine ZuH ?_ | (refine jg ?_; (try intro F); (first | (refine Zac (fun w' _ => ZbD 15 w') ?_) | (refine Zac (fun w' _ => ZbD 9 w') ?_) | (refine Zac (fun w' _ => Zaz 31 w') ?_) | (refine Zac (fun w' _ => Zaz 29 w') ?_) | (refine Zac (fun w' _ => Zaz 1 w') ?_) | (refine Zac (fun w' _ => Zav 3 3 0 15 7200 0 w') ?_) | (refine Zac (fun w' _ => Zav 10 1 0 31 7200 0 w') ?_) | (refine Zac (fun w' _ => Zav 2 1 0 29 0 0 w') ?_) | (refine Zac (fun w' _ => Zav 3 3 0 9 0 0 w') ?_) | (refine Zac d1 ?_) | (refine Zac d2 ?_) | (refine Zac f1 ?_) | (refine Zac f2 ?_) | (refine Zac f3 ?_) | (refine bx ?_; intro bk) | (refine stA ?_)); first | refine ⟨_, EndsA, QFFtW0, ?_⟩ | refine fin ?_) | (refine jn ?_; (try intro F); (first | (refine bx ?_; intro bk) | (refine stA ?_) | (apply Zae; first | exact ZwU | exact PuA)); first | refine ⟨_, EndsA, QFFtW0, ?_⟩ | refine fin ?_) | (apply RD_W; rfl; intro bk))
 rename_i x1 x2 x3 x4 x5 be1 bz1 x8 be2 bz2 x11
 clear d1 d2 f1 f2 f3
 repeat (first | refine walk ?_ | (refine jg ?_; (try intro F); (first | (apply Zag (h := fun w' _ _ => ZsY w'); rfl; rintro v O' ⟨br, be, bz, rfl, rfl⟩) | (refine ZaV (fun w' hw hO => ZsZ br bz w' (hL.up hw) (hG.up hw) (hF.up hw) (Zw5 (ZkB (l := [ZoL, Zeg, Zjq]) Zaa.len (Nat.le_refl 3) (by decide) (hO.of (A := .blk br _ _) (by repeat' constructor))) (hO.of (A := .blk bz _ _) (by repeat' constructor)) (ZkB (l := [Zft, ZdI]) DEra.len (Nat.le_refl 2) (by decide) (hO.of (A := .blk be _ _) (by repeat' constructor))))) ?_) | (refine ZaV (fun w' hw hO => Zu3 bz1 w' (hL.up hw) (hG.up hw) (Zw5 (Zny _ _ _) (hO.of (A := .blk bz1 _ _) (by repeat' constructor)) (ZkB (l := [ZdH]) DEra.len (Nat.le_refl 1) (by decide) (hO.of (A := .blk be1 _ _) (by repeat' constructor))))) ?_) | (refine ZaV (fun w' hw hO => ZuJ bz2 w' (hL.up hw) (hG.up hw) (Zw5 (Zny _ _ _) (hO.of (A := .blk bz2 _ _) (by repeat' constructor)) (ZkB (l := [ZhF, ZdG]) DEra.len (Nat.le_refl 2) (by decide) (hO.of (A := .blk be2 _ _) (by repeat' constructor))))) ?_) | (refine bx ?_; intro bk) | (refine stA ?_)); refine fin ?_) | (refine jn ?_; (try intro F); (first | (refine bx ?_; intro bk) | (refine stA ?_) | (apply Zae; exact PuA)); refine fin ?_) | (apply RD_W; rfl; intro bk))
 exact rtA
end Go.Proofs.YtdlmhmmhdbbliaaGreatDoor
namespace Go.Wk
open Go Go.RowKit
def beIn (least nominal : Int) (r : Zaa) (i y : Int) : Nat -> Option Zad
 | 0 => none
 | k + 1 => match onR least r i y with
  | some e => if e.nominal < nominal then some e else beIn least nominal r i (y - 1) k
  | none => beIn least nominal r i (y - 1) k
def Zd0 (least nominal yr : Int) : List Zaa -> Nat -> Option Zad -> Option Zad
 | [], _, best => best
 | r :: l, i, best =>
  Zd0 least nominal yr l (i + 1) (match beIn least nominal r i (min (lastY r) (yr + 2)) 20 with
   | none => best
   | some e => match best with | none => some e | some b => if ordE b e < 0 then some e else some b)
def befD (l : List Zaa) (nominal : Int) : Option Zad := Zd0 (Zah l) nominal (Zax nominal) l 0 none
def fiIn (least : Int) (r : Zaa) (i y : Int) : Nat -> Option Zad
 | 0 => none
 | k + 1 => match onR least r i y with
  | some e => some e
  | none => fiIn least r i (y + 1) k
def firL (least : Int) : List Zaa -> Nat -> List Zad
 | [], _ => []
 | r :: l, i => (fiIn least r i (max r.from_ (-2000000000)) 9).toList ++ firL least l (i + 1)
def dR0 : Zaa := ⟨ByteArray.empty, 0, 0, 0, ⟨0, 0, 0⟩, ⟨0, 0⟩, 0, ByteArray.empty⟩
def ruE (l : List Zaa) (e : Zad) : Zaa := l.getD e.rule.toNat dR0
def fstB (l : List Zaa) (all : Bool) (but : Int) (best : Option Zad) (e : Zad) : Option Zad :=
 if (!all && decide ((ruE l e).save = but)) || (match best with | some b => decide (b.nominal <= e.nominal) | none => false) then best else some e
def fstD (l : List Zaa) (all : Bool) (but : Int) : Option Zad := (firL (Zah l) l 0).foldl (fstB l all but) none
def behS (l : List Zaa) (e : Zad) : Int × ByteArray := ((ruE l e).save, (ruE l e).letter)
def iniS (l : List Zaa) : Int × ByteArray :=
 match fstD l true 0 with
 | none => (0, ByteArray.empty)
 | some e => match fstD l false (ruE l e).save with
  | some o => behS l o
  | none => behS l e
def befS (l : List Zaa) (nominal : Int) : Int × ByteArray :=
 match befD l nominal with
 | some e => behS l e
 | none => iniS l
def Zcr (l : List Zaa) (e : Zad) (off : Int) : Int :=
 if (ruE l e).at_.base = 1 then e.nominal - max (Zah l) (-10800) - off
 else if (ruE l e).at_.base = 0 then e.nominal - (befS l e.nominal).1 - off
 else e.nominal
end Go.Wk
namespace Go.Proofs.YtdlmhmmhdbbliaaGreatDoor
open Go Go.RowKit Go.Wk
attribute [local irreducible] W RL Does Zau Zaj retQ Calls Pu Stp RD Qy Ay Zak
theorem Zup {G : Prop} (h : G := by (first | exact PuI | (apply Pu_loadO1; rfl; first | exact c1 0 _ rfl | exact c2 0 _ rfl | exact c3 0 _ rfl) | (apply ZiV; rfl; rfl; exact hmn))) : G := h
theorem Zwx {G : Prop} (h : G := by first | (apply Qy_y; rfl; exact Zup) | exact QyA) : G := h
theorem ZwC {G : Prop} (h : G := by repeat (first | exact QF.nil | (apply QF.mk; rfl; rfl; decide +kernel; exact Zwx))) : G := h
theorem ZpV {G : Prop} (h : G := by (apply Pu_loadO1; rfl; first | exact c1 0 _ rfl | exact c2 0 _ rfl | exact c3 0 _ rfl)) : G := h
theorem ZmI (A : Option Addr) (c : Nat) (l : List Zaa) (i : Nat) (r : Zaa) (yr nominal : Int) (b1 b2 b3 : Nat) (w : World) (hG : Glob w) (hA : RdSl w A c Zaa.enc 11 l) (hi : l[i]? = some r) (hn : l.length <= 1000000) (hR : ∀ r ∈ l, -4611686018427387904 <= r.save /\ r.save <= 4611686018427387904)
  (hy : -2000000000 <= yr /\ yr <= 2000000000) (hf : -4611686018427387904 <= r.to) (c1 : Zal w ⟨b1, 0, none⟩ [.slice A l.length c]) (c2 : Zal w ⟨b2, 0, none⟩ [.int .i64 yr]) (c3 : Zal w ⟨b3, 0, none⟩ [.int .i64 nominal]) :
  Does Tryz.prog 59 [.int .i64 i, .pointer (some ⟨b1, 0, none⟩), .pointer (some ⟨b2, 0, none⟩), .pointer (some ⟨b3, 0, none⟩)] w (fun v O => v = .tuple #[evV (beIn (Zah l) nominal r i (min (lastY r) (yr + 2)) 20), .bool (beIn (Zah l) nominal r i (min (lastY r) (yr + 2)) 20).isSome] /\ O = []) := by
 have hlt : i < l.length := (List.getElem?_eq_some_iff.1 hi).1
 obtain ⟨y0, hy0⟩ : ∃ y0, min (lastY r) (yr + 2) = y0 := ⟨_, rfl⟩
 have hlb : -4611686018427387904 <= lastY r /\ lastY r <= 2000000000 := by
  unfold lastY
  split <;> omega
 have hyb : -4611686018427387904 <= y0 /\ y0 <= 2000000002 := by omega
 have hmn : (if yr + 2 < lastY r then yr + 2 else lastY r) = y0 := by rw [<- hy0]; split <;> omega
 have hla := fun w' => ZjM r w'
 rw [hy0]
 obtain ⟨res, hres⟩ : ∃ res, beIn (Zah l) nominal r i y0 20 = res := ⟨_, rfl⟩
 rw [hres]
 have hon := fun y w' (hw : Bel w.heap.size w w') => Zf6 A c l i y r w' (hG.up hw) (hA.up hw) hi hn hR
 obtain ⟨hna, hca⟩ := hA.rd i _ hi
 generalize Zah l = least at *
 generalize lastY r = ly at *
 clear hy0
 obtain ⟨nm, fr, to, mo, ⟨dk, dw, dd⟩, ⟨cs, cb⟩, sv, le⟩ := r
 change Zal w _ [.string nm, .int .i64 fr, .int .i64 to, .int .i64 mo, .int .i64 dk, .int .i64 dw, .int .i64 dd, .int .i64 cs, .int .i64 cb, .int .i64 sv, .string le] at hca
 refine Zab Tryz.func59 rfl rfl rfl rfl ?_
 repeat (first | (apply RL_pu; rfl; exact Zup) | (apply RD_Q; rfl; rfl; decide +kernel; rfl; rfl; exact Zwx) | refine walk1 ?_ | (refine jg ?_; (try intro F); (first | (refine Zac (fun w' _ => hla w') ?_) | (refine bx ?_; intro bk) | (refine stA ?_)); first | refine ⟨_, EndsA, ZwC, ?_⟩ | refine fin ?_) | (refine jn ?_; (try intro F); (first | (refine bx ?_; intro bk) | (refine stA ?_) | (apply Zae; first | exact Zup | exact PuA)); first | refine ⟨_, EndsA, ZwC, ?_⟩ | refine fin ?_) | (apply RD_W; rfl; intro bk))
 refine Zao [(0, .int .i64 i), (1, .pointer (some ⟨b1, 0, none⟩)), (2, .pointer (some ⟨b2, 0, none⟩)), (3, .pointer (some ⟨b3, 0, none⟩)), (7, .int .i64 y0), (5, .pointer (some ⟨bk, 0, none⟩))] [.blk bk [.int .i64 0, .int .i64 0, .int .i64 0] 92] (fun j : Nat => [(19, .int .i64 j)]) (fun _ => []) (fun j => j <= 20 /\ beIn least nominal ⟨nm, fr, to, mo, ⟨dk, dw, dd⟩, ⟨cs, cb⟩, sv, le⟩ i (y0 - j) (20 - j) = res) (fun j => 20 - j) 0 SFA SOA ⟨Nat.zero_le _, by simpa using hres⟩ ?_
 rintro j ⟨hj, hi2⟩
 repeat (first | refine walk ?_ | (refine jn ?_; (try intro F); (first | (refine bx ?_; intro bk) | (refine stA ?_) | (apply Zae; exact PuA)); refine fin ?_) | (apply RD_W; rfl; intro bk))
 refine Zaf rfl (fun h => ?_) (fun h => ?_)
 ·have hj20 : j < 20 := by have := of_decide_eq_true h; omega
  rw [show 20 - j = (19 - j) + 1 by omega, beIn] at hi2
  have ho := hon (y0 - j)
  generalize onR least _ i (y0 - j) = o at *
  cases o with
  | none =>
   simp only [evV, Zad.enc, dEv0, Option.isSome] at ho
   repeat (first | (apply RL_pu; rfl; exact ZpV) | (apply RD_Q; rfl; rfl; decide +kernel; rfl; rfl; exact QyBfA1) | refine walk1 ?_ | (refine jg ?_; (try intro F); (first | (refine Zac ho ?_) | (refine bx ?_; intro bk) | (refine stA ?_)); first | refine ⟨_, EndsA, QFBfA1, ?_⟩ | refine fin ?_) | (refine jn ?_; (try intro F); (first | (refine bx ?_; intro bk) | (refine stA ?_) | (apply Zae; first | exact ZpV | exact PuA)); first | refine ⟨_, EndsA, QFBfA1, ?_⟩ | refine fin ?_) | (apply RD_W; rfl; intro bk))
   exact ⟨j + 1, OA, ⟨OA, by rw [show 20 - (j + 1) = 19 - j by omega, show y0 - ((j + 1 : Nat) : Int) = y0 - j - 1 by omega]; exact hi2⟩, SFA, SOA⟩
  | some e =>
   obtain ⟨ey, er, en⟩ := e
   simp only [evV, Zad.enc, Option.isSome] at ho hi2
   repeat (first | (apply RL_pu; rfl; exact ZpV) | (apply RD_Q; rfl; rfl; decide +kernel; rfl; rfl; exact QyBfA1) | refine walk1 ?_ | (refine jg ?_; (try intro F); (first | (refine Zac ho ?_) | (refine bx ?_; intro bk) | (refine stA ?_)); first | refine ⟨_, EndsA, QFBfA1, ?_⟩ | refine fin ?_) | (refine jn ?_; (try intro F); (first | (refine bx ?_; intro bk) | (refine stA ?_) | (apply Zae; first | exact ZpV | exact PuA)); first | refine ⟨_, EndsA, QFBfA1, ?_⟩ | refine fin ?_) | (apply RD_W; rfl; intro bk))
   refine Zaf rfl (fun h2 => ?_) (fun h2 => ?_)
   ·rw [if_pos (of_decide_eq_true h2)] at hi2
    subst hi2
    repeat (first | refine walk ?_ | (refine jn ?_; (try intro F); (first | (refine bx ?_; intro bk) | (refine stA ?_) | (apply Zae; exact PuA)); refine fin ?_) | (apply RD_W; rfl; intro bk))
    exact rtC
   ·rw [if_neg (of_decide_eq_false h2)] at hi2
    repeat (first | refine walk ?_ | (refine jn ?_; (try intro F); (first | (refine bx ?_; intro bk) | (refine stA ?_) | (apply Zae; exact PuA)); refine fin ?_) | (apply RD_W; rfl; intro bk))
    exact ⟨j + 1, OA, ⟨OA, by rw [show 20 - (j + 1) = 19 - j by omega, show y0 - ((j + 1 : Nat) : Int) = y0 - j - 1 by omega]; exact hi2⟩, SFA, SOA⟩
 ·obtain rfl : j = 20 := by have := of_decide_eq_false h; omega
  obtain rfl : none = res := by rw [<- hi2]; rfl
  repeat (first | refine walk ?_ | (refine jn ?_; (try intro F); (first | (refine bx ?_; intro bk) | (refine stA ?_) | (apply Zae; exact PuA)); refine fin ?_) | (apply RD_W; rfl; intro bk))
  exact rtC
theorem ZmH (a b : Zad) (w : World) : Does Tryz.prog 62 [.agg (Zad.enc a).toArray, .agg (Zad.enc b).toArray] w (fun v O => v = .int .i64 (ordE b a) /\ O = []) := by
 have h := fun w' => ZjC b a w'
 obtain ⟨y, r, n⟩ := a
 obtain ⟨y2, r2, n2⟩ := b
 show Does _ _ [.agg #[.int .i64 y, .int .i64 r, .int .i64 n], .agg #[.int .i64 y2, .int .i64 r2, .int .i64 n2]] w _
 refine Zab Tryz.func62 rfl rfl rfl rfl ?_
 repeat (first | (refine js ?_; (first | (refine Zac (fun w' _ => h w') ?_) | (refine bx ?_; intro bk))) | refine walk ?_)
 exact rtA
theorem Zq5 (A : Option Addr) (c : Nat) (l : List Zaa) (yr nominal : Int) (b1 b2 b3 : Nat) (w : World) (hG : Glob w) (hA : RdSl w A c Zaa.enc 11 l) (hn : l.length <= 1000000) (hR : ∀ r ∈ l, (-4611686018427387904 <= r.save /\ r.save <= 4611686018427387904) /\ (r.from_ <= 4611686018427387904 /\ -4611686018427387904 <= r.to))
  (hy : -2000000000 <= yr /\ yr <= 2000000000) (c1 : Zal w ⟨b1, 0, none⟩ [.slice A l.length c]) (c2 : Zal w ⟨b2, 0, none⟩ [.int .i64 yr]) (c3 : Zal w ⟨b3, 0, none⟩ [.int .i64 nominal]) :
  Does Tryz.prog 58 [.slice A l.length c, .func (.func 59) #[] #[.pointer (some ⟨b1, 0, none⟩), .pointer (some ⟨b2, 0, none⟩), .pointer (some ⟨b3, 0, none⟩)], .func (.func 62) #[] #[]] w
   (fun v O => v = .tuple #[evV (Zd0 (Zah l) nominal yr l 0 none), .bool (Zd0 (Zah l) nominal yr l 0 none).isSome] /\ O = []) := by
 have haf := fun (i : Nat) r (hi : l[i]? = some r) w' (hw : Bel w.heap.size w w') => ZmI A c l i r yr nominal b1 b2 b3 w' (hG.up hw) (hA.up hw) hi hn (fun r hr => (hR r hr).1) hy (hR r (List.mem_of_getElem? hi)).2.2 (c1.up hw (Nat.le_refl _)) (c2.up hw (Nat.le_refl _)) (c3.up hw (Nat.le_refl _))
 obtain ⟨res, hres⟩ : ∃ res, Zd0 (Zah l) nominal yr l 0 none = res := ⟨_, rfl⟩
 rw [hres]
 generalize Zah l = least at *
 clear hA hR c1 c2 c3
 refine Zab Tryz.func58 rfl rfl rfl rfl ?_
 repeat (first | (refine js ?_; (refine bx ?_; intro bk)) | refine walk ?_)
 rename_i b6
 refine Zao [(13, .slice A l.length c), (1, .func (.func 59) #[] #[.pointer (some ⟨b1, 0, none⟩), .pointer (some ⟨b2, 0, none⟩), .pointer (some ⟨b3, 0, none⟩)]), (2, .func (.func 62) #[] #[]), (8, .pointer (some ⟨bk, 0, none⟩)), (6, .pointer (some ⟨b6, 0, none⟩)), (14, .int .i64 l.length)] [.blk b6 [.int .i64 0, .int .i64 0, .int .i64 0] 92]
  (fun g : BG => [(15, .int .i64 g.k), (9, .bool g.b.isSome)]) (fun g => [.blk bk (evC g.b) 92]) (fun g => g.k <= l.length /\ Zd0 least nominal yr (l.drop g.k) g.k g.b = res) (fun g => l.length - g.k) ⟨0, none⟩ SFA SOA ⟨Nat.zero_le _, hres⟩ ?_
 rintro ⟨k, b⟩ ⟨hk, hi⟩
 dsimp only at hk hi ⊢
 repeat (first | (refine js ?_; (refine bx ?_; intro bk)) | refine walk ?_)
 refine Zaf rfl (fun h => ?_) (fun h => ?_)
 ·have hlt : k < l.length := by simpa using h
  have ho := haf k _ (List.getElem?_eq_getElem hlt)
  rw [Zan hlt, Zd0] at hi
  generalize beIn least nominal l[k] k (min (lastY l[k]) (yr + 2)) 20 = o at *
  have hord := fun e e2 w' => ZmH e e2 w'
  rcases o with _ | ⟨ey, er, en⟩ <;> rcases b with _ | ⟨by_, br, bn⟩ <;> simp only [evV, evC, Zad.enc, dEv0, Option.isSome] at ho hi ⊢
  ·repeat (first | refine und ?_ | (refine js ?_; (first | (apply Zaq (f := 59) (us := []) (vs := [.int .i64 k]) (cs := [.pointer (some ⟨b1, 0, none⟩), .pointer (some ⟨b2, 0, none⟩), .pointer (some ⟨b3, 0, none⟩)]) (h := fun w' hw _ => ho w' hw); rfl; rfl; rintro v O' ⟨rfl, rfl⟩) | (refine bx ?_; intro bk))) | refine walk ?_)
   exact ⟨⟨k + 1, none⟩, OA, ⟨OA, hi⟩, SFA, SOA⟩
  ·repeat (first | refine und ?_ | (refine js ?_; (first | (apply Zaq (f := 59) (us := []) (vs := [.int .i64 k]) (cs := [.pointer (some ⟨b1, 0, none⟩), .pointer (some ⟨b2, 0, none⟩), .pointer (some ⟨b3, 0, none⟩)]) (h := fun w' hw _ => ho w' hw); rfl; rfl; rintro v O' ⟨rfl, rfl⟩) | (refine bx ?_; intro bk))) | refine walk ?_)
   exact ⟨⟨k + 1, some ⟨by_, br, bn⟩⟩, OA, ⟨OA, hi⟩, SFA, SOA⟩
  ·repeat (first | refine und ?_ | (refine js ?_; (first | (apply Zaq (f := 59) (us := []) (vs := [.int .i64 k]) (cs := [.pointer (some ⟨b1, 0, none⟩), .pointer (some ⟨b2, 0, none⟩), .pointer (some ⟨b3, 0, none⟩)]) (h := fun w' hw _ => ho w' hw); rfl; rfl; rintro v O' ⟨rfl, rfl⟩) | (refine bx ?_; intro bk))) | refine walk ?_)
   exact ⟨⟨k + 1, some ⟨ey, er, en⟩⟩, OA, ⟨OA, hi⟩, SFA, SOA⟩
  ·repeat (first | refine und ?_ | (refine js ?_; (first | (apply Zaq (f := 59) (us := []) (vs := [.int .i64 k]) (cs := [.pointer (some ⟨b1, 0, none⟩), .pointer (some ⟨b2, 0, none⟩), .pointer (some ⟨b3, 0, none⟩)]) (h := fun w' hw _ => ho w' hw); rfl; rfl; rintro v O' ⟨rfl, rfl⟩) | (apply Zaq (f := 62) (us := []) (cs := []) (vs := [.agg #[.int .i64 ey, .int .i64 er, .int .i64 en], .agg #[.int .i64 by_, .int .i64 br, .int .i64 bn]]) (h := fun w' hw _ => hord ⟨ey, er, en⟩ ⟨by_, br, bn⟩ w'); rfl; rfl; rintro v O' ⟨rfl, rfl⟩) | (refine bx ?_; intro bk))) | refine walk ?_)
   refine Zaf rfl (fun h2 => ?_) (fun h2 => ?_)
   ·rw [if_pos (of_decide_eq_true h2)] at hi
    repeat (first | (refine js ?_; (refine bx ?_; intro bk)) | refine walk ?_)
    exact ⟨⟨k + 1, some ⟨ey, er, en⟩⟩, OA, ⟨OA, hi⟩, SFA, SOA⟩
   ·rw [if_neg (of_decide_eq_false h2)] at hi
    repeat (first | (refine js ?_; (refine bx ?_; intro bk)) | refine walk ?_)
    exact ⟨⟨k + 1, some ⟨by_, br, bn⟩⟩, OA, ⟨OA, hi⟩, SFA, SOA⟩
 ·obtain rfl : k = l.length := by have := of_decide_eq_false h; omega
  rw [List.drop_length, Zd0] at hi
  subst hi
  rcases b with _ | ⟨by_, br, bn⟩ <;> simp only [evC, Zad.enc, dEv0]
  ·repeat (first | (refine js ?_; (refine bx ?_; intro bk)) | refine walk ?_)
   exact rtC
  ·repeat (first | (refine js ?_; (refine bx ?_; intro bk)) | refine walk ?_)
   exact rtC
def Zx0 (l : List Zaa) : Prop := ∀ r ∈ l, (-4611686018427387904 <= r.save /\ r.save <= 4611686018427387904) /\ (r.from_ <= 4611686018427387904 /\ -4611686018427387904 <= r.to)
theorem ZdU (A : Option Addr) (c : Nat) (l : List Zaa) (nominal : Int) (w : World) (hG : Glob w) (hA : RdSl w A c Zaa.enc 11 l) (hn : l.length <= 1000000) (hR : Zx0 l) (ht : -4611686018427387904 <= nominal /\ nominal <= 4611686018427387904) :
  Does Tryz.prog 24 [.slice A l.length c, .int .i64 nominal] w (fun v O => v = .tuple #[evV (befD l nominal), .bool (befD l nominal).isSome] /\ O = []) := by
 have hb := fun (b1 b2 b3 : Nat) w' (hw : Bel w.heap.size w w') c1 c2 c3 => Zq5 A c l (Zax nominal) nominal b1 b2 b3 w' (hG.up hw) (hA.up hw) hn hR (Zlm nominal) c1 c2 c3
 change ∀ (b1 b2 b3 : Nat) w' (hw : Bel w.heap.size w w') c1 c2 c3, Does _ _ _ w' (fun v O => v = .tuple #[evV (befD l nominal), .bool (befD l nominal).isSome] /\ O = []) at hb
 have hyr := fun w' (hw : Bel w.heap.size w w') => ZhD nominal ht w' (hG.up hw)
 generalize befD l nominal = res at *
 generalize Zax nominal = yr at *
 refine Zab Tryz.func24 rfl rfl rfl rfl ?_
 rcases res with _ | ⟨ey, er, en⟩ <;> simp only [evV, Zad.enc, dEv0, Option.isSome] at hb ⊢
 ·repeat (first | (refine js ?_; (first | (refine Zac hyr ?_) | (apply Zag (h := fun w' hw hH => hb _ _ _ w' hw (hH.cells (by repeat' constructor)) (hH.cells (by repeat' constructor)) (hH.cells (by repeat' constructor))); rfl; rintro v O' ⟨rfl, rfl⟩) | (refine bx ?_; intro bk))) | refine walk ?_)
  exact rtC
 ·repeat (first | (refine js ?_; (first | (refine Zac hyr ?_) | (apply Zag (h := fun w' hw hH => hb _ _ _ w' hw (hH.cells (by repeat' constructor)) (hH.cells (by repeat' constructor)) (hH.cells (by repeat' constructor))); rfl; rintro v O' ⟨rfl, rfl⟩) | (refine bx ?_; intro bk))) | refine walk ?_)
  exact rtC
theorem ZoU {l : List Zaa} {e : Zad} {r : Zaa} (h : l[e.rule.toNat]? = some r) : ruE l e = r := by
 unfold ruE
 rw [List.getD_eq_getElem?_getD, h]; rfl
def stV (x : Int × ByteArray) : Value := .agg #[.int .i64 x.1, .string x.2]
theorem ZtY {G : Prop} (h : G := by (first | exact PuI | (apply Pu_loadO1; rfl; first | exact hca 9 _ rfl | exact hca 10 _ rfl))) : G := h
theorem Zwm {G : Prop} (h : G := by first | (apply Qy_y; rfl; exact ZtY) | exact QyA) : G := h
theorem Zy5 {G : Prop} (h : G := by repeat (first | exact QF.nil | (apply QF.mk; rfl; rfl; decide +kernel; exact Zwm))) : G := h
theorem ZcG (A : Option Addr) (c : Nat) (l : List Zaa) (e : Zad) (w : World) (hA : RdSl w A c Zaa.enc 11 l) (he : 0 <= e.rule /\ e.rule < l.length) :
  Does Tryz.prog 220 [.slice A l.length c, .agg e.enc.toArray] w (fun v O => v = stV (behS l e) /\ O = []) := by
 obtain ⟨r, hr⟩ : ∃ r, l[e.rule.toNat]? = some r := ⟨_, List.getElem?_eq_getElem (by omega)⟩
 have hle := hA.le
 have hcp := hA.cap
 simp only [maxLen] at hcp
 unfold behS
 rw [ZoU hr]
 obtain ⟨hna, hca⟩ := hA.rd _ _ hr
 obtain ⟨y, q, n⟩ := e
 dsimp only at he hr hca
 show Does _ _ [_, .agg #[.int .i64 y, .int .i64 q, .int .i64 n]] w _
 refine Zab Tryz.func220 rfl rfl rfl rfl ?_
 repeat (first | (apply RL_pu; rfl; exact ZtY) | (apply RD_Q; rfl; rfl; decide +kernel; rfl; rfl; exact Zwm) | refine walk1 ?_ | (refine jn ?_; (try intro F); (first | (refine bx ?_; intro bk) | (refine stA ?_) | (apply Zae; first | exact ZtY | exact PuA)); first | refine ⟨_, EndsA, Zy5, ?_⟩ | refine fin ?_) | (apply RD_W; rfl; intro bk))
 exact ret_1 _ [] (.cellB rfl (by repeat' constructor) rfl rfl) .nil ⟨rfl, rfl⟩
theorem Zn8 (A : Option Addr) (c : Nat) (l : List Zaa) (w : World) (hA : RdSl w A c Zaa.enc 11 l) : Does Tryz.prog 294 [.slice A l.length c] w (fun v O => v = .int .i64 (max (Zah l) (-10800)) /\ O = []) := by
 have hle := hA.le
 have hcp := hA.cap
 unfold maxLen at hcp
 generalize hres : Zah l = res
 unfold Zah at hres
 have hmx : (if res < -10800 then -10800 else res) = max res (-10800) := by split <;> omega
 refine Zab Tryz.func294 rfl rfl rfl rfl ?_
 repeat (first | (refine js ?_; (refine bx ?_; intro bk)) | refine walk ?_)
 refine Zao [(6, _), (7, _)] [] (fun g : Nat × Int => [(3, .int .i64 g.2), (8, .int .i64 g.1)]) (fun _ => []) (fun g => g.1 <= l.length /\ (l.drop g.1).foldl (fun m r => min m r.save) g.2 = res) (fun g => l.length - g.1) (0, 0) SFA SOA ⟨Nat.zero_le _, hres⟩ ?_
 rintro ⟨k, m⟩ ⟨hk, hi⟩
 dsimp only at hk hi ⊢
 repeat (first | (refine js ?_; (refine bx ?_; intro bk)) | refine walk ?_)
 refine Zaf rfl (fun h => ?_) (fun h => ?_)
 ·have hlt : k < l.length := by simpa using h
  obtain ⟨hna, hca⟩ := hA.rd k _ (List.getElem?_eq_getElem hlt)
  rw [Zan hlt] at hi
  generalize l[k] = r at *
  obtain ⟨nm, fr, to, mo, ⟨dk, dw, dd⟩, ⟨cs, cb⟩, sv, le⟩ := r
  simp only [Zaa.enc, List.foldl_cons] at hca hi
  repeat (first | (apply RL_pu; rfl; (first | exact PuI | (apply ZeH; rfl; rfl))) | (refine js ?_; (refine bx ?_; intro bk)) | refine walk1 ?_)
  rw [show (if sv < m then sv else m) = min m sv by split <;> omega]
  exact ⟨(k + 1, min m sv), OA, ⟨OA, hi⟩, SFA, .nil⟩
 ·have hkl : k = l.length := by
   have := of_decide_eq_false h
   omega
  subst hkl
  rw [List.drop_length] at hi
  obtain rfl : m = res := hi
  repeat (first | (apply RL_pu; rfl; (apply ZeI; rfl; rfl; exact hmx)) | (refine js ?_; (refine bx ?_; intro bk)) | refine walk1 ?_)
  exact rtA
theorem ZwN {G : Prop} (h : G := by (first | (apply Zbg; rfl; rfl; exact b1) | (apply ZaM; rfl; rfl; exact b2))) : G := h
theorem ZuM (a b : Int) (ha : -4000000000000000000 <= a /\ a <= 4000000000000000000) (hb : -4000000000000000000 <= b /\ b <= 4000000000000000000) (w : World) : Does Tryz.prog 293 [.int .i64 a, .int .i64 b] w (fun v O => v = .tuple #[.int .i64 (a - b), .bool true] /\ O = []) := by
 refine Zab Tryz.func293 rfl rfl rfl rfl ?_
 by_cases h : 0 < b
 ·have b1 : decide (a - b < a) = true := decide_eq_true (by omega)
  have b2 : decide (0 < b) = true := decide_eq_true h
  repeat (first | refine und ?_ | (apply RL_pu; rfl; exact ZwN) | refine walk1 ?_)
  exact rtB
 ·have b1 : decide (a - b < a) = false := decide_eq_false (by omega)
  have b2 : decide (0 < b) = false := decide_eq_false h
  repeat (first | refine und ?_ | (apply RL_pu; rfl; exact ZwN) | refine walk1 ?_)
  exact rtB
theorem ZeT (Z : It) (x t : Int) (b7 b8 : Nat) (wr : World) (hx : -2000000000000000000 <= x /\ x <= 2000000000000000000) (ht : -2000000000000000000 <= t /\ t <= 2000000000000000000) :
  Zak Tryz.prog 292 [.int .i64 x, .pointer (some ⟨b7, 0, none⟩), .pointer (some ⟨b8, 0, none⟩)] wr [Z, .blk b7 [.int .i64 t] 2, .blk b8 [.bool true] 4] (fun v O' => v = .tuple #[] /\ O' = [Z, .blk b7 [.int .i64 (t - x)] 2, .blk b8 [.bool true] 4]) := by
 have hs := fun w' => ZuM t x (by omega) (by omega) w'
 refine Zbz Tryz.func292 rfl rfl rfl rfl ?_
 repeat (first | (refine js ?_; (refine Zac (fun w' _ => hs w') ?_)) | refine walk ?_)
 exact Zxg [Z, .blk b7 [.int .i64 (t - x)] 2, .blk b8 [.bool true] 4] SOA ⟨rfl, rfl⟩
end Go.Proofs.YtdlmhmmhdbbliaaGreatDoor
namespace Go.Wk
open Go Go.RowKit Go.ChangeMaps
def Rng (b r : Nat) (m left : List (ByteArray × Value)) (cur : Option (ByteArray × Value)) (w : World) : Prop :=
 ∃ (es : Array MapEntry) (clock since : Nat) (seen : Array Nat) (c0 : Nat), w.heap[b]? = some (.map es clock) /\ Zcs m es /\ stOk es clock /\ (∀ x ∈ es.toList, x.born < since) /\ since <= c0 /\ since <= clock /\ w.heap[r]? = some (.mapIter (some b) since seen c0) /\ Zcs left (leftOf es seen) /\
  ∀ kv, cur = some kv -> ∃ e ∈ es.toList, ∃ s0 : Array Nat, seen = s0.push e.born /\ c0 = clock /\ e.key = .string kv.1 /\ e.val = kv.2
theorem Rng.congr {b r : Nat} {m left : List (ByteArray × Value)} {cur : Option (ByteArray × Value)} {w w' : World} (h : Rng b r m left cur w) (h1 : w'.heap[b]? = w.heap[b]?) (h2 : w'.heap[r]? = w.heap[r]?) : Rng b r m left cur w' := by
 obtain ⟨es, clock, since, seen, c0, a1, a2, a3, a4, a5, a5', a6, a7, a8⟩ := h
 exact ⟨es, clock, since, seen, c0, h1.trans a1, a2, a3, a4, a5, a5', h2.trans a6, a7, a8⟩
section
variable {P : Program} {n : Nat} {wr : World} {fr : Fr} {O : List It} {ty : TypeId} {pos : String} {af : Array Edge} {dst : Option Tmp} {g : Option (Nat × Bool)} {Kp : Value -> List It -> Prop}
end
end Go.Wk
namespace Go.Proofs.YtdlmhmmhdbbliaaGreatDoor
open Go Go.RowKit Go.Wk
attribute [local irreducible] W RL Does Zau Zaj retQ Calls Pu Stp RD Qy Ay Zak
end Go.Proofs.YtdlmhmmhdbbliaaGreatDoor
set_option maxHeartbeats 2000000
namespace Go.Wk
open Go Go.RowKit
theorem Zm6 {P : Program} {n : Nat} {f : FuncId} {fn : Func} {c : Code} {args : List Value} {wr w : World} {O : List It} {R : Ending -> World -> Prop} (hf : P.funcs[f]? = some fn) (hb : fn.body = some c) (hn : fn.ntmps = n) (ha : Nat.ble args.length n = true)
  (hB : Bel wr.heap.size wr w) (hH : Zaw wr.heap.size O w) (h : ∀ a, St n wr (Zfn 0 args) O a w -> c.wp P (bodyPostM Fence.wide 0 P fn R) a w) : Calls P f args.toArray w R := by
 refine (callsIn_wide (n := 0)).1 (callsIn_of_wp_marks hf hb trivial ?_)
 refine (wpIn_wide (n := 0)).2 (h _ ?_)
 have ha' : args.length <= n := Nat.le_of_ble_eq_true ha
 refine ⟨⟨rfl, by simp; omega, fun t v hv => ?_⟩, hB, hH⟩
 have := (ZcV args 0 t v hv).2
 simp only [Nat.sub_zero] at this
 have hlt : t < args.length := (List.getElem?_eq_some_iff.1 this).1
 rw [Array.getElem?_append_left (by simpa using hlt)]
 simpa using this
end Go.Wk
namespace Go.Proofs.YtdlmhmmhdbbliaaGreatDoor
open Go Go.RowKit Go.Wk
attribute [local irreducible] W RL Does Zau Zaj retQ Calls Pu Stp RD Qy Ay Zak RLI WI
def Zxz (A : Option Addr) (n c : Nat) (v : Value) (O : List It) : Prop := ∃ bl, v = .func (.func 260) #[] #[.pointer (some ⟨bl, 0, none⟩)] /\ O = [.blk bl [.slice A n c] 27]
theorem ZnQ (A : Option Addr) (n c : Nat) (w : World) : Does Tryz.prog 250 [.slice A n c] w (Zxz A n c) := by
 refine Zab Tryz.func250 rfl rfl rfl rfl ?_
 repeat (first | (refine js ?_; (refine bx ?_; intro bk)) | refine walk ?_)
 exact ret_1 _ [.blk bk [.slice A n c] 27] (.tmp rfl) SOA ⟨bk, rfl, rfl⟩
structure FiG (σ : Type) where
 k : Nat
 d : List Zad
 s : σ
set_option maxRecDepth 20000
theorem ZwM {G : Prop} (h : G := by (apply Pu_loadB1; rfl; (focus repeat' constructor); rfl)) : G := h
set_option maxHeartbeats 4000000 in
theorem Zmh {σ : Type} (L bl : Nat) (A : Option Addr) (c : Nat) (l : List Zaa) (OC : σ -> List It) (Inv : List Zad -> σ -> Prop) (wr : World) (s0 : σ) (h0 : Inv [] s0) (hG : Glob wr) (hA : RdSl wr A c Zaa.enc 11 l) (hn : l.length <= 1000000) (hR : ∀ r ∈ l, -4611686018427387904 <= r.save /\ r.save <= 4611686018427387904) (hF : ∀ r ∈ l, r.from_ <= 4611686018427387904)
  (hY : ∀ (d : List Zad) (e : Zad) (s : σ) (X Y : It), (∃ (k : Nat) (r : Zaa), l[k]? = some r /\ e.rule = k) -> Inv d s -> Ze2 Tryz.prog L (.agg e.enc.toArray) wr (X :: Y :: OC s) fun bb O' => bb = true /\ ∃ s', Inv (d ++ [e]) s' /\ SubO (X :: Y :: OC s') O') :
  Zak Tryz.prog 260 [.func (.yield L) #[] #[], .pointer (some ⟨bl, 0, none⟩)] wr (.blk bl [.slice A l.length c] 27 :: OC s0)
   (fun v O' => v = .tuple #[] /\ ∃ s', Inv (firL (Zah l) l 0) s' /\ SubO (.blk bl [.slice A l.length c] 27 :: OC s') O') := by
 have hon := fun (i : Nat) r (hi : l[i]? = some r) y w' (hw : Bel wr.heap.size wr w') => Zf6 A c l i y r w' (hG.up hw) (hA.up hw) hi hn hR
 have hru : ∀ (r : Zaa) (i y : Int) e, onR (Zah l) r i y = some e -> e.rule = i := fun r i y e h => by
  unfold onR at h
  split at h
  ·cases h
  ·split at h
   ·cases h
   ·cases h; rfl
 generalize Zah l = least at *
 obtain ⟨res, hres⟩ : ∃ res, firL least l 0 = res := ⟨_, rfl⟩
 rw [hres]
 have hle := hA.le
 have hcp := hA.cap
 simp only [maxLen] at hcp
 refine Zbz Tryz.func260 rfl rfl rfl rfl ?_
 repeat (first | (refine js ?_; (refine bx ?_; intro bk)) | refine walk ?_)
 refine Zao [(0, .func (.yield L) #[] #[]), (1, .pointer (some ⟨bl, 0, none⟩)), (9, .slice A l.length c), (10, .int .i64 l.length)] [] (fun g : FiG σ => [(11, .int .i64 g.k)]) (fun g => .blk bl [.slice A l.length c] 27 :: OC g.s) (fun g => g.k <= l.length /\ Inv g.d g.s /\ g.d ++ firL least (l.drop g.k) g.k = res) (fun g => l.length - g.k) ⟨0, [], s0⟩ SFA ?_ ⟨Nat.zero_le _, h0, by dsimp only; rw [List.drop_zero, List.nil_append]; exact hres⟩ ?_
 ·rw [List.append_nil]; exact .refl _
 clear hres
 rintro ⟨k, d, s⟩ ⟨hk, hi, hd⟩
 dsimp only at hk hi hd ⊢
 rw [List.append_nil]
 repeat (first | (refine js ?_; (refine bx ?_; intro bk)) | refine walk ?_)
 refine Zaf rfl (fun hc => ?_) (fun hc => ?_)
 ·have hkl : k < l.length := by simpa using hc
  have hge := List.getElem?_eq_getElem hkl
  obtain ⟨hna, hca⟩ := hA.rd k _ hge
  have hfr := hF _ (List.getElem_mem hkl)
  rw [Zan hkl, firL] at hd
  generalize l[k] = r at *
  obtain ⟨f0, hf0⟩ : ∃ f0, max r.from_ (-2000000000) = f0 := ⟨_, rfl⟩
  have hmx : (if r.from_ < -2000000000 then -2000000000 else r.from_) = f0 := by rw [<- hf0]; split <;> omega
  have hfb : -2000000000 <= f0 /\ f0 <= 4611686018427387904 := by omega
  rw [hf0] at hd
  have hon1 := hon k r hge
  obtain ⟨r1, hr1⟩ : ∃ r1, fiIn least r k f0 9 = r1 := ⟨_, rfl⟩
  rw [hr1] at hd
  obtain ⟨nm, fr, to, mo, ⟨dk, dw, dd⟩, ⟨cs, cb⟩, sv, le⟩ := r
  change Zal wr _ [.string nm, .int .i64 fr, .int .i64 to, .int .i64 mo, .int .i64 dk, .int .i64 dw, .int .i64 dd, .int .i64 cs, .int .i64 cb, .int .i64 sv, .string le] at hca
  dsimp only at hmx
  repeat (first | (refine js ?_; (refine bx ?_; intro bk)) | refine Zkq ?_)
  refine W_block ?_
  repeat (first | (apply RL_pu; rfl; (first | exact PuI | (apply ZeI; rfl; rfl; exact hmx))) | (refine js ?_; (refine bx ?_; intro bk)) | refine walkB1 ?_)
  refine ZbZ (fun fr' O' => ∃ s', Inv (d ++ r1.toList) s' /\ Sub [(0, .func (.yield L) #[] #[]), (1, .pointer (some ⟨bl, 0, none⟩)), (9, .slice A l.length c), (10, .int .i64 l.length), (11, .int .i64 k)] fr' /\ SubO (.blk bl [.slice A l.length c] 27 :: OC s') O') ?_ ?_
  ·repeat (first | (refine js ?_; (refine bx ?_; intro bk)) | refine walk ?_)
   refine Zao [(0, .func (.yield L) #[] #[]), (1, .pointer (some ⟨bl, 0, none⟩)), (3, .int .i64 k), (5, .int .i64 f0), (9, .slice A l.length c), (10, .int .i64 l.length), (11, .int .i64 k)] [] (fun g : Nat × Int => [(6, .int .i64 g.2)]) (fun _ => .blk bl [.slice A l.length c] 27 :: OC s) (fun g => g.1 <= 9 /\ g.2 = f0 + g.1 /\ fiIn least ⟨nm, fr, to, mo, ⟨dk, dw, dd⟩, ⟨cs, cb⟩, sv, le⟩ k g.2 (9 - g.1) = r1) (fun g => 9 - g.1) (0, f0) SFA ?_ ⟨Nat.zero_le _, by simp, hr1⟩ ?_
   ·rw [List.append_nil]
    exact .drop (.refl _)
   clear hr1
   rintro ⟨j, y⟩ ⟨hj, hy, hf⟩
   dsimp only at hj hy hf ⊢
   rw [List.append_nil]
   repeat (first | (refine js ?_; (refine bx ?_; intro bk)) | refine walk ?_)
   refine Zaf rfl (fun hc2 => ?_) (fun hc2 => ?_)
   ·have hj9 : j < 9 := by have := of_decide_eq_true hc2; omega
    rw [show 9 - j = (8 - j) + 1 by omega, fiIn] at hf
    have ho := hon1 y
    have hro := hru ⟨nm, fr, to, mo, ⟨dk, dw, dd⟩, ⟨cs, cb⟩, sv, le⟩ k y
    generalize onR least _ k y = o at *
    cases o with
    | none =>
     simp only [evV, Zad.enc, dEv0, Option.isSome] at ho hf
     repeat (first | (apply RL_pu; rfl; exact ZwM) | (refine js ?_; (first | (refine Zac ho ?_) | (refine bx ?_; intro bk))) | refine walk1 ?_)
     refine ⟨(j + 1, y + 1), OA, ⟨OA, by dsimp only; omega, by dsimp only; rw [show 9 - (j + 1) = 8 - j by omega]; exact hf⟩, SFA, ?_⟩
     exact .drop (.refl _)
    | some e =>
     have her := hro e rfl
     obtain ⟨ey, er, en⟩ := e
     simp only [evV, Zad.enc, Option.isSome] at ho hf her
     subst hf
     repeat (first | (apply ZiQ; rfl; rfl; rfl; (intro c h; cases h); rfl; (apply Pu_loadNf; rfl; (focus repeat' constructor); exact NfA; rfl); rfl; rfl; exact hY d ⟨ey, er, en⟩ s _ _ ⟨k, _, hge, her⟩ hi; rintro bb O' ⟨rfl, s', hi', hO'⟩) | (apply RL_pu; rfl; exact ZwM) | (refine js ?_; (first | (refine Zac ho ?_) | (refine bx ?_; intro bk))) | refine walk1 ?_)
     apply Zdb (.inl rfl); rfl; (intro c h; cases h); (apply Pu_not; rfl)
     refine Zbm ?_
     apply thenQ_n
     refine Zaf rfl (fun h => (by cases h)) (fun h => ?_)
     repeat (first | (refine js ?_; (refine bx ?_; intro bk)) | refine walk ?_)
     exact ⟨rfl, s', hi', SFA, SubO.trans (.drop (.refl _)) hO'⟩
   ·obtain rfl : j = 9 := by have := of_decide_eq_false hc2; omega
    obtain rfl : none = r1 := hf
    repeat (first | (refine js ?_; (refine bx ?_; intro bk)) | refine walk ?_)
    exact ⟨rfl, s, by rw [Option.toList, List.append_nil]; exact hi, SFA, .refl _⟩
  ·rintro fr' O' ⟨s', hi', hf', hO'⟩
   apply blockQ_n
   apply thenQ_n
   refine Zcz hf' hO' ?_
   repeat (first | (refine js ?_; (refine bx ?_; intro bk)) | refine walk ?_)
   exact ⟨⟨k + 1, d ++ r1.toList, s'⟩, OA, ⟨OA, hi', by dsimp only; rw [List.append_assoc]; exact hd⟩, SFA, by rw [List.append_nil]; exact .refl _⟩
 ·obtain rfl : k = l.length := by simp only [decide_eq_false_iff_not, Int.ofNat_lt] at hc; omega
  rw [List.drop_length, firL, List.append_nil] at hd
  subst hd
  repeat (first | (refine js ?_; (refine bx ?_; intro bk)) | refine walk ?_)
  exact Zxg _ (.refl _) ⟨rfl, s, hi, .refl _⟩
end Go.Proofs.YtdlmhmmhdbbliaaGreatDoor
namespace Go.Wk
open Go Go.RowKit
def ZmG : Op -> Bool
 | .move _ | .assign _ | .pick .. | .alloc _ | .box .. | .build .. | .load .. | .store .. | .binOp .. | .unOp .. | .convert .. | .fieldAddr .. | .field .. | .indexAddr .. | .index .. => true
 | _ => false
theorem ZyO {P : Program} (s : Sem Value) (w : World) : calm ((do pure (.value (<- s)) : Sem Next).run P w) := by
 simp only [Sem.run_bind]
 generalize s.run P w = r
 cases r <;> simp [calm, Result.andThen]
theorem ZyP {P : Program} (s : Sem Unit) (w : World) : calm ((do s; pure .skip : Sem Next).run P w) := by
 simp only [Sem.run_bind]
 generalize s.run P w = r
 cases r <;> simp [calm, Result.andThen]
theorem Zc1 {P : Program} {ρ : Operand -> Value} {o : Oper} (h : ZmG o.op = true) (w : World) : calm ((execOp ρ o).run P w) := by
 obtain ⟨dst, op, ty, pos, af, g⟩ := o
 cases op <;> first | (cases h; done) | exact ZyO _ w | exact ZyP _ w | skip
 case move x => simp [execOp, calm]
 case assign x => simp [execOp, calm]
 case pick c a b =>
  simp only [execOp, Sem.run_bind]
  generalize (asBool _).run P w = r
  cases r <;> simp [calm, Result.andThen]
theorem ZmF {o : Oper} (h : ZmG o.op = true) : ∀ c, o.op ≠ .defer c := by
 intro c hc
 rw [hc] at h
 cases h
theorem ZuF {F : Fence} (hF : WF F) {n : Nat} {P : Program} {o : Oper} {a a2 : Act} {w : World} {K K2 : Act -> World -> Prop} {Q Q2 : Exit -> Act -> World -> Prop} (he : a2.eval = a.eval) (hd : ∀ c, o.op ≠ .defer c) (hc : calm ((execOp a.eval o).run P w)) (h : o.wp P a w K Q) (hQ : ∀ e a w, Q e a w -> e = .normal)
  (hK : ∀ v w', K (a.put o.dst v) w' -> K2 (a2.put o.dst v) w') : o.wpIn F n P a2 w K2 Q2 := by
 refine ⟨fun f _ => hF.fn f, ?_⟩
 rw [Oper.semAt_eq _ _ _ hd, he]
 unfold Oper.wp at h
 generalize (execOp a.eval o).run P w = r at *
 cases r with
 | ok nx w' =>
  cases nx with
  | value v => exact hK _ _ h
  | skip => exact hK _ _ h
  | enter f args =>
   rw [Oper.upon_enter] at h
   rw [Oper.uponIn_enter]
   refine ⟨fun hh => (by rw [hF.depth] at hh; cases hh), (hF.calls h).mono ?_⟩
   intro e w'' he
   cases e with
   | returned v => exact hK _ _ he
   | panicked c => cases hQ _ _ _ he
   | outgrown => exact he.elim fun a h => h.elim fun w h => (by cases hQ _ _ _ h)
  | _ => exact hc.elim
 | halt x w' =>
  cases x with
  | panic v => cases hQ _ _ _ h
  | _ => exact h.elim
section
variable {F : Fence} {P : Program} {n : Nat} {wr : World} {ops : Array Oper} {K : Fr -> List It -> Prop} {fr : Fr} {O : List It} {D : List Deferred}
theorem ZvF (hF : WF F) (hc : ∀ o ∈ ops.toList, ZmG o.op = true) {Q Q2 : Exit -> Act -> World -> Prop} (hQ : ∀ e a w, Q e a w -> e = .normal) (hK : ∀ a w, Q .normal a w -> Q2 .normal (actD D a) w) :
  ∀ (m : Nat) (listed : Array Bool) (a : Act) (w : World), wpAny P .any ops Q m listed a w -> wpAnyIn F 0 P .any ops Q2 m listed (actD D a) w := by
 intro m
 induction m with
 | zero => intro listed a w h; exact ⟨h.1, hK _ _ h.2⟩
 | succ m ih =>
  intro listed a w h
  refine ⟨fun hr => hK _ _ (h.1 hr), fun i hi => ?_⟩
  have h1 := h.2 i hi
  unfold wpOp at h1
  unfold wpOpIn
  cases ho : ops[i]? with
  | none => rw [ho] at h1; exact ih _ _ _ h1
  | some o =>
   rw [ho] at h1
   have hco : ZmG o.op = true := hc o (by
    rw [Array.mem_toList_iff]
    exact Array.mem_of_getElem? ho)
   dsimp only at h1 ⊢
   rw [show (actD D a).tmps = a.tmps from rfl]
   by_cases hw : Region.wanted o (yielded ops a.tmps) = true
   ·rw [if_pos hw] at h1 ⊢
    rcases h1 with h1 | ⟨_, h1⟩
    ·exact ZuF (a := a) hF rfl (ZmF hco) (Zc1 hco w) h1 hQ fun v w' hk => by
      rw [Ze1]
      exact ih _ _ _ hk
    ·obtain ⟨_, _, h2⟩ := h1
     cases hQ _ _ _ h2
   ·rw [if_neg hw] at h1 ⊢
    refine ⟨fun f _ => hF.fn f, ?_⟩
    rw [Ze1]
    exact ih _ _ _ h1
theorem Ztl {l : List Oper} (hac : acyc l.toArray = true) (h : RD P n wr l.toArray (enum 0 l) [] [] K fr O) {a : Act} {w : World} (hs : St n wr fr O a w) :
  wpAny P .any l.toArray (Zjd n wr [] K) l.toArray.size (Array.replicate l.toArray.size false) a { w with drawn := w.drawn + 1 } := by
 have h1 := h ⟨by simp [ZdV, List.nodup_range'], by simp, trivial, trivial, fun p hp => by simpa using (Zf8 l 0 p hp).2⟩ l.length [] [] [] [] a { w with drawn := w.drawn + 1 } (List.Sublist.refl _) (by simp)
  (by have h := hs.drawn (m := w.drawn + 1) (Nat.le_succ _); rw [show O ++ (Zd7 [] ++ []) = O from by simp [Zd7]]; exact h) (by simp [ZkO]) (fun k o hk hn => absurd (by
   have hlt : k < l.length := by have := (Array.getElem?_eq_some_iff.1 hk).1; simpa using this
   have : k ∈ (enum 0 l).map (·.1) := by rw [ZdV]; simp; exact hlt
   obtain ⟨p, hp, rfl⟩ := List.mem_map.1 this
   exact .inl ⟨p, hp, rfl⟩) hn)
 refine Zjn hac _ _ _ _ _ (by simp) ?_ (by simpa using h1)
 intro j
 unfold Tof
 constructor
 ·rintro (⟨p, hp, rfl⟩ | ⟨_, hh, _⟩ | ⟨_, hh, _⟩)
  ·have := (List.getElem?_eq_some_iff.1 (Zf8 l 0 p hp).2).1
   have h2 : p.1 < l.length := by omega
   simp [Array.getD_eq_getD_getElem?, h2]
  ·cases hh
  ·cases hh
 ·intro hj
  have hlt : j < l.length := by
   rcases Nat.lt_or_ge j l.length with h0 | h0
   ·exact h0
   ·rw [Array.getD_eq_getD_getElem?, Array.getElem?_eq_none (by simpa using h0)] at hj
    simp at hj
  have : j ∈ (enum 0 l).map (·.1) := by rw [ZdV]; simp; exact hlt
  obtain ⟨p, hp, rfl⟩ := List.mem_map.1 this
  exact .inl ⟨p, hp, rfl⟩
theorem Ztw {Q : Exit -> Fr -> List It -> Prop} {id : Nat} {l : List Oper} (hF : WF F) (hm : P.follows .mixedOrders = true) (hac : acyc l.toArray = true) (hc : l.all (fun o => ZmG o.op) = true) (h : RD P n wr l.toArray (enum 0 l) [] [] (Q .normal) fr O) : WI F D P n wr (.region id l.toArray true) Q fr O := by
 intro a w hs
 have h1 := Ztl hac h hs
 refine wpIn_region_any hm (ZvF hF (fun o ho => List.all_eq_true.1 hc o (by simpa using ho)) (fun e a w he => he.1) ?_ _ _ _ _ h1)
 rintro a' w' ⟨_, fr', O', hs', hq⟩
 refine ⟨rfl, fr', O', ?_, hq⟩
 have hs2 : St n wr fr' O' a' w' := by simpa using hs'
 rw [Zgg hs2]
 exact hs2
theorem Zkk {l p : Nat} {r : Loop} {v : Value} {a0 : Act} {R : Bool -> List It -> Prop} (hp : r.params = #[p]) (hr : r.state = .ready) (ht : r.tmps = a0.tmps) (hsim : Sim n fr a0) (hpn : Nat.ble (p + 1) n = true)
  (hmem : ZaX l r ∈ O) {id : Nat} {la : List Oper} (hass : r.assign = .region id la.toArray false)
  (hb : RLI (Fence.wide.inRound l) [] P n wr la.toArray la (fun fr' O' => ∃ O1, Upd O' (ZaX l r) (ZaX l { r with state := .busy }) O1 /\ WI (Fence.wide.inRound l) [] P n wr r.body (Zv1 l r R) fr' O1) ((p, v) :: fr) O) : Ze2 P l v wr O R := by
 intro w hB hH
 have hl := ZaX.at (hH.sat _ hmem)
 have hy := run_yield (P := P) (args := #[v]) hl (by rw [hp]; rfl)
 rw [hp, ht] at hy
 refine ⟨r.fn, _, r.assign, r.body, hy, roundIn_of_wpIn trivial ?_⟩
 have hst : St n wr ((p, v) :: fr) O { tmps := a0.tmps.setIfInBounds p v, defers := [] } w := by
  have := hsim.put hpn v
  refine ⟨?_, hB, hH⟩
  have e : ({ tmps := a0.tmps.setIfInBounds p v, defers := [] } : Act) = a0.put (some p) v := by
   have := hsim.defers
   simp [Act.put, this]
  rw [e]
  exact this
 rw [hass, show Array.foldl (fun tmps (x : Tmp × Value) => match x with | (t, a) => tmps.setIfInBounds t a) a0.tmps (#[p].zip #[v]) = a0.tmps.setIfInBounds p v by simp]
 refine wpIn_mono (wpIn_region_lit (hb _ w hst)) ?_
 rintro e a' w' ⟨rfl, hd, fr', O', hs', O1, hu, hW⟩
 have hl' := ZaX.at (hs'.own.sat _ hu.mem)
 refine ⟨_, run_beginRound hl' hr, ?_⟩
 have hs2 := ZcM hs' hu
 have h3 := hW _ _ hs2
 rw [ZeE hd] at h3
 refine wpIn_mono h3 ?_
 rintro e2 a2 w2 ⟨hd2, fr2, O2, hs3, hq⟩
 cases e2 with
 | normal =>
  obtain ⟨O3, hu3, hR⟩ := hq
  have hl3 := ZaX.at (hs3.own.sat _ hu3.mem)
  have hs4 := ZcM hs3 hu3
  exact ⟨_, _, run_endRound none hl3, true, O3, rfl, hs4.old, hs4.own, hR⟩
 | ret =>
  obtain ⟨O3, hu3, hR⟩ := hq
  have hl3 := ZaX.at (hs3.own.sat _ hu3.mem)
  have hs4 := ZcM hs3 hu3
  exact ⟨_, _, run_endRound (some .ret) hl3, false, O3, rfl, hs4.old, hs4.own, hR⟩
 | exit id => exact hq.elim
 | goto t => exact hq.elim
 | panic ch => exact hq.elim
 | outgrown => exact hq.elim
theorem ZkZ {Q : Exit -> Fr -> List It -> Prop} {id : Nat} (h : Q (.exit id) fr O) : WI F D P n wr (.exit id) Q fr O := fun a _ hs => wpIn_exit ⟨rfl, fr, O, by rw [Zgg hs]; exact hs, h⟩
end
end Go.Wk
