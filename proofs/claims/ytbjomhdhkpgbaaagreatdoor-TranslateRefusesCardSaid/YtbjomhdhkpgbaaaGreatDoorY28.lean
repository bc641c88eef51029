/- Parts of the proof. -/
import Derived.Test.YtbjomhdhkpgbaaaGreatDoorY27
import Derived.Test.YtbjomhdhkpgbaaaGreatDoorY08
import Derived.Test.YtbjomhdhkpgbaaaGreatDoorY24
import Derived.Test.YtbjomhdhkpgbaaaGreatDoorY26
import Derived.Test.YtbjomhdhkpgbaaaGreatDoorY07
import Derived.Test.YtbjomhdhkpgbaaaGreatDoorY14
import Derived.Test.YtbjomhdhkpgbaaaGreatDoorY13
import Derived.Test.YtbjomhdhkpgbaaaGreatDoorY23
import Derived.Test.YtbjomhdhkpgbaaaGreatDoorY04
import Derived.LaidHandle
import Derived.LaidLaws
import Derived.LaidSub
import Derived.Stop.Joined
import Derived.LaidMore
import Derived.OpenShut
import Derived.ChangeArms
import Derived.Handed
set_option maxHeartbeats 4000000
set_option linter.unusedVariables false
set_option linter.unusedSimpArgs false
set_option maxHeartbeats 4000000
namespace Go.Proofs.YtbjomhdhkpgbaaaGreatDoor
open Go Go.RowKit Go.Wk
attribute [local irreducible] W RL Does Zap Zak retQ Calls Pu Stp RD Qy Ay Zal RW
theorem Zqy (base : Int) (f : ByteArray) (w : World) : Does Tryz.prog 33 [.int .i64 base, .string f] w (fun v O => ∃ bR bE bZ, v = .agg #[.slice (some ⟨bR, 0, none⟩) 3 3, .slice (some ⟨bZ, 0, none⟩) 1 1, .slice none 0 0, .slice none 0 0] /\ O = [.blk bR (.string eirT :: .int .i64 1971 :: .int .i64 1971 :: .int .i64 10 :: .int .i64 1 :: .int .i64 0 :: .int .i64 31 :: .int .i64 7200 :: .int .i64 base :: .int .i64 (-3600) :: .string ByteArray.empty :: .string eirT :: .int .i64 1972 :: .int .i64 1048576 :: .int .i64 3 :: .int .i64 3 :: .int .i64 0 :: .int .i64 15 :: .int .i64 7200 :: .int .i64 2 :: .int .i64 0 :: .string ByteArray.empty :: .string eirT :: .int .i64 1972 :: .int .i64 1048576 :: .int .i64 10 :: .int .i64 2 :: .int .i64 0 :: .int .i64 0 :: .int .i64 3600 :: .int .i64 2 :: .int .i64 (-3600) :: .string ByteArray.empty :: []) 56, .blk bE (.int .i64 0 :: .int .i64 0 :: .int .i64 0 :: .string ByteArray.empty :: .string gmtF :: .bool true :: .int .i64 1968 :: .int .i64 10 :: .int .i64 1 :: .int .i64 0 :: .int .i64 27 :: .int .i64 0 :: .int .i64 0 :: .int .i64 3600 :: .int .i64 2 :: .int .i64 0 :: .string eirT :: .string f :: .bool false :: .int .i64 0 :: .int .i64 0 :: .int .i64 0 :: .int .i64 0 :: .int .i64 0 :: .int .i64 0 :: .int .i64 0 :: []) 54, .blk bZ [.string dblT, .slice (some ⟨bE, 0, none⟩) 2 2] 46]) :=
 (Zkd base f w).monoO fun v O ⟨bR, bE, bZ, h1, h2⟩ => ⟨O, ⟨bR, bE, bZ, h1, h2⟩, fun _ _ h => h⟩
def Zzo (base : Int) (f : ByteArray) (sec : Int) (v : Value) (O : List It) : Prop := ∃ bR bE bZ bS, v = srcV (some ⟨bR, 0, none⟩) (some ⟨bZ, 0, none⟩) none (some ⟨bS, 0, none⟩) 3 1 0 1 (dubT base sec f) /\ O = [.blk bR ((dubT base sec f).rules.flatMap DRule.enc) 56, .blk bE ((dubT base sec f).zones.flatMap fun z => z.eras.flatMap DEra.enc) 54, .blk bZ [.string dblT, .slice (some ⟨bE, 0, none⟩) 2 2] 46, .blk bS [.string eirT] 9]
theorem ZfX {G : Prop} (h : G := by (first | (apply Zbt; rfl; rfl; exact lt1) | (apply Zbt; rfl; rfl; exact lt2) | (apply Zbt; rfl; rfl; exact lt3) | (apply Zbt; rfl; rfl; exact lt4) | (apply Pu_indexAddr; rfl; rfl; decide; decide; exact Option.some_ne_none _) | (apply Pu_add; rfl; rfl; (constructor <;> decide)))) : G := h
theorem ZvK {G : Prop} (h : G := by (first | exact ZfX | (apply ZaH; rfl; rfl; exact e1))) : G := h
theorem ZnS (f : ByteArray) (w : World) : Does Tryz.prog 34 [.int .i64 1, .string f] w (Zzo 1 f 3600) := by
 have hdu := fun w' => Zqy 1 f w'
 refine Zaa Tryz.func34 rfl rfl rfl rfl ?_
 repeat (first | (refine js ?_; (first | (apply Zac (h := fun w' _ _ => hdu w'); rfl; rintro v O' ⟨bR, bE, bZ, rfl, rfl⟩) | (refine bx ?_; intro bk))) | refine walk ?_)
 have lt1 : decide ((0 : Int) < (3 : Nat)) = true := rfl
 have lt2 : decide ((0 : Int) + 1 < (3 : Nat)) = true := rfl
 have lt3 : decide ((0 : Int) + 1 + 1 < (3 : Nat)) = true := rfl
 have lt4 : decide ((0 : Int) + 1 + 1 + 1 < (3 : Nat)) = false := rfl
 have e1 : decide ((1 : Int) = 1) = true := rfl
 refine ZhQ 4 (ZbN ?_)
 repeat (first | (apply RL_pu; rfl; exact ZfX) | (refine js ?_; (refine bx ?_; intro bk)) | refine walk1 ?_)
 refine ZbN ?_
 repeat (first | (apply RL_pu; rfl; exact ZfX) | (refine js ?_; (refine bx ?_; intro bk)) | refine walk1 ?_)
 refine ZbN ?_
 repeat (first | (apply RL_pu; rfl; exact ZfX) | (refine js ?_; (refine bx ?_; intro bk)) | refine walk1 ?_)
 refine ZbN ?_
 repeat (first | (apply RL_pu; rfl; exact ZvK) | (refine js ?_; (refine bx ?_; intro bk)) | refine walk1 ?_)
 exact ret_1 _ _ (.cellB rfl (by repeat' constructor) rfl rfl) SOA ⟨_, _, _, _, rfl, rfl⟩
theorem ZnR (f : ByteArray) (w : World) : Does Tryz.prog 34 [.int .i64 2, .string f] w (Zzo 2 f 7200) := by
 have hdu := fun w' => Zqy 2 f w'
 refine Zaa Tryz.func34 rfl rfl rfl rfl ?_
 repeat (first | (refine js ?_; (first | (apply Zac (h := fun w' _ _ => hdu w'); rfl; rintro v O' ⟨bR, bE, bZ, rfl, rfl⟩) | (refine bx ?_; intro bk))) | refine walk ?_)
 have lt1 : decide ((0 : Int) < (3 : Nat)) = true := rfl
 have lt2 : decide ((0 : Int) + 1 < (3 : Nat)) = true := rfl
 have lt3 : decide ((0 : Int) + 1 + 1 < (3 : Nat)) = true := rfl
 have lt4 : decide ((0 : Int) + 1 + 1 + 1 < (3 : Nat)) = false := rfl
 have e1 : decide ((2 : Int) = 1) = false := rfl
 refine ZhQ 4 (ZbN ?_)
 repeat (first | (apply RL_pu; rfl; exact ZfX) | (refine js ?_; (refine bx ?_; intro bk)) | refine walk1 ?_)
 refine ZbN ?_
 repeat (first | (apply RL_pu; rfl; exact ZfX) | (refine js ?_; (refine bx ?_; intro bk)) | refine walk1 ?_)
 refine ZbN ?_
 repeat (first | (apply RL_pu; rfl; exact ZfX) | (refine js ?_; (refine bx ?_; intro bk)) | refine walk1 ?_)
 refine ZbN ?_
 repeat (first | (apply RL_pu; rfl; exact ZvK) | (refine js ?_; (refine bx ?_; intro bk)) | refine walk1 ?_)
 exact ret_1 _ _ (.cellB rfl (by repeat' constructor) rfl rfl) SOA ⟨_, _, _, _, rfl, rfl⟩
end Go.Proofs.YtbjomhdhkpgbaaaGreatDoor
namespace Go.Proofs.YtbjomhdhkpgbaaaGreatDoor
open Go Go.RowKit Go.Wk
def mlB (n : Int) : Bool := decide (-1000000 <= n) && decide (n <= 1000000)
theorem Zy9 {n : Int} : mlB n = true ↔ -1000000 <= n /\ n <= 1000000 := by unfold mlB; simp
def smlB (s : Zab) : Bool :=
 decide (s.rules.length <= 100) && (decide (s.zones.length <= 100) && (decide (s.links.length <= 100) && (decide (s.shifts.length <= 100) &&
 ((s.rules.all fun r => decide (r.name.size <= 100) && (decide (r.letter.size <= 100) && mlB r.save)) &&
 ((s.zones.all fun z => decide (z.name.size <= 100) && (decide (z.eras.length <= 100) && z.eras.all fun e => decide (e.set.size <= 100) && (decide (e.format.size <= 100) && (mlB e.off && (mlB e.save && mlB e.kind))))) &&
 (s.links.all fun l => decide (l.target.size <= 100) && decide (l.name.size <= 100)))))))
theorem ZkK {s : Zab} (h : smlB s = true) : Sml s := by
 unfold smlB at h
 simp only [Bool.and_eq_true, decide_eq_true_eq, List.all_eq_true, Zy9] at h
 obtain ⟨h1, h2, h3, h4, h5, h6, h7⟩ := h
 exact ⟨h1, h2, h3, h4, h5, fun z hz => by
  obtain ⟨a1, a2, a3⟩ := h6 z hz
  exact ⟨a1, a2, fun e he => by
   obtain ⟨b1, b2, b3, b4, b5⟩ := a3 e he
   exact ⟨b1, b2, b3, b4, b5⟩⟩, h7⟩
theorem ZeV : smlB (dub 2 istF) = true /\ smlB (dub 1 istF) = true /\ smlB (dub 2 pctB) = true /\ smlB (dubT 1 3600 tsiF) = true /\ smlB (dubT 2 7200 pctB) = true := by decide +kernel
theorem Zqo {s t : Zab} {form : Int} (h : goes s form t = true) : accD s = none /\ Zb4 s ≠ [] /\ toB form s = true /\ toD form s = t := by
 unfold goes at h
 simp only [Bool.and_eq_true, decide_eq_true_eq, Bool.not_eq_true', decide_eq_false_iff_not] at h
 exact ⟨h.1, h.2.1, h.2.2.1, h.2.2.2⟩
end Go.Proofs.YtbjomhdhkpgbaaaGreatDoor
set_option maxHeartbeats 8000000
namespace Go.Proofs.YtbjomhdhkpgbaaaGreatDoor
open Go Go.RowKit Go.Wk
attribute [local irreducible] W RL Does Zap Zak retQ Calls Pu Stp RD Qy Ay Zal
theorem Zla (base : Int) (f : ByteArray) (w : World) : Does Tryz.prog 33 [.int .i64 base, .string f] w (ZgD (dub base f)) := (ZoH base f w).monoO fun _ _ h => ZcG h
theorem ZlY {base sec : Int} {f : ByteArray} {v : Value} {O : List It} (h : Zzo base f sec v O) : ∃ O', Zdq (dubT base sec f) v O' /\ ∀ base w', Zat base O w' -> Zat base O' w' := by
 obtain ⟨bR, bE, bZ, bS, h1, h2⟩ := h
 subst h1 h2
 refine ⟨_, ⟨_, _, _, _, none, 0, _, _, [⟨⟨dblT, [dubE, ⟨0, 2, 0, eirT, f, noU⟩]⟩, some ⟨bE, 0, none⟩, 2⟩], rfl, rfl, rfl⟩, fun b w' hH => ?_⟩
 have h := Ztc (s := dubT base sec f) (nm := dblT) (es := [dubE, ⟨0, 2, 0, eirT, f, noU⟩]) (n := 3) (m := 2) (O := [.blk bS [.string eirT] 9]) rfl rfl rfl (by decide) (by decide) rfl hH
 have h2 := h.toRow (m := 1) 1 rfl (by decide) (.there (.there (.there (.there .here))))
 exact h2.sub SOA
theorem Zv6 (f : ByteArray) (w : World) : Does Tryz.prog 34 [.int .i64 1, .string f] w (ZgD (dubT 1 3600 f)) := ((ZnS f w).monoO fun _ _ h => ZlY h).monoO fun _ _ h => ZcG h
theorem ZkG (f : ByteArray) (w : World) : Does Tryz.prog 34 [.int .i64 2, .string f] w (ZgD (dubT 2 7200 f)) := ((ZnR f w).monoO fun _ _ h => ZlY h).monoO fun _ _ h => ZcG h
theorem ZpR {s : Zab} (h : Sml s) : Fits s := ⟨by have := h.nr; omega, by have := h.nz; omega, by have := h.nl; omega, by have := h.ns; omega, fun z hz => by have := (h.zs z hz).2.1; omega⟩
theorem toT (Ar Az Al As : Option Addr) (cr cz cl cs : Nat) (a : Zab) (form : Int) (Br Bz Bl Bs : Option Addr) (dr dz dl ds : Nat) (b : Zab) (w : World) (hL : LibW w) (hG : Glob w) (hs : smlB a = true) (hg : goes a form b = true) (hform : form = 1 \/ form = 2 \/ form = 3) (hA : Zaj w Ar Az Al As cr cz cl cs a) (hB : Zaj w Br Bz Bl Bs dr dz dl ds b) :
  Does Tryz.prog 11 [srcV Ar Az Al As cr cz cl cs a, .int .i64 form, srcV Br Bz Bl Bs dr dz dl ds b] w (fun v O => v = .bool true /\ O = []) := by
 obtain ⟨g1, g2, g3, g4⟩ := Zqo hg
 have h := ZsM Ar Az Al As cr cz cl cs a form Br Bz Bl Bs dr dz dl ds b w ((ZkK hs).acc hL hG hA) (ZpR (ZkK hs)) hform g1 g2 g3 hB
 rw [decide_eq_true g4] at h
 exact h
theorem Zzx : toE 2 (dubT 2 7200 pctB) = some (⟨4, 0, 0⟩, 17) := by
 obtain ⟨h1, h2, h3⟩ := Zzn
 unfold toE
 rw [h1]
 dsimp only
 rw [if_pos h2, h3]
theorem Zw5 : toE 4 (dub 2 istF) = some (⟨0, 0, 0⟩, 2) := by
 obtain ⟨h1, h2, _⟩ := Zqo Zeb.1
 unfold toE
 rw [h1]
 dsimp only
 rw [if_neg h2, if_pos (by decide)]
theorem ZlF {G : Prop} (h : G := by (first | (apply ZlC (p := ⟨4, 0, 0⟩) (q := ⟨4, 0, 0⟩); rfl; rfl; rfl) | (apply ZlC (p := ⟨0, 0, 0⟩) (q := ⟨0, 0, 0⟩); rfl; rfl; rfl) | (apply ZaH; rfl; rfl; exact q17) | (apply ZaH; rfl; rfl; exact q2))) : G := h
theorem ZqT {G : Prop} (h : G := by first | (apply Qy_y; rfl; exact ZlF) | exact QyA) : G := h
theorem ZqX {G : Prop} (h : G := by repeat (first | exact QF.nil | (apply QF.mk; rfl; rfl; decide +kernel; exact ZqT))) : G := h
theorem Zhi (w : World) (hL : LibW w) (hG : Glob w) : Does Tryz.prog 12 [] w (fun v O => v = .bool true /\ O = []) := by
 have q17 : decide ((17 : Int) = 17) = true := rfl
 have q2 : decide ((2 : Int) = 2) = true := rfl
 refine Zaa Tryz.func12 rfl rfl rfl rfl ?_
 repeat (first | (apply RL_pu; rfl; exact ZlF) | (apply RD_Q; rfl; rfl; decide +kernel; rfl; rfl; exact ZqT) | refine walk1 ?_ | (refine jg ?_; (try intro F); (first | (apply Zac (h := fun w' _ _ => Zla 2 istF w'); rfl; rintro v O' ⟨Ra, ra, Za, za, La, la, Ha, ha, Qa, Fa, rfl, hZa, rfl⟩) | (apply Zac (h := fun w' _ _ => Zla 1 istF w'); rfl; rintro v O' ⟨Rb, rb, Zb, zb, Lb, lb, Hb, hb, Qb, Fb, rfl, hZb, rfl⟩) | (apply Zac (h := fun w' _ _ => Zla 2 pctB w'); rfl; rintro v O' ⟨Rc, rc, Zc, zc, Lc, lc, Hc, hc, Qc, Fc, rfl, hZc, rfl⟩) | (apply Zac (h := fun w' _ _ => ZkG pctB w'); rfl; rintro v O' ⟨Rd, rd, Zd, zd, Ld, ld, Hd, hd, Qd, Fd, rfl, hZd, rfl⟩) | (refine ZaW (fun w' hw hO => ZdJ Rd Zd Ld Hd rd zd ld hd (dubT 2 7200 pctB) 2 (⟨4, 0, 0⟩, 17) w' ((ZkK ZeV.2.2.2.2).acc (hL.up hw) (hG.up hw) (Zb2 hZd (hO.of (A := rowR Rd rd (dubT 2 7200 pctB).rules) (by repeat' constructor)) (hO.of (A := rowZ Zd zd Qd) (by repeat' constructor)) (hO.of (A := rowL Ld ld (dubT 2 7200 pctB).links) (by repeat' constructor)) (hO.of (A := rowS Hd hd (dubT 2 7200 pctB).shifts) (by repeat' constructor)) (hO.of (A := .fact Fd (Zax Qd)) (by repeat' constructor)))) Zzx) ?_) | (refine ZaW (fun w' hw hO => ZdJ Ra Za La Ha ra za la ha (dub 2 istF) 4 (⟨0, 0, 0⟩, 2) w' ((ZkK ZeV.1).acc (hL.up hw) (hG.up hw) (Zb2 hZa (hO.of (A := rowR Ra ra (dub 2 istF).rules) (by repeat' constructor)) (hO.of (A := rowZ Za za Qa) (by repeat' constructor)) (hO.of (A := rowL La la (dub 2 istF).links) (by repeat' constructor)) (hO.of (A := rowS Ha ha (dub 2 istF).shifts) (by repeat' constructor)) (hO.of (A := .fact Fa (Zax Qa)) (by repeat' constructor)))) Zw5) ?_) | (apply Zac (h := fun w' _ _ => ZkG tsiF w'); rfl; rintro v O' ⟨Re, re, Ze, ze, Le, le, He, he, Qe, Fe, rfl, hZe, rfl⟩) | (apply Zac (h := fun w' _ _ => Zv6 tsiF w'); rfl; rintro v O' ⟨Rg, rg, Zg, zg, Lg, lg, Hg, hg, Qg, Fg, rfl, hZg, rfl⟩) | (apply Zac (h := fun w' _ _ => ZkG n10F w'); rfl; rintro v O' ⟨Rh, rh, Zh, zh, Lh, lh, Hh, hh, Qh, Fh, rfl, hZh, rfl⟩) | (apply Zac (h := fun w' _ _ => Zla 2 n01F w'); rfl; rintro v O' ⟨Ri, ri, Zi, zi, Li, li, Hi, hi, Qi, Fi, rfl, hZi, rfl⟩) | (refine ZaW (fun w' hw hO => toT Ra Za La Ha ra za la ha (dub 2 istF) 3 Re Ze Le He re ze le he (dubT 2 7200 tsiF) w' (hL.up hw) (hG.up hw) ZeV.1 Zeb.1 (.inr (.inr rfl)) (Zb2 hZa (hO.of (A := rowR Ra ra (dub 2 istF).rules) (by repeat' constructor)) (hO.of (A := rowZ Za za Qa) (by repeat' constructor)) (hO.of (A := rowL La la (dub 2 istF).links) (by repeat' constructor)) (hO.of (A := rowS Ha ha (dub 2 istF).shifts) (by repeat' constructor)) (hO.of (A := .fact Fa (Zax Qa)) (by repeat' constructor))) (Zb2 hZe (hO.of (A := rowR Re re (dubT 2 7200 tsiF).rules) (by repeat' constructor)) (hO.of (A := rowZ Ze ze Qe) (by repeat' constructor)) (hO.of (A := rowL Le le (dubT 2 7200 tsiF).links) (by repeat' constructor)) (hO.of (A := rowS He he (dubT 2 7200 tsiF).shifts) (by repeat' constructor)) (hO.of (A := .fact Fe (Zax Qe)) (by repeat' constructor)))) ?_) | (refine ZaW (fun w' hw hO => toT Rb Zb Lb Hb rb zb lb hb (dub 1 istF) 3 Rg Zg Lg Hg rg zg lg hg (dubT 1 3600 tsiF) w' (hL.up hw) (hG.up hw) ZeV.2.1 Zeb.2.1 (.inr (.inr rfl)) (Zb2 hZb (hO.of (A := rowR Rb rb (dub 1 istF).rules) (by repeat' constructor)) (hO.of (A := rowZ Zb zb Qb) (by repeat' constructor)) (hO.of (A := rowL Lb lb (dub 1 istF).links) (by repeat' constructor)) (hO.of (A := rowS Hb hb (dub 1 istF).shifts) (by repeat' constructor)) (hO.of (A := .fact Fb (Zax Qb)) (by repeat' constructor))) (Zb2 hZg (hO.of (A := rowR Rg rg (dubT 1 3600 tsiF).rules) (by repeat' constructor)) (hO.of (A := rowZ Zg zg Qg) (by repeat' constructor)) (hO.of (A := rowL Lg lg (dubT 1 3600 tsiF).links) (by repeat' constructor)) (hO.of (A := rowS Hg hg (dubT 1 3600 tsiF).shifts) (by repeat' constructor)) (hO.of (A := .fact Fg (Zax Qg)) (by repeat' constructor)))) ?_) | (refine ZaW (fun w' hw hO => toT Rc Zc Lc Hc rc zc lc hc (dub 2 pctB) 3 Rh Zh Lh Hh rh zh lh hh (dubT 2 7200 n10F) w' (hL.up hw) (hG.up hw) ZeV.2.2.1 Zeb.2.2.1 (.inr (.inr rfl)) (Zb2 hZc (hO.of (A := rowR Rc rc (dub 2 pctB).rules) (by repeat' constructor)) (hO.of (A := rowZ Zc zc Qc) (by repeat' constructor)) (hO.of (A := rowL Lc lc (dub 2 pctB).links) (by repeat' constructor)) (hO.of (A := rowS Hc hc (dub 2 pctB).shifts) (by repeat' constructor)) (hO.of (A := .fact Fc (Zax Qc)) (by repeat' constructor))) (Zb2 hZh (hO.of (A := rowR Rh rh (dubT 2 7200 n10F).rules) (by repeat' constructor)) (hO.of (A := rowZ Zh zh Qh) (by repeat' constructor)) (hO.of (A := rowL Lh lh (dubT 2 7200 n10F).links) (by repeat' constructor)) (hO.of (A := rowS Hh hh (dubT 2 7200 n10F).shifts) (by repeat' constructor)) (hO.of (A := .fact Fh (Zax Qh)) (by repeat' constructor)))) ?_) | (refine ZaW (fun w' hw hO => toT Rc Zc Lc Hc rc zc lc hc (dub 2 pctB) 2 Ri Zi Li Hi ri zi li hi (dub 2 n01F) w' (hL.up hw) (hG.up hw) ZeV.2.2.1 Zeb.2.2.2.1 (.inr (.inl rfl)) (Zb2 hZc (hO.of (A := rowR Rc rc (dub 2 pctB).rules) (by repeat' constructor)) (hO.of (A := rowZ Zc zc Qc) (by repeat' constructor)) (hO.of (A := rowL Lc lc (dub 2 pctB).links) (by repeat' constructor)) (hO.of (A := rowS Hc hc (dub 2 pctB).shifts) (by repeat' constructor)) (hO.of (A := .fact Fc (Zax Qc)) (by repeat' constructor))) (Zb2 hZi (hO.of (A := rowR Ri ri (dub 2 n01F).rules) (by repeat' constructor)) (hO.of (A := rowZ Zi zi Qi) (by repeat' constructor)) (hO.of (A := rowL Li li (dub 2 n01F).links) (by repeat' constructor)) (hO.of (A := rowS Hi hi (dub 2 n01F).shifts) (by repeat' constructor)) (hO.of (A := .fact Fi (Zax Qi)) (by repeat' constructor)))) ?_) | (refine ZaW (fun w' hw hO => toT Ra Za La Ha ra za la ha (dub 2 istF) 2 Ra Za La Ha ra za la ha (dub 2 istF) w' (hL.up hw) (hG.up hw) ZeV.1 Zeb.2.2.2.2.1 (.inr (.inl rfl)) (Zb2 hZa (hO.of (A := rowR Ra ra (dub 2 istF).rules) (by repeat' constructor)) (hO.of (A := rowZ Za za Qa) (by repeat' constructor)) (hO.of (A := rowL La la (dub 2 istF).links) (by repeat' constructor)) (hO.of (A := rowS Ha ha (dub 2 istF).shifts) (by repeat' constructor)) (hO.of (A := .fact Fa (Zax Qa)) (by repeat' constructor))) (Zb2 hZa (hO.of (A := rowR Ra ra (dub 2 istF).rules) (by repeat' constructor)) (hO.of (A := rowZ Za za Qa) (by repeat' constructor)) (hO.of (A := rowL La la (dub 2 istF).links) (by repeat' constructor)) (hO.of (A := rowS Ha ha (dub 2 istF).shifts) (by repeat' constructor)) (hO.of (A := .fact Fa (Zax Qa)) (by repeat' constructor)))) ?_) | (refine ZaW (fun w' hw hO => toT Rg Zg Lg Hg rg zg lg hg (dubT 1 3600 tsiF) 1 Rb Zb Lb Hb rb zb lb hb (dub 1 istF) w' (hL.up hw) (hG.up hw) ZeV.2.2.2.1 Zeb.2.2.2.2.2 (.inl rfl) (Zb2 hZg (hO.of (A := rowR Rg rg (dubT 1 3600 tsiF).rules) (by repeat' constructor)) (hO.of (A := rowZ Zg zg Qg) (by repeat' constructor)) (hO.of (A := rowL Lg lg (dubT 1 3600 tsiF).links) (by repeat' constructor)) (hO.of (A := rowS Hg hg (dubT 1 3600 tsiF).shifts) (by repeat' constructor)) (hO.of (A := .fact Fg (Zax Qg)) (by repeat' constructor))) (Zb2 hZb (hO.of (A := rowR Rb rb (dub 1 istF).rules) (by repeat' constructor)) (hO.of (A := rowZ Zb zb Qb) (by repeat' constructor)) (hO.of (A := rowL Lb lb (dub 1 istF).links) (by repeat' constructor)) (hO.of (A := rowS Hb hb (dub 1 istF).shifts) (by repeat' constructor)) (hO.of (A := .fact Fb (Zax Qb)) (by repeat' constructor)))) ?_) | (refine bx ?_; intro bk) | (refine stA ?_)); first | refine ⟨_, EndsA, ZqX, ?_⟩ | refine fin ?_) | (refine jn ?_; (try intro F); (first | (refine bx ?_; intro bk) | (refine stA ?_) | (apply Zag; first | exact ZlF | exact PuA)); first | refine ⟨_, EndsA, ZqX, ?_⟩ | refine fin ?_) | (apply RD_W; rfl; intro bk))
 exact rtA
end Go.Proofs.YtbjomhdhkpgbaaaGreatDoor
set_option maxHeartbeats 8000000
namespace Go.Proofs.YtbjomhdhkpgbaaaGreatDoor
open Go Go.RowKit Go.Wk
attribute [local irreducible] W RL Does Zap Zak retQ Calls Pu Stp RD Qy Ay Zal RW Zae in23
theorem Zw1 (d : DD23) : in23 d 1 = Zae d := by unfold in23; rw [if_pos rfl]
theorem toIn (Ar Az Al As : Option Addr) (cr cz cl cs : Nat) (d : DD23) (a form : Int) (w : World) (hL : LibW w) (hG : Glob w) (hform : form = 1 \/ form = 2 \/ form = 3) (hA : Zaj w Ar Az Al As cr cz cl cs (in23 d a)) :
  Does Tryz.prog 9 [srcV Ar Az Al As cr cz cl cs (in23 d a), .int .i64 form] w (ToS (in23 d form)) := by
 have h := ZlZ Ar Az Al As cr cz cl cs (in23 d a) form w ((ZhL d a).acc hL hG hA) (ZpR (ZhL d a)) hform (Zk4 d a) (Zj5 d a) (Zw0 d a form)
 rw [Zz4] at h
 exact h
theorem ZrS (d : DD23) (a : Int) : (in23 d a).zones.length = (Zae d).zones.length := by
 unfold in23
 split
 ·rfl
 split
 all_goals exact List.length_map ..
theorem Zly {n : Nat} {wr : World} {fr : Fr} {O : List It} {ty t' : TypeId} {x y : Operand} {p q : Zao} {b : Bool} (hx : ev fr x = some (.agg p.enc.toArray)) (hy : ev fr y = some (.agg q.enc.toArray)) (h : (!decide (p = q)) = b) : Pu Tryz.prog n wr fr O (.binOp .neq 36 x y t') ty (.bool b) := h ▸ Pu_neqE hx hy
end Go.Proofs.YtbjomhdhkpgbaaaGreatDoor
set_option maxHeartbeats 4000000
namespace Go.Proofs.YtbjomhdhkpgbaaaGreatDoor
open Go Go.RowKit Go.Wk
attribute [local irreducible] W RL Does Zap Zak retQ Calls Pu Stp RD Qy Ay Zal RLI WI
end Go.Proofs.YtbjomhdhkpgbaaaGreatDoor
namespace Go.Proofs.YtbjomhdhkpgbaaaGreatDoor
open Go Go.RowKit Go.Wk
attribute [local irreducible] W RL Does Zap Zak retQ Calls Pu Stp RD Qy Ay Zal
section
variable (Ar Az Al As : Option Addr) (cr cz cl cs : Nat) (a : Zab) (name : ByteArray) (t : Int) (w : World)
end
end Go.Proofs.YtbjomhdhkpgbaaaGreatDoor
namespace Go.Proofs.YtbjomhdhkpgbaaaGreatDoor
open Go Go.RowKit Go.Wk
open Go Go.RowKit Go.Wk Go.ChangeShapes Go.WideShapes Go.ChangeAt
section
variable {H : Type} {enc : TypeId × Value -> H} {w : World} {sp : Nat -> Bool} {held : Bool}
theorem Ztq {n : Nat} {cs : List Value} {y : DataW H × List MemPlace} (h : DataW.trod enc Tryz.prog w 0 sp held n 5 cs = some y) : ∃ d : Int, cs = Zdt d /\ inR .u8 d := by
 obtain ⟨x, e, _, b⟩ := DataW.trod_int Tryz.underlying5 h
 exact ⟨x, e, Zfx b⟩
def Znl {α : Type} (w : World) (en : α -> List Value) (sz : Nat) (ok : α -> Prop) (l : List α) (cs : List Value) : Prop := ∃ B cb, RdSl w B cb en sz l /\ cs = [.slice B l.length cb] /\ ∀ x ∈ l, ok x
theorem Zy4 {n : Nat} {cs : List Value} {y : DataW H × List MemPlace} (h : DataW.trod enc Tryz.prog w 0 sp held n 83 cs = some y) : ∃ l, Znl w Zdt 1 (inR .u8) l cs := by
 obtain ⟨v, rfl⟩ : ∃ v, cs = [v] := by
  rcases Deep.open_slice Tryz.underlying83 h with ⟨h0, _⟩ | ⟨a, len, cap, m, n, D, Pl, hcs, _⟩
  ·exact ⟨_, h0⟩
  ·exact ⟨_, hcs⟩
 obtain ⟨B, l, cb, rfl, h1, h2⟩ := ZkL Tryz.underlying83 Zdt (inR .u8) (sz := 1) (by kernel_rfl) (fun n cs y h => Ztq h) h
 exact ⟨l, B, cb, h1, rfl, h2⟩
theorem ZwA {n : Nat} {cs : List Value} {y : DataW H × List MemPlace} (h : DataW.trod enc Tryz.prog w 0 sp held n 86 cs = some y) : ∃ l, Znl w E23.enc 8 E23.ok l cs := by
 obtain ⟨v, rfl⟩ : ∃ v, cs = [v] := by
  rcases Deep.open_slice Tryz.underlying86 h with ⟨h0, _⟩ | ⟨a, len, cap, m, n, D, Pl, hcs, _⟩
  ·exact ⟨_, h0⟩
  ·exact ⟨_, hcs⟩
 obtain ⟨B, l, cb, rfl, h1, h2⟩ := ZkL Tryz.underlying86 E23.enc E23.ok (sz := 8) (by kernel_rfl) (fun n cs y h => ZAf h) h
 exact ⟨l, B, cb, h1, rfl, h2⟩
theorem Zte {α : Type} {en : α -> List Value} {sz : Nat} {ok : α -> Prop} {A : Option Addr} {ls : List (List α)} {c : Nat} (s1 : ls.length <= c) (s2 : c <= maxLen) (s3 : ∀ k l, ls[k]? = some l -> A ≠ none /\ ∃ cs, Znl w en sz ok l cs /\ Zam w ((adr A).add (k * 1)) cs) :
  RdLL w A c en sz ls /\ ∀ l ∈ ls, ∀ x ∈ l, ok x := by
 refine ⟨⟨s1, s2, fun k l hk => ?_⟩, fun l hl => ?_⟩
 ·obtain ⟨h4, cs', ⟨B, cb, h5, rfl, _⟩, h6⟩ := s3 k l hk
  exact ⟨h4, B, cb, h5, h6⟩
 ·obtain ⟨k, hk⟩ := List.getElem?_of_mem hl
  obtain ⟨_, _, ⟨_, _, _, _, h5⟩, _⟩ := s3 k l hk
  exact h5
set_option maxRecDepth 100000 in
theorem Zp4 {v : Value} {r : Reach} {b0 : Nat} {d : DataW H} {ps : List MemPlace} (hv : Value.okWide Tryz.prog w r b0 26 v) (h : DataW.Trod enc Tryz.prog w 0 sp held 26 v d ps) :
  ∃ As Az Al cs cz cl d, v = d23V As Az Al cs cz cl d /\ RdLL w As cs Zdt 1 d.sets /\ RdLL w Az cz E23.enc 8 d.zones /\ RdSl w Al cl Zdt 1 d.links /\ (∀ l ∈ d.sets, ∀ x ∈ l, inR .u8 x) /\ (∀ l ∈ d.zones, ∀ x ∈ l, x.ok) /\ (∀ x ∈ d.links, inR .u8 x) := by
 obtain ⟨vs, rfl, hsz⟩ := okWide_struct Tryz.underlying26 hv
 obtain ⟨fuel, h⟩ := h
 obtain ⟨hl, hf⟩ := Zqt Tryz.underlying26 h
 rw [show Tryz.prog.cellsOf 26 = 3 from by kernel_rfl] at hl
 obtain ⟨vs⟩ := vs
 simp only [Value.cells] at hl hf
 obtain ⟨a0, cs0, rfl, hl0⟩ := Zbn hl
 obtain ⟨a1, cs1, rfl, hl1⟩ := Zbn hl0
 obtain ⟨a2, cs2, rfl, hl2⟩ := Zbn hl1
 obtain rfl := List.eq_nil_of_length_eq_zero hl2
 obtain ⟨n0, y0, h0⟩ := hf 0 22 0 1 rfl (by kernel_rfl)
 obtain ⟨n1, y1, h1⟩ := hf 1 23 1 1 rfl (by kernel_rfl)
 obtain ⟨n2, y2, h2⟩ := hf 2 24 2 1 rfl (by kernel_rfl)
 obtain ⟨As, ls, cs, rfl, s1, s2, s3⟩ := ZkM Tryz.underlying22 (fun (l : List Int) cs => Znl w Zdt 1 (inR .u8) l cs) (fun n cs y h => Zy4 h) h0
 obtain ⟨Az, lz, cz, rfl, z1, z2, z3⟩ := ZkM Tryz.underlying23 (fun (l : List E23) cs => Znl w E23.enc 8 E23.ok l cs) (fun n cs y h => ZwA h) h1
 obtain ⟨Al, ll, cl, rfl, l1, l2⟩ := ZkL Tryz.underlying24 Zdt (inR .u8) (sz := 1) (by kernel_rfl) (fun n cs y h => Ztq h) h2
 rw [show Tryz.prog.cellsOf 83 = 1 from by kernel_rfl] at s3
 rw [show Tryz.prog.cellsOf 86 = 1 from by kernel_rfl] at z3
 obtain ⟨g1, g2⟩ := Zte s1 s2 s3
 obtain ⟨g3, g4⟩ := Zte z1 z2 z3
 exact ⟨As, Az, Al, cs, cz, cl, ⟨ls, lz, ll⟩, rfl, g1, g3, l1, g2, g4, l2⟩
set_option maxRecDepth 100000 in
theorem ZAn {v : Value} {r : Reach} {b0 : Nat} {d : DataW H} {ps : List MemPlace} (hv : Value.okWide Tryz.prog w r b0 5 v) (h : DataW.Trod enc Tryz.prog w 0 sp held 5 v d ps) : ∃ x : Int, v = .int .u8 x /\ inR .u8 x := by
 obtain ⟨n, rfl⟩ := okWide_int Tryz.underlying5 hv
 obtain ⟨fuel, h⟩ := h
 obtain ⟨x, e, b⟩ := Ztq h
 simp only [Value.cells, Zdt, List.cons.injEq, and_true] at e
 exact ⟨x, e, b⟩
end
section
variable {H : Type} {enc : TypeId × Value -> H} {w : World} {sp : Nat -> Bool} {held : Bool}
set_option maxRecDepth 100000 in
theorem Ztn {v : Value} {r : Reach} {b0 : Nat} {d : DataW H} {ps : List MemPlace} (hv : Value.okWide Tryz.prog w r b0 5 v) (h : DataW.Trod enc Tryz.prog w 0 sp held 5 v d ps) : ∃ x : Int, v = .int .u8 x /\ inR .u8 x := ZAn hv h
set_option maxRecDepth 100000 in
theorem Zww {v : Value} {r : Reach} {b0 : Nat} {d : DataW H} {ps : List MemPlace} (hv : Value.okWide Tryz.prog w r b0 61 v) (h : DataW.Trod enc Tryz.prog w 0 sp held 61 v d ps) : ∃ x : Int, v = .int .u16 x /\ inR .u16 x := by
 obtain ⟨n, rfl⟩ := okWide_int Tryz.underlying61 hv
 obtain ⟨fuel, h⟩ := h
 have h2 : DataW.trod enc Tryz.prog w 0 sp held fuel 61 [.int .u16 n] = some (d, ps) := h
 obtain ⟨x, e, _, b⟩ := DataW.trod_int Tryz.underlying61 h2
 simp only [List.cons.injEq, and_true] at e
 exact ⟨x, e, Zfx b⟩
end
section
variable {H : Type} {enc : TypeId × Value -> H} {w : World} {sp : Nat -> Bool} {held : Bool}
end
end Go.Proofs.YtbjomhdhkpgbaaaGreatDoor
namespace Go.Wk
open Go Go.RowKit Go.ChangeShapes Go.WideShapes Go.ChangeAt
section
variable {H : Type} {enc : TypeId × Value -> H}
def ZqK : DataW Unit -> List Value
 | .agg l => l.map fun | .lit (.int k n) => .int k n | _ => undef
 | .lit (.int k n) => [.int k n]
 | _ => []
end
def ZyK (P : Program) (tb : List (String × FuncId)) (tok : List UInt8) : Option FuncId :=
 if tok = [] then none else (tb.find? fun x => x.1.toUTF8.data.toList == tok && P.funcNamed x.1 == some x.2).map (·.2)
section
variable {H : Type}
def ZiH (P : Program) (tok : H -> Option FuncId) : Nat -> TypeId -> DataW H -> Nat -> Option Value
 | 0, _, _, _ => none
 | f + 1, t, d, j =>
  match P.underlying t, d with
  | some .bool, .lit (.bool b) => if j = 0 then some (.bool b) else none
  | some (.int k), .lit (.int _ n) => if j = 0 then some (.int k n) else none
  | some .string, .lit (.string l) => if j = 0 then some (.string ⟨l.toArray⟩) else none
  | some (.func ..), .nil => if j = 0 then some .nilFunc else none
  | some (.func ..), .held x => if j = 0 then (tok x).map fun g => .func (.func g) #[] #[] else none
  | some (.array n e), .agg ds => if j / P.cellsOf e < n then (match ds[j / P.cellsOf e]? with | some d' => ZiH P tok f e d' (j % P.cellsOf e) | none => none) else none
  | some (.struct fs), .agg ds =>
   match (List.range fs.size).find? fun i => match fs[i]? with | some x => decide (x.offset <= j) && decide (j < x.offset + P.cellsOf x.type) | none => false with
   | some i => (match fs[i]?, ds[i]? with | some x, some d' => ZiH P tok f x.type d' (j - x.offset) | _, _ => none)
   | none => none
  | _, _ => none
end
theorem ZnT {P : Program} {tb : List (String × FuncId)} {l : List UInt8} {g : FuncId} {t : TypeId} {v : Value} (h : ZyK P tb l = some g) (hv : funcToken P (t, v) = l) : v = .func (.func g) #[] #[] := by
 unfold ZyK at h
 cases l with
 | nil => rw [if_pos rfl] at h; cases h
 | cons b r =>
  obtain ⟨f, fn, rfl, h1, h2, h3⟩ := funcToken_tells hv
  rw [if_neg (by simp)] at h
  cases hx : tb.find? (fun x => x.1.toUTF8.data.toList == b :: r && P.funcNamed x.1 == some x.2) with
  | none => rw [hx] at h; cases h
  | some x =>
   rw [hx] at h
   have hp := List.find?_some hx
   simp only [Bool.and_eq_true, beq_iff_eq] at hp
   have hs : x.1 = fn.name := by
    have : x.1.toUTF8 = fn.name.toUTF8 := by
     apply ByteArray.ext
     apply Array.ext'
     rw [hp.1, h3]
    exact String.toByteArray_inj.1 this
   rw [hs, h2] at hp
   have := hp.2
   simp only [Option.map_some, Option.some.injEq] at h this
   rw [this, h]
theorem Zmk {cs : List Value} {o c j : Nat} {v : Value} (h : ((cs.drop o).take c)[j]? = some v) : cs[o + j]? = some v := by
 rw [List.getElem?_take] at h
 split at h
 ·rwa [List.getElem?_drop] at h
 ·cases h
theorem ZiG {H : Type} {enc : TypeId × Value -> H} {tok : H -> Option FuncId} {P : Program} {w : World} {base : Nat} {sp : Nat -> Bool} {held : Bool} (htok : ∀ t v g, tok (enc (t, v)) = some g -> v = .func (.func g) #[] #[]) : ∀ (f : Nat) (t : TypeId) (d : DataW H) (j : Nat) (v : Value) (fuel : Nat) (cs : List Value) (p : List MemPlace), ZiH P tok f t d j = some v ->
  DataW.trod enc P w base sp held fuel t cs = some (d, p) -> cs[j]? = some v
 | 0, _, _, _, _, _, _, _, h, _ => by cases h
 | f + 1, t, d, j, v, fuel, cs, p, h, ht => by
  unfold ZiH at h
  split at h
  ·rename_i hu
   obtain ⟨b', rfl, hx⟩ := DataW.trod_bool hu ht
   simp only [Prod.mk.injEq, DataW.lit.injEq, Lit.bool.injEq] at hx
   split at h
   ·rename_i hj
    subst hj
    simp only [Option.some.injEq] at h
    rw [<- h, hx.1]; rfl
   ·cases h
  ·rename_i hu
   obtain ⟨n', rfl, hx, _⟩ := DataW.trod_int hu ht
   simp only [Prod.mk.injEq, DataW.lit.injEq, Lit.int.injEq] at hx
   split at h
   ·rename_i hj
    subst hj
    simp only [Option.some.injEq] at h
    rw [<- h, hx.1.2]; rfl
   ·cases h
  ·rename_i hu
   obtain ⟨s, rfl, hx, _⟩ := DataW.trod_string hu ht
   simp only [Prod.mk.injEq, DataW.lit.injEq, Lit.string.injEq] at hx
   split at h
   ·rename_i hj
    subst hj
    simp only [Option.some.injEq] at h
    rw [<- h, hx.1]; simp
   ·cases h
  ·rename_i hu
   split at h
   ·rename_i hj
    subst hj
    cases fuel with
    | zero => simp [DataW.trod] at ht
    | succ n =>
     unfold DataW.trod at ht
     rw [hu] at ht
     simp only [Option.some.injEq] at h
     subst h
     split at ht <;> simp_all
   ·cases h
  ·rename_i hu
   split at h
   ·rename_i hj
    subst hj
    cases fuel with
    | zero => simp [DataW.trod] at ht
    | succ n =>
     unfold DataW.trod at ht
     rw [hu] at ht
     rename_i x0
     cases hk : tok x0 with
     | none => rw [hk] at h; cases h
     | some g =>
      rw [hk] at h
      simp only [Option.map_some, Option.some.injEq] at h
      subst h
      split at ht <;> first | (exfalso; simp_all; done) | skip
      all_goals (split at ht <;> first | (exfalso; simp_all; done) | skip)
      all_goals simp only [Option.some.injEq, Prod.mk.injEq, DataW.held.injEq] at ht
      all_goals (rw [<- ht.1] at hk; rw [htok _ _ _ hk]; rfl)
   ·cases h
  ·rename_i n e ds hu
   obtain ⟨xs, m, rfl, hx, hlen, hn, hel⟩ := DataW.trod_array hu ht
   simp only [Prod.mk.injEq, DataW.agg.injEq] at hx
   split at h
   ·rename_i hj
    split at h
    ·rename_i d' hd
     rw [hx.1, List.getElem?_map] at hd
     cases hy : xs[j / P.cellsOf e]? with
     | none => rw [hy] at hd; cases hd
     | some y =>
      rw [hy] at hd
      simp only [Option.map_some, Option.some.injEq] at hd
      have h1 := hel _ hj
      rw [hy] at h1
      have h2 := ZiG htok f e d' _ v m _ y.2 h (by rw [h1, <- hd])
      have h3 := Zmk h2
      rwa [Nat.mul_comm, Nat.div_add_mod] at h3
    ·cases h
   ·cases h
  ·rename_i fs ds hu
   obtain ⟨xs, m, rfl, hx, hlen, hn, hel⟩ := DataW.trod_struct hu ht
   simp only [Prod.mk.injEq, DataW.agg.injEq] at hx
   split at h
   ·rename_i i hi
    split at h
    ·rename_i x d' hf hd
     rw [hx.1, List.getElem?_map] at hd
     cases hy : xs[i]? with
     | none => rw [hy] at hd; cases hd
     | some y =>
      rw [hy] at hd
      simp only [Option.map_some, Option.some.injEq] at hd
      have h1 := hel i x hf
      rw [hy] at h1
      have h2 := ZiG htok f x.type d' _ v m _ y.2 h (by rw [h1, <- hd])
      have h3 := Zmk h2
      have hp := List.find?_some hi
      rw [hf] at hp
      simp only [Bool.and_eq_true, decide_eq_true_eq] at hp
      rwa [show x.offset + (j - x.offset) = j by omega] at h3
    ·cases h
   ·cases h
  ·cases h
theorem Zgr {H : Type} {enc : TypeId × Value -> H} {tok : H -> Option FuncId} {P : Program} {w : World} {base : Nat} {sp : Nat -> Bool} {held : Bool} (htok : ∀ t v g, tok (enc (t, v)) = some g -> v = .func (.func g) #[] #[]) {n : String} {d : DataW H} {g : Nat} {t : TypeId} {cells : List Value} {s : Nat} {cs : Array Value} {fu : Nat} {p : List MemPlace} (fuel : Nat)
  (h1 : P.globalNamed n = some g) (h3 : w.var? P n = some cs) (h4 : DataW.trod enc P w base sp held fu t cs.toList = some (d, p)) (hc : (List.range cells.length).map (fun j => ZiH P tok fuel t d (s + j)) = cells.map some) : Zam w ⟨g, s, none⟩ cells := by
 intro j v hj
 have hjl := (List.getElem?_eq_some_iff.1 hj).1
 have h5 := congrArg (fun l => l[j]?) hc
 simp only [List.getElem?_map, List.getElem?_range hjl, Option.map_some, hj] at h5
 simp only [Option.some.injEq] at h5
 have h6 := ZiG htok fuel t _ _ v _ _ _ h5 h4
 rw [Zcd]
 have h7 := World.var?_cell h1 h3 (s + j)
 rw [h7]
 simpa using h6
theorem ZcA {P : Program} {w : World} {n : String} {d : DataW Unit} {g : Nat} {t : TypeId} {cells : List Value} {s : Nat} (tb : List (String × FuncId)) (fuel : Nat) (h : funcsAt P w n d) (hg : P.globalNamed n = some g) (ht : (P.globals[g]?).map (·.type) = some t)
  (hc : (List.range cells.length).map (fun j => ZiH P (ZyK P tb) fuel t d.funcsOut (s + j)) = cells.map some) : Zam w ⟨g, s, none⟩ cells := by
 obtain ⟨g', t', cs, fu, p, h1, h2, h3, h4⟩ := h
 obtain rfl := Option.some.inj (hg.symm.trans h1)
 obtain rfl := Option.some.inj (ht.symm.trans h2)
 exact Zgr (fun _ _ _ hk => ZnT hk rfl) fuel h1 h3 h4 hc
theorem ZeR {P : Program} {w : World} : ∀ {l : List (String × DataW Unit)} {ps : List MemPlace}, DataW.LaidVars P w l ps -> ∀ {n : String} {d : DataW Unit}, (n, d) ∈ l ->
  ∃ g t cs fuel p, P.globalNamed n = some g /\ (P.globals[g]?).map (·.type) = some t /\ w.var? P n = some cs /\ DataW.trod (fun _ => ()) P w 0 (fun _ => true) false fuel t cs.toList = some (d, p)
 | [], _, _, _, _, h => by cases h
 | (n0, d0) :: l, ps, hl, n, d, h => by
  obtain ⟨g, t, cs, fuel, p, q, h1, h2, h3, h4, h5, _⟩ := hl
  rcases List.mem_cons.1 h with he | h
  ·obtain ⟨rfl, rfl⟩ := Prod.mk.inj he
   exact ⟨g, t, cs, fuel, p, h1, h2, h3, h4⟩
  ·exact ZeR h5 h
theorem Zhr {P : Program} {l : List (String × DataW Unit)} {w : World} (h : laidMetH P l w) : laidMet P (l.filter fun x => x.2.handleName?.isNone) w := by
 unfold laidMetH at h
 generalize hfl : (l.filter fun x => x.2.handleName?.isSome) = fl at h
 cases fl with
 | nil =>
  have e : (l.filter fun x => x.2.handleName?.isNone) = l := by
   rw [List.filter_eq_self]
   intro x hx
   have := (List.filter_eq_nil_iff.1 hfl) x hx
   cases hn : x.2.handleName? with
   | none => rfl
   | some s => rw [hn] at this; exact absurd rfl this
  rw [e]
  exact h
 | cons a ys => exact h.1
theorem ZcY {P : Program} {w : World} {l : List (String × DataW Unit)} {n : String} {d : DataW Unit} {g : Nat} {t : TypeId} {cells : List Value} (fuel : Nat) (h : laidMetH P l w) (hm : (n, d) ∈ l.filter fun x => x.2.handleName?.isNone) (hg : P.globalNamed n = some g) (ht : (P.globals[g]?).map (·.type) = some t)
  (hc : (List.range cells.length).map (fun j => ZiH P (fun _ : Unit => none) fuel t d (0 + j)) = cells.map some) : Zam w ⟨g, 0, none⟩ cells := by
 obtain ⟨ps, hl, _⟩ := Zhr h
 obtain ⟨g', t', cs, fu, p, h1, h2, h3, h4⟩ := ZeR hl hm
 obtain rfl := Option.some.inj (hg.symm.trans h1)
 obtain rfl := Option.some.inj (ht.symm.trans h2)
 exact Zgr (fun _ _ _ hk => by cases hk) fuel h1 h3 h4 hc
def ZAv : TypeDesc -> Bool | .interface _ => true | _ => false
theorem Zgi {P : Program} {w : World} {l : List (String × DataW Unit)} {n : String} {d : DataW Unit} {g : Nat} {t : TypeId} (h : laidMetH P l w) (hm : (n, d) ∈ l.filter fun x => x.2.handleName?.isNone) (hg : P.globalNamed n = some g) (ht : (P.globals[g]?).map (·.type) = some t)
  (hi : (P.underlying t).map ZAv = some true) : ∃ ev, w.cell? ⟨g, 0, none⟩ = some ev /\ (ev = .nilIface \/ ∃ te pe, ev = .iface te pe) := by
 obtain ⟨ps, hl, _⟩ := Zhr h
 obtain ⟨g', t', cs, fu, p, h1, h2, h3, h4⟩ := ZeR hl hm
 obtain rfl := Option.some.inj (hg.symm.trans h1)
 obtain rfl := Option.some.inj (ht.symm.trans h2)
 have h7 := World.var?_cell h1 h3 0
 obtain ⟨ms, hu⟩ : ∃ ms, P.underlying t = some (.interface ms) := by
  cases hd : P.underlying t with
  | none => rw [hd] at hi; cases hi
  | some td => cases td <;> first | exact ⟨_, rfl⟩ | (rw [hd] at hi; simp [ZAv] at hi)
 cases fu with
 | zero => simp [DataW.trod] at h4
 | succ f =>
  unfold DataW.trod at h4
  rw [hu] at h4
  split at h4 <;> first | (exfalso; simp_all; done) | skip
  ·rename_i hc
   exact ⟨.nilIface, by rw [h7, <- Array.getElem?_toList, hc]; rfl, .inl rfl⟩
  ·rename_i hc
   exact ⟨_, by rw [h7, <- Array.getElem?_toList, hc]; rfl, .inr ⟨_, _, rfl⟩⟩
section
variable {H : Type} {enc : TypeId × Value -> H}
theorem Zix {C : Checked} {os : Os} {f : FuncId} {fn : Func} {s : ChangeSpec} {conds : List PathCond} {t : TypeId} (laid : List (String × DataW Unit)) (own : ownKnob C.prog.godebug = none) (started : os.Started) (noInit : C.prog.inits.idxOf? f = none) (hfn : C.prog.funcs[f]? = some fn)
  (witness : ∃ (w : World) (tape : Tape) (i : Input), w.os = os /\ (w.forCall tape i).Shaped C.prog /\ i.vars = [] /\ Input.okWide C.prog (w.forCall tape i) .any w.heap.size f i /\
   ((s.pre enc C.prog fn conds false (w.forCall tape i).memory i.args /\ laidMetH C.prog laid (w.forCall tape i).memory) /\ sizedMet enc C.prog fn (OpenSpec.ofChange s) false (w.forCall tape i).memory i.args) /\ ({} : Assume).holds C.prog (lone (Frame.enter C.prog f i.args .normal) [] (w.forCall tape i)))
  (hvars : s.vars = []) (hres : fn.resultTypes = #[t]) (ht : C.prog.underlying t = some .bool) (hl : laidOutB C.prog = true)
  (hr : fn.params.toList.all (fun t => C.prog.readableRec t && decide (t < C.prog.types.size)) = true) (hspec : ∀ ds : List (DataW H), ds.length = fn.params.toList.length -> s.fn H ds = { results := [.lit (.bool true)], args := ds })
  (walk : ∀ (W : World) (base : Nat) (args : List Value) (ds : List (DataW H)) (p : List MemPlace), (∀ (j : Nat) t v, fn.params.toList[j]? = some t -> args[j]? = some v -> Value.okWide C.prog W .any base t v) -> laidMetH C.prog laid W -> W.ShapedOpen C.prog ->
   DataW.TrodAll enc C.prog W 0 (fun _ => true) true fn.params.toList args ds p -> Does C.prog f args W (fun v _ => v = .bool true)) :
  ReturnsInHanded {} C os f .any (fun w args => (s.pre enc C.prog fn conds false w args /\ laidMetH C.prog laid w) /\ sizedMet enc C.prog fn (OpenSpec.ofChange s) false w args) (s.post enc C.prog fn false true false false) := by
 have hr' : ∀ t ∈ fn.params.toList, C.prog.readableRec t = true /\ t < C.prog.types.size := fun t ht => by
  have := List.all_eq_true.1 hr t ht
  simpa using this
 refine returnsInHanded_of_calls own started noInit witness ?_
 intro w tape i _ hsh _ hok hpre hholds
 obtain ⟨_, _, _, fn', hfn', _, _, _, _, hval⟩ := hok
 have e : fn' = fn := Option.some.inj (hfn'.symm.trans hfn)
 subst e
 obtain ⟨⟨⟨ds, gs, before, hw, hc⟩, hx⟩, hz⟩ := hpre
 have hw' := DataW.Whole.of_heap (w' := w.forCall tape i) (by rfl) hw
 obtain ⟨p, q, hA, _⟩ := id hw'
 have hd := walk (w.forCall tape i) w.heap.size i.args.toList ds p (fun j t v h1 h2 => hval j t v (by simpa using h1) (by simpa using h2)) (laidMetH.of_heap (by rfl) hx) hsh hA
 unfold Does at hd
 rw [Array.toArray_toList] at hd
 refine hd.mono ?_
 rintro e W' ⟨v, O, rfl, hb, _, rfl⟩
 exact ChangeSpec.post_blind (ZwN hvars hres ht hl hr' hspec hw' hb.toBelow)
end
end Go.Wk
