/- Parts of the proof. -/
import Derived.Test.YtbjomhdhkpgbaaaGreatDoorW27
import Derived.Test.YtbjomhdhkpgbaaaGreatDoorW08
import Derived.Test.YtbjomhdhkpgbaaaGreatDoorW24
import Derived.Test.YtbjomhdhkpgbaaaGreatDoorW26
import Derived.Test.YtbjomhdhkpgbaaaGreatDoorW07
import Derived.Test.YtbjomhdhkpgbaaaGreatDoorW23
import Derived.Test.YtbjomhdhkpgbaaaGreatDoorW04
import Derived.LaidHandle
import Derived.LaidLaws
import Derived.LaidSub
import Derived.Stop.Joined
set_option maxHeartbeats 4000000
set_option linter.unusedVariables false
set_option linter.unusedSimpArgs false
set_option maxHeartbeats 4000000
namespace Go.Proofs.YtbjomhdhkpgbaaaGreatDoor
open Go Go.RowKit Go.Wk
attribute [local irreducible] W RL Does Zap Zak retQ Calls Pu Stp RD Qy Ay Zal RW
theorem Zqn (base : Int) (f : ByteArray) (w : World) : Does Tryz.prog 33 [.int .i64 base, .string f] w (fun v O => ∃ bR bE bZ, v = .agg #[.slice (some ⟨bR, 0, none⟩) 3 3, .slice (some ⟨bZ, 0, none⟩) 1 1, .slice none 0 0, .slice none 0 0] /\ O = [.blk bR (.string eirT :: .int .i64 1971 :: .int .i64 1971 :: .int .i64 10 :: .int .i64 1 :: .int .i64 0 :: .int .i64 31 :: .int .i64 7200 :: .int .i64 base :: .int .i64 (-3600) :: .string ByteArray.empty :: .string eirT :: .int .i64 1972 :: .int .i64 1048576 :: .int .i64 3 :: .int .i64 3 :: .int .i64 0 :: .int .i64 15 :: .int .i64 7200 :: .int .i64 2 :: .int .i64 0 :: .string ByteArray.empty :: .string eirT :: .int .i64 1972 :: .int .i64 1048576 :: .int .i64 10 :: .int .i64 2 :: .int .i64 0 :: .int .i64 0 :: .int .i64 3600 :: .int .i64 2 :: .int .i64 (-3600) :: .string ByteArray.empty :: []) 56, .blk bE (.int .i64 0 :: .int .i64 0 :: .int .i64 0 :: .string ByteArray.empty :: .string gmtF :: .bool true :: .int .i64 1968 :: .int .i64 10 :: .int .i64 1 :: .int .i64 0 :: .int .i64 27 :: .int .i64 0 :: .int .i64 0 :: .int .i64 3600 :: .int .i64 2 :: .int .i64 0 :: .string eirT :: .string f :: .bool false :: .int .i64 0 :: .int .i64 0 :: .int .i64 0 :: .int .i64 0 :: .int .i64 0 :: .int .i64 0 :: .int .i64 0 :: []) 54, .blk bZ [.string dblT, .slice (some ⟨bE, 0, none⟩) 2 2] 46]) :=
 (Zj7 base f w).monoO fun v O ⟨bR, bE, bZ, h1, h2⟩ => ⟨O, ⟨bR, bE, bZ, h1, h2⟩, fun _ _ h => h⟩
def Zyt (base : Int) (f : ByteArray) (sec : Int) (v : Value) (O : List It) : Prop := ∃ bR bE bZ bS, v = srcV (some ⟨bR, 0, none⟩) (some ⟨bZ, 0, none⟩) none (some ⟨bS, 0, none⟩) 3 1 0 1 (dubT base sec f) /\ O = [.blk bR ((dubT base sec f).rules.flatMap Zab.enc) 56, .blk bE ((dubT base sec f).zones.flatMap fun z => z.eras.flatMap DEra.enc) 54, .blk bZ [.string dblT, .slice (some ⟨bE, 0, none⟩) 2 2] 46, .blk bS [.string eirT] 9]
theorem ZfU {G : Prop} (h : G := by (first | (apply ZbD; rfl; rfl; exact lt1) | (apply ZbD; rfl; rfl; exact lt2) | (apply ZbD; rfl; rfl; exact lt3) | (apply ZbD; rfl; rfl; exact lt4) | (apply Pu_indexAddr; rfl; rfl; decide; decide; exact Option.some_ne_none _) | (apply Pu_add; rfl; rfl; (constructor <;> decide)))) : G := h
theorem Zva {G : Prop} (h : G := by (first | exact ZfU | (apply ZaF; rfl; rfl; exact e1))) : G := h
theorem ZnR (f : ByteArray) (w : World) : Does Tryz.prog 34 [.int .i64 1, .string f] w (Zyt 1 f 3600) := by
 have hdu := fun w' => Zqn 1 f w'
 refine Zaa Tryz.func34 rfl rfl rfl rfl ?_
 repeat (first | (refine js ?_; (first | (apply Zad (h := fun w' _ _ => hdu w'); rfl; rintro v O' ⟨bR, bE, bZ, rfl, rfl⟩) | (refine bx ?_; intro bk))) | refine walk ?_)
 have lt1 : decide ((0 : Int) < (3 : Nat)) = true := rfl
 have lt2 : decide ((0 : Int) + 1 < (3 : Nat)) = true := rfl
 have lt3 : decide ((0 : Int) + 1 + 1 < (3 : Nat)) = true := rfl
 have lt4 : decide ((0 : Int) + 1 + 1 + 1 < (3 : Nat)) = false := rfl
 have e1 : decide ((1 : Int) = 1) = true := rfl
 refine Zc5 4 (ZaJ ?_)
 repeat (first | (apply RL_pu; rfl; exact ZfU) | (refine js ?_; (refine bx ?_; intro bk)) | refine walk1 ?_)
 refine ZaJ ?_
 repeat (first | (apply RL_pu; rfl; exact ZfU) | (refine js ?_; (refine bx ?_; intro bk)) | refine walk1 ?_)
 refine ZaJ ?_
 repeat (first | (apply RL_pu; rfl; exact ZfU) | (refine js ?_; (refine bx ?_; intro bk)) | refine walk1 ?_)
 refine ZaJ ?_
 repeat (first | (apply RL_pu; rfl; exact Zva) | (refine js ?_; (refine bx ?_; intro bk)) | refine walk1 ?_)
 exact ret_1 _ _ (.cellB rfl (by repeat' constructor) rfl rfl) SOA ⟨_, _, _, _, rfl, rfl⟩
theorem ZnQ (f : ByteArray) (w : World) : Does Tryz.prog 34 [.int .i64 2, .string f] w (Zyt 2 f 7200) := by
 have hdu := fun w' => Zqn 2 f w'
 refine Zaa Tryz.func34 rfl rfl rfl rfl ?_
 repeat (first | (refine js ?_; (first | (apply Zad (h := fun w' _ _ => hdu w'); rfl; rintro v O' ⟨bR, bE, bZ, rfl, rfl⟩) | (refine bx ?_; intro bk))) | refine walk ?_)
 have lt1 : decide ((0 : Int) < (3 : Nat)) = true := rfl
 have lt2 : decide ((0 : Int) + 1 < (3 : Nat)) = true := rfl
 have lt3 : decide ((0 : Int) + 1 + 1 < (3 : Nat)) = true := rfl
 have lt4 : decide ((0 : Int) + 1 + 1 + 1 < (3 : Nat)) = false := rfl
 have e1 : decide ((2 : Int) = 1) = false := rfl
 refine Zc5 4 (ZaJ ?_)
 repeat (first | (apply RL_pu; rfl; exact ZfU) | (refine js ?_; (refine bx ?_; intro bk)) | refine walk1 ?_)
 refine ZaJ ?_
 repeat (first | (apply RL_pu; rfl; exact ZfU) | (refine js ?_; (refine bx ?_; intro bk)) | refine walk1 ?_)
 refine ZaJ ?_
 repeat (first | (apply RL_pu; rfl; exact ZfU) | (refine js ?_; (refine bx ?_; intro bk)) | refine walk1 ?_)
 refine ZaJ ?_
 repeat (first | (apply RL_pu; rfl; exact Zva) | (refine js ?_; (refine bx ?_; intro bk)) | refine walk1 ?_)
 exact ret_1 _ _ (.cellB rfl (by repeat' constructor) rfl rfl) SOA ⟨_, _, _, _, rfl, rfl⟩
end Go.Proofs.YtbjomhdhkpgbaaaGreatDoor
namespace Go.Proofs.YtbjomhdhkpgbaaaGreatDoor
open Go Go.RowKit Go.Wk
def mlB (n : Int) : Bool := decide (-1000000 <= n) && decide (n <= 1000000)
theorem Zyj {n : Int} : mlB n = true ↔ -1000000 <= n /\ n <= 1000000 := by unfold mlB; simp
def smlB (s : Zac) : Bool :=
 decide (s.rules.length <= 100) && (decide (s.zones.length <= 100) && (decide (s.links.length <= 100) && (decide (s.shifts.length <= 100) &&
 ((s.rules.all fun r => decide (r.name.size <= 100) && (decide (r.letter.size <= 100) && mlB r.save)) &&
 ((s.zones.all fun z => decide (z.name.size <= 100) && (decide (z.eras.length <= 100) && z.eras.all fun e => decide (e.set.size <= 100) && (decide (e.format.size <= 100) && (mlB e.off && (mlB e.save && mlB e.kind))))) &&
 (s.links.all fun l => decide (l.target.size <= 100) && decide (l.name.size <= 100)))))))
theorem ZkG {s : Zac} (h : smlB s = true) : Sml s := by
 unfold smlB at h
 simp only [Bool.and_eq_true, decide_eq_true_eq, List.all_eq_true, Zyj] at h
 obtain ⟨h1, h2, h3, h4, h5, h6, h7⟩ := h
 exact ⟨h1, h2, h3, h4, h5, fun z hz => by
  obtain ⟨a1, a2, a3⟩ := h6 z hz
  exact ⟨a1, a2, fun e he => by
   obtain ⟨b1, b2, b3, b4, b5⟩ := a3 e he
   exact ⟨b1, b2, b3, b4, b5⟩⟩, h7⟩
theorem ZeT : smlB (dub 2 istF) = true /\ smlB (dub 1 istF) = true /\ smlB (dub 2 pctB) = true /\ smlB (dubT 1 3600 tsiF) = true /\ smlB (dubT 2 7200 pctB) = true := by decide +kernel
theorem Zqe {s t : Zac} {form : Int} (h : goes s form t = true) : accD s = none /\ Zb7 s ≠ [] /\ toB form s = true /\ toD form s = t := by
 unfold goes at h
 simp only [Bool.and_eq_true, decide_eq_true_eq, Bool.not_eq_true', decide_eq_false_iff_not] at h
 exact ⟨h.1, h.2.1, h.2.2.1, h.2.2.2⟩
end Go.Proofs.YtbjomhdhkpgbaaaGreatDoor
set_option maxHeartbeats 8000000
namespace Go.Proofs.YtbjomhdhkpgbaaaGreatDoor
open Go Go.RowKit Go.Wk
attribute [local irreducible] W RL Does Zap Zak retQ Calls Pu Stp RD Qy Ay Zal
theorem Zk6 (base : Int) (f : ByteArray) (w : World) : Does Tryz.prog 33 [.int .i64 base, .string f] w (Zhv (dub base f)) := (ZoF base f w).monoO fun _ _ h => ZcM h
theorem ZlS {base sec : Int} {f : ByteArray} {v : Value} {O : List It} (h : Zyt base f sec v O) : ∃ O', ZdG (dubT base sec f) v O' /\ ∀ base w', Zau base O w' -> Zau base O' w' := by
 obtain ⟨bR, bE, bZ, bS, h1, h2⟩ := h
 subst h1 h2
 refine ⟨_, ⟨_, _, _, _, none, 0, _, _, [⟨⟨dblT, [dubE, ⟨0, 2, 0, eirT, f, noU⟩]⟩, some ⟨bE, 0, none⟩, 2⟩], rfl, rfl, rfl⟩, fun b w' hH => ?_⟩
 have h := ZsJ (s := dubT base sec f) (nm := dblT) (es := [dubE, ⟨0, 2, 0, eirT, f, noU⟩]) (n := 3) (m := 2) (O := [.blk bS [.string eirT] 9]) rfl rfl rfl (by decide) (by decide) rfl hH
 have h2 := h.toRow (m := 1) 1 rfl (by decide) (.there (.there (.there (.there .here))))
 exact h2.sub SOA
theorem Zvv (f : ByteArray) (w : World) : Does Tryz.prog 34 [.int .i64 1, .string f] w (Zhv (dubT 1 3600 f)) := ((ZnR f w).monoO fun _ _ h => ZlS h).monoO fun _ _ h => ZcM h
theorem ZkA (f : ByteArray) (w : World) : Does Tryz.prog 34 [.int .i64 2, .string f] w (Zhv (dubT 2 7200 f)) := ((ZnQ f w).monoO fun _ _ h => ZlS h).monoO fun _ _ h => ZcM h
theorem ZkF {s : Zac} (h : Sml s) : Fits s := ⟨by have := h.nr; omega, by have := h.nz; omega, by have := h.nl; omega, by have := h.ns; omega, fun z hz => by have := (h.zs z hz).2.1; omega⟩
theorem toT (Ar Az Al As : Option Addr) (cr cz cl cs : Nat) (a : Zac) (form : Int) (Br Bz Bl Bs : Option Addr) (dr dz dl ds : Nat) (b : Zac) (w : World) (hL : LibW w) (hG : Glob w) (hs : smlB a = true) (hg : goes a form b = true) (hform : form = 1 \/ form = 2 \/ form = 3) (hA : Zan w Ar Az Al As cr cz cl cs a) (hB : Zan w Br Bz Bl Bs dr dz dl ds b) :
  Does Tryz.prog 11 [srcV Ar Az Al As cr cz cl cs a, .int .i64 form, srcV Br Bz Bl Bs dr dz dl ds b] w (fun v O => v = .bool true /\ O = []) := by
 obtain ⟨g1, g2, g3, g4⟩ := Zqe hg
 have h := ZlV Ar Az Al As cr cz cl cs a form Br Bz Bl Bs dr dz dl ds b w ((ZkG hs).acc hL hG hA) (ZkF (ZkG hs)) hform g1 g2 g3 hB
 rw [decide_eq_true g4] at h
 exact h
theorem ZyB : toE 2 (dubT 2 7200 pctB) = some (⟨4, 0, 0⟩, 17) := by
 obtain ⟨h1, h2, h3⟩ := Zys
 unfold toE
 rw [h1]
 dsimp only
 rw [if_pos h2, h3]
theorem Zwn : toE 4 (dub 2 istF) = some (⟨0, 0, 0⟩, 2) := by
 obtain ⟨h1, h2, _⟩ := Zqe Zea.1
 unfold toE
 rw [h1]
 dsimp only
 rw [if_neg h2, if_pos (by decide)]
theorem ZlA {G : Prop} (h : G := by (first | (apply Zlx (p := ⟨4, 0, 0⟩) (q := ⟨4, 0, 0⟩); rfl; rfl; rfl) | (apply Zlx (p := ⟨0, 0, 0⟩) (q := ⟨0, 0, 0⟩); rfl; rfl; rfl) | (apply ZaF; rfl; rfl; exact q17) | (apply ZaF; rfl; rfl; exact q2))) : G := h
theorem ZqF {G : Prop} (h : G := by first | (apply Qy_y; rfl; exact ZlA) | exact QyA) : G := h
theorem ZqJ {G : Prop} (h : G := by repeat (first | exact QF.nil | (apply QF.mk; rfl; rfl; decide +kernel; exact ZqF))) : G := h
theorem Zhf (w : World) (hL : LibW w) (hG : Glob w) : Does Tryz.prog 12 [] w (fun v O => v = .bool true /\ O = []) := by
 have q17 : decide ((17 : Int) = 17) = true := rfl
 have q2 : decide ((2 : Int) = 2) = true := rfl
 refine Zaa Tryz.func12 rfl rfl rfl rfl ?_
 repeat (first | (apply RL_pu; rfl; exact ZlA) | (apply RD_Q; rfl; rfl; decide +kernel; rfl; rfl; exact ZqF) | refine walk1 ?_ | (refine jg ?_; (try intro F); (first | (apply Zad (h := fun w' _ _ => Zk6 2 istF w'); rfl; rintro v O' ⟨Ra, ra, Za, za, La, la, Ha, ha, Qa, Fa, rfl, hZa, rfl⟩) | (apply Zad (h := fun w' _ _ => Zk6 1 istF w'); rfl; rintro v O' ⟨Rb, rb, Zb, zb, Lb, lb, Hb, hb, Qb, Fb, rfl, hZb, rfl⟩) | (apply Zad (h := fun w' _ _ => Zk6 2 pctB w'); rfl; rintro v O' ⟨Rc, rc, Zc, zc, Lc, lc, Hc, hc, Qc, Fc, rfl, hZc, rfl⟩) | (apply Zad (h := fun w' _ _ => ZkA pctB w'); rfl; rintro v O' ⟨Rd, rd, Zd, zd, Ld, ld, Hd, hd, Qd, Fd, rfl, hZd, rfl⟩) | (refine ZaM (fun w' hw hO => ZjG Rd Zd Ld Hd rd zd ld hd (dubT 2 7200 pctB) 2 (⟨4, 0, 0⟩, 17) w' ((ZkG ZeT.2.2.2.2).acc (hL.up hw) (hG.up hw) (ZaE hZd (hO.of (A := rowR Rd rd (dubT 2 7200 pctB).rules) (by repeat' constructor)) (hO.of (A := rowZ Zd zd Qd) (by repeat' constructor)) (hO.of (A := rowL Ld ld (dubT 2 7200 pctB).links) (by repeat' constructor)) (hO.of (A := rowS Hd hd (dubT 2 7200 pctB).shifts) (by repeat' constructor)) (hO.of (A := .fact Fd (Zav Qd)) (by repeat' constructor)))) ZyB) ?_) | (refine ZaM (fun w' hw hO => ZjG Ra Za La Ha ra za la ha (dub 2 istF) 4 (⟨0, 0, 0⟩, 2) w' ((ZkG ZeT.1).acc (hL.up hw) (hG.up hw) (ZaE hZa (hO.of (A := rowR Ra ra (dub 2 istF).rules) (by repeat' constructor)) (hO.of (A := rowZ Za za Qa) (by repeat' constructor)) (hO.of (A := rowL La la (dub 2 istF).links) (by repeat' constructor)) (hO.of (A := rowS Ha ha (dub 2 istF).shifts) (by repeat' constructor)) (hO.of (A := .fact Fa (Zav Qa)) (by repeat' constructor)))) Zwn) ?_) | (apply Zad (h := fun w' _ _ => ZkA tsiF w'); rfl; rintro v O' ⟨Re, re, Ze, ze, Le, le, He, he, Qe, Fe, rfl, hZe, rfl⟩) | (apply Zad (h := fun w' _ _ => Zvv tsiF w'); rfl; rintro v O' ⟨Rg, rg, Zg, zg, Lg, lg, Hg, hg, Qg, Fg, rfl, hZg, rfl⟩) | (apply Zad (h := fun w' _ _ => ZkA n10F w'); rfl; rintro v O' ⟨Rh, rh, Zh, zh, Lh, lh, Hh, hh, Qh, Fh, rfl, hZh, rfl⟩) | (apply Zad (h := fun w' _ _ => Zk6 2 n01F w'); rfl; rintro v O' ⟨Ri, ri, Zi, zi, Li, li, Hi, hi, Qi, Fi, rfl, hZi, rfl⟩) | (refine ZaM (fun w' hw hO => toT Ra Za La Ha ra za la ha (dub 2 istF) 3 Re Ze Le He re ze le he (dubT 2 7200 tsiF) w' (hL.up hw) (hG.up hw) ZeT.1 Zea.1 (.inr (.inr rfl)) (ZaE hZa (hO.of (A := rowR Ra ra (dub 2 istF).rules) (by repeat' constructor)) (hO.of (A := rowZ Za za Qa) (by repeat' constructor)) (hO.of (A := rowL La la (dub 2 istF).links) (by repeat' constructor)) (hO.of (A := rowS Ha ha (dub 2 istF).shifts) (by repeat' constructor)) (hO.of (A := .fact Fa (Zav Qa)) (by repeat' constructor))) (ZaE hZe (hO.of (A := rowR Re re (dubT 2 7200 tsiF).rules) (by repeat' constructor)) (hO.of (A := rowZ Ze ze Qe) (by repeat' constructor)) (hO.of (A := rowL Le le (dubT 2 7200 tsiF).links) (by repeat' constructor)) (hO.of (A := rowS He he (dubT 2 7200 tsiF).shifts) (by repeat' constructor)) (hO.of (A := .fact Fe (Zav Qe)) (by repeat' constructor)))) ?_) | (refine ZaM (fun w' hw hO => toT Rb Zb Lb Hb rb zb lb hb (dub 1 istF) 3 Rg Zg Lg Hg rg zg lg hg (dubT 1 3600 tsiF) w' (hL.up hw) (hG.up hw) ZeT.2.1 Zea.2.1 (.inr (.inr rfl)) (ZaE hZb (hO.of (A := rowR Rb rb (dub 1 istF).rules) (by repeat' constructor)) (hO.of (A := rowZ Zb zb Qb) (by repeat' constructor)) (hO.of (A := rowL Lb lb (dub 1 istF).links) (by repeat' constructor)) (hO.of (A := rowS Hb hb (dub 1 istF).shifts) (by repeat' constructor)) (hO.of (A := .fact Fb (Zav Qb)) (by repeat' constructor))) (ZaE hZg (hO.of (A := rowR Rg rg (dubT 1 3600 tsiF).rules) (by repeat' constructor)) (hO.of (A := rowZ Zg zg Qg) (by repeat' constructor)) (hO.of (A := rowL Lg lg (dubT 1 3600 tsiF).links) (by repeat' constructor)) (hO.of (A := rowS Hg hg (dubT 1 3600 tsiF).shifts) (by repeat' constructor)) (hO.of (A := .fact Fg (Zav Qg)) (by repeat' constructor)))) ?_) | (refine ZaM (fun w' hw hO => toT Rc Zc Lc Hc rc zc lc hc (dub 2 pctB) 3 Rh Zh Lh Hh rh zh lh hh (dubT 2 7200 n10F) w' (hL.up hw) (hG.up hw) ZeT.2.2.1 Zea.2.2.1 (.inr (.inr rfl)) (ZaE hZc (hO.of (A := rowR Rc rc (dub 2 pctB).rules) (by repeat' constructor)) (hO.of (A := rowZ Zc zc Qc) (by repeat' constructor)) (hO.of (A := rowL Lc lc (dub 2 pctB).links) (by repeat' constructor)) (hO.of (A := rowS Hc hc (dub 2 pctB).shifts) (by repeat' constructor)) (hO.of (A := .fact Fc (Zav Qc)) (by repeat' constructor))) (ZaE hZh (hO.of (A := rowR Rh rh (dubT 2 7200 n10F).rules) (by repeat' constructor)) (hO.of (A := rowZ Zh zh Qh) (by repeat' constructor)) (hO.of (A := rowL Lh lh (dubT 2 7200 n10F).links) (by repeat' constructor)) (hO.of (A := rowS Hh hh (dubT 2 7200 n10F).shifts) (by repeat' constructor)) (hO.of (A := .fact Fh (Zav Qh)) (by repeat' constructor)))) ?_) | (refine ZaM (fun w' hw hO => toT Rc Zc Lc Hc rc zc lc hc (dub 2 pctB) 2 Ri Zi Li Hi ri zi li hi (dub 2 n01F) w' (hL.up hw) (hG.up hw) ZeT.2.2.1 Zea.2.2.2.1 (.inr (.inl rfl)) (ZaE hZc (hO.of (A := rowR Rc rc (dub 2 pctB).rules) (by repeat' constructor)) (hO.of (A := rowZ Zc zc Qc) (by repeat' constructor)) (hO.of (A := rowL Lc lc (dub 2 pctB).links) (by repeat' constructor)) (hO.of (A := rowS Hc hc (dub 2 pctB).shifts) (by repeat' constructor)) (hO.of (A := .fact Fc (Zav Qc)) (by repeat' constructor))) (ZaE hZi (hO.of (A := rowR Ri ri (dub 2 n01F).rules) (by repeat' constructor)) (hO.of (A := rowZ Zi zi Qi) (by repeat' constructor)) (hO.of (A := rowL Li li (dub 2 n01F).links) (by repeat' constructor)) (hO.of (A := rowS Hi hi (dub 2 n01F).shifts) (by repeat' constructor)) (hO.of (A := .fact Fi (Zav Qi)) (by repeat' constructor)))) ?_) | (refine ZaM (fun w' hw hO => toT Ra Za La Ha ra za la ha (dub 2 istF) 2 Ra Za La Ha ra za la ha (dub 2 istF) w' (hL.up hw) (hG.up hw) ZeT.1 Zea.2.2.2.2.1 (.inr (.inl rfl)) (ZaE hZa (hO.of (A := rowR Ra ra (dub 2 istF).rules) (by repeat' constructor)) (hO.of (A := rowZ Za za Qa) (by repeat' constructor)) (hO.of (A := rowL La la (dub 2 istF).links) (by repeat' constructor)) (hO.of (A := rowS Ha ha (dub 2 istF).shifts) (by repeat' constructor)) (hO.of (A := .fact Fa (Zav Qa)) (by repeat' constructor))) (ZaE hZa (hO.of (A := rowR Ra ra (dub 2 istF).rules) (by repeat' constructor)) (hO.of (A := rowZ Za za Qa) (by repeat' constructor)) (hO.of (A := rowL La la (dub 2 istF).links) (by repeat' constructor)) (hO.of (A := rowS Ha ha (dub 2 istF).shifts) (by repeat' constructor)) (hO.of (A := .fact Fa (Zav Qa)) (by repeat' constructor)))) ?_) | (refine ZaM (fun w' hw hO => toT Rg Zg Lg Hg rg zg lg hg (dubT 1 3600 tsiF) 1 Rb Zb Lb Hb rb zb lb hb (dub 1 istF) w' (hL.up hw) (hG.up hw) ZeT.2.2.2.1 Zea.2.2.2.2.2 (.inl rfl) (ZaE hZg (hO.of (A := rowR Rg rg (dubT 1 3600 tsiF).rules) (by repeat' constructor)) (hO.of (A := rowZ Zg zg Qg) (by repeat' constructor)) (hO.of (A := rowL Lg lg (dubT 1 3600 tsiF).links) (by repeat' constructor)) (hO.of (A := rowS Hg hg (dubT 1 3600 tsiF).shifts) (by repeat' constructor)) (hO.of (A := .fact Fg (Zav Qg)) (by repeat' constructor))) (ZaE hZb (hO.of (A := rowR Rb rb (dub 1 istF).rules) (by repeat' constructor)) (hO.of (A := rowZ Zb zb Qb) (by repeat' constructor)) (hO.of (A := rowL Lb lb (dub 1 istF).links) (by repeat' constructor)) (hO.of (A := rowS Hb hb (dub 1 istF).shifts) (by repeat' constructor)) (hO.of (A := .fact Fb (Zav Qb)) (by repeat' constructor)))) ?_) | (refine bx ?_; intro bk) | (refine stA ?_)); first | refine ⟨_, EndsA, ZqJ, ?_⟩ | refine fin ?_) | (refine jn ?_; (try intro F); (first | (refine bx ?_; intro bk) | (refine stA ?_) | (apply Zah; first | exact ZlA | exact PuA)); first | refine ⟨_, EndsA, ZqJ, ?_⟩ | refine fin ?_) | (apply RD_W; rfl; intro bk))
 exact rtA
end Go.Proofs.YtbjomhdhkpgbaaaGreatDoor
set_option maxHeartbeats 8000000
namespace Go.Proofs.YtbjomhdhkpgbaaaGreatDoor
open Go Go.RowKit Go.Wk
attribute [local irreducible] W RL Does Zap Zak retQ Calls Pu Stp RD Qy Ay Zal RW Zai in23
theorem Zqc (d : DD23) : in23 d 1 = Zai d := by unfold in23; rw [if_pos rfl]
theorem toIn (Ar Az Al As : Option Addr) (cr cz cl cs : Nat) (d : DD23) (a form : Int) (w : World) (hL : LibW w) (hG : Glob w) (hform : form = 1 \/ form = 2 \/ form = 3) (hA : Zan w Ar Az Al As cr cz cl cs (in23 d a)) :
  Does Tryz.prog 9 [srcV Ar Az Al As cr cz cl cs (in23 d a), .int .i64 form] w (ToS (in23 d form)) := by
 have h := ZlU Ar Az Al As cr cz cl cs (in23 d a) form w ((ZhI d a).acc hL hG hA) (ZkF (ZhI d a)) hform (Zk0 d a) (Zj0 d a) (Zqb d a form)
 rw [ZwZ] at h
 exact h
theorem ZhZ (Ar Az Al As : Option Addr) (cr cz cl cs : Nat) (d : DD23) (a form : Int) (Br Bz Bl Bs : Option Addr) (dr dz dl ds : Nat) (b : Zac) (w : World) (hL : LibW w) (hG : Glob w) (hform : form = 1 \/ form = 2 \/ form = 3) (hA : Zan w Ar Az Al As cr cz cl cs (in23 d a)) (hB : Zan w Br Bz Bl Bs dr dz dl ds b) :
  Does Tryz.prog 11 [srcV Ar Az Al As cr cz cl cs (in23 d a), .int .i64 form, srcV Br Bz Bl Bs dr dz dl ds b] w (fun v O => v = .bool (decide (in23 d form = b)) /\ O = []) := by
 have h := ZlV Ar Az Al As cr cz cl cs (in23 d a) form Br Bz Bl Bs dr dz dl ds b w ((ZhI d a).acc hL hG hA) (ZkF (ZhI d a)) hform (Zk0 d a) (Zj0 d a) (Zqb d a form) hB
 rw [ZwZ] at h
 exact h
theorem ZgT (d : DD23) (a : Int) : (in23 d a).zones.length = (Zai d).zones.length := by
 unfold in23
 split
 ·rfl
 split
 all_goals exact List.length_map ..
theorem Zlv {n : Nat} {wr : World} {fr : Fr} {O : List It} {ty t' : TypeId} {x y : Operand} {p q : Zar} {b : Bool} (hx : ev fr x = some (.agg p.enc.toArray)) (hy : ev fr y = some (.agg q.enc.toArray)) (h : (!decide (p = q)) = b) : Pu Tryz.prog n wr fr O (.binOp .neq 36 x y t') ty (.bool b) := h ▸ Pu_neqE hx hy
theorem Zg8 {G : Prop} (h : G := by (first | (apply Zbc; rfl; rfl; decide; decide) | (apply Pu_add; rfl; rfl; (constructor <;> decide)) | (apply ZaT; rfl; rfl; exact e0) | (apply Zlv (p := ⟨0, 0, 0⟩) (q := ⟨0, 0, 0⟩); rfl; rfl; rfl) | (apply ZaF; rfl; rfl; first | exact n1 | exact n2 | exact n3) | (apply ZfT; rfl; rfl; first | exact lt1 | exact lt2 | exact lt3 | exact lt4))) : G := h
theorem Zbd {G : Prop} (h : G := by (first | (apply Pu_add; rfl; rfl; (constructor <;> decide)) | (apply ZaT; rfl; rfl; exact e0) | (apply Zlv (p := ⟨0, 0, 0⟩) (q := ⟨0, 0, 0⟩); rfl; rfl; rfl) | (apply ZaF; rfl; rfl; first | exact n1 | exact n2 | exact n3) | (apply ZfT; rfl; rfl; first | exact lt1 | exact lt2 | exact lt3 | exact lt4) | (apply Zbc; rfl; rfl; decide; decide))) : G := h
theorem ZcY {G : Prop} (h : G := by first | (apply Qy_y; rfl; exact Zbd) | exact QyA) : G := h
theorem Za2 {G : Prop} (h : G := by repeat (first | exact QF.nil | (apply QF.mk; rfl; rfl; decide +kernel; exact ZcY))) : G := h
theorem ZgH {G G' : Prop} (k : G') (h : Hold G' -> G := by intro k9; (first | (apply RL_pu; rfl; exact Zbd) | (apply RD_Q; rfl; rfl; decide +kernel; rfl; rfl; exact ZcY) | refine walk1 ?_ | (refine jn ?_; (try intro F); (first | (refine stA ?_) | (apply Zah; first | exact Zbd | exact PuA)); first | refine ⟨_, EndsA, Za2, ?_⟩ | refine fin ?_)); exact k9.out) : G := h ⟨k⟩
theorem ZuP {G : Prop} (h : G := by (first | (apply Pu_add; rfl; rfl; (constructor <;> decide)) | (apply ZaT; rfl; rfl; exact e0) | (apply Zlv (p := ⟨0, 0, 0⟩) (q := ⟨0, 0, 0⟩); rfl; rfl; rfl) | (apply ZaF; rfl; rfl; first | exact n1 | exact n2 | exact n3) | (apply ZfT; rfl; rfl; first | exact lt1 | exact lt2 | exact lt3 | exact lt4))) : G := h
set_option maxRecDepth 20000 in
theorem ZfZ (As Az Al : Option Addr) (cs cz cl : Nat) (d : DD23) (w : World) (hL : LibW w) (hG : Glob w) (hS : RdLL w As cs Zeg 1 d.sets) (hZ : RdLL w Az cz E23.enc 8 d.zones) (hD : RdSl w Al cl Zeg 1 d.links) (hrs : ∀ l ∈ d.sets, ∀ x ∈ l, inR .u8 x) (hrz : ∀ l ∈ d.zones, ∀ x ∈ l, x.ok) (hrl : ∀ x ∈ d.links, inR .u8 x) :
  Does Tryz.prog 3 [d23V As Az Al cs cz cl d] w (fun v O => v = .bool true /\ O = []) := by
 have hwk := fun w' (hw : Bel w.heap.size w w') => Zhf w' (hL.up hw) (hG.up hw)
 have hmd := fun w' (hw : Bel w.heap.size w w') => (Zin As Az Al cs cz cl d w' (hS.up hw) (hZ.up hw) (hD.up hw) hrs hrz hrl).monoO fun _ _ h => ZcM h
 have hpos := Zoj d
 have z1 := ZgT d 1
 have z2 := ZgT d 2
 have z3 := ZgT d 3
 have hto1 := fun R Z L H r z l h w' (hw : Bel w.heap.size w w') => toIn R Z L H r z l h d 1 1 w' (hL.up hw) (hG.up hw) (.inl rfl)
 have hto2 := fun R Z L H r z l h w' (hw : Bel w.heap.size w w') => toIn R Z L H r z l h d 1 2 w' (hL.up hw) (hG.up hw) (.inr (.inl rfl))
 have hto3 := fun R Z L H r z l h w' (hw : Bel w.heap.size w w') => toIn R Z L H r z l h d 1 3 w' (hL.up hw) (hG.up hw) (.inr (.inr rfl))
 have htb11 := fun R Z L H r z l h R' Z' L' H' r' z' l' h' w' (hw : Bel w.heap.size w w') => ZhZ R Z L H r z l h d 1 1 R' Z' L' H' r' z' l' h' (in23 d 1) w' (hL.up hw) (hG.up hw) (.inl rfl)
 have htb12 := fun R Z L H r z l h R' Z' L' H' r' z' l' h' w' (hw : Bel w.heap.size w w') => ZhZ R Z L H r z l h d 1 2 R' Z' L' H' r' z' l' h' (in23 d 2) w' (hL.up hw) (hG.up hw) (.inr (.inl rfl))
 have htb13 := fun R Z L H r z l h R' Z' L' H' r' z' l' h' w' (hw : Bel w.heap.size w w') => ZhZ R Z L H r z l h d 1 3 R' Z' L' H' r' z' l' h' (in23 d 3) w' (hL.up hw) (hG.up hw) (.inr (.inr rfl))
 have htb21 := fun R Z L H r z l h R' Z' L' H' r' z' l' h' w' (hw : Bel w.heap.size w w') => ZhZ R Z L H r z l h d 2 1 R' Z' L' H' r' z' l' h' (in23 d 1) w' (hL.up hw) (hG.up hw) (.inl rfl)
 have htb22 := fun R Z L H r z l h R' Z' L' H' r' z' l' h' w' (hw : Bel w.heap.size w w') => ZhZ R Z L H r z l h d 2 2 R' Z' L' H' r' z' l' h' (in23 d 2) w' (hL.up hw) (hG.up hw) (.inr (.inl rfl))
 have htb23 := fun R Z L H r z l h R' Z' L' H' r' z' l' h' w' (hw : Bel w.heap.size w w') => ZhZ R Z L H r z l h d 2 3 R' Z' L' H' r' z' l' h' (in23 d 3) w' (hL.up hw) (hG.up hw) (.inr (.inr rfl))
 have htb31 := fun R Z L H r z l h R' Z' L' H' r' z' l' h' w' (hw : Bel w.heap.size w w') => ZhZ R Z L H r z l h d 3 1 R' Z' L' H' r' z' l' h' (in23 d 1) w' (hL.up hw) (hG.up hw) (.inl rfl)
 have htb32 := fun R Z L H r z l h R' Z' L' H' r' z' l' h' w' (hw : Bel w.heap.size w w') => ZhZ R Z L H r z l h d 3 2 R' Z' L' H' r' z' l' h' (in23 d 2) w' (hL.up hw) (hG.up hw) (.inr (.inl rfl))
 have htb33 := fun R Z L H r z l h R' Z' L' H' r' z' l' h' w' (hw : Bel w.heap.size w w') => ZhZ R Z L H r z l h d 3 3 R' Z' L' H' r' z' l' h' (in23 d 3) w' (hL.up hw) (hG.up hw) (.inr (.inr rfl))
 have hsm := fun R Z L H r z l h R' Z' L' H' r' z' l' h' w' => Zie R Z L H r z l h (in23 d 1) R' Z' L' H' r' z' l' h' (Zai d) w'
 simp only [decide_eq_true, Zqc] at hto1 hto2 hto3 htb11 htb12 htb13 htb21 htb22 htb23 htb31 htb32 htb33 hsm z1
 unfold ToS at hto1 hto2 hto3
 simp only [plV, Zar.enc] at hto1 hto2 hto3
 generalize in23 d 2 = s2 at *
 generalize in23 d 3 = s3 at *
 generalize Zai d = m at *
 have e0 : (!decide ((0 : Int) = 0)) = false := rfl
 have n1 : decide ((m.zones.length : Int) = 0) = false := decide_eq_false (by omega)
 have n2 : decide ((s2.zones.length : Int) = 0) = false := decide_eq_false (by omega)
 have n3 : decide ((s3.zones.length : Int) = 0) = false := decide_eq_false (by omega)
 have lt1 : decide ((1 : Int) <= 3) = true := rfl
 have lt2 : decide ((1 : Int) + 1 <= 3) = true := rfl
 have lt3 : decide ((1 : Int) + 1 + 1 <= 3) = true := rfl
 have lt4 : decide ((1 : Int) + 1 + 1 + 1 <= 3) = false := rfl
 refine Zaa Tryz.func3 rfl rfl rfl rfl ?_
 repeat (first | refine walk ?_ | (refine jg ?_; (try intro F); (first | (apply Zad (h := fun w' hw _ => hmd w' hw); rfl; rintro v O' ⟨Rm, rm, Zm, zm, Lm, lm, Hm, hm, Qm, Fm, rfl, hZm, rfl⟩) | (refine bx ?_; intro bk) | (refine stA ?_)); refine fin ?_) | (refine jn ?_; (try intro F); (first | (refine bx ?_; intro bk) | (refine stA ?_) | (apply Zah; exact PuA)); refine fin ?_) | (apply RD_W; rfl; intro bk))
 refine Zc5 4 (ZaJ ?_)
 repeat (first | refine und ?_ | (apply RL_pu; rfl; exact Zg8) | (apply RD_Q; rfl; rfl; decide +kernel; rfl; rfl; exact QyTrBk0) | refine walk1 ?_ | (refine jg ?_; (try intro F); (first | (apply Zad (h := fun w' hw hO => hto1 Rm Zm Lm Hm rm zm lm hm w' hw (ZaE hZm (hO.of (A := rowR Rm rm m.rules) (by repeat' constructor)) (hO.of (A := rowZ Zm zm Qm) (by repeat' constructor)) (hO.of (A := rowL Lm lm m.links) (by repeat' constructor)) (hO.of (A := rowS Hm hm m.shifts) (by repeat' constructor)) (hO.of (A := .fact Fm (Zav Qm)) (by repeat' constructor)))); rfl; rintro v O' ⟨u, rfl, Ra, ra, Za, za, La, la, Ha, ha, Qa, Fa, rfl, hZa, rfl⟩) | (refine bx ?_; intro bk) | (refine stA ?_)); first | refine ⟨_, EndsA, QFTrBk0, ?_⟩ | refine fin ?_) | (refine jn ?_; (try intro F); (first | (refine bx ?_; intro bk) | (refine stA ?_) | (apply Zah; first | exact Zg8 | exact PuA)); first | refine ⟨_, EndsA, QFTrBk0, ?_⟩ | refine fin ?_) | (apply RD_W; rfl; intro bk))
 refine ZaJ ?_
 repeat (first | refine und ?_ | (apply RL_pu; rfl; exact Zg8) | (apply RD_Q; rfl; rfl; decide +kernel; rfl; rfl; exact QyTrBk0) | refine walk1 ?_ | (refine jg ?_; (try intro F); (first | (apply Zad (h := fun w' hw hO => hto2 Rm Zm Lm Hm rm zm lm hm w' hw (ZaE hZm (hO.of (A := rowR Rm rm m.rules) (by repeat' constructor)) (hO.of (A := rowZ Zm zm Qm) (by repeat' constructor)) (hO.of (A := rowL Lm lm m.links) (by repeat' constructor)) (hO.of (A := rowS Hm hm m.shifts) (by repeat' constructor)) (hO.of (A := .fact Fm (Zav Qm)) (by repeat' constructor)))); rfl; rintro v O' ⟨u, rfl, Rb, rb, Zb, zb, Lb, lb, Hb, hb, Qb, Fb, rfl, hZb, rfl⟩) | (refine bx ?_; intro bk) | (refine stA ?_)); first | refine ⟨_, EndsA, QFTrBk0, ?_⟩ | refine fin ?_) | (refine jn ?_; (try intro F); (first | (refine bx ?_; intro bk) | (refine stA ?_) | (apply Zah; first | exact Zg8 | exact PuA)); first | refine ⟨_, EndsA, QFTrBk0, ?_⟩ | refine fin ?_) | (apply RD_W; rfl; intro bk))
 refine ZaJ ?_
 repeat (first | refine und ?_ | (apply RL_pu; rfl; exact Zg8) | (apply RD_Q; rfl; rfl; decide +kernel; rfl; rfl; exact QyTrBk0) | refine walk1 ?_ | (refine jg ?_; (try intro F); (first | (apply Zad (h := fun w' hw hO => hto3 Rm Zm Lm Hm rm zm lm hm w' hw (ZaE hZm (hO.of (A := rowR Rm rm m.rules) (by repeat' constructor)) (hO.of (A := rowZ Zm zm Qm) (by repeat' constructor)) (hO.of (A := rowL Lm lm m.links) (by repeat' constructor)) (hO.of (A := rowS Hm hm m.shifts) (by repeat' constructor)) (hO.of (A := .fact Fm (Zav Qm)) (by repeat' constructor)))); rfl; rintro v O' ⟨u, rfl, Rc, rc, Zc, zc, Lc, lc, Hc, hc, Qc, Fc, rfl, hZc, rfl⟩) | (refine bx ?_; intro bk) | (refine stA ?_)); first | refine ⟨_, EndsA, QFTrBk0, ?_⟩ | refine fin ?_) | (refine jn ?_; (try intro F); (first | (refine bx ?_; intro bk) | (refine stA ?_) | (apply Zah; first | exact Zg8 | exact PuA)); first | refine ⟨_, EndsA, QFTrBk0, ?_⟩ | refine fin ?_) | (apply RD_W; rfl; intro bk))
 refine ZaJ ?_
 repeat (first | (apply RL_pu; rfl; exact Zbd) | (apply RD_Q; rfl; rfl; decide +kernel; rfl; rfl; exact ZcY) | refine walk1 ?_ | (refine jg ?_; (try intro F); (first | (refine ZaM (fun w' hw hO => hsm Ra Za La Ha ra za la ha Rm Zm Lm Hm rm zm lm hm w' (ZaE hZa (hO.of (A := rowR Ra ra m.rules) (by repeat' constructor)) (hO.of (A := rowZ Za za Qa) (by repeat' constructor)) (hO.of (A := rowL La la m.links) (by repeat' constructor)) (hO.of (A := rowS Ha ha m.shifts) (by repeat' constructor)) (hO.of (A := .fact Fa (Zav Qa)) (by repeat' constructor))) (ZaE hZm (hO.of (A := rowR Rm rm m.rules) (by repeat' constructor)) (hO.of (A := rowZ Zm zm Qm) (by repeat' constructor)) (hO.of (A := rowL Lm lm m.links) (by repeat' constructor)) (hO.of (A := rowS Hm hm m.shifts) (by repeat' constructor)) (hO.of (A := .fact Fm (Zav Qm)) (by repeat' constructor)))) ?_) | (refine bx ?_; intro bk) | (refine stA ?_)); first | refine ⟨_, EndsA, Za2, ?_⟩ | refine fin ?_) | (refine jn ?_; (try intro F); (first | (refine bx ?_; intro bk) | (refine stA ?_) | (apply Zah; first | exact Zbd | exact PuA)); first | refine ⟨_, EndsA, Za2, ?_⟩ | refine fin ?_) | (apply RD_W; rfl; intro bk))
 refine Zc5 4 (ZaJ ?_)
 repeat (first | refine ZgH ?_ | (refine jn ?_; (try intro F); (refine bx ?_; intro bk); first | refine ⟨_, EndsA, Za2, ?_⟩ | refine fin ?_) | (apply RD_W; rfl; intro bk))
 refine Zc5 4 (ZaJ ?_)
 refine ZbH (fr' := [(4, _), (9, _), (10, _)]) SFA (.refl _) ?_
 repeat (first | (apply RL_pu; rfl; exact Zbd) | (apply RD_Q; rfl; rfl; decide +kernel; rfl; rfl; exact ZcY) | refine walk1 ?_ | (refine jg ?_; (try intro F); (first | (refine ZaM (fun w' hw hO => htb11 Ra Za La Ha ra za la ha Ra Za La Ha ra za la ha w' hw (ZaE hZa (hO.of (A := rowR Ra ra m.rules) (by repeat' constructor)) (hO.of (A := rowZ Za za Qa) (by repeat' constructor)) (hO.of (A := rowL La la m.links) (by repeat' constructor)) (hO.of (A := rowS Ha ha m.shifts) (by repeat' constructor)) (hO.of (A := .fact Fa (Zav Qa)) (by repeat' constructor))) (ZaE hZa (hO.of (A := rowR Ra ra m.rules) (by repeat' constructor)) (hO.of (A := rowZ Za za Qa) (by repeat' constructor)) (hO.of (A := rowL La la m.links) (by repeat' constructor)) (hO.of (A := rowS Ha ha m.shifts) (by repeat' constructor)) (hO.of (A := .fact Fa (Zav Qa)) (by repeat' constructor)))) ?_) | (refine bx ?_; intro bk) | (refine stA ?_)); first | refine ⟨_, EndsA, Za2, ?_⟩ | refine fin ?_) | (refine jn ?_; (try intro F); (first | (refine bx ?_; intro bk) | (refine stA ?_) | (apply Zah; first | exact Zbd | exact PuA)); first | refine ⟨_, EndsA, Za2, ?_⟩ | refine fin ?_) | (apply RD_W; rfl; intro bk))
 refine ZaJ ?_
 refine ZbH (fr' := [(4, _), (9, _), (10, _)]) SFA (.refl _) ?_
 repeat (first | (apply RL_pu; rfl; exact Zbd) | (apply RD_Q; rfl; rfl; decide +kernel; rfl; rfl; exact ZcY) | refine walk1 ?_ | (refine jg ?_; (try intro F); (first | (refine ZaM (fun w' hw hO => htb12 Ra Za La Ha ra za la ha Rb Zb Lb Hb rb zb lb hb w' hw (ZaE hZa (hO.of (A := rowR Ra ra m.rules) (by repeat' constructor)) (hO.of (A := rowZ Za za Qa) (by repeat' constructor)) (hO.of (A := rowL La la m.links) (by repeat' constructor)) (hO.of (A := rowS Ha ha m.shifts) (by repeat' constructor)) (hO.of (A := .fact Fa (Zav Qa)) (by repeat' constructor))) (ZaE hZb (hO.of (A := rowR Rb rb s2.rules) (by repeat' constructor)) (hO.of (A := rowZ Zb zb Qb) (by repeat' constructor)) (hO.of (A := rowL Lb lb s2.links) (by repeat' constructor)) (hO.of (A := rowS Hb hb s2.shifts) (by repeat' constructor)) (hO.of (A := .fact Fb (Zav Qb)) (by repeat' constructor)))) ?_) | (refine bx ?_; intro bk) | (refine stA ?_)); first | refine ⟨_, EndsA, Za2, ?_⟩ | refine fin ?_) | (refine jn ?_; (try intro F); (first | (refine bx ?_; intro bk) | (refine stA ?_) | (apply Zah; first | exact Zbd | exact PuA)); first | refine ⟨_, EndsA, Za2, ?_⟩ | refine fin ?_) | (apply RD_W; rfl; intro bk))
 refine ZaJ ?_
 refine ZbH (fr' := [(4, _), (9, _), (10, _)]) SFA (.refl _) ?_
 repeat (first | (apply RL_pu; rfl; exact Zbd) | (apply RD_Q; rfl; rfl; decide +kernel; rfl; rfl; exact ZcY) | refine walk1 ?_ | (refine jg ?_; (try intro F); (first | (refine ZaM (fun w' hw hO => htb13 Ra Za La Ha ra za la ha Rc Zc Lc Hc rc zc lc hc w' hw (ZaE hZa (hO.of (A := rowR Ra ra m.rules) (by repeat' constructor)) (hO.of (A := rowZ Za za Qa) (by repeat' constructor)) (hO.of (A := rowL La la m.links) (by repeat' constructor)) (hO.of (A := rowS Ha ha m.shifts) (by repeat' constructor)) (hO.of (A := .fact Fa (Zav Qa)) (by repeat' constructor))) (ZaE hZc (hO.of (A := rowR Rc rc s3.rules) (by repeat' constructor)) (hO.of (A := rowZ Zc zc Qc) (by repeat' constructor)) (hO.of (A := rowL Lc lc s3.links) (by repeat' constructor)) (hO.of (A := rowS Hc hc s3.shifts) (by repeat' constructor)) (hO.of (A := .fact Fc (Zav Qc)) (by repeat' constructor)))) ?_) | (refine bx ?_; intro bk) | (refine stA ?_)); first | refine ⟨_, EndsA, Za2, ?_⟩ | refine fin ?_) | (refine jn ?_; (try intro F); (first | (refine bx ?_; intro bk) | (refine stA ?_) | (apply Zah; first | exact Zbd | exact PuA)); first | refine ⟨_, EndsA, Za2, ?_⟩ | refine fin ?_) | (apply RD_W; rfl; intro bk))
 refine ZaJ ?_
 refine ZbH (fr' := [(4, _), (9, _), (10, _)]) SFA (.refl _) ?_
 repeat (first | refine ZgH ?_ | (refine jn ?_; (try intro F); (refine bx ?_; intro bk); first | refine ⟨_, EndsA, Za2, ?_⟩ | refine fin ?_) | (apply RD_W; rfl; intro bk))
 refine ZaJ ?_
 repeat (first | refine ZgH ?_ | (refine jn ?_; (try intro F); (refine bx ?_; intro bk); first | refine ⟨_, EndsA, Za2, ?_⟩ | refine fin ?_) | (apply RD_W; rfl; intro bk))
 refine Zc5 4 (ZaJ ?_)
 refine ZbH (fr' := [(4, _), (9, _), (10, _)]) SFA (.refl _) ?_
 repeat (first | (apply RL_pu; rfl; exact Zbd) | (apply RD_Q; rfl; rfl; decide +kernel; rfl; rfl; exact ZcY) | refine walk1 ?_ | (refine jg ?_; (try intro F); (first | (refine ZaM (fun w' hw hO => htb21 Rb Zb Lb Hb rb zb lb hb Ra Za La Ha ra za la ha w' hw (ZaE hZb (hO.of (A := rowR Rb rb s2.rules) (by repeat' constructor)) (hO.of (A := rowZ Zb zb Qb) (by repeat' constructor)) (hO.of (A := rowL Lb lb s2.links) (by repeat' constructor)) (hO.of (A := rowS Hb hb s2.shifts) (by repeat' constructor)) (hO.of (A := .fact Fb (Zav Qb)) (by repeat' constructor))) (ZaE hZa (hO.of (A := rowR Ra ra m.rules) (by repeat' constructor)) (hO.of (A := rowZ Za za Qa) (by repeat' constructor)) (hO.of (A := rowL La la m.links) (by repeat' constructor)) (hO.of (A := rowS Ha ha m.shifts) (by repeat' constructor)) (hO.of (A := .fact Fa (Zav Qa)) (by repeat' constructor)))) ?_) | (refine bx ?_; intro bk) | (refine stA ?_)); first | refine ⟨_, EndsA, Za2, ?_⟩ | refine fin ?_) | (refine jn ?_; (try intro F); (first | (refine bx ?_; intro bk) | (refine stA ?_) | (apply Zah; first | exact Zbd | exact PuA)); first | refine ⟨_, EndsA, Za2, ?_⟩ | refine fin ?_) | (apply RD_W; rfl; intro bk))
 refine ZaJ ?_
 refine ZbH (fr' := [(4, _), (9, _), (10, _)]) SFA (.refl _) ?_
 repeat (first | (apply RL_pu; rfl; exact Zbd) | (apply RD_Q; rfl; rfl; decide +kernel; rfl; rfl; exact ZcY) | refine walk1 ?_ | (refine jg ?_; (try intro F); (first | (refine ZaM (fun w' hw hO => htb22 Rb Zb Lb Hb rb zb lb hb Rb Zb Lb Hb rb zb lb hb w' hw (ZaE hZb (hO.of (A := rowR Rb rb s2.rules) (by repeat' constructor)) (hO.of (A := rowZ Zb zb Qb) (by repeat' constructor)) (hO.of (A := rowL Lb lb s2.links) (by repeat' constructor)) (hO.of (A := rowS Hb hb s2.shifts) (by repeat' constructor)) (hO.of (A := .fact Fb (Zav Qb)) (by repeat' constructor))) (ZaE hZb (hO.of (A := rowR Rb rb s2.rules) (by repeat' constructor)) (hO.of (A := rowZ Zb zb Qb) (by repeat' constructor)) (hO.of (A := rowL Lb lb s2.links) (by repeat' constructor)) (hO.of (A := rowS Hb hb s2.shifts) (by repeat' constructor)) (hO.of (A := .fact Fb (Zav Qb)) (by repeat' constructor)))) ?_) | (refine bx ?_; intro bk) | (refine stA ?_)); first | refine ⟨_, EndsA, Za2, ?_⟩ | refine fin ?_) | (refine jn ?_; (try intro F); (first | (refine bx ?_; intro bk) | (refine stA ?_) | (apply Zah; first | exact Zbd | exact PuA)); first | refine ⟨_, EndsA, Za2, ?_⟩ | refine fin ?_) | (apply RD_W; rfl; intro bk))
 refine ZaJ ?_
 refine ZbH (fr' := [(4, _), (9, _), (10, _)]) SFA (.refl _) ?_
 repeat (first | (apply RL_pu; rfl; exact Zbd) | (apply RD_Q; rfl; rfl; decide +kernel; rfl; rfl; exact ZcY) | refine walk1 ?_ | (refine jg ?_; (try intro F); (first | (refine ZaM (fun w' hw hO => htb23 Rb Zb Lb Hb rb zb lb hb Rc Zc Lc Hc rc zc lc hc w' hw (ZaE hZb (hO.of (A := rowR Rb rb s2.rules) (by repeat' constructor)) (hO.of (A := rowZ Zb zb Qb) (by repeat' constructor)) (hO.of (A := rowL Lb lb s2.links) (by repeat' constructor)) (hO.of (A := rowS Hb hb s2.shifts) (by repeat' constructor)) (hO.of (A := .fact Fb (Zav Qb)) (by repeat' constructor))) (ZaE hZc (hO.of (A := rowR Rc rc s3.rules) (by repeat' constructor)) (hO.of (A := rowZ Zc zc Qc) (by repeat' constructor)) (hO.of (A := rowL Lc lc s3.links) (by repeat' constructor)) (hO.of (A := rowS Hc hc s3.shifts) (by repeat' constructor)) (hO.of (A := .fact Fc (Zav Qc)) (by repeat' constructor)))) ?_) | (refine bx ?_; intro bk) | (refine stA ?_)); first | refine ⟨_, EndsA, Za2, ?_⟩ | refine fin ?_) | (refine jn ?_; (try intro F); (first | (refine bx ?_; intro bk) | (refine stA ?_) | (apply Zah; first | exact Zbd | exact PuA)); first | refine ⟨_, EndsA, Za2, ?_⟩ | refine fin ?_) | (apply RD_W; rfl; intro bk))
 refine ZaJ ?_
 refine ZbH (fr' := [(4, _), (9, _), (10, _)]) SFA (.refl _) ?_
 repeat (first | refine ZgH ?_ | (refine jn ?_; (try intro F); (refine bx ?_; intro bk); first | refine ⟨_, EndsA, Za2, ?_⟩ | refine fin ?_) | (apply RD_W; rfl; intro bk))
 refine ZaJ ?_
 repeat (first | refine ZgH ?_ | (refine jn ?_; (try intro F); (refine bx ?_; intro bk); first | refine ⟨_, EndsA, Za2, ?_⟩ | refine fin ?_) | (apply RD_W; rfl; intro bk))
 refine Zc5 4 (ZaJ ?_)
 refine ZbH (fr' := [(4, _), (9, _), (10, _)]) SFA (.refl _) ?_
 repeat (first | (apply RL_pu; rfl; exact Zbd) | (apply RD_Q; rfl; rfl; decide +kernel; rfl; rfl; exact ZcY) | refine walk1 ?_ | (refine jg ?_; (try intro F); (first | (refine ZaM (fun w' hw hO => htb31 Rc Zc Lc Hc rc zc lc hc Ra Za La Ha ra za la ha w' hw (ZaE hZc (hO.of (A := rowR Rc rc s3.rules) (by repeat' constructor)) (hO.of (A := rowZ Zc zc Qc) (by repeat' constructor)) (hO.of (A := rowL Lc lc s3.links) (by repeat' constructor)) (hO.of (A := rowS Hc hc s3.shifts) (by repeat' constructor)) (hO.of (A := .fact Fc (Zav Qc)) (by repeat' constructor))) (ZaE hZa (hO.of (A := rowR Ra ra m.rules) (by repeat' constructor)) (hO.of (A := rowZ Za za Qa) (by repeat' constructor)) (hO.of (A := rowL La la m.links) (by repeat' constructor)) (hO.of (A := rowS Ha ha m.shifts) (by repeat' constructor)) (hO.of (A := .fact Fa (Zav Qa)) (by repeat' constructor)))) ?_) | (refine bx ?_; intro bk) | (refine stA ?_)); first | refine ⟨_, EndsA, Za2, ?_⟩ | refine fin ?_) | (refine jn ?_; (try intro F); (first | (refine bx ?_; intro bk) | (refine stA ?_) | (apply Zah; first | exact Zbd | exact PuA)); first | refine ⟨_, EndsA, Za2, ?_⟩ | refine fin ?_) | (apply RD_W; rfl; intro bk))
 refine ZaJ ?_
 refine ZbH (fr' := [(4, _), (9, _), (10, _)]) SFA (.refl _) ?_
 repeat (first | (apply RL_pu; rfl; exact Zbd) | (apply RD_Q; rfl; rfl; decide +kernel; rfl; rfl; exact ZcY) | refine walk1 ?_ | (refine jg ?_; (try intro F); (first | (refine ZaM (fun w' hw hO => htb32 Rc Zc Lc Hc rc zc lc hc Rb Zb Lb Hb rb zb lb hb w' hw (ZaE hZc (hO.of (A := rowR Rc rc s3.rules) (by repeat' constructor)) (hO.of (A := rowZ Zc zc Qc) (by repeat' constructor)) (hO.of (A := rowL Lc lc s3.links) (by repeat' constructor)) (hO.of (A := rowS Hc hc s3.shifts) (by repeat' constructor)) (hO.of (A := .fact Fc (Zav Qc)) (by repeat' constructor))) (ZaE hZb (hO.of (A := rowR Rb rb s2.rules) (by repeat' constructor)) (hO.of (A := rowZ Zb zb Qb) (by repeat' constructor)) (hO.of (A := rowL Lb lb s2.links) (by repeat' constructor)) (hO.of (A := rowS Hb hb s2.shifts) (by repeat' constructor)) (hO.of (A := .fact Fb (Zav Qb)) (by repeat' constructor)))) ?_) | (refine bx ?_; intro bk) | (refine stA ?_)); first | refine ⟨_, EndsA, Za2, ?_⟩ | refine fin ?_) | (refine jn ?_; (try intro F); (first | (refine bx ?_; intro bk) | (refine stA ?_) | (apply Zah; first | exact Zbd | exact PuA)); first | refine ⟨_, EndsA, Za2, ?_⟩ | refine fin ?_) | (apply RD_W; rfl; intro bk))
 refine ZaJ ?_
 refine ZbH (fr' := [(4, _), (9, _), (10, _)]) SFA (.refl _) ?_
 repeat (first | (apply RL_pu; rfl; exact Zbd) | (apply RD_Q; rfl; rfl; decide +kernel; rfl; rfl; exact ZcY) | refine walk1 ?_ | (refine jg ?_; (try intro F); (first | (refine ZaM (fun w' hw hO => htb33 Rc Zc Lc Hc rc zc lc hc Rc Zc Lc Hc rc zc lc hc w' hw (ZaE hZc (hO.of (A := rowR Rc rc s3.rules) (by repeat' constructor)) (hO.of (A := rowZ Zc zc Qc) (by repeat' constructor)) (hO.of (A := rowL Lc lc s3.links) (by repeat' constructor)) (hO.of (A := rowS Hc hc s3.shifts) (by repeat' constructor)) (hO.of (A := .fact Fc (Zav Qc)) (by repeat' constructor))) (ZaE hZc (hO.of (A := rowR Rc rc s3.rules) (by repeat' constructor)) (hO.of (A := rowZ Zc zc Qc) (by repeat' constructor)) (hO.of (A := rowL Lc lc s3.links) (by repeat' constructor)) (hO.of (A := rowS Hc hc s3.shifts) (by repeat' constructor)) (hO.of (A := .fact Fc (Zav Qc)) (by repeat' constructor)))) ?_) | (refine bx ?_; intro bk) | (refine stA ?_)); first | refine ⟨_, EndsA, Za2, ?_⟩ | refine fin ?_) | (refine jn ?_; (try intro F); (first | (refine bx ?_; intro bk) | (refine stA ?_) | (apply Zah; first | exact Zbd | exact PuA)); first | refine ⟨_, EndsA, Za2, ?_⟩ | refine fin ?_) | (apply RD_W; rfl; intro bk))
 refine ZaJ ?_
 refine ZbH (fr' := [(4, _), (9, _), (10, _)]) SFA (.refl _) ?_
 repeat (first | refine ZgH ?_ | (refine jn ?_; (try intro F); (refine bx ?_; intro bk); first | refine ⟨_, EndsA, Za2, ?_⟩ | refine fin ?_) | (apply RD_W; rfl; intro bk))
 refine ZaJ ?_
 repeat (first | (apply RL_pu; rfl; exact ZuP) | (apply RD_Q; rfl; rfl; decide +kernel; rfl; rfl; exact QyTrBk2) | refine walk1 ?_ | (refine jg ?_; (try intro F); (first | (refine Zae hwk ?_) | (refine bx ?_; intro bk) | (refine stA ?_)); first | refine ⟨_, EndsA, QFTrBk2, ?_⟩ | refine fin ?_) | (refine jn ?_; (try intro F); (first | (refine bx ?_; intro bk) | (refine stA ?_) | (apply Zah; first | exact ZuP | exact PuA)); first | refine ⟨_, EndsA, QFTrBk2, ?_⟩ | refine fin ?_) | (apply RD_W; rfl; intro bk))
 exact rtA
end Go.Proofs.YtbjomhdhkpgbaaaGreatDoor
namespace Go.Proofs.YtbjomhdhkpgbaaaGreatDoor
open Go Go.RowKit Go.Wk Go.ChangeShapes Go.WideShapes Go.ChangeAt
section
variable {H : Type} {enc : TypeId × Value -> H} {w : World} {sp : Nat -> Bool} {held : Bool}
theorem Zw6 {n : Nat} {cs : List Value} {y : DataW H × List MemPlace} (h : DataW.trod enc Tryz.prog w 0 sp held n 5 cs = some y) : ∃ d : Int, cs = Zeg d /\ inR .u8 d := by
 obtain ⟨x, e, _, b⟩ := DataW.trod_int Tryz.underlying5 h
 exact ⟨x, e, Zgg b⟩
def Znl {α : Type} (w : World) (en : α -> List Value) (sz : Nat) (ok : α -> Prop) (l : List α) (cs : List Value) : Prop := ∃ B cb, RdSl w B cb en sz l /\ cs = [.slice B l.length cb] /\ ∀ x ∈ l, ok x
theorem Zye {n : Nat} {cs : List Value} {y : DataW H × List MemPlace} (h : DataW.trod enc Tryz.prog w 0 sp held n 83 cs = some y) : ∃ l, Znl w Zeg 1 (inR .u8) l cs := by
 obtain ⟨v, rfl⟩ : ∃ v, cs = [v] := by
  rcases Deep.open_slice Tryz.underlying83 h with ⟨h0, _⟩ | ⟨a, len, cap, m, n, D, Pl, hcs, _⟩
  ·exact ⟨_, h0⟩
  ·exact ⟨_, hcs⟩
 obtain ⟨B, l, cb, rfl, h1, h2⟩ := ZkH Tryz.underlying83 Zeg (inR .u8) (sz := 1) (by kernel_rfl) (fun n cs y h => Zw6 h) h
 exact ⟨l, B, cb, h1, rfl, h2⟩
theorem ZvV {n : Nat} {cs : List Value} {y : DataW H × List MemPlace} (h : DataW.trod enc Tryz.prog w 0 sp held n 86 cs = some y) : ∃ l, Znl w E23.enc 8 E23.ok l cs := by
 obtain ⟨v, rfl⟩ : ∃ v, cs = [v] := by
  rcases Deep.open_slice Tryz.underlying86 h with ⟨h0, _⟩ | ⟨a, len, cap, m, n, D, Pl, hcs, _⟩
  ·exact ⟨_, h0⟩
  ·exact ⟨_, hcs⟩
 obtain ⟨B, l, cb, rfl, h1, h2⟩ := ZkH Tryz.underlying86 E23.enc E23.ok (sz := 8) (by kernel_rfl) (fun n cs y h => Zzj h) h
 exact ⟨l, B, cb, h1, rfl, h2⟩
theorem ZsM {α : Type} {en : α -> List Value} {sz : Nat} {ok : α -> Prop} {A : Option Addr} {ls : List (List α)} {c : Nat} (s1 : ls.length <= c) (s2 : c <= maxLen) (s3 : ∀ k l, ls[k]? = some l -> A ≠ none /\ ∃ cs, Znl w en sz ok l cs /\ Zam w ((adr A).add (k * 1)) cs) :
  RdLL w A c en sz ls /\ ∀ l ∈ ls, ∀ x ∈ l, ok x := by
 refine ⟨⟨s1, s2, fun k l hk => ?_⟩, fun l hl => ?_⟩
 ·obtain ⟨h4, cs', ⟨B, cb, h5, rfl, _⟩, h6⟩ := s3 k l hk
  exact ⟨h4, B, cb, h5, h6⟩
 ·obtain ⟨k, hk⟩ := List.getElem?_of_mem hl
  obtain ⟨_, _, ⟨_, _, _, _, h5⟩, _⟩ := s3 k l hk
  exact h5
set_option maxRecDepth 100000 in
theorem ZpV {v : Value} {r : Reach} {b0 : Nat} {d : DataW H} {ps : List MemPlace} (hv : Value.okWide Tryz.prog w r b0 26 v) (h : DataW.Trod enc Tryz.prog w 0 sp held 26 v d ps) :
  ∃ As Az Al cs cz cl d, v = d23V As Az Al cs cz cl d /\ RdLL w As cs Zeg 1 d.sets /\ RdLL w Az cz E23.enc 8 d.zones /\ RdSl w Al cl Zeg 1 d.links /\ (∀ l ∈ d.sets, ∀ x ∈ l, inR .u8 x) /\ (∀ l ∈ d.zones, ∀ x ∈ l, x.ok) /\ (∀ x ∈ d.links, inR .u8 x) := by
 obtain ⟨vs, rfl, hsz⟩ := okWide_struct Tryz.underlying26 hv
 obtain ⟨fuel, h⟩ := h
 obtain ⟨hl, hf⟩ := Zqj Tryz.underlying26 h
 rw [show Tryz.prog.cellsOf 26 = 3 from by kernel_rfl] at hl
 obtain ⟨vs⟩ := vs
 simp only [Value.cells] at hl hf
 obtain ⟨a0, cs0, rfl, hl0⟩ := ZbI hl
 obtain ⟨a1, cs1, rfl, hl1⟩ := ZbI hl0
 obtain ⟨a2, cs2, rfl, hl2⟩ := ZbI hl1
 obtain rfl := List.eq_nil_of_length_eq_zero hl2
 obtain ⟨n0, y0, h0⟩ := hf 0 22 0 1 rfl (by kernel_rfl)
 obtain ⟨n1, y1, h1⟩ := hf 1 23 1 1 rfl (by kernel_rfl)
 obtain ⟨n2, y2, h2⟩ := hf 2 24 2 1 rfl (by kernel_rfl)
 obtain ⟨As, ls, cs, rfl, s1, s2, s3⟩ := ZkI Tryz.underlying22 (fun (l : List Int) cs => Znl w Zeg 1 (inR .u8) l cs) (fun n cs y h => Zye h) h0
 obtain ⟨Az, lz, cz, rfl, z1, z2, z3⟩ := ZkI Tryz.underlying23 (fun (l : List E23) cs => Znl w E23.enc 8 E23.ok l cs) (fun n cs y h => ZvV h) h1
 obtain ⟨Al, ll, cl, rfl, l1, l2⟩ := ZkH Tryz.underlying24 Zeg (inR .u8) (sz := 1) (by kernel_rfl) (fun n cs y h => Zw6 h) h2
 rw [show Tryz.prog.cellsOf 83 = 1 from by kernel_rfl] at s3
 rw [show Tryz.prog.cellsOf 86 = 1 from by kernel_rfl] at z3
 obtain ⟨g1, g2⟩ := ZsM s1 s2 s3
 obtain ⟨g3, g4⟩ := ZsM z1 z2 z3
 exact ⟨As, Az, Al, cs, cz, cl, ⟨ls, lz, ll⟩, rfl, g1, g3, l1, g2, g4, l2⟩
end
section
variable {H : Type} {enc : TypeId × Value -> H} {w : World} {sp : Nat -> Bool} {held : Bool}
end
section
variable {H : Type} {enc : TypeId × Value -> H} {w : World} {sp : Nat -> Bool} {held : Bool}
end
end Go.Proofs.YtbjomhdhkpgbaaaGreatDoor
namespace Go.Wk
open Go Go.RowKit Go.ChangeShapes Go.WideShapes Go.ChangeAt
section
variable {H : Type} {enc : TypeId × Value -> H}
def Zqz : DataW Unit -> List Value
 | .agg l => l.map fun | .lit (.int k n) => .int k n | _ => undef
 | .lit (.int k n) => [.int k n]
 | _ => []
end
end Go.Wk
