/- Parts of the proof. -/
import Derived.Test.YtbjomhdhkpgbaaaGreatDoorY21
import Derived.Test.YtbjomhdhkpgbaaaGreatDoorY16
import Derived.Test.YtbjomhdhkpgbaaaGreatDoorY08
import Derived.Test.YtbjomhdhkpgbaaaGreatDoorY09
import Derived.Test.YtbjomhdhkpgbaaaGreatDoorY07
import Derived.Test.YtbjomhdhkpgbaaaGreatDoorY06
import Derived.Test.YtbjomhdhkpgbaaaGreatDoorY01
set_option maxHeartbeats 4000000
set_option linter.unusedVariables false
set_option linter.unusedSimpArgs false
namespace Go.Proofs.YtbjomhdhkpgbaaaGreatDoor
open Go Go.RowKit Go.Wk
attribute [local irreducible] W RL Does Zap Zak retQ Calls Pu Stp RD Qy Ay
theorem Zob (A B : Option Addr) (ca cb : Nat) (p q : ZaX) (w : World) (hA : RdSl w A ca DEra.enc 13 p.eras) (hB : RdSl w B cb DEra.enc 13 q.eras) :
  Does Tryz.prog 71 [.agg #[.string p.name, .slice A p.eras.length ca], .agg #[.string q.name, .slice B q.eras.length cb]] w (fun v O => v = .bool (decide (p = q)) /\ O = []) := by
 rw [Zqz]
 refine Zaa Tryz.func71 rfl rfl rfl rfl ?_
 repeat (first | (refine js ?_; (refine bx ?_; intro bk)) | refine walk ?_)
 refine Zcf 10 rfl (fun g1 => ?_) (fun g1 => ?_)
 ·repeat (first | (refine js ?_; (first | (refine Zad (fun w' hw => ZiX A B ca cb p.eras q.eras w' (hA.up hw) (hB.up hw)) ?_) | (refine bx ?_; intro bk))) | refine walk ?_)
  exact ret_1 _ [] (.tmp rfl) .nil ⟨by rw [g1]; rfl, rfl⟩
 repeat (first | (refine js ?_; (refine bx ?_; intro bk)) | refine walk ?_)
 exact ret_1 _ [] (.tmp rfl) .nil ⟨by rw [g1]; rfl, rfl⟩
theorem Zod (A B : Option Addr) (ca cb : Nat) (x y : List ZaX) (w : World) (hA : RdZ w A x) (hB : RdZ w B y) (hxc : x.length <= ca) (hc : ca <= maxLen) :
  Does Tryz.prog 68 [.slice A x.length ca, .slice B y.length cb, .func (.func 71) #[] #[]] w (fun v O => v = .bool (decide (x = y)) /\ O = []) := by
 unfold maxLen at hc
 generalize hres : decide (x = y) = res
 refine Zaa Tryz.func68 rfl rfl rfl rfl ?_
 repeat (first | (refine js ?_; (refine bx ?_; intro bk)) | refine walk ?_)
 refine Zah rfl (fun h1 => ?_) (fun h1 => ?_)
 ·repeat (first | (refine js ?_; (refine bx ?_; intro bk)) | refine walk ?_)
  exact ret_1 _ [] (.tmp rfl) .nil ⟨by rw [<- hres, Zg2]; simp at h1; omega, rfl⟩
 have hlen : x.length = y.length := by simp at h1; omega
 clear h1
 repeat (first | (refine js ?_; (refine bx ?_; intro bk)) | refine walk ?_)
 refine Zaq [(0, _), (1, _), (2, _), (6, _), (15, _), (16, _)] [] (fun k : Nat => [(17, .int .i64 k)]) (fun _ => []) (fun k => k <= x.length /\ decide (x.drop k = y.drop k) = res) (fun k => x.length - k) 0 SFA .nil ⟨by omega, hres⟩ ?_
 rintro k ⟨hk, hi⟩
 repeat (first | (refine js ?_; (refine bx ?_; intro bk)) | refine walk ?_)
 refine Zah rfl (fun hc => ?_) (fun hc => ?_)
 ·simp only [decide_eq_true_eq, Int.ofNat_lt] at hc
  have hcy : k < y.length := by omega
  obtain ⟨hna, cs1, ⟨Ae, ce, hE, rfl⟩, hca⟩ := hA k _ (List.getElem?_eq_getElem hc)
  obtain ⟨hnb, cs2, ⟨Be, de, hF, rfl⟩, hcb⟩ := hB k _ (List.getElem?_eq_getElem hcy)
  rw [Zan hc, Zan hcy, Zfi] at hi
  generalize x[k] = p at *
  generalize y[k] = q at *
  repeat (first | (apply RL_pu; rfl; exact PuI) | (refine js ?_; (first | (apply Zar (f := 71) (us := []) (cs := []) (vs := [.agg #[.string p.name, .slice Ae p.eras.length ce], .agg #[.string q.name, .slice Be q.eras.length de]]) (h := fun w' hw _ => Zob Ae Be ce de p q w' (hE.up hw) (hF.up hw)); rfl; rfl; rintro v O' ⟨rfl, rfl⟩) | (refine bx ?_; intro bk))) | refine walk1 ?_)
  refine Zah rfl (fun h3 => ?_) (fun h3 => ?_)
  ·repeat (first | (refine js ?_; (refine bx ?_; intro bk)) | refine walk ?_)
   exact ret_1 _ [] (.tmp rfl) .nil ⟨by simp at h3; simp [<- hi, h3], rfl⟩
  repeat (first | (refine js ?_; (refine bx ?_; intro bk)) | refine walk ?_)
  simp at h3
  exact ⟨k + 1, by omega, ⟨by omega, by rw [<- hi]; simp [h3]⟩, SFA, .nil⟩
 simp only [decide_eq_false_iff_not, Int.ofNat_lt] at hc
 repeat (first | (refine js ?_; (refine bx ?_; intro bk)) | refine walk ?_)
 exact ret_1 _ [] (.tmp rfl) .nil ⟨by rw [<- hi, Zg1 (by omega) (by omega)], rfl⟩
theorem Zoc (Ar Az Al As : Option Addr) (cr cz cl cs : Nat) (a : Zab) (Br Bz Bl Bs : Option Addr) (dr dz dl ds : Nat) (b : Zab) (w : World) (hA : Zaj w Ar Az Al As cr cz cl cs a) (hB : Zaj w Br Bz Bl Bs dr dz dl ds b) :
  Does Tryz.prog 32 [srcV Ar Az Al As cr cz cl cs a, srcV Br Bz Bl Bs dr dz dl ds b] w (fun v O => v = .bool (decide (a = b)) /\ O = []) := by
 rw [ZiZ]
 refine Zaa Tryz.func32 rfl rfl rfl rfl ?_
 repeat (first | (refine js ?_; (first | (refine Zad (fun w' hw => ZiW Ar Br cr dr a.rules b.rules w' (hA.r.up hw) (hB.r.up hw)) ?_) | (refine bx ?_; intro bk))) | refine walk ?_)
 refine Zcf 11 rfl (fun g1 => ?_) (fun g1 => ?_)
 ·repeat (first | (refine js ?_; (first | (refine Zad (fun w' hw => Zod Az Bz cz dz a.zones b.zones w' (hA.z.up hw) (hB.z.up hw) hA.zle hA.zcap) ?_) | (refine bx ?_; intro bk))) | refine walk ?_)
  refine Zcf 19 rfl (fun g2 => ?_) (fun g2 => ?_)
  ·repeat (first | (refine js ?_; (first | (refine Zad (fun w' hw => ZfS Al Bl cl dl a.links b.links w' (hA.l.up hw) (hB.l.up hw)) ?_) | (refine bx ?_; intro bk))) | refine walk ?_)
   refine Zcf 26 rfl (fun g3 => ?_) (fun g3 => ?_)
   ·repeat (first | (refine js ?_; (first | (refine Zad (fun w' hw => ZiV As Bs cs ds a.shifts b.shifts w' (hA.s.up hw) (hB.s.up hw)) ?_) | (refine bx ?_; intro bk))) | refine walk ?_)
    exact ret_1 _ [] (.tmp rfl) .nil ⟨by rw [g1, g2, g3]; rfl, rfl⟩
   repeat (first | (refine js ?_; (refine bx ?_; intro bk)) | refine walk ?_)
   exact ret_1 _ [] (.tmp rfl) .nil ⟨by rw [g1, g2, g3]; rfl, rfl⟩
  repeat (first | (refine js ?_; (refine bx ?_; intro bk)) | refine walk ?_)
  exact ret_1 _ [] (.tmp rfl) .nil ⟨by rw [g1, g2]; rfl, rfl⟩
 repeat (first | (refine js ?_; (refine bx ?_; intro bk)) | refine walk ?_)
 exact ret_1 _ [] (.tmp rfl) .nil ⟨by rw [g1]; rfl, rfl⟩
theorem Zn5 (Ar Az Al As : Option Addr) (cr cz cl cs : Nat) (a : Zab) (Br Bz Bl Bs : Option Addr) (dr dz dl ds : Nat) (b : Zab) (w : World) (hA : Zaj w Ar Az Al As cr cz cl cs a) (hB : Zaj w Br Bz Bl Bs dr dz dl ds b) :
  Does Tryz.prog 10 [srcV Ar Az Al As cr cz cl cs a, srcV Br Bz Bl Bs dr dz dl ds b] w (fun v O => v = .bool (decide (a = b)) /\ O = []) := by
 have hss := fun w' (hw : Bel w.heap.size w w') => Zig Ar Az Al As cr cz cl cs a Br Bz Bl Bs dr dz dl ds b w' (hA.up hw) (hB.up hw)
 have hps := fun w' (hw : Bel w.heap.size w w') => Zoc Ar Az Al As cr cz cl cs a Br Bz Bl Bs dr dz dl ds b w' (hA.up hw) (hB.up hw)
 unfold srcV at *
 refine Zaa Tryz.func10 rfl rfl rfl rfl ?_
 obtain ⟨q, hq⟩ : ∃ q, decide (a = b) = q := ⟨_, rfl⟩
 simp only [hq] at hss hps ⊢
 clear hq
 cases q with
 | true =>
  repeat (first | refine und ?_ | (refine js ?_; (first | (refine Zad hss ?_) | (refine Zad hps ?_) | (refine bx ?_; intro bk))) | refine walk ?_)
  exact rtA
 | false =>
  repeat (first | refine und ?_ | (refine js ?_; (first | (refine Zad hss ?_) | (refine Zad hps ?_) | (refine bx ?_; intro bk))) | refine walk ?_)
  exact rtA
end Go.Proofs.YtbjomhdhkpgbaaaGreatDoor
set_option maxHeartbeats 8000000
namespace Go.Proofs.YtbjomhdhkpgbaaaGreatDoor
open Go Go.RowKit Go.Wk
attribute [local irreducible] W RL Does Zap Zak retQ Calls Pu Stp RD Qy Ay Zal
theorem ZlC {n : Nat} {wr : World} {fr : Fr} {O : List It} {ty t' : TypeId} {x y : Operand} {p q : Zao} {b : Bool} (hx : ev fr x = some (.agg p.enc.toArray)) (hy : ev fr y = some (.agg q.enc.toArray)) (h : decide (p = q) = b) : Pu Tryz.prog n wr fr O (.binOp .eql 36 x y t') ty (.bool b) := h ▸ Pu_eqlE hx hy
theorem ZsM (Ar Az Al As : Option Addr) (cr cz cl cs : Nat) (a : Zab) (form : Int) (Br Bz Bl Bs : Option Addr) (dr dz dl ds : Nat) (b : Zab) (w : World) (h : Zjv w Ar Az Al As cr cz cl cs a) (hn : Fits a) (hform : form = 1 \/ form = 2 \/ form = 3) (hacc : accD a = none) (hff : Zb4 a ≠ []) (ht : toB form a = true) (hB : Zaj w Br Bz Bl Bs dr dz dl ds b) :
  Does Tryz.prog 11 [srcV Ar Az Al As cr cz cl cs a, .int .i64 form, srcV Br Bz Bl Bs dr dz dl ds b] w (fun v O => v = .bool (decide (toD form a = b)) /\ O = []) := by
 have hto := fun w' (hw : Bel w.heap.size w w') => ZlZ Ar Az Al As cr cz cl cs a form w' (h.up hw) hn hform hacc hff ht
 have e0 : decide ((0 : Int) = 0) = true := rfl
 unfold ToS at hto
 simp only [plV, Zao.enc] at hto
 unfold srcV at *
 refine Zaa Tryz.func11 rfl rfl rfl rfl ?_
 repeat (first | refine und ?_ | (apply RL_pu; rfl; (first | (apply ZaH; rfl; rfl; exact e0) | (apply ZlC (p := ⟨0, 0, 0⟩) (q := ⟨0, 0, 0⟩); rfl; rfl; rfl))) | (refine js ?_; (first | (apply Zac (h := fun w' hw _ => hto w' hw); rfl; rintro v O' ⟨u, rfl, A6, c6, A7, c7, A8, c8, A9, c9, Z6, S6, rfl, hZ6, rfl⟩) | (refine ZaW (fun w' hw hO => Zn5 A6 A7 A8 A9 c6 c7 c8 c9 (toD form a) Br Bz Bl Bs dr dz dl ds b w' (Zb2 hZ6 (hO.of (A := rowR A6 c6 (toD form a).rules) (by repeat' constructor)) (hO.of (A := rowZ A7 c7 Z6) (by repeat' constructor)) (hO.of (A := rowL A8 c8 (toD form a).links) (by repeat' constructor)) (hO.of (A := rowS A9 c9 (toD form a).shifts) (by repeat' constructor)) (hO.of (A := .fact S6 (Zax Z6)) (by repeat' constructor))) (hB.up hw)) ?_) | (refine bx ?_; intro bk))) | refine walk1 ?_)
 exact rtA
end Go.Proofs.YtbjomhdhkpgbaaaGreatDoor
namespace Go.Wk
open Go Go.RowKit
end Go.Wk
namespace Go.Proofs.YtbjomhdhkpgbaaaGreatDoor
open Go Go.RowKit Go.Wk
attribute [local irreducible] W RL Does Zap Zak retQ Calls Pu Stp RD Qy Ay Zal
def spGo (rs : List DRule) : List DEra -> Int -> Nat -> Option (List Zsl)
 | [], _, _ => some []
 | [_], st, i => some [⟨st, 9223372036854775807, i⟩]
 | e :: f :: l, st, i => if endT e (ruEr rs e) <= st then none else (spGo rs (f :: l) (endT e (ruEr rs e)) (i + 1)).map fun r => ⟨st, endT e (ruEr rs e), i⟩ :: r
def Zwf (rs : List DRule) (l : List DEra) : Option (List Zsl) := spGo rs l (-9223372036854775808) 0
end Go.Proofs.YtbjomhdhkpgbaaaGreatDoor
namespace Go.Wk
open Go Go.RowKit
theorem ZhI {least : Int} {r : DRule} {i y : Int} {e : Zaf} (h : onR least r i y = some e) : e.year = y /\ e.rule = i /\ max r.from_ (-2000000000) <= y /\ y <= 2000000000 /\ -604799 <= r.at_.sec /\ r.at_.sec <= 604799 /\ (onD y r.month r.day).2 = 0 /\ e.nominal = 86400 * (onD y r.month r.day).1 + (r.at_.sec + (if r.at_.base = 1 then max least (-10800) else 0)) := by
 unfold onR at h
 split at h
 ·cases h
 rename_i h1
 split at h
 ·cases h
 rename_i h2
 cases h
 have hc : ZaQ r.at_ = true := by
  cases hc : ZaQ r.at_
  ·exact absurd (.inr (.inr hc)) h1
  ·rfl
 simp only [ZaQ, Bool.and_eq_true, decide_eq_true_eq] at hc
 have hl : ¬ lastY r < y := fun h => h1 (.inr (.inl h))
 have hl2 : lastY r <= 2000000000 := by unfold lastY; split <;> omega
 refine ⟨rfl, rfl, ?_, by omega, hc.1.1.1, hc.1.1.2, Decidable.not_not.1 h2, ?_⟩
 ·have : ¬ y < max r.from_ (-2000000000) := fun h => h1 (.inl h)
  omega
 ·dsimp only
  omega
def mar1 (y : Int) : Int := y / 400 * 146097 + y % 400 * 365 + y % 400 / 4 - y % 400 / 100 - 719468
theorem Zmx (y : Int) : mar1 y + 365 <= mar1 (y + 1) /\ mar1 (y + 1) <= mar1 y + 366 := by unfold mar1; omega
theorem Zmy (y : Int) : ∀ k : Nat, mar1 y + 365 * k <= mar1 (y + k)
 | 0 => by simp
 | k + 1 => by
  have h1 := Zmy y k
  have h2 := Zmx (y + k)
  rw [show y + ((k + 1 : Nat) : Int) = y + k + 1 by omega]
  omega
theorem ZgS {y z : Int} (h : y < z) : mar1 y + 365 <= mar1 z := by
 have h1 := Zmy y (z - y).toNat
 rw [show y + ((z - y).toNat : Int) = z by omega] at h1
 omega
theorem ZtB {y z : Int} (h : y <= z) : mar1 y <= mar1 z := by
 by_cases he : y = z
 ·subst he; exact Int.le_refl _
 ·have := ZgS (y := y) (z := z) (by omega)
  omega
theorem Zm3 (y m d : Int) (h : 3 <= m) : ZbV y m d = mar1 y + Zbd.getD (m - 3).toNat 0 + d - 1 := by
 unfold ZbV Zht mar1
 rw [if_neg (by omega)]
 omega
theorem Zui (y : Int) : mar1 y - 29 <= ZbV y 2 1 /\ ZbV y 2 1 <= mar1 y - 28 := by
 have h := Zmx (y - 1)
 rw [show y - 1 + 1 = y by omega] at h
 unfold ZbV Zht
 rw [if_pos (by omega), show Zbd.getD ((2 : Int) + 12 - 3).toNat 0 = 337 by decide]
 unfold mar1 at *
 omega
theorem Zk1 (y m : Int) (h0 : 1 <= m) (h1 : m <= 12) : 28 <= lenM y m := by
 unfold lenM
 rw [if_neg (by omega)]
 split
 ·split <;> omega
 ·split <;> omega
def Zfs (d : DDay) : Prop := (d.kind = 2 /\ 0 <= d.week /\ d.week <= 6 /\ d.day = 0) \/ (d.kind = 3 /\ 0 <= d.week /\ d.week <= 6 /\ 1 <= d.day /\ d.day <= 22 /\ d.day.tmod 7 = 1) \/ (d.kind = 1 /\ d.week = 0 /\ 1 <= d.day /\ d.day <= 28)
theorem Zfs.chk {d : DDay} (h : Zfs d) : Zdl d = true := by
 obtain ⟨k, w, n⟩ := d
 simp only [Zfs] at h
 rcases h with ⟨rfl, h1, h2, rfl⟩ | ⟨rfl, h1, h2, h3, h4, _⟩ | ⟨rfl, rfl, h3, h4⟩
 ·simp [Zdl, dayK, ZnM]; omega
 ·simp [Zdl, dayK, ZnM]; omega
 ·simp [Zdl, dayK, ZnM]; omega
theorem Zfs.le28 {d : DDay} (h : Zfs d) : d.day <= 28 := by
 unfold Zfs at h
 omega
theorem Zfs.on {d : DDay} (h : Zfs d) {y m : Int} (hy : inY y = true) (h0 : 1 <= m) (h1 : m <= 12) : (onD y m d).2 = 0 /\ ZbV y m 1 <= (onD y m d).1 /\ (onD y m d).1 <= ZbV y m 1 + 30 := by
 have hl := Zk1 y m h0 h1
 have hl2 := Zk0 y m
 have h28 := h.le28
 have hd : Zb5 y m 1 = true := by
  unfold Zb5
  rw [hy]
  simp
  omega
 unfold onD
 rw [if_neg (by rw [hd]; decide), if_neg (by rw [h.chk]; decide), if_neg (by omega)]
 refine ⟨rfl, ?_⟩
 dsimp only
 generalize ZbV y m 1 = D
 generalize lenM y m = L at *
 obtain ⟨k, w, n⟩ := d
 simp only [Zfs] at h
 unfold Zfr ZeX ZfT
 dsimp only at h28 ⊢
 rcases h with ⟨rfl, h1, h2, rfl⟩ | ⟨rfl, h1, h2, h3, h4, _⟩ | ⟨rfl, rfl, h3, h4⟩
 ·rw [if_neg (by decide), if_pos rfl]; omega
 ·rw [if_neg (by decide), if_neg (by decide), if_pos rfl]; omega
 ·rw [if_pos rfl]; omega
structure DrRule (r : DRule) : Prop where
 f0 : 1900 <= r.from_
 f1 : r.from_ <= 2149
 ft : r.from_ <= r.to
 t1 : r.to <= 2149 \/ r.to = 1048576
 mon : (2 <= r.month /\ r.month <= 4) \/ r.month = 6 \/ (8 <= r.month /\ r.month <= 10)
 day : Zfs r.day
 clk : 0 <= r.at_.sec /\ r.at_.sec <= 86400 /\ 0 <= r.at_.base /\ r.at_.base <= 2
 save : -3600 <= r.save /\ r.save <= 7200
 letter : r.letter ∈ [ByteArray.empty, ⟨#[83]⟩, ⟨#[68]⟩, ⟨#[68, 84]⟩]
def sea (m : Int) : Int := if m <= 4 then 0 else if m <= 7 then 1 else 2
def loS (m : Int) : Int := if m <= 4 then -29 else if m <= 7 then 92 else 153
def hiS (m : Int) : Int := if m <= 4 then 62 else if m <= 7 then 123 else 245
theorem DrRule.mon12 {r : DRule} (h : DrRule r) : 1 <= r.month /\ r.month <= 12 := by have := h.mon; omega
theorem ZAq {m : Int} (h : (2 <= m /\ m <= 4) \/ m = 6 \/ (8 <= m /\ m <= 10)) (y : Int) : mar1 y + loS m <= ZbV y m 1 /\ ZbV y m 1 + 31 <= mar1 y + hiS m := by
 have hc : m = 2 \/ m = 3 \/ m = 4 \/ m = 6 \/ m = 8 \/ m = 9 \/ m = 10 := by omega
 have hf := Zui y
 rcases hc with rfl | rfl | rfl | rfl | rfl | rfl | rfl
 ·simp only [loS, hiS]
  omega
 all_goals
  rw [Zm3 _ _ _ (by decide)]
  simp only [loS, hiS, Zbd]
  simp
  omega
theorem DrRule.ev {r : DRule} (h : DrRule r) {least i y : Int} {e : Zaf} (hl : -3600 <= least /\ least <= 0) (he : onR least r i y = some e) :
  e.year = y /\ e.rule = i /\ r.from_ <= y /\ (r.to <= 2149 -> y <= r.to) /\ 86400 * (mar1 y + loS r.month) - 3600 <= e.nominal /\ e.nominal <= 86400 * (mar1 y + hiS r.month) := by
 have hf0 := h.f0
 have hc := h.clk
 obtain ⟨m0, m1⟩ := h.mon12
 obtain ⟨b1, b2⟩ := ZAq h.mon y
 unfold onR at he
 split at he
 ·cases he
 rename_i hy
 split at he
 ·cases he
 cases he
 have hyr : ¬ y < max r.from_ (-2000000000) := fun hh => hy (.inl hh)
 have hyl : ¬ lastY r < y := fun hh => hy (.inr (.inl hh))
 have hl2 : lastY r <= 2000000000 := by unfold lastY; split <;> omega
 have hyt : r.to <= 2149 -> y <= r.to := fun hh => by
  have : lastY r = r.to := by unfold lastY; rw [if_neg (by omega)]; omega
  omega
 have hin : inY y = true := by
  unfold inY
  simp
  omega
 obtain ⟨_, o1, o2⟩ := h.day.on hin m0 m1
 refine ⟨rfl, rfl, by omega, hyt, ?_⟩
 dsimp only
 have hm : -3600 <= (if r.at_.base = 1 then max least (-10800) else 0) /\ (if r.at_.base = 1 then max least (-10800) else 0) <= 0 := by split <;> omega
 generalize (if r.at_.base = 1 then max least (-10800) else 0) = mx at *
 generalize (onD y r.month r.day).1 = D at *
 omega
def Dist (a b : DRule) : Prop := a.to < b.from_ \/ sea a.month ≠ sea b.month
theorem ZyS {a b : Int} (ha : (2 <= a /\ a <= 4) \/ a = 6 \/ (8 <= a /\ a <= 10)) (hb : (2 <= b /\ b <= 4) \/ b = 6 \/ (8 <= b /\ b <= 10)) (h : sea a ≠ sea b) : hiS a + 30 <= loS b \/ hiS b + 30 <= loS a := by
 unfold sea at h
 unfold hiS loS
 split at h <;> split at h <;> (try split at h) <;> (try split at h) <;> omega
theorem ZtF (m : Int) : -29 <= loS m /\ hiS m <= 245 := by
 unfold loS hiS
 split
 ·omega
 ·split <;> omega
theorem DrRule.far {a b : DRule} (ha : DrRule a) (hb : DrRule b) {least i j y z : Int} {e f : Zaf} (hl : -3600 <= least /\ least <= 0) (he : onR least a i y = some e) (hf : onR least b j z = some f) (hd : y = z -> Dist a b \/ Dist b a) :
  259200 <= e.nominal - f.nominal \/ 259200 <= f.nominal - e.nominal := by
 obtain ⟨_, _, a1, a2, a3, a4⟩ := ha.ev hl he
 obtain ⟨_, _, b1, b2, b3, b4⟩ := hb.ev hl hf
 have la := ZtF a.month
 have lb := ZtF b.month
 rcases Int.lt_trichotomy y z with h | h | h
 ·have := ZgS h
  omega
 ·subst h
  have hs : sea a.month ≠ sea b.month := by
   have af := ha.f1
   have bf := hb.f1
   rcases hd rfl with (h | h) | (h | h)
   ·have := a2 (by omega); omega
   ·exact h
   ·have := b2 (by omega); omega
   ·exact fun hh => h hh.symm
  have := ZyS ha.mon hb.mon hs
  omega
 ·have := ZgS h
  omega
end Go.Wk
namespace Go.Proofs.YtbjomhdhkpgbaaaGreatDoor
open Go Go.RowKit Go.Wk
def atB (l : List Int) (i n : Int) : Int := if l.length = 0 then 0 else l.getD (i % (l.length : Int)).toNat 0 % n
theorem Zas (l : List Int) (i n : Int) (hn : 0 < n) : 0 <= atB l i n /\ atB l i n < n := by
 unfold atB
 split
 ·exact ⟨Int.le_refl 0, hn⟩
 ·exact ⟨Int.emod_nonneg _ (by omega), Int.emod_lt_of_pos _ hn⟩
def Zet (l : List Int) (i : Int) : DClock := ⟨atB l i 49 * 1800, atB l (i + 1) 3⟩
def dayB (l : List Int) (i : Int) : List DDay := [⟨2, atB l i 7, 0⟩, ⟨3, atB l i 7, 1 + 7 * atB l (i + 1) 4⟩, ⟨1, 0, 1 + atB l (i + 1) 28⟩]
def ZhC (l : List Int) (i : Int) : DDay := (dayB l i).getD (atB l (i + 2) 3).toNat ⟨0, 0, 0⟩
def letA : List ByteArray := [⟨#[83]⟩, ⟨#[68]⟩, ⟨#[68, 84]⟩]
def letB : List ByteArray := [⟨#[]⟩, ⟨#[83]⟩]
def Zn7 (l : List Int) (i a b save : Int) : DRule := ⟨ByteArray.empty, a, b, 2 + atB l i 3, ZhC l (i + 3), Zet l (i + 6), save, letA.getD (atB l (i + 8) 3).toNat ByteArray.empty⟩
def Zrp (l : List Int) (i a b save : Int) : DRule := ⟨ByteArray.empty, a, b, 8 + atB l (i + 1) 3, ZhC l (i + 9), Zet l (i + 12), save, letB.getD (atB l (i + 14) 2).toNat ByteArray.empty⟩
def Zf8 (l : List Int) (i a b save : Int) : List DRule := if atB l (i + 2) 4 = 0 then [Zn7 l i a b 0, Zrp l i a b save] else [Zn7 l i a b save, Zrp l i a b 0]
theorem Zdb (l : List Int) (i a b save : Int) : (Zf8 l i a b save).length = 2 := by
 unfold Zf8
 split <;> rfl
def ZgI : List Int := [3600, 3600, 1800, 7200, -3600]
def Zbo (l : List Int) : Int := ZgI.getD (atB l 0 5).toNat 0
def Zy0 (l : List Int) (f : Int) : DRule := ⟨⟨#[]⟩, f, f, 6, ⟨1, 0, 1 + atB l 3 28⟩, Zet l 4, 0, ⟨#[83]⟩⟩
def m1 (l : List Int) : List DRule × Int := if atB l 2 3 = 0 then ([Zy0 l (1900 + atB l 1 80)], 1900 + atB l 1 80 + 1) else ([], 1900 + atB l 1 80)
def m2 (l : List Int) (o : List DRule) (f : Int) : List DRule × Int := if atB l 5 2 = 0 then (o ++ Zf8 l 7 f (f + atB l 6 12) (Zbo l), f + atB l 6 12 + 1 + atB l 8 5) else (o, f)
def to17 (l : List Int) (f : Int) : Int := if 0 < atB l 10 3 then 1048576 else f + atB l 9 6
def m3 (l : List Int) (o : List DRule) (f : Int) : List DRule := o ++ Zf8 l 11 f (to17 l f) (Zbo l)
def ZcR (x : ByteArray) (r : DRule) : DRule := { r with name := x }
def ZbR (l : List Int) (x : ByteArray) : List DRule := (m3 l (m2 l (m1 l).1 (m1 l).2).1 (m2 l (m1 l).1 (m1 l).2).2).map (ZcR x)
theorem Zis (l : List Int) : (m1 l).1.length <= 1 /\ 1900 <= (m1 l).2 /\ (m1 l).2 <= 1980 := by
 have h1 := Zas l 1 80 (by decide)
 unfold m1
 split <;> refine ⟨by simp, ?_, ?_⟩ <;> dsimp only <;> omega
theorem ZmB (l : List Int) (o : List DRule) (f : Int) (ho : o.length <= 1) (h1 : 1900 <= f) (h2 : f <= 1980) : (m2 l o f).1.length <= 3 /\ 1900 <= (m2 l o f).2 /\ (m2 l o f).2 <= 2000 := by
 have h3 := Zas l 6 12 (by decide)
 have h4 := Zas l 8 5 (by decide)
 unfold m2
 split <;> refine ⟨?_, ?_, ?_⟩ <;> dsimp only <;> first | omega | (rw [List.length_append, Zdb]; omega)
def Zy6 : DUntil := ⟨false, 0, 0, ⟨0, 0, 0⟩, ⟨0, 0⟩⟩
structure DDr where
 sets : List (List Int)
 zones : Int
 links : Int
 L : List Int
def Zz9 (u : DUntil) (e : DEra) : DEra := { e with til := u }
def DDr.nz (d : DDr) : Nat := (d.zones % 4).toNat
def DDr.nl (d : DDr) : Nat := (d.links % 4).toNat
theorem ZrD (l : List Int) (x : ByteArray) : (ZbR l x).length <= 5 := by
 obtain ⟨q1, q2, q3⟩ := Zis l
 obtain ⟨q4, q5, q6⟩ := ZmB l (m1 l).1 (m1 l).2 q1 q2 q3
 rw [ZbR, List.length_map, m3, List.length_append, Zdb]
 omega
def ZzW (P : Zaf -> Prop) : Option Zaf -> Prop
 | none => ∀ e, ¬ P e
 | some e => P e /\ ∀ e', P e' -> ltE e' e = false
def Zra (M : List Zaf) (e : Zaf) : Prop := ∃ x ∈ M, ltE x e = true /\ e.nominal - x.nominal < 259200
theorem Zgq : ∀ (M : List Zaf), Zsk M -> M.Nodup -> ZzW (fun e => e ∈ M /\ Zra M e) (Zhu M)
 | [], _, _ => fun e he => by simp at he
 | [a], _, _ => fun e he => by
  obtain ⟨h1, x, h2, h3, _⟩ := he
  rw [List.mem_singleton] at h1 h2
  subst h1 h2
  rw [swoE.irrefl] at h3
  cases h3
 | a :: b :: l, hd, hn => by
  obtain ⟨d1, d2⟩ := List.pairwise_cons.1 hd
  obtain ⟨n1, n2⟩ := List.nodup_cons.1 hn
  obtain ⟨d3, _⟩ := List.pairwise_cons.1 d2
  have ih := Zgq (b :: l) d2 n2
  have hlt : ∀ x ∈ b :: l, ltE x a = true := fun x hx => by
   cases h : ltE x a
   ·have := totE a x (d1 x hx) h
    subst this
    exact absurd hx n1
   ·rfl
  have hrest : ∀ e ∈ b :: l, Zra (a :: b :: l) e ↔ Zra (b :: l) e := fun e he => by
   constructor
   ·rintro ⟨x, hx, h1, h2⟩
    rcases List.mem_cons.1 hx with rfl | hx
    ·rw [d1 e he] at h1; cases h1
    ·exact ⟨x, hx, h1, h2⟩
   ·rintro ⟨x, hx, h1, h2⟩
    exact ⟨x, List.mem_cons_of_mem _ hx, h1, h2⟩
  have ha : Zra (a :: b :: l) a ↔ a.nominal - b.nominal < 259200 := by
   constructor
   ·rintro ⟨x, hx, h1, h2⟩
    rcases List.mem_cons.1 hx with rfl | hx
    ·rw [swoE.irrefl] at h1; cases h1
    ·have hxb : x.nominal <= b.nominal := by
      rcases List.mem_cons.1 hx with rfl | hx
      ·exact Int.le_refl _
      ·have h3 := d3 x hx
       simp only [ltE, ZgO, decide_eq_false_iff_not] at h3
       omega
     omega
   ·intro h
    exact ⟨b, List.mem_cons_of_mem _ List.mem_cons_self, hlt b List.mem_cons_self, h⟩
  rw [Zhu]
  cases hc : Zhu (b :: l) with
  | none =>
   rw [hc] at ih
   rw [Option.none_or]
   by_cases hab : a.nominal - b.nominal < 259200
   ·rw [if_pos hab]
    refine ⟨⟨List.mem_cons_self, ha.2 hab⟩, fun e he => ?_⟩
    rcases List.mem_cons.1 he.1 with rfl | h
    ·exact swoE.irrefl _
    ·exact absurd ⟨h, (hrest e h).1 he.2⟩ (ih e)
   ·rw [if_neg hab]
    intro e he
    rcases List.mem_cons.1 he.1 with rfl | h
    ·exact hab (ha.1 he.2)
    ·exact ih e ⟨h, (hrest e h).1 he.2⟩
  | some c =>
   rw [hc] at ih
   rw [Option.some_or]
   obtain ⟨⟨c1, c2⟩, c3⟩ := ih
   refine ⟨⟨List.mem_cons_of_mem _ c1, (hrest c c1).2 c2⟩, fun e he => ?_⟩
   rcases List.mem_cons.1 he.1 with rfl | h
   ·exact d1 c c1
   ·exact c3 e ⟨h, (hrest e h).1 he.2⟩
theorem ZdN (L y : Int) : ∀ (l : List DRule) (i : Nat) (e : Zaf), e ∈ ZdW L y l i ↔ ∃ (j : Nat) (r : DRule), l[j]? = some r /\ onR L r ((i + j : Nat) : Int) y = some e
 | [], i, e => by simp [ZdW]
 | r :: l, i, e => by
  rw [ZdW, List.mem_append, ZdN L y l (i + 1) e, Option.mem_toList]
  constructor
  ·rintro (h | ⟨j, r', h1, h2⟩)
   ·exact ⟨0, r, rfl, h⟩
   ·exact ⟨j + 1, r', by simpa using h1, by rw [show i + (j + 1) = i + 1 + j by omega]; exact h2⟩
  ·rintro ⟨j, r', h1, h2⟩
   cases j with
   | zero => simp only [List.getElem?_cons_zero, Option.some.injEq] at h1; subst h1; exact .inl h2
   | succ j => exact .inr ⟨j, r', by simpa using h1, by rw [show i + 1 + j = i + (j + 1) by omega]; exact h2⟩
theorem Zin (l : List DRule) (L f : Int) : ∀ (k : Nat) (e : Zaf), e ∈ allC l L f k ↔ ∃ q : Nat, q < k /\ e ∈ ZdW L (f + q) l 0
 | 0, e => by simp [allC]
 | k + 1, e => by
  rw [allC, List.mem_append, Zin l L f k e]
  constructor
  ·rintro (⟨q, h1, h2⟩ | h)
   ·exact ⟨q, by omega, h2⟩
   ·exact ⟨k, by omega, h⟩
  ·rintro ⟨q, h1, h2⟩
   by_cases hq : q = k
   ·subst hq; exact .inr h2
   ·exact .inl ⟨q, by omega, h2⟩
theorem Zhh (L y : Int) : ∀ (l : List DRule) (i : Nat), (ZdW L y l i).Nodup
 | [], _ => List.nodup_nil
 | r :: l, i => by
  rw [ZdW]
  refine List.nodup_append.2 ⟨?_, Zhh L y l (i + 1), ?_⟩
  ·cases onR L r i y <;> simp
  ·intro a ha b hb hab
   subst hab
   obtain ⟨j, r', _, h2⟩ := (ZdN L y l (i + 1) a).1 hb
   have e1 := (ZhI (Option.mem_toList.1 ha)).2.1
   have e2 := (ZhI h2).2.1
   omega
theorem Zje (l : List DRule) (L f : Int) : ∀ k, (allC l L f k).Nodup
 | 0 => List.nodup_nil
 | k + 1 => by
  rw [allC]
  refine List.nodup_append.2 ⟨Zje l L f k, Zhh _ _ _ _, ?_⟩
  intro a ha b hb hab
  subst hab
  obtain ⟨q, h1, h2⟩ := (Zin l L f k a).1 ha
  obtain ⟨j, r, _, h3⟩ := (ZdN _ _ _ _ _).1 h2
  obtain ⟨j', r', _, h4⟩ := (ZdN _ _ _ _ _).1 hb
  have e1 := (ZhI h3).1
  have e2 := (ZhI h4).1
  omega
theorem ZiR (least nominal : Int) (r : DRule) (i : Int) : ∀ (k : Nat) (y : Int) (e : Zaf), evIn least nominal r i y k = some e -> ∃ q : Nat, onR least r i (y + q) = some e /\ nominal < e.nominal
 | 0, _, _, h => by cases h
 | k + 1, y, e, h => by
  rw [evIn] at h
  have ih := ZiR least nominal r i k (y + 1) e
  have lift : (∃ q : Nat, onR least r i (y + 1 + q) = some e /\ nominal < e.nominal) -> ∃ q : Nat, onR least r i (y + q) = some e /\ nominal < e.nominal := by
   rintro ⟨q, hq⟩
   exact ⟨q + 1, by rw [show y + ((q + 1 : Nat) : Int) = y + 1 + q by omega]; exact hq⟩
  cases he : onR least r i y with
  | none => rw [he] at h; exact lift (ih h)
  | some e' =>
   rw [he] at h
   dsimp only at h
   by_cases hc : nominal < e'.nominal
   ·rw [if_pos hc] at h
    cases h
    exact ⟨0, by simpa using he, hc⟩
   ·rw [if_neg hc] at h
    exact lift (ih h)
theorem ZfB (least nominal yr : Int) : ∀ (l : List DRule) (i : Nat) (b : Option Zaf) (e : Zaf), ZbT least nominal yr l i b = some e -> b = some e \/ ∃ (j : Nat) (r : DRule), l[j]? = some r /\ evIn least nominal r ((i + j : Nat) : Int) (max (max r.from_ (-2000000000)) (yr - 2)) 20 = some e
 | [], _, _, _, h => .inl h
 | r :: l, i, b, e, h => by
  rw [ZbT] at h
  rcases ZfB least nominal yr l (i + 1) _ e h with h1 | ⟨j, r', h1, h2⟩
  ·cases he : evIn least nominal r i (max (max r.from_ (-2000000000)) (yr - 2)) 20 with
   | none => rw [he] at h1; exact .inl h1
   | some e' =>
    rw [he] at h1
    have hr : ∀ x, e' = x -> ∃ (j : Nat) (r' : DRule), (r :: l)[j]? = some r' /\ evIn least nominal r' ((i + j : Nat) : Int) (max (max r'.from_ (-2000000000)) (yr - 2)) 20 = some x := fun x hx => ⟨0, r, rfl, by rw [<- hx]; exact he⟩
    cases b with
    | none => cases h1; exact .inr (hr _ rfl)
    | some b =>
     dsimp only at h1
     split at h1
     ·cases h1; exact .inr (hr _ rfl)
     ·exact .inl h1
  ·exact .inr ⟨j + 1, r', by simpa using h1, by rw [show i + (j + 1) = i + 1 + j by omega]; exact h2⟩
theorem Zdi : ∀ (l : List DRule) (m : Int), l.foldl (fun m r => min m r.save) m <= m /\ (∀ r ∈ l, l.foldl (fun m r => min m r.save) m <= r.save) /\ (l.foldl (fun m r => min m r.save) m = m \/ ∃ r ∈ l, l.foldl (fun m r => min m r.save) m = r.save)
 | [], m => ⟨Int.le_refl _, (fun r h => by cases h), .inl rfl⟩
 | a :: l, m => by
  obtain ⟨h1, h2, h3⟩ := Zdi l (min m a.save)
  rw [List.foldl_cons]
  refine ⟨by omega, fun r hr => ?_, ?_⟩
  ·rcases List.mem_cons.1 hr with rfl | hr
   ·omega
   ·exact h2 r hr
  ·rcases h3 with h3 | ⟨r, h4, h5⟩
   ·by_cases hm : m <= a.save
    ·exact .inl (by omega)
    ·exact .inr ⟨a, List.mem_cons_self, by omega⟩
   ·exact .inr ⟨r, List.mem_cons_of_mem _ h4, h5⟩
theorem Zfb {s : Int} (hs : s ≠ 0) : ∀ (l : List DRule) (x : Int), (x = 0 \/ x = s) -> (∀ r ∈ l, r.save = 0 \/ r.save = s) -> (x = s \/ ∃ r ∈ l, r.save = s) -> ZcP l x = (s, true)
 | [], x, _, _, h => by
  rcases h with rfl | ⟨r, hr, _⟩
  ·simp [ZcP, hs]
  ·cases hr
 | a :: l, x, hx, ha, h => by
  have hal : ∀ r ∈ l, r.save = 0 \/ r.save = s := fun r hr => ha r (List.mem_cons_of_mem _ hr)
  rw [ZcP]
  rcases ha a List.mem_cons_self with h0 | h0
  ·rw [if_pos h0]
   refine Zfb hs l x hx hal ?_
   rcases h with h | ⟨r, hr, hh⟩
   ·exact .inl h
   ·rcases List.mem_cons.1 hr with rfl | hr
    ·exact absurd (hh.symm.trans h0) hs
    ·exact .inr ⟨r, hr, hh⟩
  ·rw [if_neg (by clear h; omega), if_neg (by clear h; omega), h0]
   exact Zfb hs l s (.inr rfl) hal (.inl rfl)
structure Zcg (l : List DRule) : Prop where
 rule : ∀ r ∈ l, DrRule r
 dist : l.Pairwise Dist
 saves : ∃ s, s ≠ 0 /\ (∀ r ∈ l, r.save = 0 \/ r.save = s) /\ (∃ r ∈ l, r.save = 0) /\ ∃ r ∈ l, r.save = s
 last : ZhB l = true
theorem Zcg.least {l : List DRule} (h : Zcg l) : -3600 <= Zai l /\ Zai l <= 0 := by
 obtain ⟨h1, h2, h3⟩ := Zdi l 0
 unfold Zai
 refine ⟨?_, h1⟩
 rcases h3 with h3 | ⟨r, h4, h5⟩
 ·omega
 ·have := (h.rule r h4).save
  omega
theorem Zcg.other {l : List DRule} (h : Zcg l) : ∃ s, s ≠ 0 /\ -3600 <= s /\ s <= 7200 /\ Zbg l = (s, true) /\ (Zai l = 0 \/ Zai l = s) /\ ∀ r ∈ l, r.save = 0 \/ r.save = s := by
 obtain ⟨s, h0, h1, _, r, h3, h4⟩ := h.saves
 have hr := (h.rule r h3).save
 refine ⟨s, h0, by omega, by omega, Zfb h0 l 0 (.inl rfl) h1 (.inr ⟨r, h3, h4⟩), ?_, h1⟩
 obtain ⟨_, _, h7⟩ := Zdi l 0
 unfold Zai
 rcases h7 with h7 | ⟨q, h8, h9⟩
 ·exact .inl h7
 ·have := h1 q h8
  omega
theorem _root_.Go.Wk.DrRule.err {r : DRule} (h : DrRule r) {least : Int} (hl : -3600 <= least /\ least <= 0) : ZbJ r least = 0 := by
 have h0 := h.f0
 have h1 := h.f1
 have h2 := h.ft
 have h3 := h.t1
 have h4 := h.clk
 have h5 := h.save
 obtain ⟨m0, m1⟩ := h.mon12
 have e1 : (Zck r.from_ && (Zck r.to || decide (r.to = 1048576))) = true := by
  simp [Zck]
  omega
 have e2 : ZfU r.from_ r.to r.month r.day = true := by
  unfold ZfU
  rw [if_neg (by rw [h.day.chk]; simp; omega), if_pos (.inr (by have := Zk1 1 r.month m0 m1; have := h.day.le28; omega))]
 have e3 : Zeq r.at_ least = true := by
  unfold Zeq ZaQ
  simp
  split <;> omega
 have e4 : (decide (r.letter = ByteArray.empty) || ZgU r.letter) = true := by
  have hl := h.letter
  simp only [List.mem_cons, List.not_mem_nil, or_false] at hl
  rcases hl with e | e | e | e <;> rw [e] <;> decide
 unfold ZbJ
 rw [if_neg (by rw [e1]; decide), if_neg (by omega), if_neg (by rw [e2]; decide), if_neg (by rw [e3]; decide), if_neg (by simp; omega), if_neg (by rw [e4]; decide)]
theorem Zcz {least : Int} : ∀ (l : List DRule) (k : Nat), (∀ r ∈ l, ZbJ r least = 0) -> Zbc least l k = none
 | [], _, _ => rfl
 | a :: l, k, h => by
  rw [Zbc, if_pos (h a List.mem_cons_self)]
  exact Zcz l (k + 1) fun r hr => h r (List.mem_cons_of_mem _ hr)
theorem Zcg.chk {l : List DRule} (h : Zcg l) : ZdE l = (0, 0) := by
 have hl := h.least
 obtain ⟨s, s0, _, _, _, s1, s2⟩ := h.other
 obtain ⟨_, _, _, ⟨r, h3, h4⟩, _⟩ := h.saves
 unfold ZdE
 rw [Zcz l 0 fun r hr => (h.rule r hr).err hl]
 dsimp only
 have ha : (l.any fun r => decide (r.save = 0)) = true := List.any_eq_true.2 ⟨r, h3, by simp [h4]⟩
 rw [if_neg, if_neg (by rw [h.last]; decide)]
 rintro (hh | ⟨h5, h6⟩)
 ·rw [ha] at hh; cases hh
 ·obtain ⟨q, h7, h8⟩ := List.any_eq_true.1 h6
  have := s2 q h7
  simp at h8
  omega
theorem Zw4 {α : Type} {R : α -> α -> Prop} {l : List α} (h : l.Pairwise R) {j k : Nat} {a b : α} (ha : l[j]? = some a) (hb : l[k]? = some b) (hn : j ≠ k) : R a b \/ R b a := by
 obtain ⟨h1, rfl⟩ := List.getElem?_eq_some_iff.1 ha
 obtain ⟨h2, rfl⟩ := List.getElem?_eq_some_iff.1 hb
 rcases Nat.lt_or_ge j k with h3 | h3
 ·exact .inl (List.pairwise_iff_getElem.1 h _ _ h1 h2 h3)
 ·exact .inr (List.pairwise_iff_getElem.1 h _ _ h2 h1 (by omega))
theorem Zcg.far2 {l : List DRule} (h : Zcg l) {j k : Nat} {a b : DRule} {y z : Int} {e f : Zaf} (ha : l[j]? = some a) (hb : l[k]? = some b) (he : onR (Zai l) a j y = some e) (hf : onR (Zai l) b k z = some f) (hn : e ≠ f) :
  259200 <= e.nominal - f.nominal \/ 259200 <= f.nominal - e.nominal := by
 refine (h.rule a (List.mem_of_getElem? ha)).far (h.rule b (List.mem_of_getElem? hb)) h.least he hf fun hyz => ?_
 subst hyz
 refine Zw4 h.dist ha hb fun hjk => hn ?_
 subst hjk
 rw [ha] at hb
 cases hb
 exact Option.some.inj (he.symm.trans hf)
theorem Zcg.apart {l : List DRule} (h : Zcg l) : ZfA l = none := by
 have hc := Zgq (ZdA l (Zai l) 1850 701) (ZfV _ _ _ _) ((Zeg l (Zai l) 1850 701).nodup_iff.2 (Zje l (Zai l) 1850 701))
 unfold ZfA
 cases he : Zhu (ZdA l (Zai l) 1850 701) with
 | none => rfl
 | some e =>
  rw [he] at hc
  obtain ⟨⟨h1, x, h2, h3, h4⟩, _⟩ := hc
  have hm : ∀ x, x ∈ ZdA l (Zai l) 1850 701 -> ∃ (j : Nat) (r : DRule) (y : Int), l[j]? = some r /\ onR (Zai l) r j y = some x := fun x hx => by
   rw [(Zeg l (Zai l) 1850 701).mem_iff, Zin] at hx
   obtain ⟨q, _, hq⟩ := hx
   obtain ⟨j, r, hj, hr⟩ := (ZdN _ _ _ _ _).1 hq
   rw [Nat.zero_add] at hr
   exact ⟨j, r, _, hj, hr⟩
  obtain ⟨j, a, y, ja, ea⟩ := hm e h1
  obtain ⟨k, b, z, kb, eb⟩ := hm x h2
  have hne : e ≠ x := fun hh => by
   subst hh
   rw [swoE.irrefl] at h3
   cases h3
  have := h.far2 ja kb ea eb hne
  simp only [ltE, ZgO, decide_eq_true_eq] at h3
  omega
theorem Zcg.fault {rs : List DRule} {x : ByteArray} (h : Zcg (ofB rs x)) (hx : setB x = true) : ZbY rs x = none := by
 unfold ZbY
 rw [if_neg (by rw [hx]; decide), h.chk, if_neg (by simp), h.apart]
theorem Zcg.farD_of {l : List DRule} (h : Zcg l) (n : Int) (hn : ∀ (j : Nat) (r : DRule) (y : Int) (e : Zaf), l[j]? = some r -> onR (Zai l) r j y = some e -> ¬ (n - 259200 < e.nominal /\ e.nominal < n + 259200)) : farD l n = true := by
 unfold farD
 cases ha : Ze0 l (n - 259200) with
 | none => rfl
 | some e =>
  rcases ZfB _ _ _ l 0 none e ha with hh | ⟨j, r, hj, hr⟩
  ·cases hh
  ·obtain ⟨q, h1, h2⟩ := ZiR _ _ _ _ _ _ _ hr
   rw [Nat.zero_add] at h1
   have := hn j r _ e hj h1
   simp
   omega
theorem ZqA (l : List Int) (i : Int) : Zfs (ZhC l i) := by
 have h1 := Zas l i 7 (by decide)
 have h2 := Zas l (i + 1) 4 (by decide)
 have h3 := Zas l (i + 1) 28 (by decide)
 have h4 := Zas l (i + 2) 3 (by decide)
 have hc : atB l (i + 2) 3 = 0 \/ atB l (i + 2) 3 = 1 \/ atB l (i + 2) 3 = 2 := by omega
 unfold ZhC dayB Zfs
 rcases hc with e | e | e <;> rw [e]
 ·exact .inl ⟨rfl, h1.1, by show atB l i 7 <= 6; omega, rfl⟩
 ·refine .inr (.inl ⟨rfl, h1.1, ?_, ?_, ?_, ?_⟩)
  ·show atB l i 7 <= 6; omega
  ·show 1 <= 1 + 7 * atB l (i + 1) 4; omega
  ·show 1 + 7 * atB l (i + 1) 4 <= 22; omega
  ·show (1 + 7 * atB l (i + 1) 4).tmod 7 = 1
   rw [Int.tmod_eq_emod_of_nonneg (by omega)]; omega
 ·refine .inr (.inr ⟨rfl, rfl, ?_, ?_⟩)
  ·show 1 <= 1 + atB l (i + 1) 28; omega
  ·show 1 + atB l (i + 1) 28 <= 28; omega
theorem Zi8 (l : List Int) (i : Int) : 0 <= (Zet l i).sec /\ (Zet l i).sec <= 86400 /\ 0 <= (Zet l i).base /\ (Zet l i).base <= 2 := by
 have h1 := Zas l i 49 (by decide)
 have h2 := Zas l (i + 1) 3 (by decide)
 unfold Zet
 dsimp only
 omega
theorem Zp1 {r : DRule} (h : Zfs r.day) : Zcj r = true := by
 unfold Zfs at h
 unfold Zcj
 rcases h with ⟨h1, _⟩ | ⟨h1, h2, h3, h4, h5, h6⟩ | ⟨h1, h2, h3, h4⟩
 ·rw [if_pos h1]
 ·rw [if_neg (by omega), if_pos h1, h6]
  simp
  omega
 ·rw [if_neg (by omega), if_neg (by omega), if_pos h1]
  simp
  omega
theorem ZwL (k : Int) (h0 : 0 <= k) (h1 : k < 3) : letA.getD k.toNat ByteArray.empty ∈ [ByteArray.empty, ⟨#[83]⟩, ⟨#[68]⟩, ⟨#[68, 84]⟩] := by
 have hc : k = 0 \/ k = 1 \/ k = 2 := by omega
 rcases hc with rfl | rfl | rfl
 ·exact .tail _ (.head _)
 ·exact .tail _ (.tail _ (.head _))
 ·exact .tail _ (.tail _ (.tail _ (.head _)))
theorem ZwK (k : Int) (h0 : 0 <= k) (h1 : k < 2) : letB.getD k.toNat ByteArray.empty ∈ [ByteArray.empty, ⟨#[83]⟩, ⟨#[68]⟩, ⟨#[68, 84]⟩] := by
 have hc : k = 0 \/ k = 1 := by omega
 rcases hc with rfl | rfl
 ·exact .head _
 ·exact .tail _ (.head _)
theorem ZpW (l : List Int) (i a b s : Int) (h0 : 1900 <= a) (h1 : a <= 2149) (h2 : a <= b) (h3 : b <= 2149 \/ b = 1048576) (h4 : -3600 <= s /\ s <= 7200) : DrRule (Zn7 l i a b s) := by
 have r1 := Zas l i 3 (by decide)
 have r2 := Zas l (i + 8) 3 (by decide)
 exact ⟨h0, h1, h2, h3, .inl (by show 2 <= 2 + atB l i 3 /\ 2 + atB l i 3 <= 4; omega), ZqA l (i + 3), Zi8 l (i + 6), h4, ZwL _ r2.1 r2.2⟩
theorem ZpV (l : List Int) (i a b s : Int) (h0 : 1900 <= a) (h1 : a <= 2149) (h2 : a <= b) (h3 : b <= 2149 \/ b = 1048576) (h4 : -3600 <= s /\ s <= 7200) : DrRule (Zrp l i a b s) := by
 have r1 := Zas l (i + 1) 3 (by decide)
 have r2 := Zas l (i + 14) 2 (by decide)
 exact ⟨h0, h1, h2, h3, .inr (.inr (by show 8 <= 8 + atB l (i + 1) 3 /\ 8 + atB l (i + 1) 3 <= 10; omega)), ZqA l (i + 9), Zi8 l (i + 12), h4, ZwK _ r2.1 r2.2⟩
theorem ZkR (l : List Int) (i a b s : Int) (h0 : 1900 <= a) (h1 : a <= 2149) (h2 : a <= b) (h3 : b <= 2149 \/ b = 1048576) (h4 : -3600 <= s /\ s <= 7200) :
  ∃ p q, Zf8 l i a b s = [p, q] /\ DrRule p /\ DrRule q /\ p.from_ = a /\ p.to = b /\ q.from_ = a /\ q.to = b /\ sea p.month = 0 /\ sea q.month = 2 /\ ((p.save = 0 /\ q.save = s) \/ (p.save = s /\ q.save = 0)) := by
 have r1 := Zas l i 3 (by decide)
 have r2 := Zas l (i + 1) 3 (by decide)
 have e1 : ∀ t, sea (Zn7 l i a b t).month = 0 := fun t => by
  show sea (2 + atB l i 3) = 0
  unfold sea; rw [if_pos (by omega)]
 have e2 : ∀ t, sea (Zrp l i a b t).month = 2 := fun t => by
  show sea (8 + atB l (i + 1) 3) = 2
  unfold sea; rw [if_neg (by omega), if_neg (by omega)]
 unfold Zf8
 split
 ·exact ⟨_, _, rfl, ZpW l i a b 0 h0 h1 h2 h3 (by decide), ZpV l i a b s h0 h1 h2 h3 h4, rfl, rfl, rfl, rfl, e1 0, e2 s, .inl ⟨rfl, rfl⟩⟩
 ·exact ⟨_, _, rfl, ZpW l i a b s h0 h1 h2 h3 h4, ZpV l i a b 0 h0 h1 h2 h3 (by decide), rfl, rfl, rfl, rfl, e1 s, e2 0, .inr ⟨rfl, rfl⟩⟩
structure ZvW (s f : Int) (o : List DRule) : Prop where
 rule : ∀ r ∈ o, DrRule r /\ r.to < f /\ r.to <= 2149 /\ (r.save = 0 \/ r.save = s)
 dist : o.Pairwise Dist
theorem ZvW.two {s f : Int} {o : List DRule} {p q : DRule} (h : ZvW s f o) (hp : p.from_ = f) (hq : q.from_ = f) (h1 : sea p.month = 0) (h2 : sea q.month = 2) : (o ++ [p, q]).Pairwise Dist := by
 refine List.pairwise_append.2 ⟨h.dist, ?_, fun a ha b hb => .inl ?_⟩
 ·refine List.pairwise_cons.2 ⟨fun b hb => ?_, List.pairwise_singleton _ _⟩
  rw [List.mem_singleton] at hb
  subst hb
  exact .inr (by rw [h1, h2]; decide)
 ·have := (h.rule a ha).2.1
  simp only [List.mem_cons, List.not_mem_nil, or_false] at hb
  rcases hb with rfl | rfl
  ·rw [hp]; exact this
  ·rw [hq]; exact this
theorem ZgJ (l : List Int) : Zbo l ≠ 0 /\ -3600 <= Zbo l /\ Zbo l <= 7200 := by
 have h := Zas l 0 5 (by decide)
 have hc : atB l 0 5 = 0 \/ atB l 0 5 = 1 \/ atB l 0 5 = 2 \/ atB l 0 5 = 3 \/ atB l 0 5 = 4 := by omega
 unfold Zbo
 rcases hc with e | e | e | e | e <;> rw [e] <;> decide
theorem ZxU (l : List Int) : ZvW (Zbo l) (m1 l).2 (m1 l).1 := by
 have h1 := Zas l 1 80 (by decide)
 have h3 := Zas l 3 28 (by decide)
 unfold m1
 split
 ·refine ⟨fun r hr => ?_, List.pairwise_singleton _ _⟩
  rw [List.mem_singleton] at hr
  subst hr
  refine ⟨⟨?_, ?_, Int.le_refl _, .inl ?_, .inr (.inl rfl), .inr (.inr ⟨rfl, rfl, ?_, ?_⟩), Zi8 l 4, by show (-3600 : Int) <= 0 /\ (0 : Int) <= 7200; decide, List.Mem.tail _ (.head _)⟩, ?_, ?_, .inl rfl⟩
  ·show 1900 <= 1900 + atB l 1 80; omega
  ·show 1900 + atB l 1 80 <= 2149; omega
  ·show 1900 + atB l 1 80 <= 2149; omega
  ·show 1 <= 1 + atB l 3 28; omega
  ·show 1 + atB l 3 28 <= 28; omega
  ·show 1900 + atB l 1 80 < 1900 + atB l 1 80 + 1; omega
  ·show 1900 + atB l 1 80 <= 2149; omega
 ·exact ⟨fun r hr => (by cases hr), List.Pairwise.nil⟩
theorem ZxT (l : List Int) (o : List DRule) (f : Int) (h : ZvW (Zbo l) f o) (h1 : 1900 <= f) (h2 : f <= 1980) : ZvW (Zbo l) (m2 l o f).2 (m2 l o f).1 := by
 have h6 := Zas l 6 12 (by decide)
 have h8 := Zas l 8 5 (by decide)
 obtain ⟨_, s1, s2⟩ := ZgJ l
 unfold m2
 split
 ·obtain ⟨p, q, e, hp, hq, p1, p2, q1, q2, sp, sq, hs⟩ := ZkR l 7 f (f + atB l 6 12) (Zbo l) h1 (by omega) (by omega) (.inl (by omega)) ⟨s1, s2⟩
  rw [e]
  refine ⟨fun r hr => ?_, h.two p1 q1 sp sq⟩
  dsimp only at hr ⊢
  rw [List.mem_append] at hr
  rcases hr with hr | hr
  ·obtain ⟨a, b, c, d⟩ := h.rule r hr
   exact ⟨a, by omega, c, d⟩
  ·simp only [List.mem_cons, List.not_mem_nil, or_false] at hr
   rcases hr with rfl | rfl
   ·exact ⟨hp, by omega, by omega, by omega⟩
   ·exact ⟨hq, by omega, by omega, by omega⟩
 ·exact h
theorem ZtQ {o : List DRule} {p q : DRule} (ho : ∀ r ∈ o, r.to <= 2149) (hpq : p.to = q.to) (hs : (p.save = 0 /\ q.save ≠ 0) \/ (p.save ≠ 0 /\ q.save = 0)) (hm : p.month ≠ q.month) (h1 : Zcj p = true) (h2 : Zcj q = true) : ZhB (o ++ [p, q]) = true := by
 have e : o.filter (fun r => decide (r.to = 1048576)) = [] := List.filter_eq_nil_iff.2 fun r hr => by
  have := ho r hr
  simp
  omega
 unfold ZhB
 rw [List.filter_append, e, List.nil_append]
 by_cases h : q.to = 1048576
 ·rw [List.filter_cons, if_pos (by simp; omega), List.filter_cons, if_pos (by simp; omega), List.filter_nil]
  dsimp only
  rw [h1, h2]
  rcases hs with ⟨a, b⟩ | ⟨a, b⟩ <;> simp [a, b, hm]
 ·rw [List.filter_cons, if_neg (by simp; omega), List.filter_cons, if_neg (by simp; omega), List.filter_nil]
theorem _root_.Go.Wk.DrRule.named (x : ByteArray) {r : DRule} (h : DrRule r) : DrRule (ZcR x r) := ⟨h.f0, h.f1, h.ft, h.t1, h.mon, h.day, h.clk, h.save, h.letter⟩
theorem ZrC (l : List Int) (x : ByteArray) : Zcg (ZbR l x) := by
 obtain ⟨_, a1, a2⟩ := Zis l
 have p1 := ZxU l
 obtain ⟨_, b1, b2⟩ := ZmB l (m1 l).1 (m1 l).2 (by have := (Zis l).1; exact this) a1 a2
 have p2 := ZxT l _ _ p1 a1 a2
 obtain ⟨s0, s1, s2⟩ := ZgJ l
 have h9 := Zas l 9 6 (by decide)
 unfold ZbR m3
 generalize (m2 l (m1 l).1 (m1 l).2).2 = f at *
 generalize (m2 l (m1 l).1 (m1 l).2).1 = o at *
 have ht : f <= to17 l f /\ (to17 l f <= 2149 \/ to17 l f = 1048576) := by unfold to17; split <;> omega
 obtain ⟨p, q, e, hp, hq, e1, e2, e3, e4, sp, sq, hs⟩ := ZkR l 11 f (to17 l f) (Zbo l) b1 (by omega) ht.1 ht.2 ⟨s1, s2⟩
 rw [e]
 have hd := p2.two e1 e3 sp sq
 have hall : ∀ r ∈ o ++ [p, q], DrRule r /\ (r.save = 0 \/ r.save = Zbo l) := fun r hr => by
  rw [List.mem_append] at hr
  rcases hr with hr | hr
  ·obtain ⟨a, _, _, d⟩ := p2.rule r hr
   exact ⟨a, d⟩
  ·simp only [List.mem_cons, List.not_mem_nil, or_false] at hr
   rcases hr with rfl | rfl
   ·exact ⟨hp, by omega⟩
   ·exact ⟨hq, by omega⟩
 have mp : ZcR x p ∈ (o ++ [p, q]).map (ZcR x) := List.mem_map.2 ⟨p, by simp, rfl⟩
 have mq : ZcR x q ∈ (o ++ [p, q]).map (ZcR x) := List.mem_map.2 ⟨q, by simp, rfl⟩
 refine ⟨fun r hr => ?_, List.pairwise_map.2 hd, ⟨Zbo l, s0, fun r hr => ?_, ?_, ?_⟩, ?_⟩
 ·obtain ⟨r', h1, rfl⟩ := List.mem_map.1 hr
  exact (hall r' h1).1.named x
 ·obtain ⟨r', h1, rfl⟩ := List.mem_map.1 hr
  exact (hall r' h1).2
 ·rcases hs with ⟨h1, _⟩ | ⟨_, h1⟩
  ·exact ⟨_, mp, h1⟩
  ·exact ⟨_, mq, h1⟩
 ·rcases hs with ⟨_, h1⟩ | ⟨h1, _⟩
  ·exact ⟨_, mq, h1⟩
  ·exact ⟨_, mp, h1⟩
 ·rw [List.map_append]
  refine ZtQ (p := ZcR x p) (q := ZcR x q) (fun r hr => ?_) (e2.trans e4.symm) ?_ ?_ (Zp1 (r := ZcR x p) hp.day) (Zp1 (r := ZcR x q) hq.day)
  ·obtain ⟨r', h1, rfl⟩ := List.mem_map.1 hr
   exact (p2.rule r' h1).2.2.1
  ·show (p.save = 0 /\ q.save ≠ 0) \/ (p.save ≠ 0 /\ q.save = 0)
   omega
  ·show p.month ≠ q.month
   intro hh
   rw [hh, sq] at sp
   cases sp
theorem ZeQ (l : List Int) (x : ByteArray) : ∀ r ∈ ZbR l x, r.name = x := fun r hr => by
 obtain ⟨r', _, rfl⟩ := List.mem_map.1 hr
 rfl
end Go.Proofs.YtbjomhdhkpgbaaaGreatDoor
