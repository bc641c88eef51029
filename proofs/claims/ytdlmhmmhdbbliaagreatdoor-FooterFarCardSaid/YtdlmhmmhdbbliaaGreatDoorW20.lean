/- Parts of the proof. -/
import Derived.Test.YtdlmhmmhdbbliaaGreatDoorW19
import Derived.Test.YtdlmhmmhdbbliaaGreatDoorW07
import Derived.Test.YtdlmhmmhdbbliaaGreatDoorW16
import Derived.Test.YtdlmhmmhdbbliaaGreatDoorW05
import Derived.Test.YtdlmhmmhdbbliaaGreatDoorW14
import Derived.Laws.OwnMore
import Derived.Test.YtdlmhmmhdbbliaaGreatDoorW08
import Derived.Test.YtdlmhmmhdbbliaaGreatDoorW06
set_option maxHeartbeats 4000000
set_option linter.unusedVariables false
set_option linter.unusedSimpArgs false
namespace Go.Proofs.YtdlmhmmhdbbliaaGreatDoor
open Go Go.RowKit Go.Wk
structure Za4 where
 std : ByteArray
 stdOff : Int
 dst : ByteArray
 dstOff : Int
 start : Zb2
 fin : Zb2
deriving DecidableEq
def Za4.enc (p : Za4) : List Value := [.string p.std, .int .i64 p.stdOff, .string p.dst, .int .i64 p.dstOff, .int .i64 p.start.kind, .int .i64 p.start.day, .int .i64 p.start.month, .int .i64 p.start.week, .int .i64 p.start.sec, .int .i64 p.fin.kind, .int .i64 p.fin.day, .int .i64 p.fin.month, .int .i64 p.fin.week, .int .i64 p.fin.sec]
def Zc2 (e : DEra) (save : Int) (letter : ByteArray) : ByteArray := ⟨(ZbI e.format.data.toList e.off save letter.data.toList).1.toArray⟩
def xxxB : ByteArray := ⟨#[88, 88, 88]⟩
def Zbq (e : DEra) (save : Int) (letter : ByteArray) : Za4 :=
 if save = 0 then ⟨Zc2 e save letter, e.off, ByteArray.empty, 0, dt0, dt0⟩
 else ⟨xxxB, e.off, Zc2 e save letter, e.off + save, ⟨2, 0, 0, 0, 0⟩, ⟨1, 365, 0, 0, 86400 + save⟩⟩
def ZfK (e : DEra) (start fin : Zaa) : Za4 :=
 ⟨Zc2 e fin.save fin.letter, e.off, Zc2 e start.save start.letter, e.off + start.save, (Zdz start e.off 0).1, (Zdz fin e.off start.save).1⟩
def seF : List Zaa -> Nat -> Option Nat × Option Nat -> Option Nat × Option Nat
 | [], _, a => a
 | r :: l, i, a => seF l (i + 1) (if r.to = 1048576 then (if r.save = 0 then (a.1, some i) else (some i, a.2)) else a)
def untN : ZaT := ⟨false, 0, 0, ⟨0, 0, 0⟩, ⟨0, 0⟩⟩
def ZoL : Zaa := { ZlC 10 ⟨1, 0, 31⟩ 7200 (-3600) with from_ := 1971, to := 1971 }
def Zeg : Zaa := ZlC 3 (sunD 15) 7200 0
def Zjq : Zaa := ZlC 10 ⟨2, 0, 0⟩ 3600 (-3600)
def Zft : DEra := ⟨0, 0, 0, ByteArray.empty, ⟨#[71, 77, 84]⟩, ⟨true, 1968, 10, ⟨1, 0, 27⟩, ⟨0, 0⟩⟩⟩
def ZdI : DEra := ⟨3600, 2, 0, ZxD, ⟨#[73, 83, 84, 47, 71, 77, 84]⟩, untN⟩
def dubN : ByteArray := ⟨#[69, 117, 114, 111, 112, 101, 47, 68, 117, 98, 108, 105, 110]⟩
def Zms : Zai := ⟨[ZoL, Zeg, Zjq], [⟨dubN, [Zft, ZdI]⟩], [], []⟩
def zoA : ByteArray := ⟨#[65]⟩
def ZdH : DEra := ⟨19800, 0, 0, ByteArray.empty, ⟨#[73, 83, 84]⟩, untN⟩
def oneS : Zai := ⟨[], [⟨zoA, [ZdH]⟩], [], []⟩
def ZhF : DEra := ⟨0, 0, 0, ByteArray.empty, ⟨#[71, 77, 84]⟩, ⟨true, 1950, 1, ⟨1, 0, 1⟩, ⟨0, 0⟩⟩⟩
def ZdG : DEra := ⟨3600, 1, 3600, ByteArray.empty, ⟨#[77, 83, 84]⟩, untN⟩
def twoS : Zai := ⟨[], [⟨zoA, [ZhF, ZdG]⟩], [], []⟩
def istP : Za4 := ⟨⟨#[73, 83, 84]⟩, 3600, ⟨#[71, 77, 84]⟩, 0, ⟨3, 0, 10, 5, 7200⟩, ⟨3, 0, 3, 3, 7200⟩⟩
def Zvo : Za4 := ⟨⟨#[73, 83, 84]⟩, 19800, ByteArray.empty, 0, dt0, dt0⟩
def mstP : Za4 := ⟨xxxB, 3600, ⟨#[77, 83, 84]⟩, 7200, ⟨2, 0, 0, 0, 0⟩, ⟨1, 365, 0, 0, 90000⟩⟩
theorem Zyl : Zdz Zeg 3600 (-3600) = (⟨3, 0, 3, 3, 7200⟩, 0) := by decide +kernel
def Zrx : Zaa := { ZlC 10 ⟨1, 0, 31⟩ 7200 0 with at_ := ⟨7200, 1⟩ }
theorem Zyk : Zdz Zrx 0 3600 = (⟨1, 304, 0, 0, 10800⟩, 0) := by decide +kernel
theorem Zyj : Zdz (ZlC 2 ⟨1, 0, 29⟩ 0 0) 0 0 = (dt0, 2) := by decide +kernel
theorem Zyi : Zdz (ZlC 3 (sunD 9) 0 0) 0 0 = (dt0, 2) := by decide +kernel
theorem Zyh : Zdz { Zeg with to := 2010 } 0 0 = (dt0, 2) := by decide +kernel
theorem Zpl : accD Zms = none := by decide +kernel
theorem Zr7 : accD oneS = none := by decide +kernel
theorem ZrA : accD twoS = none := by decide +kernel
theorem ZxC : ZfK ZdI Zjq Zeg = istP := by decide +kernel
theorem Zyv : Zbq ZdH 0 ByteArray.empty = Zvo := by decide +kernel
theorem Zrz : Zbq ZdG 3600 ByteArray.empty = mstP := by decide +kernel
theorem ZsX : Zb3 Zms [Zft, ZdI] = 1973 := by decide +kernel
theorem Zv2 : Zb3 oneS [ZdH] = 1850 := by decide +kernel
theorem ZvY : Zb3 twoS [ZhF, ZdG] = 1951 := by decide +kernel
attribute [local irreducible] W RL Does Zau Zaj retQ Calls Pu Stp RD Qy Ay Zak
structure FtE (e : DEra) : Prop where
 f : e.format.size <= 1000000000
 o : -1000000 <= e.off /\ e.off <= 1000000
structure FtRu (r : Zaa) : Prop where
 l : r.letter.size <= 1000000000
 v : -1000000 <= r.save /\ r.save <= 1000000
theorem ZfF (e : DEra) (r : Zaa) (w : World) (hL : LibW w) (he : FtE e) (hr : FtRu r) :
  Does Tryz.prog 57 [.agg e.enc.toArray, .agg r.enc.toArray] w (fun v O => v = .string (Zc2 e r.save r.letter) /\ O = []) := by
 have h := fun w' (hw : Bel w.heap.size w w') => ZeU e.format r.letter e.off r.save w' (hL.up hw) he.f hr.l (by have := he.o; unfold I64; omega) (by have := hr.v; unfold I64; omega)
 unfold xpV at h
 have h2 : ∀ w', Bel w.heap.size w w' -> Does Tryz.prog 67 [.string e.format, .int .i64 e.off, .agg #[.int .i64 r.save, .string r.letter]] w' (fun v O => (∃ er, v = .tuple #[.string (Zc2 e r.save r.letter), .int .i64 er]) /\ O = []) := fun w' hw =>
  (h w' hw).mono fun v O hv => ⟨⟨_, hv.1⟩, hv.2⟩
 clear h
 generalize Zc2 e r.save r.letter = res at *
 obtain ⟨nm, fr, to, mo, ⟨dk, dw, dd⟩, ⟨cs, cb⟩, sv, le⟩ := r
 obtain ⟨off, kd, esv, st, fm, ⟨ui, uy, um, ⟨ud1, ud2, ud3⟩, ⟨uc1, uc2⟩⟩⟩ := e
 show Does _ _ [.agg #[.int .i64 off, .int .i64 kd, .int .i64 esv, .string st, .string fm, .bool ui, .int .i64 uy, .int .i64 um, .int .i64 ud1, .int .i64 ud2, .int .i64 ud3, .int .i64 uc1, .int .i64 uc2], .agg #[.string nm, .int .i64 fr, .int .i64 to, .int .i64 mo, .int .i64 dk, .int .i64 dw, .int .i64 dd, .int .i64 cs, .int .i64 cb, .int .i64 sv, .string le]] w _
 refine Zab Tryz.func57 rfl rfl rfl rfl ?_
 repeat (first | (refine js ?_; (first | (apply Zag (h := fun w' hw _ => h2 w' hw); rfl; rintro v O' ⟨⟨er, rfl⟩, rfl⟩) | (refine bx ?_; intro bk))) | refine walk ?_)
 exact rtA
theorem Zf1 (e : DEra) (r : Zaa) (w : World) (hL : LibW w) (he : FtE e) (hr : FtRu r) :
  Does Tryz.prog 22 [.agg e.enc.toArray, .agg r.enc.toArray] w (fun v O => v = .agg (Zbq e r.save r.letter).enc.toArray /\ O = []) := by
 have ha := fun w' (hw : Bel w.heap.size w w') => ZfF e r w' (hL.up hw) he hr
 have ho := he.o
 have hv := hr.v
 unfold Zbq
 generalize Zc2 e r.save r.letter = res at *
 obtain ⟨nm, fr, to, mo, ⟨dk, dw, dd⟩, ⟨cs, cb⟩, sv, le⟩ := r
 obtain ⟨off, kd, esv, st, fm, ⟨ui, uy, um, ⟨ud1, ud2, ud3⟩, ⟨uc1, uc2⟩⟩⟩ := e
 dsimp only at ho hv ⊢
 show Does _ _ [.agg #[.int .i64 off, .int .i64 kd, .int .i64 esv, .string st, .string fm, .bool ui, .int .i64 uy, .int .i64 um, .int .i64 ud1, .int .i64 ud2, .int .i64 ud3, .int .i64 uc1, .int .i64 uc2], .agg #[.string nm, .int .i64 fr, .int .i64 to, .int .i64 mo, .int .i64 dk, .int .i64 dw, .int .i64 dd, .int .i64 cs, .int .i64 cb, .int .i64 sv, .string le]] w _
 refine Zab Tryz.func22 rfl rfl rfl rfl ?_
 repeat (first | refine walk ?_ | (refine jn ?_; (try intro F); (first | (refine bx ?_; intro bk) | (refine stA ?_) | (apply Zae; exact PuA)); refine fin ?_) | (apply RD_W; rfl; intro bk))
 refine Zaf rfl (fun hc => ?_) (fun hc => ?_)
 ·obtain rfl : sv = 0 := of_decide_eq_true hc
  rw [if_pos rfl]
  repeat (first | refine walk ?_ | (refine jg ?_; (try intro F); (first | (refine Zac ha ?_) | (refine bx ?_; intro bk) | (refine stA ?_)); refine fin ?_) | (refine jn ?_; (try intro F); (first | (refine bx ?_; intro bk) | (refine stA ?_) | (apply Zae; exact PuA)); refine fin ?_) | (apply RD_W; rfl; intro bk))
  exact ret_1 _ [] (.cellB rfl (by repeat' constructor) rfl rfl) .nil ⟨rfl, rfl⟩
 ·rw [if_neg (of_decide_eq_false hc)]
  repeat (first | refine walk ?_ | (refine jg ?_; (try intro F); (first | (refine Zac ha ?_) | (refine bx ?_; intro bk) | (refine stA ?_)); refine fin ?_) | (refine jn ?_; (try intro F); (first | (refine bx ?_; intro bk) | (refine stA ?_) | (apply Zae; exact PuA)); refine fin ?_) | (apply RD_W; rfl; intro bk))
  exact ret_1 _ [] (.cellB rfl (by repeat' constructor) rfl rfl) .nil ⟨rfl, rfl⟩
theorem Zmg (e : DEra) (r q : Zaa) (w : World) (hL : LibW w) (hG : Glob w) (hF : FtG w) (he : FtE e) (hr : FtRu r) (hq : FtRu q) :
  Does Tryz.prog 23 [.agg e.enc.toArray, .agg r.enc.toArray, .agg q.enc.toArray] w (fun v O => v = .agg (ZfK e r q).enc.toArray /\ O = []) := by
 have ha := fun w' (hw : Bel w.heap.size w w') => ZfF e q w' (hL.up hw) he hq
 have hb := fun w' (hw : Bel w.heap.size w w') => ZfF e r w' (hL.up hw) he hr
 have hc := fun w' (hw : Bel w.heap.size w w') => ZgL r e.off 0 w' (hG.up hw) (hF.up hw)
 have hd := fun w' (hw : Bel w.heap.size w w') => ZgL q e.off r.save w' (hG.up hw) (hF.up hw)
 have ho := he.o
 have hv := hr.v
 unfold ZfK
 unfold ZxE at hc hd
 generalize Zc2 e q.save q.letter = res1 at *
 generalize Zc2 e r.save r.letter = res2 at *
 generalize Zdz r e.off 0 = x1 at *
 generalize Zdz q e.off r.save = x2 at *
 obtain ⟨⟨x11, x12, x13, x14, x15⟩, x16⟩ := x1
 obtain ⟨⟨x21, x22, x23, x24, x25⟩, x26⟩ := x2
 obtain ⟨nm, fr, to, mo, ⟨dk, dw, dd⟩, ⟨cs, cb⟩, sv, le⟩ := r
 obtain ⟨nm2, fr2, to2, mo2, ⟨dk2, dw2, dd2⟩, ⟨cs2, cb2⟩, sv2, le2⟩ := q
 obtain ⟨off, kd, esv, st, fm, ⟨ui, uy, um, ⟨ud1, ud2, ud3⟩, ⟨uc1, uc2⟩⟩⟩ := e
 dsimp only [Zb2.enc] at ho hv hc hd ⊢
 show Does _ _ [.agg #[.int .i64 off, .int .i64 kd, .int .i64 esv, .string st, .string fm, .bool ui, .int .i64 uy, .int .i64 um, .int .i64 ud1, .int .i64 ud2, .int .i64 ud3, .int .i64 uc1, .int .i64 uc2], .agg #[.string nm, .int .i64 fr, .int .i64 to, .int .i64 mo, .int .i64 dk, .int .i64 dw, .int .i64 dd, .int .i64 cs, .int .i64 cb, .int .i64 sv, .string le], .agg #[.string nm2, .int .i64 fr2, .int .i64 to2, .int .i64 mo2, .int .i64 dk2, .int .i64 dw2, .int .i64 dd2, .int .i64 cs2, .int .i64 cb2, .int .i64 sv2, .string le2]] w _
 refine Zab Tryz.func23 rfl rfl rfl rfl ?_
 repeat (first | refine walk ?_ | (refine jg ?_; (try intro F); (first | (refine Zac ha ?_) | (refine Zac hb ?_) | (refine Zac hc ?_) | (refine Zac hd ?_) | (refine bx ?_; intro bk) | (refine stA ?_)); refine fin ?_) | (refine jn ?_; (try intro F); (first | (refine bx ?_; intro bk) | (refine stA ?_) | (apply Zae; exact PuA)); refine fin ?_) | (apply RD_W; rfl; intro bk))
 exact ret_1 _ [] (.cellB rfl (by repeat' constructor) rfl rfl) .nil ⟨rfl, rfl⟩
theorem Zzy (Ar Az Al As : Option Addr) (cr cz cl cs : Nat) (a : Zai) (p : Zay) (e : Int) (w : World) (h : Zdl w Ar Az Al As cr cz cl cs a) (hf : accD a = some (p, e)) :
  Does Tryz.prog 54 [srcV Ar Az Al As cr cz cl cs a] w (fun v O => (∃ p1 p2 p3, v = .tuple #[.agg #[.int .i64 p1, .int .i64 p2, .int .i64 p3], .int .i64 e]) /\ O = []) := by
 have := Zpz Ar Az Al As cr cz cl cs a w h.L h.G h.A h.S h.V h.Z
 rw [hf] at this
 exact this.mono fun v O hv => ⟨⟨p.part, p.index, p.era, hv.1⟩, hv.2⟩
theorem ZyV (Ar Az Al As : Option Addr) (cr cz cl cs : Nat) (a : Zai) (w : World) (h : Zdl w Ar Az Al As cr cz cl cs a) (hf : accD a = none) :
  Does Tryz.prog 54 [srcV Ar Az Al As cr cz cl cs a] w (fun v O => v = .tuple #[.agg #[.int .i64 0, .int .i64 0, .int .i64 0], .int .i64 0] /\ O = []) := by
 have := Zpz Ar Az Al As cr cz cl cs a w h.L h.G h.A h.S h.V h.Z
 rwa [hf] at this
theorem Zze {G : Prop} (h : G := by (apply Zbg; rfl; rfl; exact b1)) : G := h
theorem Zzd {G : Prop} (h : G := by (first | exact Zze | (apply Zc3; rfl; rfl; exact b2))) : G := h
def ZzH (A : Option Addr) (n c : Nat) (R : List Zaa) (v : Value) (O : List It) : Prop :=
 ∃ B d, v = .tuple #[.slice A n c, .slice B R.length d, .int .i64 0] /\ O = [.row (.slice B R.length d) 82 11 R.length (R.flatMap Zaa.enc)]
theorem ZwY {G : Prop} (h : G := by (first | exact Zzd | (apply Pu_indexAddr; rfl; rfl; omega; omega; first | exact hna | exact hna2) | (apply Pu_loadO1; rfl; exact hca 1 _ rfl) | (apply Pu_loadON; rfl; exact hca2; rfl) | (apply ZaD; rfl; rfl; exact b3))) : G := h
theorem ZkM (Ar Az Al As : Option Addr) (cr cz cl cs : Nat) (a : Zai) (k : Nat) (z : ZaY) (A : Option Addr) (c : Nat) (w : World) (h : Zdl w Ar Az Al As cr cz cl cs a) (hf : accD a = none) (hk : a.zones[k]? = some z)
  (hna : Az ≠ none) (hca : Zal w ((adr Az).add (k * 2)) [.string z.name, .slice A z.eras.length c]) (hE : RdSl w A c DEra.enc 13 z.eras) (hne : z.eras ≠ []) :
  Does Tryz.prog 18 [srcV Ar Az Al As cr cz cl cs a, .int .i64 k] w (ZzH A z.eras.length c (Za2 a z.eras)) := by
 have ha := fun w' (hw : Bel w.heap.size w w') => ZyV Ar Az Al As cr cz cl cs a w' (h.up hw) hf
 have hl : 0 < z.eras.length := List.length_pos_iff.2 hne
 have hkl : k < a.zones.length := (List.getElem?_eq_some_iff.1 hk).1
 have hlz := h.A.zle
 have hlc := h.A.zcap
 have hel := hE.le
 have hec := hE.cap
 have hnr := h.S.nr
 obtain ⟨e, he⟩ : ∃ e, z.eras[z.eras.length - 1]? = some e := ⟨_, List.getElem?_eq_getElem (by omega)⟩
 have hle : Zdv z.eras = e := by
  unfold Zdv
  rw [List.getD_eq_getElem?_getD, he]; rfl
 have hof := fun w' (hw : Bel w.heap.size w w') => ZeQ Ar Az Al As cr cz cl cs a e.set w' (h.A.up hw) hnr
 unfold Za2
 rw [hle]
 obtain ⟨hna2, hca2⟩ := hE.rd _ _ he
 rw [show z.eras.length - 1 = ((z.eras.length : Int) - 1).toNat by omega] at hca2
 clear hle he
 have b1 : decide ((k : Int) < 0) = false := decide_eq_false (by omega)
 have b2 : decide ((a.zones.length : Int) <= (k : Int)) = false := decide_eq_false (by omega)
 simp only [maxLen] at hlc hec
 obtain ⟨off, kd, esv, st, fm, ⟨ui, uy, um, ⟨ud1, ud2, ud3⟩, ⟨uc1, uc2⟩⟩⟩ := e
 change Zal w _ [.int .i64 off, .int .i64 kd, .int .i64 esv, .string st, .string fm, .bool ui, .int .i64 uy, .int .i64 um, .int .i64 ud1, .int .i64 ud2, .int .i64 ud3, .int .i64 uc1, .int .i64 uc2] at hca2
 dsimp only at hof ⊢
 refine Zab Tryz.func18 rfl rfl rfl rfl ?_
 by_cases hk2 : kd = 2
 ·have b3 : (!decide (kd = 2)) = false := by rw [decide_eq_true hk2]; rfl
  rw [if_pos hk2]
  repeat (first | (apply RL_pu; rfl; exact ZwY) | (refine js ?_; (first | (refine Zac ha ?_) | (apply Zag (h := fun w' hw _ => hof w' hw); rfl; rintro v O' ⟨B, d, rfl, rfl⟩) | (refine bx ?_; intro bk))) | refine walk1 ?_)
  exact Zhm _ _ _ [.row (.slice B (ofB a.rules st).length d) 82 11 (ofB a.rules st).length ((ofB a.rules st).flatMap Zaa.enc)] (.tmp rfl) (.tmp rfl) (.tmp rfl) SOA ⟨B, d, rfl, rfl⟩
 ·have b3 : (!decide (kd = 2)) = true := by rw [decide_eq_false hk2]; rfl
  rw [if_neg hk2]
  refine Zfc 82 11 ?_
  repeat (first | (apply RL_pu; rfl; exact ZwY) | (refine js ?_; (first | (refine Zac ha ?_) | (refine bx ?_; intro bk))) | refine walk1 ?_)
  exact Zhm _ _ _ [.row (.slice none 0 0) 82 11 0 []] (.tmp rfl) (.tmp rfl) (.tmp rfl) SOA ⟨none, 0, rfl, rfl⟩
end Go.Proofs.YtdlmhmmhdbbliaaGreatDoor
namespace Go.Proofs.YtdlmhmmhdbbliaaGreatDoor
open Go Go.RowKit Go.Wk
attribute [local irreducible] W RL Does Zau Zaj retQ Calls Pu Stp RD Qy Ay
attribute [local irreducible] Zak
end Go.Proofs.YtdlmhmmhdbbliaaGreatDoor
namespace Go.Wk
open Go Go.RowKit
section
variable {P : Program} {n : Nat} {wr : World} {fr : Fr} {O : List It} {ty : TypeId}
theorem ZtS {t t' : TypeId} {x : Operand} {ad : Addr} (hu : ∃ te, P.underlying t = some (.pointer te)) (hx : ev fr x = some (.pointer (some ad))) : Pu P n wr fr O (.binOp .neq t x (.const (.pointer none)) t') ty (.bool true) := fun a w hs _ _ _ _ => by
 obtain ⟨te, hu⟩ := hu
 have hc : a.eval (.const (.pointer none)) = .pointer none := rfl
 have h : (binOp .neq t (.pointer (some ad)) (.pointer none)).run P w = .ok (.bool true) w := by
  have : ∀ d, (Op.equalIn (d + 1) t (.pointer (some ad)) (.pointer none)).run P w = .ok false w := fun d => by
   simp [Op.equalIn, run_underlying hu]
  have hb : binOp .neq t (.pointer (some ad)) (.pointer none) = (do pure (.bool (!(<- Op.equal t (.pointer (some ad)) (.pointer none))))) := rfl
  rw [hb, show Op.equal t (.pointer (some ad)) (.pointer none) = Op.equalIn (9999 + 1) t (.pointer (some ad)) (.pointer none) from rfl]
  simp only [Sem.run_bind, this 9999, Result.andThen_ok, Sem.run_pure, Bool.not_false]
 have hg : (eqGuard .neq t x (.const (.pointer none)) (.pointer (some ad)) (.pointer none)).run P w = .ok () w := by
  simp [eqGuard]
 simp only [execOp, hs.sim.ev hx, hc, Sem.run_bind, hg, Result.andThen_ok, h, Sem.run_pure]
end
end Go.Wk
namespace Go.Proofs.YtdlmhmmhdbbliaaGreatDoor
open Go Go.RowKit Go.Wk
attribute [local irreducible] W RL Does Zau Zaj retQ Calls Pu Stp RD Qy Ay Zak
structure YrG where
 k : Nat
 y : Int
theorem ZeN {a : Zai} (h : a.rules.length <= 1000000) (l : List DEra) : (Za2 a l).length <= 1000000 := by
 unfold Za2
 split
 ·exact Nat.le_trans (List.length_filter_le _ _) h
 ·exact Nat.zero_le _
theorem ZpP {G : Prop} (h : G := by (first | (apply ZaF; rfl; rfl; omega; omega; (intro w' _ hO; exact (ZaU (hO.of (A := .row (.slice B R.length d) 82 11 R.length (R.flatMap Zaa.enc)) (by repeat' constructor)) hg1).1)) | (apply Za3; rfl; (focus repeat' constructor); exact hgn; rfl) | (apply ZeI; rfl; rfl; first | exact m1 | exact m2) | (apply ZaD; rfl; rfl; exact b2))) : G := h
theorem Zkl (Ar Az Al As : Option Addr) (cr cz cl cs : Nat) (a : Zai) (k : Nat) (z : ZaY) (w : World) (h : Zdl w Ar Az Al As cr cz cl cs a) (hf : accD a = none) (hk : a.zones[k]? = some z) (hne : z.eras ≠ [])
  (hb : -1000000000 <= Zb3 a z.eras /\ Zb3 a z.eras <= 1000000000) :
  Does Tryz.prog 6 [srcV Ar Az Al As cr cz cl cs a, .int .i64 k] w (fun v O => v = .tuple #[.int .i64 (Zb3 a z.eras), .int .i64 0] /\ O = []) := by
 obtain ⟨hna, cs1, ⟨A, c, hE, rfl⟩, hca⟩ := h.A.z k _ hk
 have hfi := fun w' (hw : Bel w.heap.size w w') => ZkM Ar Az Al As cr cz cl cs a k z A c w' (h.up hw) hf hk hna (hca.up hw (Nat.le_refl _)) (hE.up hw) hne
 have hl : 0 < z.eras.length := List.length_pos_iff.2 hne
 have hel := (h.S.zs z (List.mem_of_getElem? hk)).2.1
 have hRl := ZeN h.S.nr z.eras
 have hy0 : yr0 z.eras = if 1 < z.eras.length then (z.eras.getD (z.eras.length - 2) dE0).til.year else 1849 := rfl
 unfold Zb3 at *
 generalize Za2 a z.eras = R at *
 clear h hk hca
 obtain ⟨y0, hyy⟩ : ∃ y0, yr0 z.eras = y0 := ⟨_, rfl⟩
 rw [hyy] at hy0 hb ⊢
 obtain ⟨res, hres⟩ : ∃ res, yrR R y0 = res := ⟨_, rfl⟩
 rw [hres] at hb ⊢
 refine Zab Tryz.func6 rfl rfl rfl rfl ?_
 by_cases h1 : 1 < z.eras.length
 ·have b1 : decide ((1 : Int) < z.eras.length) = true := decide_eq_true (by omega)
  rw [if_pos h1] at hy0
  obtain ⟨e, he⟩ : ∃ e, z.eras[z.eras.length - 2]? = some e := ⟨_, List.getElem?_eq_getElem (by omega)⟩
  rw [List.getD_eq_getElem?_getD, he] at hy0
  simp only [Option.getD_some] at hy0
  obtain ⟨hna2, hca2⟩ := hE.rd _ _ he
  rw [show z.eras.length - 2 = ((z.eras.length : Int) - 2).toNat by omega] at hca2
  have hu : w.cell? ((((adr A).add (((z.eras.length : Int) - 2).toNat * 13)).add 5).add 1) = some (.int .i64 y0) := by
   rw [ZaZ]
   exact hca2 6 _ (by rw [hy0]; rfl)
  clear hca2 he hE hy0
  repeat (first | (apply RL_pu; rfl; (first | (apply ZaM; rfl; rfl; exact b1) | (apply Pu_indexAddr; rfl; rfl; omega; omega; exact hna2) | (apply Pu_loadO1; rfl; exact hu))) | (refine js ?_; (first | (apply Zag (h := fun w' hw _ => hfi w' hw); rfl; rintro v O' ⟨B, d, rfl, rfl⟩) | (refine bx ?_; intro bk))) | refine walk1 ?_)
  refine Zao [(7, .slice B R.length d), (33, .slice B R.length d), (34, .int .i64 R.length)] [.row (.slice B R.length d) 82 11 R.length (R.flatMap Zaa.enc)] (fun g : YrG => [(35, .int .i64 g.k), (9, .int .i64 g.y)]) (fun _ => []) (fun g => g.k <= R.length /\ yrR (R.drop g.k) g.y = res) (fun g => R.length - g.k) ⟨0, y0⟩ SFA SOA ⟨Nat.zero_le _, hres⟩ ?_
  clear hres
  rintro ⟨k, y⟩ ⟨hkl, hi⟩
  dsimp only at hkl hi ⊢
  repeat (first | (refine js ?_; (refine bx ?_; intro bk)) | refine walk ?_)
  refine Zaf rfl (fun hc => ?_) (fun hc => ?_)
  ·simp only [decide_eq_true_eq, Int.ofNat_lt] at hc
   rw [Zan hc, yrR] at hi
   have hg1 := ZaB Zaa.len R k _ 0 _ (List.getElem?_eq_getElem hc) rfl
   have hgn : ∀ j v, (Zaa.enc R[k])[j]? = some v -> (R.flatMap Zaa.enc)[k * 11 + j]? = some v := fun j v hj => ZaB Zaa.len R k _ j v (List.getElem?_eq_getElem hc) hj
   generalize R[k] = r at *
   obtain ⟨nm, fr, to, mo, ⟨dk, dw, dd⟩, ⟨cs', cb⟩, sv, le⟩ := r
   simp only [Zaa.enc] at hgn hg1
   dsimp only at hi
   have m1 : (if y < fr then fr else y) = max y fr := by split <;> omega
   have m2 : (if max y fr < to then to else max y fr) = max (max y fr) to := by split <;> omega
   by_cases hto : to = 1048576
   ·have b2 : (!decide (to = 1048576)) = false := by rw [decide_eq_true hto]; rfl
    rw [if_pos hto] at hi
    repeat (first | (apply RL_pu; rfl; exact ZpP) | (refine js ?_; (refine bx ?_; intro bk)) | refine walk1 ?_)
    exact ⟨⟨k + 1, max y fr⟩, OA, ⟨OA, hi⟩, SFA, SOA⟩
   ·have b2 : (!decide (to = 1048576)) = true := by rw [decide_eq_false hto]; rfl
    rw [if_neg hto] at hi
    repeat (first | (apply RL_pu; rfl; exact ZpP) | (refine js ?_; (refine bx ?_; intro bk)) | refine walk1 ?_)
    exact ⟨⟨k + 1, max (max y fr) to⟩, OA, ⟨OA, hi⟩, SFA, SOA⟩
  ·simp only [decide_eq_false_iff_not, Int.ofNat_lt] at hc
   rw [List.drop_eq_nil_of_le (by omega), yrR] at hi
   subst hi
   repeat (first | (refine js ?_; (refine bx ?_; intro bk)) | refine walk ?_)
   exact rtB
 ·have b1 : decide ((1 : Int) < z.eras.length) = false := decide_eq_false (by omega)
  rw [if_neg h1] at hy0
  subst hy0
  repeat (first | (apply RL_pu; rfl; (apply ZaM; rfl; rfl; exact b1)) | (refine js ?_; (first | (apply Zag (h := fun w' hw _ => hfi w' hw); rfl; rintro v O' ⟨B, d, rfl, rfl⟩) | (refine bx ?_; intro bk))) | refine walk1 ?_)
  refine Zao [(7, .slice B R.length d), (33, .slice B R.length d), (34, .int .i64 R.length)] [.row (.slice B R.length d) 82 11 R.length (R.flatMap Zaa.enc)] (fun g : YrG => [(35, .int .i64 g.k), (9, .int .i64 g.y)]) (fun _ => []) (fun g => g.k <= R.length /\ yrR (R.drop g.k) g.y = res) (fun g => R.length - g.k) ⟨0, 1849⟩ SFA SOA ⟨Nat.zero_le _, hres⟩ ?_
  clear hres
  rintro ⟨k, y⟩ ⟨hkl, hi⟩
  dsimp only at hkl hi ⊢
  repeat (first | (refine js ?_; (refine bx ?_; intro bk)) | refine walk ?_)
  refine Zaf rfl (fun hc => ?_) (fun hc => ?_)
  ·simp only [decide_eq_true_eq, Int.ofNat_lt] at hc
   rw [Zan hc, yrR] at hi
   have hg1 := ZaB Zaa.len R k _ 0 _ (List.getElem?_eq_getElem hc) rfl
   have hgn : ∀ j v, (Zaa.enc R[k])[j]? = some v -> (R.flatMap Zaa.enc)[k * 11 + j]? = some v := fun j v hj => ZaB Zaa.len R k _ j v (List.getElem?_eq_getElem hc) hj
   generalize R[k] = r at *
   obtain ⟨nm, fr, to, mo, ⟨dk, dw, dd⟩, ⟨cs', cb⟩, sv, le⟩ := r
   simp only [Zaa.enc] at hgn hg1
   dsimp only at hi
   have m1 : (if y < fr then fr else y) = max y fr := by split <;> omega
   have m2 : (if max y fr < to then to else max y fr) = max (max y fr) to := by split <;> omega
   by_cases hto : to = 1048576
   ·have b2 : (!decide (to = 1048576)) = false := by rw [decide_eq_true hto]; rfl
    rw [if_pos hto] at hi
    repeat (first | (apply RL_pu; rfl; exact ZpP) | (refine js ?_; (refine bx ?_; intro bk)) | refine walk1 ?_)
    exact ⟨⟨k + 1, max y fr⟩, OA, ⟨OA, hi⟩, SFA, SOA⟩
   ·have b2 : (!decide (to = 1048576)) = true := by rw [decide_eq_false hto]; rfl
    rw [if_neg hto] at hi
    repeat (first | (apply RL_pu; rfl; exact ZpP) | (refine js ?_; (refine bx ?_; intro bk)) | refine walk1 ?_)
    exact ⟨⟨k + 1, max (max y fr) to⟩, OA, ⟨OA, hi⟩, SFA, SOA⟩
  ·simp only [decide_eq_false_iff_not, Int.ofNat_lt] at hc
   rw [List.drop_eq_nil_of_le (by omega), yrR] at hi
   subst hi
   repeat (first | (refine js ?_; (refine bx ?_; intro bk)) | refine walk ?_)
   exact rtB
def ruS (sv : Int) : Zaa := ⟨ByteArray.empty, 0, 0, 0, ⟨0, 0, 0⟩, ⟨0, 0⟩, sv, ByteArray.empty⟩
theorem ZpO {G : Prop} (h : G := by (first | (apply Pu_indexAddr; rfl; rfl; omega; omega; exact hna2) | (apply Pu_loadON; rfl; exact hca2; rfl) | (apply ZaD; rfl; rfl; exact b3))) : G := h
theorem Zsc (Ar Az Al As : Option Addr) (cr cz cl cs : Nat) (a : Zai) (k : Nat) (z : ZaY) (e : DEra) (w : World) (h : Zdl w Ar Az Al As cr cz cl cs a) (hf : accD a = none) (hk : a.zones[k]? = some z) (he : z.eras[z.eras.length - 1]? = some e)
  (hkd : e.kind ≠ 2) (hE1 : FtE e) (hsv : -1000000 <= e.save /\ e.save <= 1000000) :
  Does Tryz.prog 8 [srcV Ar Az Al As cr cz cl cs a, .int .i64 k] w (fun v O => v = .tuple #[.agg (Zbq e e.save ByteArray.empty).enc.toArray, .int .i64 0] /\ O = []) := by
 obtain ⟨hna, cs1, ⟨A, c, hE, rfl⟩, hca⟩ := h.A.z k _ hk
 have hl : 0 < z.eras.length := by have := (List.getElem?_eq_some_iff.1 he).1; omega
 have hfi := fun w' (hw : Bel w.heap.size w w') => ZkM Ar Az Al As cr cz cl cs a k z A c w' (h.up hw) hf hk hna (hca.up hw (Nat.le_refl _)) (hE.up hw) (List.length_pos_iff.1 hl)
 have hal := fun w' (hw : Bel w.heap.size w w') => Zf1 e (ruS e.save) w' (h.L.up hw) hE1 ⟨Nat.zero_le _, hsv⟩
 have hel := (h.S.zs z (List.mem_of_getElem? hk)).2.1
 have hRl := ZeN h.S.nr z.eras
 obtain ⟨hna2, hca2⟩ := hE.rd _ _ he
 rw [show z.eras.length - 1 = ((z.eras.length : Int) - 1).toNat by omega] at hca2
 change ∀ w', Bel w.heap.size w w' -> Does _ _ _ w' (fun v O => v = .agg (Zbq e e.save ByteArray.empty).enc.toArray /\ O = []) at hal
 generalize Zbq e e.save ByteArray.empty = p at *
 have b3 : (!decide (e.kind = 2)) = true := by rw [decide_eq_false hkd]; rfl
 generalize Za2 a z.eras = R at *
 clear h hf hk hca he hE hkd hE1 hsv
 obtain ⟨off, kd, esv, st, fm, ⟨ui, uy, um, ⟨ud1, ud2, ud3⟩, ⟨uc1, uc2⟩⟩⟩ := e
 obtain ⟨p1, p2, p3, p4, ⟨p5, p6, p7, p8, p9⟩, ⟨q1, q2, q3, q4, q5⟩⟩ := p
 change Zal w _ [.int .i64 off, .int .i64 kd, .int .i64 esv, .string st, .string fm, .bool ui, .int .i64 uy, .int .i64 um, .int .i64 ud1, .int .i64 ud2, .int .i64 ud3, .int .i64 uc1, .int .i64 uc2] at hca2
 change ∀ w', Bel w.heap.size w w' -> Does _ _ [.agg #[.int .i64 off, .int .i64 kd, .int .i64 esv, .string st, .string fm, .bool ui, .int .i64 uy, .int .i64 um, .int .i64 ud1, .int .i64 ud2, .int .i64 ud3, .int .i64 uc1, .int .i64 uc2], .agg #[.string ByteArray.empty, .int .i64 0, .int .i64 0, .int .i64 0, .int .i64 0, .int .i64 0, .int .i64 0, .int .i64 0, .int .i64 0, .int .i64 esv, .string ByteArray.empty]] w' (fun v O => v = .agg #[.string p1, .int .i64 p2, .string p3, .int .i64 p4, .int .i64 p5, .int .i64 p6, .int .i64 p7, .int .i64 p8, .int .i64 p9, .int .i64 q1, .int .i64 q2, .int .i64 q3, .int .i64 q4, .int .i64 q5] /\ O = []) at hal
 dsimp only at b3 ⊢
 refine Zab Tryz.func8 rfl rfl rfl rfl ?_
 repeat (first | (apply RL_pu; rfl; exact ZpO) | (apply RD_Q; rfl; rfl; decide +kernel; rfl; rfl; exact QyFtO4) | refine walk1 ?_ | (refine jg ?_; (try intro F); (first | (apply Zag (h := fun w' hw _ => hfi w' hw); rfl; rintro v O' ⟨B, d, rfl, rfl⟩) | (refine Zac hal ?_) | (refine bx ?_; intro bk) | (refine stA ?_)); first | refine ⟨_, EndsA, QFFtO4, ?_⟩ | refine fin ?_) | (refine jn ?_; (try intro F); (first | (refine bx ?_; intro bk) | (refine stA ?_) | (apply Zae; first | exact ZpO | exact PuA)); first | refine ⟨_, EndsA, QFFtO4, ?_⟩ | refine fin ?_) | (apply RD_W; rfl; intro bk))
 exact rtC
structure OfG where
 k : Nat
 s : Option Nat
 e : Option Nat
theorem ZpN {G : Prop} (h : G := by (first | (apply ZaF; rfl; rfl; omega; omega; (intro w' _ hO; exact (ZaU (hO.of (A := .row (.slice B R.length d) 82 11 R.length (R.flatMap Zaa.enc)) (by repeat' constructor)) hg1).1)) | (apply Za3; rfl; (focus repeat' constructor); exact hgn; rfl) | (apply ZaD; rfl; rfl; exact b2) | (apply ZaC; rfl; rfl; exact b4))) : G := h
theorem ZwV {G : Prop} (h : G := by (first | (apply ZaF; rfl; rfl; omega; omega; (intro w' _ hO; exact (ZaU (hO.of (A := .row (.slice B R.length d) 82 11 R.length (R.flatMap Zaa.enc)) (by repeat' constructor)) hg1).1)) | (apply Za3; rfl; (focus repeat' constructor); exact hgn; rfl) | (apply ZaD; rfl; rfl; exact b2))) : G := h
theorem Zub {G : Prop} (h : G := by (first | (apply ZtS; exact ⟨_, Tryz.underlying89⟩; rfl) | (apply Pu_nilCheck; rfl) | (apply Za3; rfl; (focus repeat' constructor); exact hgi; exact Zaa.len r) | (apply Za3; rfl; (focus repeat' constructor); exact hgj; exact Zaa.len q))) : G := h
theorem Zwq {G : Prop} (h : G := by first | (apply Qy_y; rfl; exact Zub) | exact QyA) : G := h
theorem ZwA {G : Prop} (h : G := by repeat (first | exact QF.nil | (apply QF.mk; rfl; rfl; decide +kernel; exact Zwq))) : G := h
theorem Zv4 (Ar Az Al As : Option Addr) (cr cz cl cs : Nat) (a : Zai) (k : Nat) (z : ZaY) (e : DEra) (i j : Nat) (r q : Zaa) (w : World) (h : Zdl w Ar Az Al As cr cz cl cs a) (hF : FtG w) (hf : accD a = none) (hk : a.zones[k]? = some z) (he : z.eras[z.eras.length - 1]? = some e)
  (hkd : e.kind = 2) (hE1 : FtE e) (hse : seF (Za2 a z.eras) 0 (none, none) = (some i, some j)) (hri : (Za2 a z.eras)[i]? = some r) (hrj : (Za2 a z.eras)[j]? = some q) (hr : FtRu r) (hq : FtRu q) :
  Does Tryz.prog 8 [srcV Ar Az Al As cr cz cl cs a, .int .i64 k] w (fun v O => v = .tuple #[.agg (ZfK e r q).enc.toArray, .int .i64 0] /\ O = []) := by
 obtain ⟨hna, cs1, ⟨A, c, hE, rfl⟩, hca⟩ := h.A.z k _ hk
 have hl : 0 < z.eras.length := by have := (List.getElem?_eq_some_iff.1 he).1; omega
 have hfi := fun w' (hw : Bel w.heap.size w w') => ZkM Ar Az Al As cr cz cl cs a k z A c w' (h.up hw) hf hk hna (hca.up hw (Nat.le_refl _)) (hE.up hw) (List.length_pos_iff.1 hl)
 have htw := fun w' (hw : Bel w.heap.size w w') => Zmg e r q w' (h.L.up hw) (h.G.up hw) (hF.up hw) hE1 hr hq
 have hel := (h.S.zs z (List.mem_of_getElem? hk)).2.1
 have hRl := ZeN h.S.nr z.eras
 obtain ⟨hna2, hca2⟩ := hE.rd _ _ he
 rw [show z.eras.length - 1 = ((z.eras.length : Int) - 1).toNat by omega] at hca2
 generalize ZfK e r q = p at *
 have b3 : (!decide (e.kind = 2)) = false := by rw [decide_eq_true hkd]; rfl
 generalize Za2 a z.eras = R at *
 have hgi : ∀ m v, (Zaa.enc r)[m]? = some v -> (R.flatMap Zaa.enc)[i * 11 + m]? = some v := fun m v hm => ZaB Zaa.len R i _ m v hri hm
 have hgj : ∀ m v, (Zaa.enc q)[m]? = some v -> (R.flatMap Zaa.enc)[j * 11 + m]? = some v := fun m v hm => ZaB Zaa.len R j _ m v hrj hm
 clear h hf hk hca he hE hkd hE1 hri hrj hr hq hF
 obtain ⟨off, kd, esv, st, fm, ⟨ui, uy, um, ⟨ud1, ud2, ud3⟩, ⟨uc1, uc2⟩⟩⟩ := e
 obtain ⟨p1, p2, p3, p4, ⟨p5, p6, p7, p8, p9⟩, ⟨q1, q2, q3, q4, q5⟩⟩ := p
 change Zal w _ [.int .i64 off, .int .i64 kd, .int .i64 esv, .string st, .string fm, .bool ui, .int .i64 uy, .int .i64 um, .int .i64 ud1, .int .i64 ud2, .int .i64 ud3, .int .i64 uc1, .int .i64 uc2] at hca2
 change ∀ w', Bel w.heap.size w w' -> Does _ _ [.agg #[.int .i64 off, .int .i64 kd, .int .i64 esv, .string st, .string fm, .bool ui, .int .i64 uy, .int .i64 um, .int .i64 ud1, .int .i64 ud2, .int .i64 ud3, .int .i64 uc1, .int .i64 uc2], .agg r.enc.toArray, .agg q.enc.toArray] w' (fun v O => v = .agg #[.string p1, .int .i64 p2, .string p3, .int .i64 p4, .int .i64 p5, .int .i64 p6, .int .i64 p7, .int .i64 p8, .int .i64 p9, .int .i64 q1, .int .i64 q2, .int .i64 q3, .int .i64 q4, .int .i64 q5] /\ O = []) at htw
 dsimp only at b3 ⊢
 refine Zab Tryz.func8 rfl rfl rfl rfl ?_
 repeat (first | (apply RL_pu; rfl; exact ZpO) | (apply RD_Q; rfl; rfl; decide +kernel; rfl; rfl; exact QyFtO4) | refine walk1 ?_ | (refine jg ?_; (try intro F); (first | (apply Zag (h := fun w' hw _ => hfi w' hw); rfl; rintro v O' ⟨B, d, rfl, rfl⟩) | (refine bx ?_; intro bk) | (refine stA ?_)); first | refine ⟨_, EndsA, QFFtO4, ?_⟩ | refine fin ?_) | (refine jn ?_; (try intro F); (first | (refine bx ?_; intro bk) | (refine stA ?_) | (apply Zae; first | exact ZpO | exact PuA)); first | refine ⟨_, EndsA, QFFtO4, ?_⟩ | refine fin ?_) | (apply RD_W; rfl; intro bk))
 rename_i b2 b4
 generalize bk = b9
 refine Zao [(4, .pointer (some ⟨b4, 0, none⟩)), (7, .slice B R.length d), (9, .pointer (some ⟨b9, 0, none⟩)), (41, .slice B R.length d), (42, .int .i64 R.length)] [.row (.slice B R.length d) 82 11 R.length (R.flatMap Zaa.enc), .blk b9 [.int .i64 off, .int .i64 kd, .int .i64 esv, .string st, .string fm, .bool ui, .int .i64 uy, .int .i64 um, .int .i64 ud1, .int .i64 ud2, .int .i64 ud3, .int .i64 uc1, .int .i64 uc2] 75, .blk b4 [.string ByteArray.empty, .int .i64 0, .string ByteArray.empty, .int .i64 0, .int .i64 0, .int .i64 0, .int .i64 0, .int .i64 0, .int .i64 0, .int .i64 0, .int .i64 0, .int .i64 0, .int .i64 0, .int .i64 0] 41]
  (fun g : OfG => [(43, .int .i64 g.k), (10, .pointer (g.s.map fun i => (adr B).add (i * 11))), (11, .pointer (g.e.map fun i => (adr B).add (i * 11)))]) (fun _ => []) (fun g => g.k <= R.length /\ seF (R.drop g.k) g.k (g.s, g.e) = (some i, some j)) (fun g => R.length - g.k) ⟨0, none, none⟩ SFA SOA ⟨Nat.zero_le _, hse⟩ ?_
 clear hse
 rintro ⟨k, s, t⟩ ⟨hkl, hi⟩
 dsimp only at hkl hi ⊢
 repeat (first | refine walk ?_ | (refine jn ?_; (try intro F); (first | (refine bx ?_; intro bk) | (refine stA ?_) | (apply Zae; exact PuA)); refine fin ?_) | (apply RD_W; rfl; intro bk))
 refine Zaf rfl (fun hc => ?_) (fun hc => ?_)
 ·simp only [decide_eq_true_eq, Int.ofNat_lt] at hc
  rw [Zan hc, seF] at hi
  have hg1 := ZaB Zaa.len R k _ 0 _ (List.getElem?_eq_getElem hc) rfl
  have hgn : ∀ j v, (Zaa.enc R[k])[j]? = some v -> (R.flatMap Zaa.enc)[k * 11 + j]? = some v := fun j v hj => ZaB Zaa.len R k _ j v (List.getElem?_eq_getElem hc) hj
  generalize R[k] = r1 at *
  obtain ⟨nm, fr, to, mo, ⟨dk, dw, dd⟩, ⟨cs', cb⟩, sv, le⟩ := r1
  simp only [Zaa.enc] at hgn hg1
  dsimp only at hi
  by_cases hto : to = 1048576
  ·have b2 : (!decide (to = 1048576)) = false := by rw [decide_eq_true hto]; rfl
   rw [if_pos hto] at hi
   by_cases hsv : sv = 0
   ·have b4 : decide (sv = 0) = true := decide_eq_true hsv
    rw [if_pos hsv] at hi
    repeat (first | (apply RL_pu; rfl; exact ZpN) | (apply RD_Q; rfl; rfl; decide +kernel; rfl; rfl; exact QyFtO5) | refine walk1 ?_ | (refine jn ?_; (try intro F); (first | (refine bx ?_; intro bk) | (refine stA ?_) | (apply Zae; first | exact ZpN | exact PuA)); first | refine ⟨_, EndsA, QFFtO5, ?_⟩ | refine fin ?_) | (apply RD_W; rfl; intro bk))
    exact ⟨⟨k + 1, s, some k⟩, OA, ⟨OA, hi⟩, SFA, SOA⟩
   ·have b4 : decide (sv = 0) = false := decide_eq_false hsv
    rw [if_neg hsv] at hi
    repeat (first | (apply RL_pu; rfl; exact ZpN) | (apply RD_Q; rfl; rfl; decide +kernel; rfl; rfl; exact QyFtO5) | refine walk1 ?_ | (refine jn ?_; (try intro F); (first | (refine bx ?_; intro bk) | (refine stA ?_) | (apply Zae; first | exact ZpN | exact PuA)); first | refine ⟨_, EndsA, QFFtO5, ?_⟩ | refine fin ?_) | (apply RD_W; rfl; intro bk))
    exact ⟨⟨k + 1, some k, t⟩, OA, ⟨OA, hi⟩, SFA, SOA⟩
  ·have b2 : (!decide (to = 1048576)) = true := by rw [decide_eq_false hto]; rfl
   rw [if_neg hto] at hi
   repeat (first | (apply RL_pu; rfl; exact ZwV) | (apply RD_Q; rfl; rfl; decide +kernel; rfl; rfl; exact QyFtO6) | refine walk1 ?_ | (refine jn ?_; (try intro F); (first | (refine bx ?_; intro bk) | (refine stA ?_) | (apply Zae; first | exact ZwV | exact PuA)); first | refine ⟨_, EndsA, QFFtO6, ?_⟩ | refine fin ?_) | (apply RD_W; rfl; intro bk))
   exact ⟨⟨k + 1, s, t⟩, OA, ⟨OA, hi⟩, SFA, SOA⟩
 ·simp only [decide_eq_false_iff_not, Int.ofNat_lt] at hc
  rw [List.drop_eq_nil_of_le (by omega), seF] at hi
  obtain ⟨rfl, rfl⟩ := Prod.mk.inj hi
  simp only [Option.map_some]
  repeat (first | (apply RL_pu; rfl; exact Zub) | (apply RD_Q; rfl; rfl; decide +kernel; rfl; rfl; exact Zwq) | refine walk1 ?_ | (refine jg ?_; (try intro F); (first | (refine Zac htw ?_) | (refine bx ?_; intro bk) | (refine stA ?_)); first | refine ⟨_, EndsA, ZwA, ?_⟩ | refine fin ?_) | (refine jn ?_; (try intro F); (first | (refine bx ?_; intro bk) | (refine stA ?_) | (apply Zae; first | exact Zub | exact PuA)); first | refine ⟨_, EndsA, ZwA, ?_⟩ | refine fin ?_) | (apply RD_W; rfl; intro bk))
  exact rtC
end Go.Proofs.YtdlmhmmhdbbliaaGreatDoor
namespace Go.Wk
open Go Go.RowKit
theorem ZiZ {P : Program} {n : Nat} {wr : World} {fr : Fr} {O : List It} {ty t t' : TypeId} {α : Type} [DecidableEq α] {enc : α -> List Value} {x y : Operand} {i j : α} {b : Bool} [hE : EqE P t α enc] (hx : ev fr x = some (.agg (enc i).toArray)) (hy : ev fr y = some (.agg (enc j).toArray)) (h : decide (i = j) = b) :
  Pu P n wr fr O (.binOp .eql t x y t') ty (.bool b) := h ▸ Pu_eqlE hx hy
theorem ZtT {P : Program} {n : Nat} {wr : World} {fr : Fr} {O : List It} {ty t t' : TypeId} {α : Type} [DecidableEq α] {enc : α -> List Value} {x y : Operand} {i j : α} {b : Bool} [hE : EqE P t α enc] (hx : ev fr x = some (.agg (enc i).toArray)) (hy : ev fr y = some (.agg (enc j).toArray)) (h : (!decide (i = j)) = b) :
  Pu P n wr fr O (.binOp .neq t x y t') ty (.bool b) := h ▸ Pu_neqE hx hy
end Go.Wk
namespace Go.Proofs.YtdlmhmmhdbbliaaGreatDoor
open Go Go.RowKit Go.Wk
instance : EqE Tryz.prog 39 Zb2 Zb2.enc where
 h r s w := by
  unfold Zb2.enc
  simp [go_sem, Zdm]
  rcases r with ⟨_, _, _, _, _⟩
  rcases s with ⟨_, _, _, _, _⟩
  simp only [ZlM, Result.ok.injEq, and_true]
  rw [Bool.eq_iff_iff]
  simp [and_assoc]
 g := by kernel_rfl
instance : EqE Tryz.prog 41 Za4 Za4.enc where
 h r s w := by
  unfold Za4.enc
  simp [go_sem, Zdm]
  rcases r with ⟨_, _, _, _, ⟨_, _, _, _, _⟩, ⟨_, _, _, _, _⟩⟩
  rcases s with ⟨_, _, _, _, ⟨_, _, _, _, _⟩, ⟨_, _, _, _, _⟩⟩
  simp only [ZlM, Result.ok.injEq, and_true]
  rw [Bool.eq_iff_iff]
  simp [and_assoc]
 g := by kernel_rfl
end Go.Proofs.YtdlmhmmhdbbliaaGreatDoor
namespace Go.Wk
open Go Go.RowKit
section
variable {P : Program} {n : Nat} {wr : World} {fr : Fr} {O : List It} {ty : TypeId} {pos : String} {af : Array Edge} {dst : Option Tmp} {g : Option (Nat × Bool)} {Kp : Value -> List It -> Prop}
end
theorem RdSl.pre {α : Type} {w : World} {A : Option Addr} {c sz : Nat} {enc : α -> List Value} {x y : List α} (h : RdSl w A c enc sz (x ++ y)) : RdSl w A c enc sz x :=
 ⟨by have := h.le; rw [List.length_append] at this; omega, h.cap, fun k v hv => h.rd k v (by
  have hk := (List.getElem?_eq_some_iff.1 hv).1
  rw [List.getElem?_append_left hk]; exact hv)⟩
end Go.Wk
namespace Go.Proofs.YtdlmhmmhdbbliaaGreatDoor
open Go Go.RowKit Go.Wk
def okR (r : Zaa) : Bool := decide (r.name.size <= 1000000000) && (decide (r.letter.size <= 1000000000) && (decide (-9223372036854775808 <= r.save) && decide (r.save <= 9223372036854775807)))
def okI (n : Int) : Bool := decide (-9223372036854775808 <= n) && decide (n <= 9223372036854775807)
def okE (e : DEra) : Bool := okI e.off && (okI e.save && (okI e.kind && (decide (e.format.size <= 1000000000) && decide (e.set.size <= 1000000000))))
def okZ (z : ZaY) : Bool := decide (z.name.size <= 1000000000) && (decide (z.eras.length <= 1000000) && z.eras.all okE)
def okL (l : Zb5) : Bool := decide (l.target.size <= 1000000000) && decide (l.name.size <= 1000000000)
def okD (s : Zai) : Bool := decide (s.rules.length <= 1000000) && (decide (s.zones.length <= 1000000) && (decide (s.links.length <= 1000000) && (decide (s.shifts.length <= 1000000) && (s.rules.all okR && (s.zones.all okZ && s.links.all okL)))))
theorem Zsa {n : Int} (h : okI n = true) : I64 n := by
 unfold okI at h
 rw [Bool.and_eq_true, decide_eq_true_eq, decide_eq_true_eq] at h
 exact h
theorem Zsb {s : Zai} (h : okD s = true) : Zhr s /\ SavI s /\ ∀ z ∈ s.zones, ∀ e ∈ z.eras, Zri e := by
 unfold okD at h
 simp only [Bool.and_eq_true, decide_eq_true_eq, List.all_eq_true] at h
 obtain ⟨h1, h2, h3, h4, h5, h6, h7⟩ := h
 have hr : ∀ r ∈ s.rules, _ := fun r hr => by
  have := h5 r hr
  unfold okR at this
  simp only [Bool.and_eq_true, decide_eq_true_eq] at this
  exact this
 have hz : ∀ z ∈ s.zones, z.name.size <= 1000000000 /\ z.eras.length <= 1000000 /\ ∀ e ∈ z.eras, okE e = true := fun z hz => by
  have := h6 z hz
  unfold okZ at this
  simp only [Bool.and_eq_true, decide_eq_true_eq, List.all_eq_true] at this
  exact this
 have he : ∀ e, okE e = true -> I64 e.off /\ I64 e.save /\ I64 e.kind /\ e.format.size <= 1000000000 /\ e.set.size <= 1000000000 := fun e he => by
  unfold okE at he
  simp only [Bool.and_eq_true, decide_eq_true_eq] at he
  exact ⟨Zsa he.1, Zsa he.2.1, Zsa he.2.2.1, he.2.2.2⟩
 refine ⟨⟨h1, h2, h3, h4, fun r h => ⟨(hr r h).1, (hr r h).2.1⟩, fun z h => ⟨(hz z h).1, (hz z h).2.1, fun e h' => ⟨(he e ((hz z h).2.2 e h')).2.2.2.2, (he e ((hz z h).2.2 e h')).2.2.2.1⟩⟩, fun l h => ?_⟩, fun r h => ⟨(hr r h).2.2.1, (hr r h).2.2.2⟩, fun z h e h' => ?_⟩
 ·have := h7 l h
  unfold okL at this
  simp only [Bool.and_eq_true, decide_eq_true_eq] at this
  exact this
 ·have := he e ((hz z h).2.2 e h')
  exact ⟨this.1, this.2.1, this.2.2.1, this.2.2.2.1⟩
theorem ZxT {w w' : World} {Ar Az Al As : Option Addr} {cr cz cl cs : Nat} {a : Zai} (hL : LibW w) (hG : Glob w) (hw : Bel w.heap.size w w') (h : okD a = true) (hA : Zat w' Ar Az Al As cr cz cl cs a) : Zdl w' Ar Az Al As cr cz cl cs a :=
 ⟨hL.up hw, hG.up hw, hA, (Zsb h).1, (Zsb h).2.1, (Zsb h).2.2⟩
attribute [local irreducible] W RL Does Zau Zaj retQ Calls Pu Stp RD Qy Ay Zak
theorem ZbD (n : Int) (w : World) : Does Tryz.prog 33 [.int .i64 n] w (fun v O => v = .agg #[.int .i64 3, .int .i64 0, .int .i64 n] /\ O = []) := by
 refine Zab Tryz.func33 rfl rfl rfl rfl ?_
 repeat (first | (refine js ?_; (refine bx ?_; intro bk)) | refine walk ?_)
 exact ret_1 _ [] (.cellB rfl (by repeat' constructor) rfl rfl) .nil ⟨rfl, rfl⟩
theorem Zaz (n : Int) (w : World) : Does Tryz.prog 34 [.int .i64 n] w (fun v O => v = .agg #[.int .i64 1, .int .i64 0, .int .i64 n] /\ O = []) := by
 refine Zab Tryz.func34 rfl rfl rfl rfl ?_
 repeat (first | (refine js ?_; (refine bx ?_; intro bk)) | refine walk ?_)
 exact ret_1 _ [] (.cellB rfl (by repeat' constructor) rfl rfl) .nil ⟨rfl, rfl⟩
theorem Zav (m k wk dd sec save : Int) (w : World) : Does Tryz.prog 32 [.int .i64 m, .agg #[.int .i64 k, .int .i64 wk, .int .i64 dd], .int .i64 sec, .int .i64 save] w (fun v O => v = .agg #[.string ZxD, .int .i64 1972, .int .i64 1048576, .int .i64 m, .int .i64 k, .int .i64 wk, .int .i64 dd, .int .i64 sec, .int .i64 2, .int .i64 save, .string ByteArray.empty] /\ O = []) := by
 refine Zab Tryz.func32 rfl rfl rfl rfl ?_
 repeat (first | (refine js ?_; (refine bx ?_; intro bk)) | refine walk ?_)
 exact ret_1 _ [] (.cellB rfl (by repeat' constructor) rfl rfl) .nil ⟨rfl, rfl⟩
theorem ZsS (r : Zaa) (off before : Int) (x : Zb2) (e : Int) (w : World) (hG : Glob w) (hF : FtG w) (h : Zdz r off before = (x, e)) : Does Tryz.prog 31 [.agg r.enc.toArray, .int .i64 off, .int .i64 before] w (fun v O => v = .tuple #[.agg x.enc.toArray, .int .i64 e] /\ O = []) := by
 have := ZgL r off before w hG hF
 rwa [h] at this
theorem ZsT (r : Zaa) (w : World) (hG : Glob w) (hF : FtG w) (h : Zdz r 0 0 = (dt0, 2)) : Does Tryz.prog 35 [.agg r.enc.toArray] w (fun v O => v = .bool true /\ O = []) := by
 have hd : ∀ w', Bel w.heap.size w w' -> Does Tryz.prog 31 [.agg r.enc.toArray, .int .i64 0, .int .i64 0] w' (fun v O => v = .tuple #[.agg #[.int .i64 0, .int .i64 0, .int .i64 0, .int .i64 0, .int .i64 0], .int .i64 2] /\ O = []) := fun w' hw => ZsS r 0 0 dt0 2 w' (hG.up hw) (hF.up hw) h
 clear h
 obtain ⟨nm, fr, to, mo, ⟨dk, dw, dd⟩, ⟨cs, cb⟩, sv, le⟩ := r
 show Does _ _ [.agg #[.string nm, .int .i64 fr, .int .i64 to, .int .i64 mo, .int .i64 dk, .int .i64 dw, .int .i64 dd, .int .i64 cs, .int .i64 cb, .int .i64 sv, .string le]] w _
 refine Zab Tryz.func35 rfl rfl rfl rfl ?_
 repeat (first | (apply RL_pu; rfl; (apply ZiZ (i := dt0) (j := dt0) (enc := Zb2.enc); rfl; rfl; exact decide_eq_true rfl)) | (refine js ?_; (first | (refine Zac hd ?_) | (refine bx ?_; intro bk))) | refine walk1 ?_)
 exact rtA
theorem Zxd (Ar Az Al As : Option Addr) (cr cz cl cs : Nat) (a : Zai) (p : Za4) (y : Int) (w : World) (h1 : ∀ w', Bel w.heap.size w w' -> Does Tryz.prog 8 [srcV Ar Az Al As cr cz cl cs a, .int .i64 0] w' (fun v O => v = .tuple #[.agg p.enc.toArray, .int .i64 0] /\ O = []))
  (h2 : ∀ w', Bel w.heap.size w w' -> Does Tryz.prog 6 [srcV Ar Az Al As cr cz cl cs a, .int .i64 0] w' (fun v O => v = .tuple #[.int .i64 y, .int .i64 0] /\ O = [])) :
  Does Tryz.prog 36 [srcV Ar Az Al As cr cz cl cs a, .agg p.enc.toArray, .int .i64 y] w (fun v O => v = .bool true /\ O = []) := by
 obtain ⟨p1, p2, p3, p4, ⟨p5, p6, p7, p8, p9⟩, ⟨q1, q2, q3, q4, q5⟩⟩ := p
 have e1 : decide (y = y) = true := decide_eq_true rfl
 change ∀ w', Bel w.heap.size w w' -> Does _ _ _ w' (fun v O => v = .tuple #[.agg #[.string p1, .int .i64 p2, .string p3, .int .i64 p4, .int .i64 p5, .int .i64 p6, .int .i64 p7, .int .i64 p8, .int .i64 p9, .int .i64 q1, .int .i64 q2, .int .i64 q3, .int .i64 q4, .int .i64 q5], .int .i64 0] /\ O = []) at h1
 show Does _ _ [_, .agg #[.string p1, .int .i64 p2, .string p3, .int .i64 p4, .int .i64 p5, .int .i64 p6, .int .i64 p7, .int .i64 p8, .int .i64 p9, .int .i64 q1, .int .i64 q2, .int .i64 q3, .int .i64 q4, .int .i64 q5], .int .i64 y] w _
 refine Zab Tryz.func36 rfl rfl rfl rfl ?_
 repeat (first | (apply RL_pu; rfl; (first | (apply ZiZ (i := (⟨p1, p2, p3, p4, ⟨p5, p6, p7, p8, p9⟩, ⟨q1, q2, q3, q4, q5⟩⟩ : Za4)) (j := ⟨p1, p2, p3, p4, ⟨p5, p6, p7, p8, p9⟩, ⟨q1, q2, q3, q4, q5⟩⟩) (enc := Za4.enc); rfl; rfl; exact decide_eq_true rfl) | (apply ZaC; rfl; rfl; exact e1))) | (refine js ?_; (first | (refine Zac h1 ?_) | (refine Zac h2 ?_) | (refine bx ?_; intro bk))) | refine walk1 ?_)
 exact rtA
theorem Zw5 {w : World} {Ar Ae : Option Addr} {cr ce bz : Nat} {rs : List Zaa} {nm : ByteArray} {es : List DEra} (hr : RdSl w Ar cr Zaa.enc 11 rs) (hz : (It.blk bz [.string nm, .slice Ae es.length ce] 50).sat w) (he : RdSl w Ae ce DEra.enc 13 es) : Zat w Ar (some ⟨bz, 0, none⟩) none none cr 1 0 0 ⟨rs, [⟨nm, es⟩], [], []⟩ :=
 ⟨hr, Nat.le_refl 1, by decide, ZoF (ZkB (c := 1) (l := [(⟨⟨nm, es⟩, Ae, ce⟩ : ZE)]) ZE.len (Nat.le_refl 1) (by decide) hz) (fun q hq => by rw [List.mem_singleton.1 hq]; exact he), Zny _ _ _, Zny _ _ _⟩
def ZzI (v : Value) (O : List It) : Prop := ∃ br be bz, v = .agg #[.slice (some ⟨br, 0, none⟩) 3 3, .slice (some ⟨bz, 0, none⟩) 1 1, .slice none 0 0, .slice none 0 0] /\
 O = [.blk bz [.string dubN, .slice (some ⟨be, 0, none⟩) 2 2] 50, .blk be (Zft.enc ++ ZdI.enc) 75, .blk br (ZoL.enc ++ (Zeg.enc ++ Zjq.enc)) 82]
theorem ZsY (w : World) : Does Tryz.prog 37 [] w ZzI := by
 refine Zab Tryz.func37 rfl rfl rfl rfl ?_
 repeat' (first | (refine js ?_; (first | (refine Zac (fun w' _ => ZbD 15 w') ?_) | (refine Zac (fun w' _ => Zaz 31 w') ?_) | (refine Zac (fun w' _ => Zaz 27 w') ?_) | (refine Zac (fun w' _ => Zav 10 1 0 31 7200 (-3600) w') ?_) | (refine Zac (fun w' _ => Zav 3 3 0 15 7200 0 w') ?_) | (refine Zac (fun w' _ => Zav 10 2 0 0 3600 (-3600) w') ?_) | (refine bx ?_; intro bk))) | refine walk ?_ | (refine ZeF ?_; intro F; (first | (refine Zac (fun w' _ => ZbD 15 w') ?_) | (refine Zac (fun w' _ => Zaz 31 w') ?_) | (refine Zac (fun w' _ => Zaz 27 w') ?_) | (refine Zac (fun w' _ => Zav 10 1 0 31 7200 (-3600) w') ?_) | (refine Zac (fun w' _ => Zav 3 3 0 15 7200 0 w') ?_) | (refine Zac (fun w' _ => Zav 10 2 0 0 3600 (-3600) w') ?_)); refine ⟨_, EndsA, SubO.right _ _, ?_⟩) | (refine Zy1 (fun bk => ?_) ?_; rotate_left; intro F; (first | (refine Zac (fun w' _ => ZbD 15 w') ?_) | (refine Zac (fun w' _ => Zaz 31 w') ?_) | (refine Zac (fun w' _ => Zaz 27 w') ?_) | (refine Zac (fun w' _ => Zav 10 1 0 31 7200 (-3600) w') ?_) | (refine Zac (fun w' _ => Zav 3 3 0 15 7200 0 w') ?_) | (refine Zac (fun w' _ => Zav 10 2 0 0 3600 (-3600) w') ?_)); refine ⟨_, EndsA, SubO.right _ _, ?_⟩) | (refine Zy0 (fun bk => ?_) (fun bk => ?_) ?_; rotate_left 2; intro F; (first | (refine Zac (fun w' _ => ZbD 15 w') ?_) | (refine Zac (fun w' _ => Zaz 31 w') ?_) | (refine Zac (fun w' _ => Zaz 27 w') ?_) | (refine Zac (fun w' _ => Zav 10 1 0 31 7200 (-3600) w') ?_) | (refine Zac (fun w' _ => Zav 3 3 0 15 7200 0 w') ?_) | (refine Zac (fun w' _ => Zav 10 2 0 0 3600 (-3600) w') ?_)); refine ⟨_, EndsA, SubO.right _ _, ?_⟩) | (refine RD_Lw ?_; intro F; (first | (refine Zac (fun w' _ => ZbD 15 w') ?_) | (refine Zac (fun w' _ => Zaz 31 w') ?_) | (refine Zac (fun w' _ => Zaz 27 w') ?_) | (refine Zac (fun w' _ => Zav 10 1 0 31 7200 (-3600) w') ?_) | (refine Zac (fun w' _ => Zav 3 3 0 15 7200 0 w') ?_) | (refine Zac (fun w' _ => Zav 10 2 0 0 3600 (-3600) w') ?_) | (refine bx ?_; intro bk) | (refine stA ?_) | (apply Zae; exact PuA)); refine ⟨_, EndsA, QFA, ?_⟩) | (refine ZyZ (fun bk => ?_) ?_; rotate_left; intro F; (first | (refine Zac (fun w' _ => ZbD 15 w') ?_) | (refine Zac (fun w' _ => Zaz 31 w') ?_) | (refine Zac (fun w' _ => Zaz 27 w') ?_) | (refine Zac (fun w' _ => Zav 10 1 0 31 7200 (-3600) w') ?_) | (refine Zac (fun w' _ => Zav 3 3 0 15 7200 0 w') ?_) | (refine Zac (fun w' _ => Zav 10 2 0 0 3600 (-3600) w') ?_) | (refine bx ?_; intro bk) | (refine stA ?_) | (apply Zae; exact PuA)); refine ⟨_, EndsA, QFA, ?_⟩) | (refine ZyY (fun bk => ?_) (fun bk => ?_) ?_; rotate_left 2; intro F; (first | (refine Zac (fun w' _ => ZbD 15 w') ?_) | (refine Zac (fun w' _ => Zaz 31 w') ?_) | (refine Zac (fun w' _ => Zaz 27 w') ?_) | (refine Zac (fun w' _ => Zav 10 1 0 31 7200 (-3600) w') ?_) | (refine Zac (fun w' _ => Zav 3 3 0 15 7200 0 w') ?_) | (refine Zac (fun w' _ => Zav 10 2 0 0 3600 (-3600) w') ?_) | (refine bx ?_; intro bk) | (refine stA ?_) | (apply Zae; exact PuA)); refine ⟨_, EndsA, QFA, ?_⟩) | (apply RD_W; rfl; intro bk) | (refine ZzE rfl rfl rfl (fun bk => ?_) (fun bk => ?_)) | (refine Zaf rfl (fun hc => ?_) (fun hc => ?_)))
 all_goals exact ret_1 _ [.blk _ [.string dubN, .slice (some ⟨_, 0, none⟩) 2 2] 50, .blk _ (Zft.enc ++ ZdI.enc) 75, .blk _ (ZoL.enc ++ (Zeg.enc ++ Zjq.enc)) 82] (.cellB rfl (by repeat' constructor) rfl rfl) SOA ⟨_, _, _, rfl, rfl⟩
end Go.Proofs.YtdlmhmmhdbbliaaGreatDoor
