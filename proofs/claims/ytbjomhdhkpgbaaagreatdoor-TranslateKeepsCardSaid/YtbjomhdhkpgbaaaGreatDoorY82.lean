/- Parts of the proof. -/
import Derived.Test.YtbjomhdhkpgbaaaGreatDoorY28
import Derived.Test.YtbjomhdhkpgbaaaGreatDoorY14
import Derived.Test.YtbjomhdhkpgbaaaGreatDoorY09
import Derived.Test.YtbjomhdhkpgbaaaGreatDoorY27
import Derived.Test.YtbjomhdhkpgbaaaGreatDoorY21
import Derived.Test.YtbjomhdhkpgbaaaGreatDoorY12
import Derived.Test.YtbjomhdhkpgbaaaGreatDoorRows
import Derived.LaidSub
import Derived.SevenTiedAt
import Derived.JoinedOf
import Derived.KernelRfl
set_option maxHeartbeats 4000000
set_option linter.unusedVariables false
set_option linter.unusedSimpArgs false
set_option maxHeartbeats 8000000
namespace Go.Proofs.YtbjomhdhkpgbaaaGreatDoor
open Go Go.RowKit Go.Wk
attribute [local irreducible] W RL Does Zap Zak retQ Calls Pu Stp RD Qy Ay Zal Zae in23
def ZAT (s : Zab) (v : Value) (O : List It) : Prop := ∃ u, v = .tuple #[u, .bool true] /\ ZgD s u O
theorem Zq0 {P : Program} {n : Nat} {wr : World} {fr : Fr} {O : List It} {ty t t' : TypeId} {x : Operand} {kk k' : IntKind} {i j : Int} {sz : Nat} {ag : Bool} [Ty P t sz ag] [IntT P t' k'] (hx : ev fr x = some (.int kk i)) (h : k'.wrap i = j) : Pu P n wr fr O (.convert t t' x) ty (.int k' j) := h ▸ Pu_convI hx
theorem Zpr {G : Prop} (h : G := by (first | (apply Pu_remE; rfl; rfl; omega; decide) | (apply Zq0; rfl; exact hcv) | (apply ZaH; rfl; rfl; exact e0) | (apply Za0; rfl; rfl; exact e1))) : G := h
theorem ZuV {G : Prop} (h : G := by first | (apply Qy_y; rfl; exact Zpr) | exact QyA) : G := h
theorem Zu5 {G : Prop} (h : G := by repeat (first | exact QF.nil | (apply QF.mk; rfl; rfl; decide +kernel; exact ZuV))) : G := h
theorem ZtW (As Az Al : Option Addr) (cs cz cl : Nat) (d : DD23) (f : Int) (w : World) (hL : LibW w) (hG : Glob w) (hS : RdLL w As cs Zdt 1 d.sets) (hZ : RdLL w Az cz E23.enc 8 d.zones) (hD : RdSl w Al cl Zdt 1 d.links) (hrs : ∀ l ∈ d.sets, ∀ x ∈ l, inR .u8 x) (hrz : ∀ l ∈ d.zones, ∀ x ∈ l, x.ok) (hrl : ∀ x ∈ d.links, inR .u8 x) (hf : 0 <= f /\ f <= 255) :
  Does Tryz.prog 15 [d23V As Az Al cs cz cl d, .int .u8 f] w (ZAT (in23 d (1 + f % 3))) := by
 have hmd := fun w' (hw : Bel w.heap.size w w') => (Zir As Az Al cs cz cl d w' (hS.up hw) (hZ.up hw) (hD.up hw) hrs hrz hrl).monoO fun _ _ h => ZcG h
 have hto := fun R Z L H r z l h w' (hw : Bel w.heap.size w w') => toIn R Z L H r z l h d 1 (1 + f % 3) w' (hL.up hw) (hG.up hw) (by omega)
 have hcv : IntKind.i64.wrap (f % 3) = f % 3 := ZbU (by omega)
 have hz := ZrS d (1 + f % 3)
 have hpos := Ziq d
 unfold ToS at hto
 simp only [plV, Zao.enc, Zw1] at hto
 generalize in23 d (1 + f % 3) = t at *
 generalize Zae d = m at *
 have e0 : decide ((0 : Int) = 0) = true := rfl
 have e1 : decide ((0 : Int) < (t.zones.length : Int)) = true := decide_eq_true (by omega)
 refine Zaa Tryz.func15 rfl rfl rfl rfl ?_
 repeat (first | (apply RL_pu; rfl; exact Zpr) | (apply RD_Q; rfl; rfl; decide +kernel; rfl; rfl; exact ZuV) | refine walk1 ?_ | (refine jg ?_; (try intro F); (first | (apply Zac (h := fun w' hw _ => hmd w' hw); rfl; rintro v O' ⟨Rm, rm, Zm, zm, Lm, lm, Hm, hm, Qm, Fm, rfl, hZm, rfl⟩) | (apply Zac (h := fun w' hw hO => hto Rm Zm Lm Hm rm zm lm hm w' hw (Zb2 hZm (hO.of (A := rowR Rm rm m.rules) (by repeat' constructor)) (hO.of (A := rowZ Zm zm Qm) (by repeat' constructor)) (hO.of (A := rowL Lm lm m.links) (by repeat' constructor)) (hO.of (A := rowS Hm hm m.shifts) (by repeat' constructor)) (hO.of (A := .fact Fm (Zax Qm)) (by repeat' constructor)))); rfl; rintro v O' ⟨u, rfl, Ra, ra, Za, za, La, la, Ha, ha, Qa, Fa, rfl, hZa, rfl⟩) | (refine bx ?_; intro bk) | (refine stA ?_)); first | refine ⟨_, EndsA, Zu5, ?_⟩ | refine fin ?_) | (refine jn ?_; (try intro F); (first | (refine bx ?_; intro bk) | (refine stA ?_) | (apply Zag; first | exact Zpr | exact PuA)); first | refine ⟨_, EndsA, Zu5, ?_⟩ | refine fin ?_) | (apply RD_W; rfl; intro bk))
 exact ret_2 _ _ [rowR Ra ra t.rules, rowZ Za za Qa, rowL La la t.links, rowS Ha ha t.shifts, .fact Fa (Zax Qa)] (.cellB rfl (by repeat' constructor) rfl rfl) (.tmp rfl) SOA ⟨_, rfl, Ra, ra, Za, za, La, la, Ha, ha, Qa, Fa, rfl, hZa, rfl⟩
end Go.Proofs.YtbjomhdhkpgbaaaGreatDoor
set_option maxHeartbeats 4000000
set_option maxRecDepth 20000
namespace Go.Proofs.YtbjomhdhkpgbaaaGreatDoor
open Go Go.RowKit Go.Wk
attribute [local irreducible] W RL Does Zap Zak retQ Calls Pu Stp RD Qy Ay Zal RLI WI
end Go.Proofs.YtbjomhdhkpgbaaaGreatDoor
namespace Go.Proofs.YtbjomhdhkpgbaaaGreatDoor
open Go Go.RowKit Go.Wk
attribute [local irreducible] W RL Does Zap Zak retQ Calls Pu Stp RD Qy Ay Zal
end Go.Proofs.YtbjomhdhkpgbaaaGreatDoor
namespace Go.Proofs.YtbjomhdhkpgbaaaGreatDoor
open Go Go.RowKit Go.Wk
end Go.Proofs.YtbjomhdhkpgbaaaGreatDoor
set_option maxHeartbeats 4000000
namespace Go.Proofs.YtbjomhdhkpgbaaaGreatDoor
open Go Go.RowKit Go.Wk
attribute [local irreducible] W RL Does Zap Zak retQ Calls Pu Stp RD Qy Ay Zal RLI WI
end Go.Proofs.YtbjomhdhkpgbaaaGreatDoor
namespace Go.Proofs.YtbjomhdhkpgbaaaGreatDoor
open Go Go.RowKit Go.Wk
theorem Zrc {X : ByteArray -> Int} {e : DEra} (h : e.kind ≠ 2) : yE X e = 0 := if_neg h
theorem ZpJ {X : ByteArray -> Int} {e : DEra} (h : e.kind = 2) : yE X e = X e.set := if_pos h
theorem ZpU {rs : List DRule} {e : DEra} (h : e.kind ≠ 2) : Zaz rs e = [] := if_neg h
theorem Zf2 {rs : List DRule} {e : DEra} (h : e.kind = 2) : Zaz rs e = ofB rs e.set := if_pos h
theorem ZqL {e : DEra} {l : List DRule} (h : -10800 <= Zai l) (h0 : e.kind ≠ 2 -> l = []) : Go.Wk.bsE e l = Zai l := by
 unfold Go.Wk.bsE
 split
 ·omega
 ·rw [h0 ‹_›]
  rfl
section
variable {X : ByteArray -> Int} {rs : List DRule} {e : DEra} {b : Bool} (h : E9 X rs e b) {G : DEra -> ByteArray} (g : TrOk X G rs e)
include h g
theorem E9.ends (hi : e.til.is = true) : ZaJ (trE X G e).til (Go.Wk.bsE (trE X G e) (ruEr (rs.map (trR X)) (trE X G e))) = ZaJ e.til (Go.Wk.bsE e (ruEr rs e)) /\ endB (trE X G e) (ruEr (rs.map (trR X)) (trE X G e)) = endB e (ruEr rs e) + yE X e /\ endT (trE X G e) (ruEr (rs.map (trR X)) (trE X G e)) = endT e (ruEr rs e) := by
 have s := g.sh
 have t := g.til
 have l := g.least
 have b1 : Go.Wk.bsE e (ruEr rs e) = Zai (Zaz rs e) := ZqL s.lo.1 fun hk => ZpU hk
 have b2 : Go.Wk.bsE (trE X G e) (ruEr (rs.map (trR X)) (trE X G e)) = Zai (Zaz (rs.map (trR X)) (trE X G e)) := ZqL (by
  show -10800 <= Zai (Zaz (rs.map (trR X)) (trE X G e))
  rw [l]
  exact s.lo'.1) fun hk => ZpU hk
 have hb : endB (trE X G e) (ruEr (rs.map (trR X)) (trE X G e)) = endB e (ruEr rs e) + yE X e := by
  unfold endB
  rw [b1, b2, t.2]
  unfold bfE
  rcases h.kind with hk | hk | hk
  ·rw [if_neg (show ¬ (trE X G e).kind = 1 by show ¬ e.kind = 1; omega), if_neg (show ¬ (trE X G e).kind = 2 by show ¬ e.kind = 2; omega), if_neg (by omega), if_neg (by omega), Zrc (by omega)]
   rfl
  ·rw [if_pos (show (trE X G e).kind = 1 from hk), if_pos hk, Zrc (by omega), Int.add_zero]
   rfl
  ·rw [if_neg (show ¬ (trE X G e).kind = 1 by show ¬ e.kind = 1; omega), if_pos (show (trE X G e).kind = 2 from hk), if_neg (by omega), if_pos hk]
   have hd := (h.set hk).sh
   have e1 : ruEr (rs.map (trR X)) (trE X G e) = (ofB rs e.set).map (shR (X e.set)) := by
    show Zaz (rs.map (trR X)) (trE X G e) = _
    rw [Ze7, Zf2 hk, ZpJ hk]
   have e2 : ruEr rs e = ofB rs e.set := Zf2 hk
   rw [e1, e2, ZpJ hk, hd.shl.befS hd.ini]
 refine ⟨by rw [b1, b2]; exact t.1, hb, ?_⟩
 have ht : (trE X G e).til = { e.til with at_ := mvC e.til.at_ (yE X e) } := by
  show shU e.til (yE X e) = _
  unfold shU
  rw [if_pos hi]
 unfold endT
 rw [hb, ht, show (trE X G e).off = e.off - yE X e from rfl]
 dsimp only
 unfold mvC
 by_cases hb1 : e.til.at_.base = 1
 ·rw [if_pos hb1]
  dsimp only
  rw [if_neg (by omega), if_pos hb1, if_neg (by omega), if_pos hb1]
  omega
 ·simp only [if_neg hb1]
  split
  ·omega
  ·rfl
end
theorem E9.state {X : ByteArray -> Int} {rs : List DRule} {e : DEra} {b : Bool} (h : E9 X rs e b) (G : DEra -> ByteArray) (t : Int) : Zer (rs.map (trR X)) (trE X G e) t = ((Zer rs e t).1 + yE X e, (Zer rs e t).2) := by
 unfold Zer
 rcases h.kind with hk | hk | hk
 ·rw [if_pos (show (trE X G e).kind = 0 from hk), if_pos hk, Zrc (by omega)]
  rfl
 ·rw [if_neg (show ¬ (trE X G e).kind = 0 by show ¬ e.kind = 0; omega), if_pos (show (trE X G e).kind = 1 from hk), if_neg (by omega), if_pos hk, Zrc (by omega), Int.add_zero]
  rfl
 ·rw [if_neg (show ¬ (trE X G e).kind = 0 by show ¬ e.kind = 0; omega), if_neg (show ¬ (trE X G e).kind = 1 by show ¬ e.kind = 1; omega), if_neg (by omega), if_neg (by omega)]
  have hd := (h.set hk).sh
  have := hd.shl.atS hd.ini e.off t
  rw [show (trE X G e).set = e.set from rfl, Zhj, show (trE X G e).off = e.off - yE X e from rfl, ZpJ hk]
  exact this
theorem ZqO {l : List DRule} {e : Zaf} (he : EvOf l e) : behS l e ∈ l.map fun r => (r.save, r.letter) := by
 obtain ⟨r, hr⟩ := he.at
 unfold behS ruE
 rw [List.getD_eq_getElem?_getD, hr]
 exact List.mem_map.2 ⟨r, List.mem_of_getElem? hr, rfl⟩
theorem ZxZ {l : List DRule} (hi : fstD l true 0 ≠ none) : iniS l ∈ l.map fun r => (r.save, r.letter) := by
 unfold iniS
 cases he : fstD l true 0 with
 | none => exact absurd he hi
 | some e =>
  dsimp only
  cases ho : fstD l false (ruE l e).save with
  | none => exact ZqO (Zk5 he)
  | some o => exact ZqO (Zk5 ho)
theorem Zzw {l : List DRule} (hi : fstD l true 0 ≠ none) (n : Int) : befS l n ∈ l.map fun r => (r.save, r.letter) := by
 unfold befS
 cases hb : befD l n with
 | none => exact ZxZ hi
 | some e => exact ZqO (Zlo hb).1
theorem ZuC {l : List DRule} (hi : fstD l true 0 ≠ none) (off t : Int) : ∀ (k : Nat) (n : Int), atGo l off t k n ∈ l.map fun r => (r.save, r.letter)
 | 0, n => Zzw hi n
 | k + 1, n => by
  rw [atGo]
  cases hb : befD l n with
  | none => exact ZxZ hi
  | some e =>
   dsimp only
   split
   ·exact ZqO (Zlo hb).1
   ·exact ZuC hi off t k _
theorem E9.stIn {X : ByteArray -> Int} {rs : List DRule} {e : DEra} {b : Bool} (h : E9 X rs e b) (t : Int) : Zer rs e t ∈ ZaD rs e := by
 unfold Zer ZaD
 rcases h.kind with hk | hk | hk
 ·rw [if_pos hk, if_neg (by omega), if_neg (by omega)]
  exact List.mem_singleton.2 rfl
 ·rw [if_neg (show ¬ e.kind = 0 by omega), if_pos hk, if_pos hk]
  exact List.mem_singleton.2 rfl
 ·rw [if_neg (show ¬ e.kind = 0 by omega), if_neg (show ¬ e.kind = 1 by omega), if_neg (show ¬ e.kind = 1 by omega), if_pos hk, Zf2 hk]
  exact ZuC (h.set hk).sh.ini _ _ _ _
theorem E9.dst {X : ByteArray -> Int} {rs : List DRule} {e : DEra} {b : Bool} (h : E9 X rs e b) (t : Int) : (!decide ((Zer rs e t).1 + yE X e = 0)) = ((!decide ((Zer rs e t).1 = 0)) != !decide (yE X e = 0)) := by
 rcases h.y with hy | ⟨hy, hk⟩
 ·rw [hy, Int.add_zero]
  simp
 ·have hm := h.stIn t
  unfold ZaD at hm
  rw [if_neg (by omega), if_pos hk, Zf2 hk] at hm
  obtain ⟨r, hr, he⟩ := List.mem_map.1 hm
  have hx : X e.set = 3600 := (ZpJ (X := X) hk).symm.trans hy
  rcases (h.set hk).sh.x with h0 | ⟨_, hs⟩
  ·omega
  ·have hs := hs r hr
   have h1 : (Zer rs e t).1 = r.save := (congrArg Prod.fst he).symm
   rw [h1, hy]
   rcases hs with hs | hs <;> rw [hs] <;> rfl
section
variable {X : ByteArray -> Int} {rs : List DRule} {e : DEra} {b : Bool} (h : E9 X rs e b) {G : DEra -> ByteArray} (g : TrOk X G rs e)
include h g
end
theorem ZsW {X : ByteArray -> Int} {G : DEra -> ByteArray} {rs : List DRule} : ∀ (l : List DEra) (st : Int) (i : Nat), (∀ k e, l[k]? = some e -> k + 1 < l.length -> endT (trE X G e) (ruEr (rs.map (trR X)) (trE X G e)) = endT e (ruEr rs e)) -> spGo (rs.map (trR X)) (l.map (trE X G)) st i = spGo rs l st i
 | [], _, _, _ => rfl
 | [_], _, _, _ => rfl
 | e :: f :: l, st, i, h => by
  have h0 := h 0 e rfl (by simp)
  have ih := ZsW (f :: l) (endT e (ruEr rs e)) (i + 1) fun k g hg hl => h (k + 1) g hg (by simp only [List.length_cons] at hl ⊢; omega)
  rw [List.map_cons, List.map_cons, spGo, spGo, h0]
  rw [List.map_cons] at ih
  rw [ih]
structure InF (d : DD23) (f : Int) (X : ByteArray -> Int) (G : DEra -> ByteArray) (sh : List ByteArray) : Prop where
 eq : in23 d f = trS X G sh (Zae d)
 ok : ShOk d X
 tr : ∀ z ∈ (Zae d).zones, ∀ e ∈ z.eras, TrOk X G (Zae d).rules e
 mem : ∀ n, memB n sh = !decide (X n = 0)
theorem ZxL (e : DEra) : trE (fun _ => 0) DEra.format e = e := by rw [ZyJ]
theorem ZdP (d : DD23) (f : Int) : ∃ X G sh, InF d f X G sh := by
 have tr0 : ∀ z ∈ (Zae d).zones, ∀ e ∈ z.eras, TrOk (fun _ => 0) (outF (fun _ => 0) (Zae d).rules) (Zae d).rules e := fun z hz e he => by
  obtain ⟨b, hb⟩ := (ShOk.none d).e9 hz he
  exact hb.tr
 have m0 : ∀ n, memB n ([] : List ByteArray) = !decide ((0 : Int) = 0) := fun n => rfl
 by_cases h1 : f = 1
 ·refine ⟨fun _ => 0, DEra.format, [], ?_, ShOk.none d, fun z hz e he => ?_, m0⟩
  ·unfold in23
   rw [if_pos h1]
   unfold trS
   rw [ZyI]
   have hz : (Zae d).zones.map (Za5 (trE (fun _ => 0) DEra.format)) = (Zae d).zones := by
    refine (List.map_congr_left fun z _ => ?_).trans (List.map_id _)
    unfold Za5
    rw [(List.map_congr_left fun e _ => ZxL e : z.eras.map (trE (fun _ => 0) DEra.format) = z.eras.map id), List.map_id]
    rfl
   rw [hz]
   rfl
  ·obtain ⟨b, hb⟩ := (ShOk.none d).e9 hz he
   have q := hb.tr
   have y0 : yE (fun _ => 0) e = 0 := by unfold yE; split <;> rfl
   refine ⟨q.sh, q.clk, q.off, ?_, fun x hx => ?_⟩
   ·rw [ZxL, y0, show (Zaz (Zae d).rules e).map (shR 0) = Zaz (Zae d).rules e from (List.map_congr_left fun r _ => Zia r).trans (List.map_id _)]
    exact Zd9 hb.chk
   ·rw [y0, Int.sub_zero, Int.add_zero]
 by_cases h2 : f = 2
 ·refine ⟨fun _ => 0, _, [], ?_, ShOk.none d, tr0, m0⟩
  unfold in23
  rw [if_neg h1, if_pos h2]
  rfl
 ·obtain ⟨s1, s2, s3⟩ := Zib d
  refine ⟨X23 d, outF (X23 d) (Zae d).rules, sh23 d, ?_, ShOk.all d, fun z hz e he => ?_, fun n => ?_⟩
  ·unfold in23
   rw [if_neg h1, if_neg h2]
   rfl
  ·obtain ⟨b, hb⟩ := (ShOk.all d).e9 hz he
   exact hb.tr
  ·cases hm : memB n (sh23 d) with
   | true => rw [decide_eq_false (s1 n ((ZcX _ _).1 hm))]; rfl
   | false =>
    rw [decide_eq_true]
    ·rfl
    ·exact Decidable.byContradiction fun hh => by
      rw [(ZcX _ _).2 (ZkN hh)] at hm
      cases hm
section
variable {d : DD23} {f : Int} {X : ByteArray -> Int} {G : DEra -> ByteArray} {sh : List ByteArray} (h : InF d f X G sh)
include h
theorem InF.zone {i : Nat} {z : ZaX} (hz : (Zae d).zones[i]? = some z) : (in23 d f).zones[i]? = some (Za5 (trE X G) z) := by
 rw [h.eq]
 show ((Zae d).zones.map _)[i]? = _
 rw [List.getElem?_map, hz]
 rfl
theorem InF.endT {z : ZaX} (hz : z ∈ (Zae d).zones) {k : Nat} {e : DEra} (he : z.eras[k]? = some e) (hk : k + 1 < z.eras.length) : UnOk (trE X G e) (ruEr (in23 d f).rules (trE X G e)) /\ Go.Wk.endT (trE X G e) (ruEr (in23 d f).rules (trE X G e)) = Go.Wk.endT e (ruEr (Zae d).rules e) := by
 obtain ⟨Y, hY⟩ := Zbw d z hz
 obtain ⟨_, u⟩ := hY.un k e he hk
 have hm := List.mem_of_getElem? he
 obtain ⟨b, hb⟩ := h.ok.e9 hz hm
 have hi : e.til.is = true := by
  cases hi : e.til.is with
  | true => rfl
  | false =>
   have := u.c
   unfold ZaJ at this
   split at this
   ·cases this
   ·cases this
 obtain ⟨q1, q2, q3⟩ := hb.ends (h.tr z hz e hm) hi
 rw [h.eq]
 refine ⟨⟨u.k, ?_, u.s, q1.trans u.c, ?_⟩, q3⟩
 ·have := hb.offs
  have := hb.y
  exact Zgh (show -604799 <= e.off - yE X e /\ e.off - yE X e <= 604799 by omega)
 ·rw [show (trS X G sh (Zae d)).rules = (Zae d).rules.map (trR X) from rfl, q2]
  have := hb.dr.bf (ZaO e.til (Go.Wk.bsE e (ruEr (Zae d).rules e))).1
  have := hb.y
  unfold endB
  exact Zgh (by omega)
theorem InF.sp {z : ZaX} (hz : z ∈ (Zae d).zones) : Zwf (in23 d f).rules (Za5 (trE X G) z).eras = Zwf (Zae d).rules z.eras := by
 have hE := fun k e he hk => (h.endT hz (k := k) (e := e) he hk).2
 rw [h.eq] at hE ⊢
 exact ZsW z.eras _ 0 hE
theorem InF.era {z : ZaX} (hz : z ∈ (Zae d).zones) (t : Int) : Zzk (in23 d f).rules (Za5 (trE X G) z).eras t = Zzk (Zae d).rules z.eras t := by
 unfold Zzk
 rw [h.sp hz]
end
structure KpR (f : Int) (x y : DRule) : Prop where
 base : x.at_.base ≠ 1 -> y.at_ = x.at_
 same : { y with save := x.save, at_ := ⟨x.at_.sec, y.at_.base⟩ } = x
 pos : f = 3 -> 0 <= y.save
structure KpE (f : Int) (x y : DEra) : Prop where
 fmt : f ≠ 1 -> y.format ≠ pctB
 til : x.til.at_.base ≠ 1 -> y.til = x.til
 off : x.kind ≠ 2 -> y.off = x.off
 same : { y with off := x.off, format := x.format, til := { y.til with at_ := ⟨x.til.at_.sec, y.til.at_.base⟩ } } = x
theorem Zgb (c : DClock) (x : Int) : (mvC c x).base = c.base := by unfold mvC; split <;> rfl
theorem Zqb {c : DClock} (h : c.base ≠ 1) (x : Int) : mvC c x = c := if_neg h
theorem ZrN (d : DD23) (f g : Int) {i : Nat} {x : DRule} (hg : g = 1 \/ g = 2 \/ g = 3) (hx : (in23 d f).rules[i]? = some x) : ∃ y, (in23 d g).rules[i]? = some y /\ KpR g x y := by
 obtain ⟨X, G, sh, hF⟩ := ZdP d f
 obtain ⟨X2, G2, sh2, hG⟩ := ZdP d g
 rw [hF.eq] at hx
 have hx : ((Zae d).rules.map (trR X))[i]? = some x := hx
 rw [List.getElem?_map] at hx
 obtain ⟨r, hr, rfl⟩ := Option.map_eq_some_iff.1 hx
 have hy : (in23 d g).rules[i]? = some (trR X2 r) := by
  rw [hG.eq]
  show ((Zae d).rules.map (trR X2))[i]? = _
  rw [List.getElem?_map, hr]
  rfl
 refine ⟨_, hy, fun hb => ?_, ?_, fun h3 => ?_⟩
 ·have hb : r.at_.base ≠ 1 := by
   have e : (trR X r).at_.base = r.at_.base := Zgb _ _
   rwa [e] at hb
  show mvC r.at_ _ = mvC r.at_ _
  rw [Zqb hb, Zqb hb]
 ·unfold trR shR
  dsimp only
  rw [Zgb]
  have : (⟨(mvC r.at_ (X r.name)).sec, r.at_.base⟩ : DClock) = mvC r.at_ (X r.name) := by
   rw [<- Zgb r.at_ (X r.name)]
  rw [this]
 ·subst h3
  exact Zp2 _ (List.mem_of_getElem? hy)
theorem Zzg {d : DD23} {g : Int} (hg : g ≠ 1) {z : ZaX} (hz : z ∈ (in23 d g).zones) {e : DEra} (he : e ∈ z.eras) : e.format ≠ pctB := fun hh => by
 have key : ZaK e.format.data.toList ≠ 4 := by
  unfold in23 at hz
  rw [if_neg hg] at hz
  split at hz
  ·exact ZhH (ShOk.none d) z hz e he
  ·exact ZhH (ShOk.all d) z hz e he
 rw [hh] at key
 exact key (by decide)
theorem ZpT (u : DUntil) (x : Int) : (shU u x).at_.base = u.at_.base := by
 unfold shU
 split
 ·exact Zgb _ _
 ·rfl
theorem ZrM (d : DD23) (f g : Int) {i : Nat} {za : ZaX} (hza : (in23 d f).zones[i]? = some za) : ∃ zb : ZaX, (in23 d g).zones[i]? = some zb /\ zb.name = za.name /\ zb.eras.length = za.eras.length /\ ∀ (k : Nat) (x : DEra), za.eras[k]? = some x -> ∃ y : DEra, zb.eras[k]? = some y /\ KpE g x y := by
 obtain ⟨X, G, sh, hF⟩ := ZdP d f
 obtain ⟨X2, G2, sh2, hG⟩ := ZdP d g
 have hm := hza
 rw [hF.eq] at hm
 have hm : ((Zae d).zones.map (Za5 (trE X G)))[i]? = some za := hm
 rw [List.getElem?_map] at hm
 obtain ⟨z, hz, rfl⟩ := Option.map_eq_some_iff.1 hm
 have hzb := hG.zone hz
 refine ⟨_, hzb, rfl, by show (z.eras.map _).length = (z.eras.map _).length; rw [List.length_map, List.length_map], fun k x hx => ?_⟩
 have hx : (z.eras.map (trE X G))[k]? = some x := hx
 rw [List.getElem?_map] at hx
 obtain ⟨e, he, rfl⟩ := Option.map_eq_some_iff.1 hx
 have hy : (Za5 (trE X2 G2) z).eras[k]? = some (trE X2 G2 e) := by
  show (z.eras.map (trE X2 G2))[k]? = _
  rw [List.getElem?_map, he]
  rfl
 refine ⟨_, hy, fun hg => Zzg hg (List.mem_of_getElem? hzb) (List.mem_of_getElem? hy), fun hb => ?_, fun hk => ?_, ?_⟩
 ·have hb : e.til.at_.base ≠ 1 := by
   have q : (trE X G e).til.at_.base = e.til.at_.base := ZpT _ _
   rwa [q] at hb
  show shU e.til _ = shU e.til _
  unfold shU
  rw [Zqb hb, Zqb hb]
 ·have hk : e.kind ≠ 2 := hk
  show e.off - yE X2 e = e.off - yE X e
  rw [Zrc hk, Zrc hk]
 ·unfold trE
  dsimp only
  congr 1
  rw [ZpT]
  unfold shU
  by_cases hi : e.til.is = true
  ·rw [if_pos hi, if_pos hi]
   dsimp only
   congr 1
   rw [<- Zgb e.til.at_ (yE X e)]
  ·rw [if_neg hi, if_neg hi]
theorem Zw2 (d : DD23) (f g : Int) : (in23 d f).rules.length = (in23 d g).rules.length /\ (in23 d f).zones.length = (in23 d g).zones.length /\ (in23 d f).links = (in23 d g).links := by
 obtain ⟨X, G, sh, hF⟩ := ZdP d f
 obtain ⟨X2, G2, sh2, hG⟩ := ZdP d g
 rw [hF.eq, hG.eq]
 unfold trS
 dsimp only
 rw [List.length_map, List.length_map, List.length_map, List.length_map]
 exact ⟨rfl, rfl, rfl⟩
theorem Zov (d : DD23) {g : Int} (hg : g ≠ 3) (h : g = 1 \/ g = 2 \/ g = 3) : (in23 d g).shifts = [] := by
 unfold in23
 split
 ·rfl
 ·rw [if_pos (by omega)]
  rfl
end Go.Proofs.YtbjomhdhkpgbaaaGreatDoor
set_option maxHeartbeats 8000000
namespace Go.Wk
open Go Go.RowKit
theorem Zlz {P : Program} {n : Nat} {wr : World} {fr : Fr} {O : List It} {ty t t' : TypeId} {α : Type} [DecidableEq α] {enc : α -> List Value} {x y : Operand} {i j : α} {b : Bool} [hE : EqE P t α enc] (hx : ev fr x = some (.agg (enc i).toArray)) (hy : ev fr y = some (.agg (enc j).toArray)) (h : (!decide (i = j)) = b) :
  Pu P n wr fr O (.binOp .neq t x y t') ty (.bool b) := h ▸ Pu_neqE hx hy
end Go.Wk
namespace Go.Proofs.YtbjomhdhkpgbaaaGreatDoor
open Go Go.RowKit Go.Wk
instance : EqE Tryz.prog 50 DClock DClock.enc where
 h r s w := by
  unfold DClock.enc
  simp [go_sem, Zco]
  rcases r with ⟨_, _⟩
  rcases s with ⟨_, _⟩
  simp only [Zij, Result.ok.injEq, and_true]
  rw [Bool.eq_iff_iff]
  simp [and_assoc]
 g := by kernel_rfl
attribute [local irreducible] W RL Does Zap Zak retQ Calls Pu Stp RD Qy Ay Zal RW Zae in23
theorem Zvo {G : Prop} (h : G := by (first | (apply Pu_remE; rfl; rfl; omega; decide) | (apply Zq0; rfl; exact hcv))) : G := h
theorem Zhb {G : Prop} (h : G := by (apply ZaG; rfl; rfl; first | exact e0 | exact c1 | exact c2 | exact c4 | exact c5)) : G := h
theorem Zpq {G : Prop} (h : G := by (first | (apply Zav; rfl; rfl; omega; omega; (intro w' _ hO; first | exact Za6 (hO.of (A := rowR Ra ra a.rules) (by repeat' constructor)) (by omega) | exact Za6 (hO.of (A := rowR Rb rb b.rules) (by repeat' constructor)) (by omega))) | (apply Za2 (vs := [.string nm, .int .i64 fr, .int .i64 to, .int .i64 mo, .int .i64 dk, .int .i64 dw, .int .i64 dd, .int .i64 sc, .int .i64 ba, .int .i64 sv, .string lt]); rfl; (focus repeat' constructor); exact hgx; rfl) | (apply Za2 (vs := [.string nm, .int .i64 fr, .int .i64 to, .int .i64 mo, .int .i64 dk, .int .i64 dw, .int .i64 dd, .int .i64 sc2, .int .i64 ba, .int .i64 sv2, .string lt]); rfl; (focus repeat' constructor); exact hgy; rfl) | (apply Za2 (vs := [.string nm, .int .i64 fr, .int .i64 to, .int .i64 mo, .int .i64 dk, .int .i64 dw, .int .i64 dd, .int .i64 sc, .int .i64 ba, .int .i64 sv2, .string lt]); rfl; (focus repeat' constructor); exact hgy; rfl) | (apply ZcM; rfl; (focus repeat' constructor); exact hgy 9 _ rfl) | (apply ZaG; rfl; rfl; first | exact e1 | exact c4) | (apply Zlz (i := (⟨sc, ba⟩ : DClock)) (j := ⟨sc, ba⟩) (enc := DClock.enc); rfl; rfl; exact n0) | (apply Zlz (i := (⟨nm, fr, to, mo, ⟨dk, dw, dd⟩, ⟨sc, ba⟩, sv, lt⟩ : DRule)) (j := ⟨nm, fr, to, mo, ⟨dk, dw, dd⟩, ⟨sc, ba⟩, sv, lt⟩) (enc := DRule.enc); rfl; rfl; exact n1) | (apply ZaH; rfl; rfl; exact e3) | (apply Zbt; rfl; rfl; exact e2))) : G := h
theorem ZuU {G : Prop} (h : G := by first | (apply Qy_y; rfl; exact Zpq) | exact QyA) : G := h
theorem Zjj {G : Prop} (h : G := by repeat (first | exact QF.nil | (apply QF.mk; rfl; rfl; decide +kernel; exact ZuU))) : G := h
theorem ZkB {G G' : Prop} (k : G') (h : Hold G' -> G := by intro k9; (first | refine und ?_ | (apply RL_pu; rfl; exact Zpq) | (apply RD_Q; rfl; rfl; decide +kernel; rfl; rfl; exact ZuU) | refine walk1 ?_ | (refine jn ?_; (try intro F); (first | (refine stA ?_) | (apply Zag; first | exact Zpq | exact PuA)); first | refine ⟨_, EndsA, Zjj, ?_⟩ | refine fin ?_)); exact k9.out) : G := h ⟨k⟩
theorem Zpp {G : Prop} (h : G := by (first | (apply Zav; rfl; rfl; omega; omega; (intro w' _ hO; first | exact Za6 (hO.of (A := rowZ Za za Qa) (by repeat' constructor)) (by omega) | exact Za6 (hO.of (A := rowZ Zb zb Qb) (by repeat' constructor)) (by omega))) | (apply Za2 (vs := [.string p.z.name, .slice p.A p.z.eras.length p.c]); rfl; (focus repeat' constructor); exact hgp; rfl) | (apply ZcM; rfl; (focus repeat' constructor); first | exact hq0 | exact hq1) | (apply ZhS; rfl; rfl; exact e5) | (apply ZaG; rfl; rfl; exact e6))) : G := h
theorem ZzJ {G : Prop} (h : G := by first | (apply Qy_y; rfl; exact Zpp) | exact QyA) : G := h
theorem Zvn {G : Prop} (h : G := by (first | (apply Zav; rfl; rfl; omega; omega; (intro w' _ hO; first | exact Za6 (hO.of (A := rowZ Za za Qa) (by repeat' constructor)) (by omega) | exact Za6 (hO.of (A := rowZ Zb zb Qb) (by repeat' constructor)) (by omega))) | (apply Zav; rfl; rfl; omega; omega; (intro w' _ hO; first | exact (((Za1 (S := Fa) (p := Zax Qa) (hO.of (by repeat' constructor))) p hpm).rd j _ hex).1 | exact (((Za1 (S := Fb) (p := Zax Qb) (hO.of (by repeat' constructor))) q hqm).rd j _ hey).1)) | (apply Za2 (vs := [.string p.z.name, .slice p.A p.z.eras.length p.c]); rfl; (focus repeat' constructor); exact hgp; rfl) | (apply ZcM; rfl; (focus repeat' constructor); first | exact hq0 | exact hq1) | (apply Zem (cs := [.int .i64 of, .int .i64 kd, .int .i64 sv, .string st, .string fm, .bool is, .int .i64 yr, .int .i64 mo, .int .i64 dk, .int .i64 dw, .int .i64 dd, .int .i64 sc, .int .i64 ba]); rfl; rfl; (intro w' _ hO; exact (((Za1 (S := Fa) (p := Zax Qa) (hO.of (by repeat' constructor))) p hpm).rd j _ hex).2)) | (apply Zem (cs := [.int .i64 of2, .int .i64 kd, .int .i64 sv, .string st, .string fm2, .bool is, .int .i64 yr, .int .i64 mo, .int .i64 dk, .int .i64 dw, .int .i64 dd, .int .i64 sc2, .int .i64 ba]); rfl; rfl; (intro w' _ hO; exact (((Za1 (S := Fb) (p := Zax Qb) (hO.of (by repeat' constructor))) q hqm).rd j _ hey).2)) | (apply Zen; rfl; rfl; exact e7))) : G := h
theorem Zpo {G : Prop} (h : G := by (first | (apply ZaG; rfl; rfl; first | exact e1 | exact e8 | exact e9 | exact e10) | (apply Zlz (i := (⟨is, yr, mo, ⟨dk, dw, dd⟩, ⟨sc, ba⟩⟩ : DUntil)) (j := ⟨is, yr, mo, ⟨dk, dw, dd⟩, ⟨sc, ba⟩⟩) (enc := DUntil.enc); rfl; rfl; exact n2) | (apply Zlz (i := (⟨of, kd, sv, st, fm, ⟨is, yr, mo, ⟨dk, dw, dd⟩, ⟨sc, ba⟩⟩⟩ : DEra)) (j := ⟨of, kd, sv, st, fm, ⟨is, yr, mo, ⟨dk, dw, dd⟩, ⟨sc, ba⟩⟩⟩) (enc := DEra.enc); rfl; rfl; exact n3))) : G := h
theorem ZuT {G : Prop} (h : G := by first | (apply Qy_y; rfl; exact Zpo) | exact QyA) : G := h
theorem ZdG {G : Prop} (h : G := by repeat (first | exact QF.nil | (apply QF.mk; rfl; rfl; decide +kernel; exact ZuT))) : G := h
theorem ZdX {G G' : Prop} (k : G') (h : Hold G' -> G := by intro k9; (first | refine und ?_ | (apply RL_pu; rfl; exact Zpo) | (apply RD_Q; rfl; rfl; decide +kernel; rfl; rfl; exact ZuT) | refine walk1 ?_ | (refine jn ?_; (try intro F); (first | (refine stA ?_) | (apply Zag; first | exact Zpo | exact PuA)); first | refine ⟨_, EndsA, ZdG, ?_⟩ | refine fin ?_)); exact k9.out) : G := h ⟨k⟩
set_option maxRecDepth 20000 in
theorem ZfI (As Az Al : Option Addr) (cs cz cl : Nat) (d : DD23) (f s : Int) (w : World) (hL : LibW w) (hG : Glob w) (hS : RdLL w As cs Zdt 1 d.sets) (hZ : RdLL w Az cz E23.enc 8 d.zones) (hD : RdSl w Al cl Zdt 1 d.links) (hrs : ∀ l ∈ d.sets, ∀ x ∈ l, inR .u8 x) (hrz : ∀ l ∈ d.zones, ∀ x ∈ l, x.ok) (hrl : ∀ x ∈ d.links, inR .u8 x) (hf : inR .u8 f) (hs : inR .u8 s) :
  Does Tryz.prog 6 [d23V As Az Al cs cz cl d, .int .u8 f, .int .u8 s] w (fun v O => v = .bool true /\ O = []) := by
 have hwk := fun w' (hw : Bel w.heap.size w w') => Zhi w' (hL.up hw) (hG.up hw)
 have hin := fun w' (hw : Bel w.heap.size w w') => ZtW As Az Al cs cz cl d f w' (hL.up hw) (hG.up hw) (hS.up hw) (hZ.up hw) (hD.up hw) hrs hrz hrl hf
 rw [Zj4] at hs
 have hform : 1 + s % 3 = 1 \/ 1 + s % 3 = 2 \/ 1 + s % 3 = 3 := by omega
 have hto := fun R Z L H r z l h w' (hw : Bel w.heap.size w w') => toIn R Z L H r z l h d (1 + f % 3) (1 + s % 3) w' (hL.up hw) (hG.up hw) hform
 have hac := fun R Z L H r z l h w' (hw : Bel w.heap.size w w') (hA : Zaj w' R Z L H r z l h (in23 d (1 + s % 3))) => ZwZ R Z L H r z l h (in23 d (1 + s % 3)) (1 + s % 3) w' ((ZhL d (1 + s % 3)).acc (hL.up hw) (hG.up hw) hA)
 simp only [Zzf d (show 1 <= 1 + s % 3 /\ 1 + s % 3 <= 3 by omega)] at hac
 have hcv : IntKind.i64.wrap (s % 3) = s % 3 := ZbU (by omega)
 have hrule := fun i x => ZrN d (1 + f % 3) (1 + s % 3) (i := i) (x := x) hform
 have hzone := fun i z => ZrM d (1 + f % 3) (1 + s % 3) (i := i) (za := z)
 obtain ⟨hl1, hl2, hl3⟩ := Zw2 d (1 + f % 3) (1 + s % 3)
 have hsh : 1 + s % 3 ≠ 3 -> (in23 d (1 + s % 3)).shifts = [] := fun h => Zov d h hform
 have hsm := ZhL d (1 + f % 3)
 unfold ZAT at hin
 unfold ToS at hto
 simp only [plV, ptV, Zao.enc] at hto hac
 generalize in23 d (1 + f % 3) = a at *
 generalize in23 d (1 + s % 3) = b at *
 have heq : ∀ (La Lb : Option Addr) (la lb : Nat) (w' : World), RdSl w' La la DLink.enc 2 a.links -> RdSl w' Lb lb DLink.enc 2 b.links -> Does Tryz.prog 17 [.slice La a.links.length la, .slice Lb b.links.length lb] w' (fun v O => v = .bool true /\ O = []) := fun La Lb la lb w' h1 h2 => by
  have := ZfS La Lb la lb a.links b.links w' h1 h2
  rwa [decide_eq_true hl3] at this
 obtain ⟨g, hg⟩ : ∃ g, 1 + s % 3 = g := ⟨_, rfl⟩
 simp only [hg] at hto hac
 rw [hg] at hform hsh hrule hzone
 have hnr := hsm.nr
 have hnz := hsm.nz
 have hns : ∀ z ∈ a.zones, z.eras.length <= 100 := fun z hz => (hsm.zs z hz).2.1
 have e0 : (!decide ((0 : Int) = 0)) = false := rfl
 have c1 : (!decide ((a.rules.length : Int) = (b.rules.length : Int))) = false := by rw [hl1, decide_eq_true rfl]; rfl
 have c2 : (!decide ((a.zones.length : Int) = (b.zones.length : Int))) = false := by rw [hl2, decide_eq_true rfl]; rfl
 refine Zaa Tryz.func6 rfl rfl rfl rfl ?_
 repeat (first | refine und ?_ | (apply RL_pu; rfl; exact Zvo) | (apply RD_Q; rfl; rfl; decide +kernel; rfl; rfl; exact QyTrKp0) | refine walk1 ?_ | (refine jg ?_; (try intro F); (first | (apply Zac (h := fun w' hw _ => hin w' hw); rfl; rintro v O' ⟨u, rfl, Ra, ra, Za, za, La, la, Ha, ha, Qa, Fa, rfl, hZa, rfl⟩) | (refine bx ?_; intro bk) | (refine stA ?_)); first | refine ⟨_, EndsA, QFTrKp0, ?_⟩ | refine fin ?_) | (refine jn ?_; (try intro F); (first | (refine bx ?_; intro bk) | (refine stA ?_) | (apply Zag; first | exact Zvo | exact PuA)); first | refine ⟨_, EndsA, QFTrKp0, ?_⟩ | refine fin ?_) | (apply RD_W; rfl; intro bk))
 rw [hg]
 obtain ⟨q3, c4⟩ : ∃ q, (!decide (g = 3)) = q := ⟨_, rfl⟩
 repeat (first | refine und ?_ | (apply RL_pu; rfl; exact Zhb) | (apply RD_Q; rfl; rfl; decide +kernel; rfl; rfl; exact QyTrKp1) | refine walk1 ?_ | (refine jg ?_; (try intro F); (first | (apply Zac (h := fun w' hw hO => hto Ra Za La Ha ra za la ha w' hw (Zb2 hZa (hO.of (A := rowR Ra ra a.rules) (by repeat' constructor)) (hO.of (A := rowZ Za za Qa) (by repeat' constructor)) (hO.of (A := rowL La la a.links) (by repeat' constructor)) (hO.of (A := rowS Ha ha a.shifts) (by repeat' constructor)) (hO.of (A := .fact Fa (Zax Qa)) (by repeat' constructor)))); rfl; rintro v O' ⟨u, rfl, Rb, rb, Zb, zb, Lb, lb, Hb, hb, Qb, Fb, rfl, hZb, rfl⟩) | (refine ZaW (fun w' hw hO => hac Rb Zb Lb Hb rb zb lb hb w' hw (Zb2 hZb (hO.of (A := rowR Rb rb b.rules) (by repeat' constructor)) (hO.of (A := rowZ Zb zb Qb) (by repeat' constructor)) (hO.of (A := rowL Lb lb b.links) (by repeat' constructor)) (hO.of (A := rowS Hb hb b.shifts) (by repeat' constructor)) (hO.of (A := .fact Fb (Zax Qb)) (by repeat' constructor)))) ?_) | (refine ZaW (fun w' _ hO => heq La Lb la lb w' (Za4 DLink.len (hO.of (A := rowL La la a.links) (by repeat' constructor))) (Za4 DLink.len (hO.of (A := rowL Lb lb b.links) (by repeat' constructor)))) ?_) | (refine bx ?_; intro bk) | (refine stA ?_)); first | refine ⟨_, EndsA, QFTrKp1, ?_⟩ | refine fin ?_) | (refine jn ?_; (try intro F); (first | (refine bx ?_; intro bk) | (refine stA ?_) | (apply Zag; first | exact Zhb | exact PuA)); first | refine ⟨_, EndsA, QFTrKp1, ?_⟩ | refine fin ?_) | (apply RD_W; rfl; intro bk))
 generalize bk = b13
 rename_i b3 b7 b10 b11
 refine Zo9 (fun fr' O' => Sub [(91, .bool false), (7, .pointer (some ⟨b7, 0, none⟩)), (10, .pointer (some ⟨b10, 0, none⟩)), (9, .int .i64 g)] fr' /\ SubO [.blk b7 [.slice Ra a.rules.length ra, .slice Za a.zones.length za, .slice La a.links.length la, .slice Ha a.shifts.length ha] 32, .blk b10 [.slice Rb b.rules.length rb, .slice Zb b.zones.length zb, .slice Lb b.links.length lb, .slice Hb b.shifts.length hb] 32, rowR Ra ra a.rules, rowZ Za za Qa, .fact Fa (Zax Qa), rowR Rb rb b.rules, rowZ Zb zb Qb, .fact Fb (Zax Qb)] O') ?_ ?_
 ·cases q3 with
  | true =>
   have hsl : b.shifts = [] := hsh (by simpa using c4)
   rw [hsl]
   have c5 : (!decide ((([] : List ByteArray).length : Int) = 0)) = false := rfl
   repeat (first | refine und ?_ | (apply RL_pu; rfl; exact Zhb) | (apply RD_Q; rfl; rfl; decide +kernel; rfl; rfl; exact QyTrKp1) | refine walk1 ?_ | (refine jn ?_; (try intro F); (first | (refine bx ?_; intro bk) | (refine stA ?_) | (apply Zag; first | exact Zhb | exact PuA)); first | refine ⟨_, EndsA, QFTrKp1, ?_⟩ | refine fin ?_) | (apply RD_W; rfl; intro bk))
   exact ⟨SFA, SOA⟩
  | false =>
   repeat (first | refine und ?_ | (apply RL_pu; rfl; exact Zhb) | (apply RD_Q; rfl; rfl; decide +kernel; rfl; rfl; exact QyTrKp1) | refine walk1 ?_ | (refine jn ?_; (try intro F); (first | (refine bx ?_; intro bk) | (refine stA ?_) | (apply Zag; first | exact Zhb | exact PuA)); first | refine ⟨_, EndsA, QFTrKp1, ?_⟩ | refine fin ?_) | (apply RD_W; rfl; intro bk))
   exact ⟨SFA, SOA⟩
 rintro fr' O' ⟨hf2, hO2⟩
 apply thenQ_n
 refine Zcu hf2 hO2 ?_
 clear hf2 hO2 fr' O'
 repeat (first | refine und ?_ | refine walk ?_ | (refine jn ?_; (try intro F); (first | (refine bx ?_; intro bk) | (refine stA ?_) | (apply Zag; exact PuA)); refine fin ?_) | (apply RD_W; rfl; intro bk))
 refine Zaq [(7, .pointer (some ⟨b7, 0, none⟩)), (10, .pointer (some ⟨b10, 0, none⟩)), (9, .int .i64 g), (93, .slice Ra a.rules.length ra), (94, .int .i64 a.rules.length)] [.blk b7 [.slice Ra a.rules.length ra, .slice Za a.zones.length za, .slice La a.links.length la, .slice Ha a.shifts.length ha] 32, .blk b10 [.slice Rb b.rules.length rb, .slice Zb b.zones.length zb, .slice Lb b.links.length lb, .slice Hb b.shifts.length hb] 32, rowR Ra ra a.rules, rowZ Za za Qa, .fact Fa (Zax Qa), rowR Rb rb b.rules, rowZ Zb zb Qb, .fact Fb (Zax Qb)] (fun k : Nat => [(95, .int .i64 k)]) (fun _ => []) (fun k => k <= a.rules.length) (fun k => a.rules.length - k) 0 SFA SOA (Nat.zero_le _) ?_
 intro k hk
 repeat (first | refine walk ?_ | (refine jn ?_; (try intro F); (first | (refine bx ?_; intro bk) | (refine stA ?_) | (apply Zag; exact PuA)); refine fin ?_) | (apply RD_W; rfl; intro bk))
 refine Zah rfl (fun hc => ?_) (fun hc => ?_)
 ·have hkl : k < a.rules.length := by
   have := of_decide_eq_true hc
   omega
  obtain ⟨x, hx⟩ : ∃ x, a.rules[k]? = some x := ⟨_, List.getElem?_eq_getElem hkl⟩
  obtain ⟨y, hy, kb, ks, kp⟩ := hrule k x hx
  have hgx : ∀ (j : Nat) (v : Value), (DRule.enc x)[j]? = some v -> (a.rules.flatMap DRule.enc)[(k : Int).toNat * 11 + j]? = some v := fun j v hj => by
   have := ZaF DRule.len a.rules k x j v hx hj
   simpa using this
  have hgy : ∀ (j : Nat) (v : Value), (DRule.enc y)[j]? = some v -> (b.rules.flatMap DRule.enc)[(k : Int).toNat * 11 + j]? = some v := fun j v hj => by
   have := ZaF DRule.len b.rules k y j v hy hj
   simpa using this
  clear hx hy
  obtain ⟨nm1, fr1, to1, mo1, ⟨dk1, dw1, dd1⟩, ⟨sc, ba1⟩, sv, lt1⟩ := x
  obtain ⟨nm, fr, to, mo, ⟨dk, dw, dd⟩, ⟨sc2, ba⟩, sv2, lt⟩ := y
  simp only [DRule.mk.injEq, DDay.mk.injEq, DClock.mk.injEq, true_and, and_true] at ks
  obtain ⟨rfl, rfl, rfl, rfl, ⟨rfl, rfl, rfl⟩, rfl, rfl⟩ := ks
  dsimp only at kb kp
  obtain ⟨q4, e3⟩ : ∃ q, decide (g = 3) = q := ⟨_, rfl⟩
  have n1 : (!decide ((⟨nm, fr, to, mo, ⟨dk, dw, dd⟩, ⟨sc, ba⟩, sv, lt⟩ : DRule) = ⟨nm, fr, to, mo, ⟨dk, dw, dd⟩, ⟨sc, ba⟩, sv, lt⟩)) = false := by rw [decide_eq_true rfl]; rfl
  have n0 : (!decide ((⟨sc, ba⟩ : DClock) = ⟨sc, ba⟩)) = false := by rw [decide_eq_true rfl]; rfl
  by_cases hb1 : ba = 1
  ·have e1 : (!decide (ba = 1)) = false := by rw [decide_eq_true hb1]; rfl
   clear kb
   cases q4 with
   | true =>
    have e2 : decide (sv2 < 0) = false := decide_eq_false (by have := kp (of_decide_eq_true e3); omega)
    repeat (first | refine ZkB ?_ | (refine jn ?_; (try intro F); (refine bx ?_; intro bk); first | refine ⟨_, EndsA, Zjj, ?_⟩ | refine fin ?_) | (apply RD_W; rfl; intro bk))
    exact ⟨k + 1, by omega, hkl, SFA, SOA⟩
   | false =>
    repeat (first | refine ZkB ?_ | (refine jn ?_; (try intro F); (refine bx ?_; intro bk); first | refine ⟨_, EndsA, Zjj, ?_⟩ | refine fin ?_) | (apply RD_W; rfl; intro bk))
    exact ⟨k + 1, by omega, hkl, SFA, SOA⟩
  ·have e1 : (!decide (ba = 1)) = true := by rw [decide_eq_false hb1]; rfl
   have hsc := kb hb1
   simp only [DClock.mk.injEq, and_true] at hsc
   obtain rfl : sc = sc2 := hsc.symm
   cases q4 with
   | true =>
    have e2 : decide (sv2 < 0) = false := decide_eq_false (by have := kp (of_decide_eq_true e3); omega)
    repeat (first | refine ZkB ?_ | (refine jn ?_; (try intro F); (refine bx ?_; intro bk); first | refine ⟨_, EndsA, Zjj, ?_⟩ | refine fin ?_) | (apply RD_W; rfl; intro bk))
    exact ⟨k + 1, by omega, hkl, SFA, SOA⟩
   | false =>
    repeat (first | refine ZkB ?_ | (refine jn ?_; (try intro F); (refine bx ?_; intro bk); first | refine ⟨_, EndsA, Zjj, ?_⟩ | refine fin ?_) | (apply RD_W; rfl; intro bk))
    exact ⟨k + 1, by omega, hkl, SFA, SOA⟩
 clear hc hk
 repeat (first | refine und ?_ | refine walk ?_ | (refine jn ?_; (try intro F); (first | (refine bx ?_; intro bk) | (refine stA ?_) | (apply Zag; exact PuA)); refine fin ?_) | (apply RD_W; rfl; intro bk))
 have hQa : a.zones.length = Qa.length := by rw [<- hZa, List.length_map]
 have hQb : b.zones.length = Qb.length := by rw [<- hZb, List.length_map]
 refine Zaq [(7, .pointer (some ⟨b7, 0, none⟩)), (10, .pointer (some ⟨b10, 0, none⟩)), (9, .int .i64 g), (142, .slice Za a.zones.length za), (143, .int .i64 a.zones.length)] [.blk b7 [.slice Ra a.rules.length ra, .slice Za a.zones.length za, .slice La a.links.length la, .slice Ha a.shifts.length ha] 32, .blk b10 [.slice Rb b.rules.length rb, .slice Zb b.zones.length zb, .slice Lb b.links.length lb, .slice Hb b.shifts.length hb] 32, rowZ Za za Qa, .fact Fa (Zax Qa), rowZ Zb zb Qb, .fact Fb (Zax Qb)] (fun k : Nat => [(144, .int .i64 k)]) (fun _ => []) (fun k => k <= a.zones.length) (fun k => a.zones.length - k) 0 SFA SOA (Nat.zero_le _) ?_
 intro k hk
 repeat (first | refine walk ?_ | (refine jn ?_; (try intro F); (first | (refine bx ?_; intro bk) | (refine stA ?_) | (apply Zag; exact PuA)); refine fin ?_) | (apply RD_W; rfl; intro bk))
 refine Zah rfl (fun hc => ?_) (fun hc => ?_)
 ·have hkl : k < a.zones.length := by
   have := of_decide_eq_true hc
   omega
  obtain ⟨p, hp⟩ : ∃ p, Qa[k]? = some p := ⟨_, List.getElem?_eq_getElem (by omega)⟩
  have hpz : a.zones[k]? = some p.z := by rw [<- hZa, List.getElem?_map, hp]; rfl
  obtain ⟨zb', hzb', hnm, hel, hera⟩ := hzone k p.z hpz
  obtain ⟨q, hq, hqe⟩ : ∃ q, Qb[k]? = some q /\ q.z = zb' := by
   rw [<- hZb, List.getElem?_map] at hzb'
   exact Option.map_eq_some_iff.1 hzb'
  subst hqe
  have hpl := hns _ (List.mem_of_getElem? hpz)
  have hpm := List.mem_of_getElem? hp
  have hqm := List.mem_of_getElem? hq
  have hgp : ∀ (j : Nat) (v : Value), (ZE.enc p)[j]? = some v -> (Qa.flatMap ZE.enc)[(k : Int).toNat * 2 + j]? = some v := fun j v hj => by
   have := ZaF ZE.len Qa k p j v hp hj
   simpa using this
  have hgq : ∀ (j : Nat) (v : Value), (ZE.enc q)[j]? = some v -> (Qb.flatMap ZE.enc)[(k : Int).toNat * 2 + j]? = some v := fun j v hj => by
   have := ZaF ZE.len Qb k q j v hq hj
   simpa using this
  have hq0 := hgq 0 _ rfl
  have hq1 := hgq 1 _ rfl
  clear hgq hzb' hpz
  have e5 : (!decide (q.z.name = p.z.name)) = false := by rw [decide_eq_true hnm]; rfl
  have e6 : (!decide ((q.z.eras.length : Int) = (p.z.eras.length : Int))) = false := by rw [hel, decide_eq_true rfl]; rfl
  repeat (first | refine und ?_ | (apply RL_pu; rfl; exact Zpp) | (apply RD_Q; rfl; rfl; decide +kernel; rfl; rfl; exact ZzJ) | refine walk1 ?_ | (refine jn ?_; (try intro F); (first | (refine bx ?_; intro bk) | (refine stA ?_) | (apply Zag; first | exact Zpp | exact PuA)); first | refine ⟨_, EndsA, QFTrKp3, ?_⟩ | refine fin ?_) | (apply RD_W; rfl; intro bk))
  generalize bk = b19
  refine Zaq [(7, .pointer (some ⟨b7, 0, none⟩)), (10, .pointer (some ⟨b10, 0, none⟩)), (9, .int .i64 g), (142, .slice Za a.zones.length za), (143, .int .i64 a.zones.length), (144, .int .i64 k), (18, .int .i64 k), (19, .pointer (some ⟨b19, 0, none⟩)), (172, .slice p.A p.z.eras.length p.c), (173, .int .i64 p.z.eras.length)] [.blk b19 [.string p.z.name, .slice p.A p.z.eras.length p.c] 46, .blk b7 [.slice Ra a.rules.length ra, .slice Za a.zones.length za, .slice La a.links.length la, .slice Ha a.shifts.length ha] 32, .blk b10 [.slice Rb b.rules.length rb, .slice Zb b.zones.length zb, .slice Lb b.links.length lb, .slice Hb b.shifts.length hb] 32, rowZ Za za Qa, .fact Fa (Zax Qa), rowZ Zb zb Qb, .fact Fb (Zax Qb)] (fun j : Nat => [(174, .int .i64 j)]) (fun _ => []) (fun j => j <= p.z.eras.length) (fun j => p.z.eras.length - j) 0 SFA SOA (Nat.zero_le _) ?_
  intro j hj
  repeat (first | refine walk ?_ | (refine jn ?_; (try intro F); (first | (refine bx ?_; intro bk) | (refine stA ?_) | (apply Zag; exact PuA)); refine fin ?_) | (apply RD_W; rfl; intro bk))
  refine Zah rfl (fun hd => ?_) (fun hd => ?_)
  ·have hjl : j < p.z.eras.length := by
    have := of_decide_eq_true hd
    omega
   obtain ⟨x, hex⟩ : ∃ x, p.z.eras[j]? = some x := ⟨_, List.getElem?_eq_getElem hjl⟩
   obtain ⟨y, hey, kf, kt, ko, ks⟩ := hera j x hex
   obtain ⟨of, kd1, sv1, st1, fm, ⟨is1, yr1, mo1, ⟨dk1, dw1, dd1⟩, ⟨sc, ba1⟩⟩⟩ := x
   obtain ⟨of2, kd, sv, st, fm2, ⟨is, yr, mo, ⟨dk, dw, dd⟩, ⟨sc2, ba⟩⟩⟩ := y
   simp only [DEra.mk.injEq, DUntil.mk.injEq, DDay.mk.injEq, DClock.mk.injEq, true_and, and_true] at ks
   obtain ⟨rfl, rfl, rfl, rfl, rfl, rfl, ⟨rfl, rfl, rfl⟩, rfl⟩ := ks
   dsimp only at kf kt ko
   simp only [DUntil.mk.injEq, DClock.mk.injEq, true_and, and_true] at kt
   have n2 : (!decide ((⟨is, yr, mo, ⟨dk, dw, dd⟩, ⟨sc, ba⟩⟩ : DUntil) = ⟨is, yr, mo, ⟨dk, dw, dd⟩, ⟨sc, ba⟩⟩)) = false := by rw [decide_eq_true rfl]; rfl
   have n3 : (!decide ((⟨of, kd, sv, st, fm, ⟨is, yr, mo, ⟨dk, dw, dd⟩, ⟨sc, ba⟩⟩⟩ : DEra) = ⟨of, kd, sv, st, fm, ⟨is, yr, mo, ⟨dk, dw, dd⟩, ⟨sc, ba⟩⟩⟩)) = false := by rw [decide_eq_true rfl]; rfl
   have e10 : (!decide (of = of)) = false := by rw [decide_eq_true rfl]; rfl
   obtain ⟨p1, e7⟩ : ∃ q, decide (fm2 = pctB) = q := ⟨_, rfl⟩
   have e8 : p1 = true -> (!decide (g = 1)) = false := fun hp => by
    rw [hp] at e7
    have h1 : g = 1 := Decidable.byContradiction fun hg1 => kf hg1 (of_decide_eq_true e7)
    rw [decide_eq_true h1]
    rfl
   clear kf
   repeat (first | refine und ?_ | (apply RL_pu; rfl; exact Zvn) | (apply RD_Q; rfl; rfl; decide +kernel; rfl; rfl; exact QyTrKp4) | refine walk1 ?_ | (refine jn ?_; (try intro F); (first | (refine bx ?_; intro bk) | (refine stA ?_) | (apply Zag; first | exact Zvn | exact PuA)); first | refine ⟨_, EndsA, QFTrKp4, ?_⟩ | refine fin ?_) | (apply RD_W; rfl; intro bk))
   generalize bk = b22
   rename_i b21
   refine Zo9 (fun fr' O' => Sub [(220, .bool false), (7, .pointer (some ⟨b7, 0, none⟩)), (10, .pointer (some ⟨b10, 0, none⟩)), (9, .int .i64 g), (142, .slice Za a.zones.length za), (143, .int .i64 a.zones.length), (144, .int .i64 k), (18, .int .i64 k), (19, .pointer (some ⟨b19, 0, none⟩)), (172, .slice p.A p.z.eras.length p.c), (173, .int .i64 p.z.eras.length), (174, .int .i64 j), (21, .pointer (some ⟨b21, 0, none⟩)), (22, .pointer (some ⟨b22, 0, none⟩))] fr' /\ SubO [.blk b21 [.int .i64 of, .int .i64 kd, .int .i64 sv, .string st, .string fm, .bool is, .int .i64 yr, .int .i64 mo, .int .i64 dk, .int .i64 dw, .int .i64 dd, .int .i64 sc, .int .i64 ba] 54, .blk b22 [.int .i64 of2, .int .i64 kd, .int .i64 sv, .string st, .string fm2, .bool is, .int .i64 yr, .int .i64 mo, .int .i64 dk, .int .i64 dw, .int .i64 dd, .int .i64 sc2, .int .i64 ba] 54, .blk b19 [.string p.z.name, .slice p.A p.z.eras.length p.c] 46, .blk b7 [.slice Ra a.rules.length ra, .slice Za a.zones.length za, .slice La a.links.length la, .slice Ha a.shifts.length ha] 32, .blk b10 [.slice Rb b.rules.length rb, .slice Zb b.zones.length zb, .slice Lb b.links.length lb, .slice Hb b.shifts.length hb] 32, rowZ Za za Qa, .fact Fa (Zax Qa), rowZ Zb zb Qb, .fact Fb (Zax Qb)] O') ?_ ?_
   ·cases p1 with
    | true =>
     have e8 := e8 rfl
     by_cases hb1 : ba = 1
     ·have e1 : (!decide (ba = 1)) = false := by rw [decide_eq_true hb1]; rfl
      by_cases hk2 : kd = 2
      ·have e9 : (!decide (kd = 2)) = false := by rw [decide_eq_true hk2]; rfl
       repeat (first | refine ZdX ?_ | (refine jn ?_; (try intro F); (refine bx ?_; intro bk); first | refine ⟨_, EndsA, ZdG, ?_⟩ | refine fin ?_) | (apply RD_W; rfl; intro bk))
       exact ⟨SFA, SOA⟩
      ·have e9 : (!decide (kd = 2)) = true := by rw [decide_eq_false hk2]; rfl
       obtain rfl : of = of2 := (ko hk2).symm
       repeat (first | refine ZdX ?_ | (refine jn ?_; (try intro F); (refine bx ?_; intro bk); first | refine ⟨_, EndsA, ZdG, ?_⟩ | refine fin ?_) | (apply RD_W; rfl; intro bk))
       exact ⟨SFA, SOA⟩
     ·have e1 : (!decide (ba = 1)) = true := by rw [decide_eq_false hb1]; rfl
      obtain rfl : sc = sc2 := (kt hb1).symm
      by_cases hk2 : kd = 2
      ·have e9 : (!decide (kd = 2)) = false := by rw [decide_eq_true hk2]; rfl
       repeat (first | refine ZdX ?_ | (refine jn ?_; (try intro F); (refine bx ?_; intro bk); first | refine ⟨_, EndsA, ZdG, ?_⟩ | refine fin ?_) | (apply RD_W; rfl; intro bk))
       exact ⟨SFA, SOA⟩
      ·have e9 : (!decide (kd = 2)) = true := by rw [decide_eq_false hk2]; rfl
       obtain rfl : of = of2 := (ko hk2).symm
       repeat (first | refine ZdX ?_ | (refine jn ?_; (try intro F); (refine bx ?_; intro bk); first | refine ⟨_, EndsA, ZdG, ?_⟩ | refine fin ?_) | (apply RD_W; rfl; intro bk))
       exact ⟨SFA, SOA⟩
    | false =>
     by_cases hb1 : ba = 1
     ·have e1 : (!decide (ba = 1)) = false := by rw [decide_eq_true hb1]; rfl
      by_cases hk2 : kd = 2
      ·have e9 : (!decide (kd = 2)) = false := by rw [decide_eq_true hk2]; rfl
       repeat (first | refine ZdX ?_ | (refine jn ?_; (try intro F); (refine bx ?_; intro bk); first | refine ⟨_, EndsA, ZdG, ?_⟩ | refine fin ?_) | (apply RD_W; rfl; intro bk))
       exact ⟨SFA, SOA⟩
      ·have e9 : (!decide (kd = 2)) = true := by rw [decide_eq_false hk2]; rfl
       obtain rfl : of = of2 := (ko hk2).symm
       repeat (first | refine ZdX ?_ | (refine jn ?_; (try intro F); (refine bx ?_; intro bk); first | refine ⟨_, EndsA, ZdG, ?_⟩ | refine fin ?_) | (apply RD_W; rfl; intro bk))
       exact ⟨SFA, SOA⟩
     ·have e1 : (!decide (ba = 1)) = true := by rw [decide_eq_false hb1]; rfl
      obtain rfl : sc = sc2 := (kt hb1).symm
      by_cases hk2 : kd = 2
      ·have e9 : (!decide (kd = 2)) = false := by rw [decide_eq_true hk2]; rfl
       repeat (first | refine ZdX ?_ | (refine jn ?_; (try intro F); (refine bx ?_; intro bk); first | refine ⟨_, EndsA, ZdG, ?_⟩ | refine fin ?_) | (apply RD_W; rfl; intro bk))
       exact ⟨SFA, SOA⟩
      ·have e9 : (!decide (kd = 2)) = true := by rw [decide_eq_false hk2]; rfl
       obtain rfl : of = of2 := (ko hk2).symm
       repeat (first | refine ZdX ?_ | (refine jn ?_; (try intro F); (refine bx ?_; intro bk); first | refine ⟨_, EndsA, ZdG, ?_⟩ | refine fin ?_) | (apply RD_W; rfl; intro bk))
       exact ⟨SFA, SOA⟩
   rintro fr' O' ⟨hf3, hO3⟩
   apply thenQ_n
   refine Zcu hf3 hO3 ?_
   clear hf3 hO3 fr' O'
   repeat (first | refine ZdX ?_ | (refine jn ?_; (try intro F); (refine bx ?_; intro bk); first | refine ⟨_, EndsA, ZdG, ?_⟩ | refine fin ?_) | (apply RD_W; rfl; intro bk))
   exact ⟨j + 1, by omega, hjl, SFA, SOA⟩
  clear hd hj
  repeat (first | refine und ?_ | refine walk ?_ | (refine jn ?_; (try intro F); (first | (refine bx ?_; intro bk) | (refine stA ?_) | (apply Zag; exact PuA)); refine fin ?_) | (apply RD_W; rfl; intro bk))
  exact ⟨k + 1, by omega, hkl, SFA, SOA⟩
 clear hc hk
 repeat (first | refine und ?_ | refine walk ?_ | (refine jg ?_; (try intro F); (first | (refine Zad hwk ?_) | (refine bx ?_; intro bk) | (refine stA ?_)); refine fin ?_) | (refine jn ?_; (try intro F); (first | (refine bx ?_; intro bk) | (refine stA ?_) | (apply Zag; exact PuA)); refine fin ?_) | (apply RD_W; rfl; intro bk))
 exact rtA
end Go.Proofs.YtbjomhdhkpgbaaaGreatDoor
