/- Parts of the proof. -/
import Derived.Test.YtbjomhdhkpgbaaaGreatDoorY24
import Derived.Test.YtbjomhdhkpgbaaaGreatDoorY27
import Derived.Test.YtbjomhdhkpgbaaaGreatDoorY06
import Derived.Test.YtbjomhdhkpgbaaaGreatDoorY21
import Derived.Test.YtbjomhdhkpgbaaaGreatDoorY09
import Derived.Test.YtbjomhdhkpgbaaaGreatDoorY11
import Derived.Test.YtbjomhdhkpgbaaaGreatDoorY28
import Derived.Test.YtbjomhdhkpgbaaaGreatDoorY26
import Derived.Test.YtbjomhdhkpgbaaaGreatDoorY07
import Derived.Test.YtbjomhdhkpgbaaaGreatDoorY12
import Derived.Test.YtbjomhdhkpgbaaaGreatDoorRows
import Derived.LaidSub
import Derived.SevenTiedAt
import Derived.JoinedOf
import Derived.KernelRfl
set_option maxHeartbeats 4000000
set_option linter.unusedVariables false
set_option linter.unusedSimpArgs false
namespace Go.Proofs.YtbjomhdhkpgbaaaGreatDoor
open Go Go.RowKit Go.Wk
def qN : ByteArray := ⟨#[63]⟩
theorem Zs6 {α : Type} {l : List α} {k : Nat} {x : α} (h : l[k]? = some x) : l.set k x = l := by
 obtain ⟨h1, rfl⟩ := List.getElem?_eq_some_iff.1 h
 exact List.set_getElem_self h1
theorem Zw9 (d : DD23) {form : Int} (h : form < 1 \/ 3 < form) : toE form (Zae d) = some (⟨0, 0, 0⟩, 2) := by
 have hf := Zj5 d 1
 rw [show in23 d 1 = Zae d from if_pos rfl] at hf
 unfold toE
 rw [ZgT]
 dsimp only
 rw [if_neg hf, if_pos h]
def badT (s : Zab) (r : DRule) : Zab := ⟨s.rules.set 0 { r with letter := qN }, s.zones, s.links, s.shifts⟩
theorem Zil : ∀ (l : List DRule) (acc : List ByteArray), ∃ m, ZaP l acc = acc ++ m
 | [], acc => ⟨[], (List.append_nil acc).symm⟩
 | r :: l, acc => by
  rw [ZaP]
  split
  ·exact Zil l acc
  ·obtain ⟨m, hm⟩ := Zil l (acc ++ [r.name])
   exact ⟨[r.name] ++ m, by rw [hm, List.append_assoc]⟩
theorem ZA3 : (decide (qN = ByteArray.empty) || ZgU qN) = false := by decide +kernel
theorem Zjw {r : DRule} {least : Int} (h : ZbJ r least = 0) : ZbJ { r with letter := qN } least = 15 := by
 unfold ZbJ at h ⊢
 dsimp only
 split at h
 ·cases h
 rename_i h1
 rw [if_neg h1]
 split at h
 ·cases h
 rename_i h2
 rw [if_neg h2]
 split at h
 ·cases h
 rename_i h3
 rw [if_neg h3]
 split at h
 ·cases h
 rename_i h4
 rw [if_neg h4]
 split at h
 ·cases h
 rename_i h5
 rw [if_neg h5]
 exact if_pos ZA3
theorem Zxn (d : DD23) {r : DRule} (hr : (Zae d).rules[0]? = some r) : accD (badT (Zae d) r) = some (⟨1, 0, 0⟩, 15) := by
 have hlen : ((Zae d).rules.set 0 { r with letter := qN }).length = (Zae d).rules.length := List.length_set
 have hsz : ZcU (badT (Zae d) r) = none := by
  have h := ZeP d
  unfold ZcU at h ⊢
  unfold badT
  dsimp only
  rw [hlen]
  exact h
 have hst : ZfL (badT (Zae d) r) = some (⟨1, 0, 0⟩, 15) := by
  have hne : ofB (Zae d).rules r.name ≠ [] := fun hh => by
   have : r ∈ ofB (Zae d).rules r.name := List.mem_filter.2 ⟨List.mem_of_getElem? hr, decide_eq_true rfl⟩
   rw [hh] at this
   cases this
  obtain ⟨⟨hD, _⟩, hb⟩ := (ShOk.none d).d9 hne
  have hS := hD.set
  unfold ZfL badT
  dsimp only
  generalize (Zae d).rules = rs at *
  rcases rs with _ | ⟨q, l⟩
  ·cases hr
  obtain rfl : q = r := Option.some.inj hr
  have hof : ofB (q :: l) q.name = q :: ofB l q.name := List.filter_cons_of_pos (decide_eq_true rfl)
  have hof2 : ofB ({ q with letter := qN } :: l) q.name = { q with letter := qN } :: ofB l q.name := List.filter_cons_of_pos (decide_eq_true rfl)
  rw [hof] at hS
  have hl := hS.least
  have he := (hS.rule q List.mem_cons_self).err hl
  have hl2 : Zai ({ q with letter := qN } :: ofB l q.name) = Zai (q :: ofB l q.name) := rfl
  obtain ⟨m, hm⟩ := Zil l [q.name]
  rw [List.set_cons_zero, ZaP]
  dsimp only
  rw [if_neg (by rw [memB]; decide), List.nil_append, hm, List.cons_append, List.nil_append, Zdv]
  have hc : ZdE ({ q with letter := qN } :: ofB l q.name) = (0, 15) := by
   unfold ZdE
   rw [hl2, Zbc, Zjw he, if_neg (by decide)]
  unfold ZbY
  rw [if_neg (by rw [hb]; decide), hof2, hc, if_pos (by decide)]
  dsimp only
  rw [Zdx]
  dsimp only
  rw [if_pos rfl]
  rfl
 unfold accD
 rw [hsz, hst]
 rfl
theorem Zxm (d : DD23) {r : DRule} (hr : (Zae d).rules[0]? = some r) : Sml (badT (Zae d) r) := by
 have h := Zb3 d
 refine ⟨?_, h.nz, h.nl, h.ns, fun x hx => ?_, h.zs, h.ls⟩
 ·show ((Zae d).rules.set 0 _).length <= 100
  rw [List.length_set]
  exact h.nr
 ·rcases List.mem_or_eq_of_mem_set (show x ∈ (Zae d).rules.set 0 { r with letter := qN } from hx) with hx | rfl
  ·exact h.rs x hx
  ·obtain ⟨h1, _, h3⟩ := h.rs r (List.mem_of_getElem? hr)
   exact ⟨h1, show qN.size <= 100 by decide, h3⟩
theorem Zxl (d : DD23) {r : DRule} (hr : (Zae d).rules[0]? = some r) (form : Int) : toE form (badT (Zae d) r) = some (⟨1, 0, 0⟩, 15) := by
 unfold toE
 rw [Zxn d hr]
def modH {α : Type} (f : α -> α) : List α -> List α
 | [] => []
 | x :: l => f x :: l
theorem Zqc {α : Type} (f : α -> α) {l : List α} (m : List α) (h : l ≠ []) : modH f (l ++ m) = modH f l ++ m := by
 cases l with
 | nil => exact absurd rfl h
 | cons x l => rfl
def mxE (e : DEra) : DEra := { e with format := pctB }
def mxZ (z : ZaX) : ZaX := ⟨z.name, modH mxE z.eras⟩
def mx3 (x : E23) : E23 := { x with format := 3 }
def mxL : List E23 -> List E23
 | [] => [mx3 e23Z]
 | x :: l => mx3 x :: l
def mxLL : List (List E23) -> List (List E23)
 | [] => [mxL []]
 | l :: zs => mxL l :: zs
def mxD (d : DD23) : DD23 := { d with zones := mxLL d.zones }
theorem ZA5 (l : List E23) : el23 (mxL l) = modH mx3 (el23 l) := by
 cases l with
 | nil => rfl
 | cons x l => rfl
theorem ZA4 (zs : List (List E23)) : zl23 (mxLL zs) = mxLL (zl23 zs) := by
 cases zs with
 | nil => rfl
 | cons l zs => rfl
theorem ZwE {α : Type} (f : α -> α) (l : List α) : (modH f l).length = l.length := by cases l <;> rfl
theorem Zzj (ns : Int) (l : List E23) (c : Nat) : (ZaM ns l (c + 1)).1 ≠ [] := fun h => by
 rw [ZaM] at h
 have := congrArg List.length h
 rw [List.length_append] at this
 simp at this
theorem Ztu (ns : Int) (x : E23) (l : List E23) : ∀ c, ZaM ns (mx3 x :: l) c = (modH mxE (ZaM ns (x :: l) c).1, (ZaM ns (x :: l) c).2)
 | 0 => rfl
 | 1 => rfl
 | c + 2 => by
  have ih := Ztu ns x l (c + 1)
  rw [ZaM.eq_2 ns (mx3 x :: l) (c + 1), ih, ZaM.eq_2 ns (x :: l) (c + 1), Zqc mxE _ (Zzj ns (x :: l) c)]
  rfl
theorem Zzm (l : List E23) : ∃ x m, el23 l = x :: m := by
 cases l with
 | nil => exact ⟨_, _, rfl⟩
 | cons x l => exact ⟨x, l.take 3, rfl⟩
theorem Zy7 (ns : Int) (i : Nat) (l : List E23) : ZhU ns i (mxL l) = mxZ (ZhU ns i l) := by
 obtain ⟨x, m, hx⟩ := Zzm l
 unfold ZhU mxZ
 rw [ZA5, hx, ZwE, show modH mx3 (x :: m) = mx3 x :: m from rfl, Ztu]
theorem Zv1 (ns : Int) (zs : List (List E23)) (i : Nat) : ZaY ns zs (i + 1) ≠ [] := fun h => by
 rw [ZaY] at h
 have := congrArg List.length h
 rw [List.length_append] at this
 simp at this
theorem Zqa (ns : Int) (zs : List (List E23)) : ∀ i, ZaY ns (mxLL zs) i = modH mxZ (ZaY ns zs i)
 | 0 => rfl
 | 1 => by
  have e : (mxLL zs).getD 0 [] = mxL (zs.getD 0 []) := by cases zs <;> rfl
  rw [ZaY, ZaY, e, Zy7]
  rfl
 | i + 2 => by
  have e : (mxLL zs).getD (i + 1) [] = zs.getD (i + 1) [] := by cases zs <;> rfl
  rw [ZaY.eq_2 ns (mxLL zs) (i + 1), Zqa ns zs (i + 1), e, ZaY.eq_2 ns zs (i + 1), Zqc mxZ _ (Zv1 ns zs i)]
theorem ZAp {zs : List (List E23)} (h : zs ≠ []) : (mxLL zs).length = zs.length := by
 cases zs with
 | nil => exact absurd rfl h
 | cons l zs => rfl
theorem ZAX (zs : List (List E23)) : zl23 zs ≠ [] := fun h => by
 have := (Ze6 zs).1
 rw [h] at this
 simp at this
theorem Ztt (d : DD23) : Zae (mxD d) = ⟨(Zae d).rules, modH mxZ (Zae d).zones, (Zae d).links, []⟩ := by
 unfold Zae mxD
 dsimp only
 rw [ZA4, ZAp (ZAX _), Zqa]
 rfl
def mixF (s : Zab) (z : ZaX) (e : DEra) (sh : List ByteArray) : Zab := ⟨s.rules, s.zones.set 0 ⟨z.name, z.eras.set 0 { e with format := pctB }⟩, s.links, sh⟩
theorem ZkW (d : DD23) {z : ZaX} {e : DEra} (hz : (Zae d).zones[0]? = some z) (he : z.eras[0]? = some e) (sh : List ByteArray) : mixF (Zae d) z e sh = { Zae (mxD d) with shifts := sh } := by
 rw [Ztt]
 unfold mixF
 dsimp only
 congr 1
 generalize (Zae d).zones = zs at hz ⊢
 rcases zs with _ | ⟨y, zs⟩
 ·cases hz
 obtain rfl : y = z := Option.some.inj hz
 rw [List.set_cons_zero]
 show _ = mxZ y :: zs
 congr 1
 unfold mxZ
 congr 1
 generalize y.eras = es at he ⊢
 rcases es with _ | ⟨q, es⟩
 ·cases he
 obtain rfl : q = e := Option.some.inj he
 rfl
def r0N : ByteArray := ⟨#[82, 48]⟩
def ZjN (s : Zab) : Bool := s.rules.any fun r => decide (r.name = r0N) && decide (0 < r.save)
theorem Zs4 (d : DD23) (h : ZjN (Zae d) = true) : accD { Zae d with shifts := [r0N] } = none := by
 obtain ⟨r, hr, h1⟩ := List.any_eq_true.1 h
 rw [Bool.and_eq_true, decide_eq_true_eq, decide_eq_true_eq] at h1
 obtain ⟨h1, h2⟩ := h1
 have hm : r ∈ ofB (Zae d).rules r0N := List.mem_filter.2 ⟨hr, decide_eq_true h1⟩
 have hne : ofB (Zae d).rules r0N ≠ [] := fun hh => by
  rw [hh] at hm
  cases hm
 obtain ⟨⟨hD, o, _, o2, o3, _⟩, hb⟩ := (ShOk.none d).d9 hne
 have ho : 0 < o := by have := o3 r hm; omega
 have hl : Zai (ofB (Zae d).rules r0N) = 0 := by
  obtain ⟨g1, g2, g3⟩ := Zdi (ofB (Zae d).rules r0N) 0
  unfold Zai
  rcases g3 with g3 | ⟨q, g4, g5⟩
  ·exact g3
  ·have := o3 q g4
   omega
 have hacc := ZgT d
 unfold accD at hacc
 simp only [Option.or_eq_none_iff] at hacc
 obtain ⟨a1, a2, _, a4, a5⟩ := hacc
 have hsz : ZcU { Zae d with shifts := [r0N] } = none := by
  unfold ZcU at a1 ⊢
  dsimp only
  split at a1
  ·cases a1
  rename_i b1
  rw [if_neg b1]
  split at a1
  ·cases a1
  rename_i b2
  rw [if_neg b2]
  cases hf : (Zae d).zones.findIdx? fun z => decide (60 < z.eras.length) with
  | some i => rw [hf] at a1; cases a1
  | none =>
   rw [hf] at a1
   dsimp only at a1 ⊢
   split at a1
   ·cases a1
   rename_i b3
   rw [if_neg b3, if_neg (by decide)]
 have hsf : Zbb { Zae d with shifts := [r0N] } [r0N] [] 0 = none := by
  rw [Zbb]
  dsimp only
  rw [if_neg hne, if_neg (by decide), hl, o2, if_neg (by simp)]
  rfl
 have hlk : ZcI { Zae d with shifts := [r0N] } = none := by
  rw [Zdf, show ZeY { Zae d with shifts := [r0N] } = ZeY (Zae d) from rfl, <- Zdf]
  exact a4
 unfold accD
 rw [hsz, show ZfL { Zae d with shifts := [r0N] } = none from a2, hsf, hlk]
 exact a5
theorem Zom (d : DD23) : ∀ z ∈ (Zae d).zones, ∀ e ∈ z.eras, e.format ∈ fmtU := fun z hz e he => by
 obtain ⟨b, hb⟩ := (ShOk.none d).e9 hz he
 exact hb.dr.fmt
theorem Zza (d : DD23) {z : ZaX} {e : DEra} (hz : (Zae d).zones[0]? = some z) (he : z.eras[0]? = some e) (h : ZjN (Zae d) = true) (form : Int) : toE form (mixF (Zae d) z e [r0N]) = some (⟨4, 0, 0⟩, 17) := by
 have hr : (Zae (mxD d)).rules = (Zae d).rules := by rw [Ztt]
 have hp : ZjN (Zae (mxD d)) = true := by unfold ZjN; rw [hr]; exact h
 have hac := Zs4 (mxD d) hp
 have hnum : numZ (Zae (mxD d)).zones = true := by
  have e1 : (Zae (mxD d)).zones = (mixF (Zae d) z e []).zones := by rw [ZkW d hz he]
  rw [e1]
  have z0 : 0 < (Zae d).zones.length := (List.getElem?_eq_some_iff.1 hz).1
  have z1 : 0 < z.eras.length := (List.getElem?_eq_some_iff.1 he).1
  exact List.any_eq_true.2 ⟨⟨z.name, z.eras.set 0 { e with format := pctB }⟩, List.mem_of_getElem? (show ((Zae d).zones.set 0 _)[0]? = _ from List.getElem?_set_self z0), List.any_eq_true.2 ⟨{ e with format := pctB }, List.mem_of_getElem? (List.getElem?_set_self z1), decide_eq_true rfl⟩⟩
 have hfm := Zom (mxD d)
 have hff : Zb4 { Zae (mxD d) with shifts := [r0N] } = [] := by
  rw [Zt3 _ hac hfm]
  dsimp only
  rw [if_pos (by decide), hnum, Bool.or_true, if_pos rfl]
  rfl
 have hv : ZaL 1 { Zae (mxD d) with shifts := [r0N] } = some (⟨4, 0, 0⟩, 17) := by
  have e1 : ((Zae (mxD d)).rules.any fun r => decide (r.save < 0) && decide ((1 : Int) = 3)) = false := by
   rw [List.any_eq_false]
   intro r _
   rw [show decide ((1 : Int) = 3) = false from rfl, Bool.and_false]
   decide
  have e2 : ((Zae (mxD d)).zones.any fun z => z.eras.any fun e => (decide (ZaK e.format.data.toList = 4) && !decide ((1 : Int) = 1)) || (decide (ZaK e.format.data.toList = 5) && decide ((1 : Int) = 1))) = false := by
   rw [List.any_eq_false]
   intro z hz
   rw [Bool.not_eq_true, List.any_eq_false]
   intro e he
   rw [(ZhK (hfm z hz e he)).2]
   simp
  unfold ZaL
  rw [if_neg (by decide), Zff e1]
  dsimp only
  rw [Zff e2]
  dsimp only
  rw [if_pos ⟨by decide, by decide⟩]
 rw [ZkW d hz he]
 unfold toE
 rw [hac]
 dsimp only
 rw [if_pos hff]
 exact hv
theorem Zzb (d : DD23) {z : ZaX} {e : DEra} (hz : (Zae d).zones[0]? = some z) (he : z.eras[0]? = some e) : Sml (mixF (Zae d) z e [r0N]) := by
 rw [ZkW d hz he]
 have h := Zb3 (mxD d)
 exact ⟨h.nr, h.nz, h.nl, show ([r0N] : List ByteArray).length <= 100 by decide, h.rs, h.zs, h.ls⟩
theorem ZkY (d : DD23) : ∃ r, (Zae d).rules[0]? = some r := by
 have hm := (ns23 d).2
 have h0 : 0 < d.ns := by unfold DD23.ns; omega
 obtain ⟨_, _, _, _, r, hr, _⟩ := (Zc9 d.sets d.ns hm 0 h0).1.saves
 have h1 := (List.mem_filter.1 hr).1
 have h2 := List.length_pos_of_mem h1
 exact ⟨_, List.getElem?_eq_getElem h2⟩
theorem Zxo {α : Type} {l : List α} {i : Nat} {x : α} (p : α -> Bool) (h : l[i]? = some x) : (l.take (i + 1)).any p = ((l.take i).any p || p x) := by
 obtain ⟨h1, rfl⟩ := List.getElem?_eq_some_iff.1 h
 rw [<- List.take_append_getElem h1, List.any_append]
 simp
def ZvX (i : Nat) (s : Zab) (v : Value) (O : List It) : Prop :=
 ∃ (Ar : Option Addr) (cr : Nat) (Az : Option Addr) (cz : Nat) (Al : Option Addr) (cl : Nat) (As : Option Addr) (cs : Nat) (Zs : List ZE) (S : Nat -> Prop) (q : ZE), v = srcV Ar Az Al As cr cz cl cs s /\ Zs.map ZE.z = s.zones /\ Zs[i]? = some q /\ O = [rowR Ar cr s.rules, .row (.slice Az s.zones.length cz) 46 2 s.zones.length (Zs.flatMap ZE.enc), rowL Al cl s.links, rowS As cs s.shifts, Zau q, .fact S (Zax (Zs.eraseIdx i))]
theorem Zkc {α : Type} : ∀ {l : List α} {i : Nat} (h : i < l.length), l.Perm (l[i] :: l.eraseIdx i)
 | x :: l, 0, _ => List.Perm.refl _
 | x :: l, i + 1, h => ((Zkc (l := l) (i := i) (by simpa using h)).cons x).trans (List.Perm.swap _ _ _)
theorem Zry {i : Nat} {s : Zab} {v : Value} {O : List It} (h : Zdq s v O) (hi : i < s.zones.length) : ∃ O', ZvX i s v O' /\ ∀ base w', Zat base O w' -> Zat base O' w' := by
 obtain ⟨Ar, cr, Az, cz, Al, cl, As, cs, Zs, rfl, hz, rfl⟩ := h
 have hi2 : i < Zs.length := by rw [<- hz, List.length_map] at hi; exact hi
 refine ⟨_, ⟨Ar, cr, Az, cz, Al, cl, As, cs, Zs, foot ((Zs.eraseIdx i).map Zau), Zs[i], rfl, hz, List.getElem?_eq_getElem hi2, rfl⟩, fun base w' hH => ?_⟩
 have hp : (Zs.map Zau).Perm (Zau Zs[i] :: (Zs.eraseIdx i).map Zau) := (Zkc hi2).map Zau
 have h0 : Zat base ((Zs.eraseIdx i).map Zau ++ [rowR Ar cr s.rules, rowZ Az cz Zs, rowL Al cl s.links, rowS As cs s.shifts, Zau Zs[i]]) w' :=
  hH.perm ((((hp.cons _).cons _).cons _).cons _ |>.trans (List.perm_append_comm (l₁ := [rowR Ar cr s.rules, rowZ Az cz Zs, rowL Al cl s.links, rowS As cs s.shifts, Zau Zs[i]])))
 have h2 := h0.fact (p := Zax (Zs.eraseIdx i)) (fun w2 hi q hq => Za4 DEra.len (hi (Zau q) (List.mem_map.2 ⟨q, hq, rfl⟩)))
 have e : It.row (.slice Az s.zones.length cz) 46 2 s.zones.length (Zs.flatMap ZE.enc) = rowZ Az cz Zs := by rw [<- hz, List.length_map]
 rw [e]
 exact h2.perm (List.perm_append_comm (l₁ := [_]) (l₂ := [rowR Ar cr s.rules, rowZ Az cz Zs, rowL Al cl s.links, rowS As cs s.shifts, Zau Zs[i]]))
theorem ZkX {α : Type} {l : List α} {i : Nat} {a x : α} (h : x ∈ l.set i a) : x = a \/ x ∈ l.eraseIdx i := by
 obtain ⟨j, hj⟩ := List.getElem?_of_mem h
 by_cases hji : i = j
 ·subst hji
  have hl : i < l.length := by
   have := (List.getElem?_eq_some_iff.1 hj).1
   rwa [List.length_set] at this
  rw [List.getElem?_set_self hl] at hj
  exact .inl (Option.some.inj hj).symm
 ·rw [List.getElem?_set_ne hji] at hj
  obtain ⟨hl, hx⟩ := List.getElem?_eq_some_iff.1 hj
  exact .inr (List.mem_eraseIdx_iff_getElem.2 ⟨j, hl, fun e => hji e.symm, hx⟩)
theorem Zgk {α β : Type} (f : α -> List β) : ∀ (l : List α) (i : Nat) (a b : α), l[i]? = some b -> f a = f b -> (l.set i a).flatMap f = l.flatMap f
 | [], i, a, b, h, _ => by simp at h
 | x :: l, 0, a, b, h, hf => by
  simp only [List.getElem?_cons_zero, Option.some.injEq] at h
  subst h
  rw [List.set_cons_zero, List.flatMap_cons, List.flatMap_cons, hf]
 | x :: l, i + 1, a, b, h, hf => by
  rw [List.set_cons_succ, List.flatMap_cons, List.flatMap_cons, Zgk f l i a b (by simpa using h) hf]
attribute [local irreducible] W RL Does Zap Zak retQ Calls Pu Stp RD Qy Ay Zal
end Go.Proofs.YtbjomhdhkpgbaaaGreatDoor
namespace Go.Proofs.YtbjomhdhkpgbaaaGreatDoor
open Go Go.RowKit Go.Wk
theorem ZsU {w : World} {Ar Az Al As : Option Addr} {cr cz cl cs i : Nat} {Zs : List ZE} {S : Nat -> Prop} {q : ZE} {s : Zab} {es : List DEra} (hz : Zs.map ZE.z = s.zones) (hq : Zs[i]? = some q) (hes : es.length = q.z.eras.length)
  (h1 : (rowR Ar cr s.rules).sat w) (h2 : (It.row (.slice Az s.zones.length cz) 46 2 s.zones.length (Zs.flatMap ZE.enc)).sat w) (h3 : (rowL Al cl s.links).sat w) (h4 : (rowS As cs s.shifts).sat w)
  (h5 : (It.row (.slice q.A q.z.eras.length q.c) 54 13 q.z.eras.length (es.flatMap DEra.enc)).sat w) (h6 : (It.fact S (Zax (Zs.eraseIdx i))).sat w) :
  Zaj w Ar Az Al As cr cz cl cs ⟨s.rules, s.zones.set i ⟨q.z.name, es⟩, s.links, s.shifts⟩ := by
 have hzl : s.zones.length = Zs.length := by rw [<- hz, List.length_map]
 rw [hzl] at h2
 have hlen : (Zs.set i ⟨⟨q.z.name, es⟩, q.A, q.c⟩).length = Zs.length := List.length_set
 have hfl : (Zs.set i ⟨⟨q.z.name, es⟩, q.A, q.c⟩).flatMap ZE.enc = Zs.flatMap ZE.enc := Zgk ZE.enc Zs i _ q hq (by unfold ZE.enc; dsimp only; rw [hes])
 have hmap : (Zs.set i ⟨⟨q.z.name, es⟩, q.A, q.c⟩).map ZE.z = s.zones.set i ⟨q.z.name, es⟩ := by
  rw [List.map_set, hz]
 have hrow : RdSl w Az cz ZE.enc 2 (Zs.set i ⟨⟨q.z.name, es⟩, q.A, q.c⟩) := Za4 ZE.len (by rw [hlen, hfl]; exact h2)
 have hat : Zax (Zs.set i ⟨⟨q.z.name, es⟩, q.A, q.c⟩) w := fun y hy => by
  rcases ZkX hy with rfl | hy
  ·exact Za4 DEra.len (by rw [hes]; exact h5)
  ·exact Za1 h6 y hy
 have hl2 : (s.zones.set i ⟨q.z.name, es⟩).length = (Zs.set i ⟨⟨q.z.name, es⟩, q.A, q.c⟩).length := by rw [<- hmap, List.length_map]
 exact ⟨Za4 DRule.len h1, by show (s.zones.set i ⟨q.z.name, es⟩).length <= cz; rw [hl2]; exact hrow.le, hrow.cap, hmap ▸ ZpH hrow hat, Za4 DLink.len h3, Za4 ZaI.len h4⟩
theorem ZsV {w : World} {Ar Az Al As : Option Addr} {cr cz cl cs i : Nat} {Zs : List ZE} {S : Nat -> Prop} {q : ZE} {s : Zab} (hz : Zs.map ZE.z = s.zones) (hq : Zs[i]? = some q)
  (h1 : (rowR Ar cr s.rules).sat w) (h2 : (It.row (.slice Az s.zones.length cz) 46 2 s.zones.length (Zs.flatMap ZE.enc)).sat w) (h3 : (rowL Al cl s.links).sat w) (h4 : (rowS As cs s.shifts).sat w)
  (h5 : (Zau q).sat w) (h6 : (It.fact S (Zax (Zs.eraseIdx i))).sat w) : Zaj w Ar Az Al As cr cz cl cs s := by
 have h := ZsU (es := q.z.eras) hz hq rfl h1 h2 h3 h4 h5 h6
 have hs : s.zones[i]? = some q.z := by rw [<- hz, List.getElem?_map, hq]; rfl
 have e : s.zones.set i ⟨q.z.name, q.z.eras⟩ = s.zones := Zs6 hs
 rw [e] at h
 exact h
theorem Ziw (a : List Value) : ∀ (vs cs : List Value) (j : Nat), lay (a ++ cs) (a.length + j) vs = a ++ lay cs j vs
 | [], _, _ => rfl
 | v :: r, cs, j => by
  rw [lay, lay, List.set_append_right _ _ (by omega), Nat.add_sub_cancel_left, Nat.add_assoc, Ziw a r _ (j + 1)]
theorem Zj3 (c : List Value) : ∀ (vs a : List Value) (j : Nat), j + vs.length <= a.length -> lay (a ++ c) j vs = lay a j vs ++ c
 | [], _, _, _ => rfl
 | v :: r, a, j, h => by
  simp only [List.length_cons] at h
  rw [lay, lay, List.set_append_left _ _ (by omega), Zj3 c r _ (j + 1) (by rw [List.length_set]; omega)]
theorem ZgW {α : Type} {enc : α -> List Value} {sz : Nat} (hsz : ∀ x, (enc x).length = sz) (off : Nat) (vs : List Value) (hb : off + vs.length <= sz) (x y : α) (he : lay (enc x) off vs = enc y) : ∀ (l : List α) (k : Nat), l[k]? = some x -> lay (l.flatMap enc) (k * sz + off) vs = (l.set k y).flatMap enc
 | [], k, h => by simp at h
 | z :: l, 0, h => by
  simp only [List.getElem?_cons_zero, Option.some.injEq] at h
  subst h
  rw [List.flatMap_cons, List.set_cons_zero, List.flatMap_cons, <- he, Nat.zero_mul, Nat.zero_add, Zj3 _ _ _ _ (by rw [hsz]; exact hb)]
 | z :: l, k + 1, h => by
  have ih := ZgW hsz off vs hb x y he l k (by simpa using h)
  rw [List.flatMap_cons, List.set_cons_succ, List.flatMap_cons, <- ih, show (k + 1) * sz + off = (enc z).length + (k * sz + off) by rw [hsz, Nat.add_mul]; omega, Ziw]
structure Sml0 (s : Zab) : Prop where
 nr : s.rules.length <= 100
 nz : s.zones.length <= 100
 nl : s.links.length <= 101
 ns : s.shifts.length <= 100
 rs : ∀ r ∈ s.rules, (r.name.size <= 100 /\ r.letter.size <= 100) /\ -9223372036854775808 <= r.save /\ r.save <= 9223372036854775807
 zs : ∀ z ∈ s.zones, z.name.size <= 100 /\ z.eras.length <= 100 /\ ∀ e ∈ z.eras, SmE e
 ls : ∀ l ∈ s.links, l.target.size <= 100 /\ l.name.size <= 100
theorem Sml.zero {s : Zab} (h : Sml s) : Sml0 s where
 nr := h.nr
 nz := h.nz
 nl := by have := h.nl; omega
 ns := h.ns
 rs := fun r hr => by obtain ⟨h1, h2, h3, h4⟩ := h.rs r hr; exact ⟨⟨h1, h2⟩, by omega, by omega⟩
 zs := h.zs
 ls := h.ls
end Go.Proofs.YtbjomhdhkpgbaaaGreatDoor
set_option maxHeartbeats 8000000
namespace Go.Proofs.YtbjomhdhkpgbaaaGreatDoor
open Go Go.RowKit Go.Wk
attribute [local irreducible] W RL Does Zap Zak retQ Calls Pu Stp RD Qy Ay Zal RW Zae in23
theorem Zrj {w : World} {Ar Az Al As As' : Option Addr} {cr cz cl cs cs' : Nat} {s : Zab} {sh : List ByteArray} (h : Zaj w Ar Az Al As cr cz cl cs s) (hs : RdSl w As' cs' ZaI 1 sh) : Zaj w Ar Az Al As' cr cz cl cs' { s with shifts := sh } :=
 ⟨h.r, h.zle, h.zcap, h.z, h.l, hs⟩
structure RfG where
 i : Nat
 nb : Bool
structure RfH where
 k : Nat
 H : Option Addr
 n : Nat
 c : Nat
def farL (far : Int) : List Int := [-far, 4 + far, 9223372036854775807, -9223372036854775808]
theorem Zxa {far : Int} (h : 0 <= far) {i : Nat} {f : Int} (hf : (farL far)[i]? = some f) : f < 1 \/ 3 < f := by
 have := List.mem_of_getElem? hf
 simp only [farL, List.mem_cons, List.not_mem_nil, or_false] at this
 omega
def plR (r : DRule) : Bool := decide (r.name = r0N) && decide (0 < r.save)
theorem Zvm {G : Prop} (h : G := by (first | (apply Zav; rfl; rfl; omega; omega; (intro w' _ hO; exact Za6 (hO.of (A := rowR RB rb m.rules) (by repeat' constructor)) (by omega))) | (apply Zav; rfl; rfl; omega; (first | omega | (have := hzq _ _ hZ1 hq1; omega)); (intro w' _ hO; exact Za6 (hO.of (by repeat' constructor)) (by first | omega | exact hzq _ _ hZ1 hq1))) | (apply Zve; rfl; (focus repeat' constructor); exact ZaF ZE.len _ 0 _ 1 _ hq1 rfl))) : G := h
theorem Zvl {G : Prop} (h : G := by (first | (apply Zav; rfl; rfl; omega; omega; (intro w' _ hO; exact Za6 (hO.of (A := rowR R1 r1 m.rules) (by repeat' constructor)) (by omega))) | (apply Za2 (vs := [.string nm, .int .i64 fr, .int .i64 to, .int .i64 mo, .int .i64 dk, .int .i64 dw, .int .i64 dd, .int .i64 cs', .int .i64 cb, .int .i64 sv, .string lt]); rfl; (focus repeat' constructor); exact hgr; rfl) | (apply Zen; rfl; rfl; exact e1) | (apply Za0; rfl; rfl; exact e2))) : G := h
theorem ZnH {G G' : Prop} (k : G') (h : Hold G' -> G := by intro k9; (first | (apply RL_pu; rfl; exact Zvl) | (apply RD_Q; rfl; rfl; decide +kernel; rfl; rfl; exact QyTrRf1) | refine walk1 ?_ | (refine jn ?_; (try intro F); (first | (refine stA ?_) | (apply Zag; first | exact Zvl | exact PuA)); first | refine ⟨_, EndsA, QFTrRf1, ?_⟩ | refine fin ?_)); exact k9.out) : G := h ⟨k⟩
theorem Zvk {G : Prop} (h : G := by (first | (apply Pu_conv64; rfl; (constructor <;> omega)) | (apply Zgz; rfl; (constructor <;> omega)))) : G := h
theorem ZlG {G : Prop} (h : G := by (first | (apply Pu_indexAddr; rfl; rfl; omega; omega; simp) | (apply Zc1 (v := .int .i64 f); rfl; (intro w' _ hO; exact ((ZrG (c := 4) (l := farL far) (enc := iEnc) (t := 3) (fun _ => rfl) (Nat.le_refl 4) (by decide) (show (It.blk bI ((farL far).flatMap iEnc) 3).sat w' from hO.of (A := .blk bI [.int .i64 (-far), .int .i64 (4 + far), .int .i64 9223372036854775807, .int .i64 (-9223372036854775808)] 3) (by repeat' constructor))).rd k _ hfk).2 0 _ rfl)) | (apply ZaG; rfl; rfl; exact e0') | (apply ZaG; rfl; rfl; exact (show (!decide ((2 : Int) = 2)) = false from rfl)) | (apply ZaG; rfl; rfl; exact (show (!decide ((15 : Int) = 15)) = false from rfl)) | (apply ZaG; rfl; rfl; exact (show (!decide ((17 : Int) = 17)) = false from rfl)) | (apply Zly (p := ⟨0, 0, 0⟩) (q := ⟨0, 0, 0⟩); rfl; rfl; exact (rfl : (!decide ((⟨0, 0, 0⟩ : Zao) = ⟨0, 0, 0⟩)) = false)) | (apply Zly (p := ⟨1, 0, 0⟩) (q := ⟨1, 0, 0⟩); rfl; rfl; exact (rfl : (!decide ((⟨1, 0, 0⟩ : Zao) = ⟨1, 0, 0⟩)) = false)) | (apply Zly (p := ⟨4, 0, 0⟩) (q := ⟨4, 0, 0⟩); rfl; rfl; exact (rfl : (!decide ((⟨4, 0, 0⟩ : Zao) = ⟨4, 0, 0⟩)) = false)))) : G := h
set_option maxRecDepth 20000 in
theorem ZeE (As Az Al : Option Addr) (cs cz cl : Nat) (d : DD23) (far : Int) (w : World) (hL : LibW w) (hG : Glob w) (hS : RdLL w As cs Zdt 1 d.sets) (hZ : RdLL w Az cz E23.enc 8 d.zones) (hD : RdSl w Al cl Zdt 1 d.links) (hrs : ∀ l ∈ d.sets, ∀ x ∈ l, inR .u8 x) (hrz : ∀ l ∈ d.zones, ∀ x ∈ l, x.ok) (hrl : ∀ x ∈ d.links, inR .u8 x) (hfa : inR .u16 far) :
  Does Tryz.prog 5 [d23V As Az Al cs cz cl d, .int .u16 far] w (fun v O => v = .bool true /\ O = []) := by
 have hwk := fun w' (hw : Bel w.heap.size w w') => Zhi w' (hL.up hw) (hG.up hw)
 have hnz : 1 <= (Zae d).zones.length := Ziq d
 have hmk := fun w' (hw : Bel w.heap.size w w') => (Zir As Az Al cs cz cl d w' (hS.up hw) (hZ.up hw) (hD.up hw) hrs hrz hrl).monoO fun _ _ h => Zry (i := 0) h hnz
 unfold ZvX at hmk
 have hsm := Zb3 d
 have hbs := fun r => Zxm d (r := r)
 have hbe := fun r => Zxl d (r := r)
 have hms := fun z e => Zzb d (z := z) (e := e)
 have hme := fun z e => Zza d (z := z) (e := e)
 have hfe := fun form => Zw9 d (form := form)
 obtain ⟨r0, hr0⟩ := ZkY d
 have hzs := Zbw d
 generalize Zae d = m at *
 have hf2 : 0 <= far /\ far <= 65535 := Zze.1 hfa
 have hzl : m.zones.length <= 100 := hsm.nz
 have hrl1 := hsm.nr
 have hzq : ∀ (Zs : List ZE) (q : ZE), Zs.map ZE.z = m.zones -> Zs[0]? = some q -> 0 < q.z.eras.length := fun Zs q h1 h2 => by
  have : m.zones[0]? = some q.z := by rw [<- h1, List.getElem?_map, h2]; rfl
  obtain ⟨Y, hY⟩ := hzs q.z (List.mem_of_getElem? this)
  have := hY.len
  omega
 refine Zaa Tryz.func5 rfl rfl rfl rfl ?_
 repeat (first | refine walk ?_ | (refine jg ?_; (try intro F); (first | (apply Zac (h := fun w' hw _ => hmk w' hw); rfl; rintro v O' ⟨R1, r1, Z1, z1, L1, l1, H1, h1, Zs1, S1, q, rfl, hZ1, hq1, rfl⟩) | (refine bx ?_; intro bk) | (refine stA ?_)); refine fin ?_) | (refine jn ?_; (try intro F); (first | (refine bx ?_; intro bk) | (refine stA ?_) | (apply Zag; exact PuA)); refine fin ?_) | (apply RD_W; rfl; intro bk))
 generalize bk = b5
 rename_i b2 F4 RA ra ZA za LA la HA ha ZsA SA qA hZA hqA F3 RB rb ZB zb LB lb HB hb ZsB SB qB hZB hqB F2 b7 b6 F1 F0
 clear F F0 F1 F2 F3 F4
 have hrl0 : 0 < m.rules.length := (List.getElem?_eq_some_iff.1 hr0).1
 repeat (first | (apply RL_pu; rfl; exact Zvm) | (refine js ?_; (first | (apply Zbi (vs := [.string qN]); rfl; rfl; (focus repeat' constructor); rfl; rfl; rfl; (rw [ZaE DRule.len]; omega); decide; rfl) | (apply Zbi (vs := [.string pctB]); rfl; rfl; (focus repeat' constructor); rfl; rfl; rfl; (rw [ZaE DEra.len]; have := hzq _ _ hZ1 hq1; omega); decide; rfl) | (refine bx ?_; intro bk))) | (apply RD_Q; rfl; rfl; decide +kernel; rfl; rfl; exact QyTrRf0) | refine walk1 ?_ | (refine RD_Lw ?_; intro F; (first | (apply Zbi (vs := [.string qN]); rfl; rfl; (focus repeat' constructor); rfl; rfl; rfl; (rw [ZaE DRule.len]; omega); decide; rfl) | (apply Zbi (vs := [.string pctB]); rfl; rfl; (focus repeat' constructor); rfl; rfl; rfl; (rw [ZaE DEra.len]; have := hzq _ _ hZ1 hq1; omega); decide; rfl) | (refine bx ?_; intro bk) | (refine stA ?_) | (apply Zag; first | exact Zvm | exact PuA)); refine ⟨_, EndsA, QFTrRf0, ?_⟩) | (apply RD_W; rfl; intro bk))
 refine Zaq [(1, _), (5, _), (6, _), (7, _), (40, _), (41, _)] _ (fun g : RfG => [(42, .int .i64 g.i), (8, .bool g.nb)]) (fun _ => []) (fun g => g.i <= m.rules.length /\ g.nb = (m.rules.take g.i).any plR) (fun g => m.rules.length - g.i) ⟨0, false⟩ SFA (.refl _) ⟨Nat.zero_le _, rfl⟩ ?_
 rintro ⟨i, nb⟩ ⟨hi, hnb⟩
 dsimp only [List.nil_append] at hi hnb ⊢
 repeat (first | refine walk ?_ | (refine jn ?_; (try intro F); (first | (refine bx ?_; intro bk) | (refine stA ?_) | (apply Zag; exact PuA)); refine fin ?_) | (apply RD_W; rfl; intro bk))
 refine Zah rfl (fun hc => ?_) (fun hc => ?_)
 ·have hil : i < m.rules.length := by
   have := of_decide_eq_true hc
   omega
  obtain ⟨r, hr⟩ : ∃ r, m.rules[i]? = some r := ⟨_, List.getElem?_eq_getElem hil⟩
  have hnx := Zxo plR hr
  have hgr : ∀ (j : Nat) (v : Value), (DRule.enc r)[j]? = some v -> (m.rules.flatMap DRule.enc)[(i : Int).toNat * 11 + j]? = some v := fun j v hj => by
   have := ZaF DRule.len m.rules i r j v hr hj
   simpa using this
  obtain ⟨nm, fr, to, mo, ⟨dk, dw, dd⟩, ⟨cs', cb⟩, sv, lt⟩ := r
  rw [<- hnb, show plR ⟨nm, fr, to, mo, ⟨dk, dw, dd⟩, ⟨cs', cb⟩, sv, lt⟩ = (decide (nm = r0N) && decide (0 < sv)) from rfl] at hnx
  obtain ⟨b1, e1⟩ : ∃ b, decide (nm = r0N) = b := ⟨_, rfl⟩
  obtain ⟨b2, e2⟩ : ∃ b, decide (0 < sv) = b := ⟨_, rfl⟩
  rw [e1, e2] at hnx
  cases b1 with
  | false =>
   repeat (first | refine ZnH ?_ | (refine jn ?_; (try intro F); (refine bx ?_; intro bk); first | refine ⟨_, EndsA, QFTrRf1, ?_⟩ | refine fin ?_) | (apply RD_W; rfl; intro bk))
   exact ⟨⟨i + 1, nb⟩, by dsimp only; omega, ⟨hil, by dsimp only; rw [hnx]; simp⟩, SFA, STA⟩
  | true =>
   cases b2 with
   | false =>
    repeat (first | refine ZnH ?_ | (refine jn ?_; (try intro F); (refine bx ?_; intro bk); first | refine ⟨_, EndsA, QFTrRf1, ?_⟩ | refine fin ?_) | (apply RD_W; rfl; intro bk))
    exact ⟨⟨i + 1, nb⟩, by dsimp only; omega, ⟨hil, by dsimp only; rw [hnx]; simp⟩, SFA, STA⟩
   | true =>
    repeat (first | refine ZnH ?_ | (refine jn ?_; (try intro F); (refine bx ?_; intro bk); first | refine ⟨_, EndsA, QFTrRf1, ?_⟩ | refine fin ?_) | (apply RD_W; rfl; intro bk))
    exact ⟨⟨i + 1, true⟩, by dsimp only; omega, ⟨hil, by dsimp only; rw [hnx]; simp⟩, SFA, STA⟩
 obtain rfl : i = m.rules.length := by
  have := of_decide_eq_false hc
  omega
 have hnp : nb = ZjN m := by rw [hnb, List.take_length]; rfl
 clear hnb hc
 repeat (first | (apply RL_pu; rfl; exact Zvk) | (apply RD_Q; rfl; rfl; decide +kernel; rfl; rfl; exact QyTrRf2) | refine walk1 ?_ | (refine jn ?_; (try intro F); (first | (refine bx ?_; intro bk) | (refine stA ?_) | (apply Zag; first | exact Zvk | exact PuA)); first | refine ⟨_, EndsA, QFTrRf2, ?_⟩ | refine fin ?_) | (apply RD_W; rfl; intro bk))
 generalize bk = bI
 have hzB : m.zones[0]? = some q.z := by rw [<- hZ1, List.getElem?_map, hq1]; rfl
 obtain ⟨e0, he0⟩ : ∃ e, q.z.eras[0]? = some e := ⟨_, List.getElem?_eq_getElem (hzq _ _ hZ1 hq1)⟩
 have hrdC : ∀ w', (∀ i ∈ [rowR R1 r1 m.rules, .row (.slice Z1 m.zones.length z1) 46 2 m.zones.length (Zs1.flatMap ZE.enc), rowL L1 l1 m.links, rowS H1 h1 m.shifts, .row (.slice q.A q.z.eras.length q.c) 54 13 q.z.eras.length (lay (q.z.eras.flatMap DEra.enc) ((0 : Int).toNat * 13 + 4) [.string pctB]), .fact S1 (Zax (Zs1.eraseIdx 0))], It.sat i w') -> Zaj w' R1 Z1 L1 H1 r1 z1 l1 h1 (mixF m q.z e0 m.shifts) := fun w' hi => by
  refine ZsU (i := 0) (es := q.z.eras.set 0 (mxE e0)) hZ1 hq1 List.length_set (hi (rowR R1 r1 m.rules) (.head _)) (hi _ (.tail _ (.head _))) (hi (rowL L1 l1 m.links) (.tail _ (.tail _ (.head _)))) (hi (rowS H1 h1 m.shifts) (.tail _ (.tail _ (.tail _ (.head _))))) ?_ (hi (.fact S1 (Zax (Zs1.eraseIdx 0))) (.tail _ (.tail _ (.tail _ (.tail _ (.tail _ (.head _)))))))
  have h9 := ZgW DEra.len 4 [.string pctB] (by decide) e0 (mxE e0) rfl q.z.eras 0 he0
  rw [<- h9]
  exact hi (.row (.slice q.A q.z.eras.length q.c) 54 13 q.z.eras.length (lay (q.z.eras.flatMap DEra.enc) ((0 : Int).toNat * 13 + 4) [.string pctB])) (.tail _ (.tail _ (.tail _ (.tail _ (.head _)))))
 have hrdB : ∀ w', (∀ i ∈ [.row (.slice RB m.rules.length rb) 56 11 m.rules.length (lay (m.rules.flatMap DRule.enc) ((0 : Int).toNat * 11 + 10) [.string qN]), .row (.slice ZB m.zones.length zb) 46 2 m.zones.length (ZsB.flatMap ZE.enc), rowL LB lb m.links, rowS HB hb m.shifts, Zau qB, .fact SB (Zax (ZsB.eraseIdx 0))], It.sat i w') -> Zaj w' RB ZB LB HB rb zb lb hb (badT m r0) := fun w' hi => by
  have h9 := ZgW DRule.len 10 [.string qN] (by decide) r0 { r0 with letter := qN } rfl m.rules 0 hr0
  have h8 := hi (.row (.slice RB m.rules.length rb) 56 11 m.rules.length (lay (m.rules.flatMap DRule.enc) ((0 : Int).toNat * 11 + 10) [.string qN])) (.head _)
  rw [show (0 : Int).toNat * 11 + 10 = 0 * 11 + 10 from rfl, h9] at h8
  have h7 : (rowR RB rb (badT m r0).rules).sat w' := by
   show (It.row (.slice RB (m.rules.set 0 { r0 with letter := qN }).length rb) 56 11 (m.rules.set 0 { r0 with letter := qN }).length ((m.rules.set 0 { r0 with letter := qN }).flatMap DRule.enc)).sat w'
   rw [List.length_set]
   exact h8
  exact ZsV (s := badT m r0) hZB hqB h7 (hi (.row (.slice ZB m.zones.length zb) 46 2 m.zones.length (ZsB.flatMap ZE.enc)) (.tail _ (.head _))) (hi (rowL LB lb m.links) (.tail _ (.tail _ (.head _)))) (hi (rowS HB hb m.shifts) (.tail _ (.tail _ (.tail _ (.head _))))) (hi (Zau qB) (.tail _ (.tail _ (.tail _ (.tail _ (.head _)))))) (hi (.fact SB (Zax (ZsB.eraseIdx 0))) (.tail _ (.tail _ (.tail _ (.tail _ (.tail _ (.head _)))))))
 have hrdA : ∀ w', (∀ i ∈ [rowR RA ra m.rules, .row (.slice ZA m.zones.length za) 46 2 m.zones.length (ZsA.flatMap ZE.enc), rowL LA la m.links, rowS HA ha m.shifts, Zau qA, .fact SA (Zax (ZsA.eraseIdx 0))], It.sat i w') -> Zaj w' RA ZA LA HA ra za la ha m := fun w' hi =>
  ZsV hZA hqA (hi (rowR RA ra m.rules) (.head _)) (hi (.row (.slice ZA m.zones.length za) 46 2 m.zones.length (ZsA.flatMap ZE.enc)) (.tail _ (.head _))) (hi (rowL LA la m.links) (.tail _ (.tail _ (.head _)))) (hi (rowS HA ha m.shifts) (.tail _ (.tail _ (.tail _ (.head _))))) (hi (Zau qA) (.tail _ (.tail _ (.tail _ (.tail _ (.head _)))))) (hi (.fact SA (Zax (ZsA.eraseIdx 0))) (.tail _ (.tail _ (.tail _ (.tail _ (.tail _ (.head _)))))))
 refine Zei [rowR R1 r1 m.rules, .row (.slice Z1 m.zones.length z1) 46 2 m.zones.length (Zs1.flatMap ZE.enc), rowL L1 l1 m.links, rowS H1 h1 m.shifts, .row (.slice q.A q.z.eras.length q.c) 54 13 q.z.eras.length (lay (q.z.eras.flatMap DEra.enc) ((0 : Int).toNat * 13 + 4) [.string pctB]), .fact S1 (Zax (Zs1.eraseIdx 0))]
  [.row (.slice RB m.rules.length rb) 56 11 m.rules.length (lay (m.rules.flatMap DRule.enc) ((0 : Int).toNat * 11 + 10) [.string qN]), .row (.slice ZB m.zones.length zb) 46 2 m.zones.length (ZsB.flatMap ZE.enc), rowL LB lb m.links, rowS HB hb m.shifts, Zau qB, .fact SB (Zax (ZsB.eraseIdx 0)), rowR RA ra m.rules, .row (.slice ZA m.zones.length za) 46 2 m.zones.length (ZsA.flatMap ZE.enc), rowL LA la m.links, rowS HA ha m.shifts, Zau qA, .fact SA (Zax (ZsA.eraseIdx 0)), .blk bI [.int .i64 (-far), .int .i64 (4 + far), .int .i64 9223372036854775807, .int .i64 (-9223372036854775808)] 3, .blk b5 [.slice RA m.rules.length ra, .slice ZA m.zones.length za, .slice LA m.links.length la, .slice HA m.shifts.length ha] 32, .blk b6 [.slice RB m.rules.length rb, .slice ZB m.zones.length zb, .slice LB m.links.length lb, .slice HB m.shifts.length hb] 32, .blk b7 [.slice R1 m.rules.length r1, .slice Z1 m.zones.length z1, .slice L1 m.links.length l1, .slice H1 m.shifts.length h1] 32] (fun w' => Zaj w' R1 Z1 L1 H1 r1 z1 l1 h1 (mixF m q.z e0 m.shifts)) SOA hrdC ?_
 generalize foot _ = FC
 refine Zei [.row (.slice RB m.rules.length rb) 56 11 m.rules.length (lay (m.rules.flatMap DRule.enc) ((0 : Int).toNat * 11 + 10) [.string qN]), .row (.slice ZB m.zones.length zb) 46 2 m.zones.length (ZsB.flatMap ZE.enc), rowL LB lb m.links, rowS HB hb m.shifts, Zau qB, .fact SB (Zax (ZsB.eraseIdx 0))] [.fact FC (fun w' => Zaj w' R1 Z1 L1 H1 r1 z1 l1 h1 (mixF m q.z e0 m.shifts)), rowR RA ra m.rules, .row (.slice ZA m.zones.length za) 46 2 m.zones.length (ZsA.flatMap ZE.enc), rowL LA la m.links, rowS HA ha m.shifts, Zau qA, .fact SA (Zax (ZsA.eraseIdx 0)), .blk bI [.int .i64 (-far), .int .i64 (4 + far), .int .i64 9223372036854775807, .int .i64 (-9223372036854775808)] 3, .blk b5 [.slice RA m.rules.length ra, .slice ZA m.zones.length za, .slice LA m.links.length la, .slice HA m.shifts.length ha] 32, .blk b6 [.slice RB m.rules.length rb, .slice ZB m.zones.length zb, .slice LB m.links.length lb, .slice HB m.shifts.length hb] 32, .blk b7 [.slice R1 m.rules.length r1, .slice Z1 m.zones.length z1, .slice L1 m.links.length l1, .slice H1 m.shifts.length h1] 32] (fun w' => Zaj w' RB ZB LB HB rb zb lb hb (badT m r0)) SOA hrdB ?_
 generalize foot _ = FB
 refine Zei [rowR RA ra m.rules, .row (.slice ZA m.zones.length za) 46 2 m.zones.length (ZsA.flatMap ZE.enc), rowL LA la m.links, rowS HA ha m.shifts, Zau qA, .fact SA (Zax (ZsA.eraseIdx 0))] [.fact FB (fun w' => Zaj w' RB ZB LB HB rb zb lb hb (badT m r0)), .fact FC (fun w' => Zaj w' R1 Z1 L1 H1 r1 z1 l1 h1 (mixF m q.z e0 m.shifts)), .blk bI [.int .i64 (-far), .int .i64 (4 + far), .int .i64 9223372036854775807, .int .i64 (-9223372036854775808)] 3, .blk b5 [.slice RA m.rules.length ra, .slice ZA m.zones.length za, .slice LA m.links.length la, .slice HA m.shifts.length ha] 32, .blk b6 [.slice RB m.rules.length rb, .slice ZB m.zones.length zb, .slice LB m.links.length lb, .slice HB m.shifts.length hb] 32, .blk b7 [.slice R1 m.rules.length r1, .slice Z1 m.zones.length z1, .slice L1 m.links.length l1, .slice H1 m.shifts.length h1] 32] (fun w' => Zaj w' RA ZA LA HA ra za la ha m) SOA hrdA ?_
 generalize foot _ = FA
 clear hrdA hrdB hrdC
 have hbsm := hbs r0 hr0
 have hbto := hbe r0 hr0
 have hmsm := hms q.z e0 hzB he0
 have hmto := hme q.z e0 hzB he0
 have hbr : (badT m r0).rules.length = m.rules.length := List.length_set
 have hbz : (badT m r0).zones.length = m.zones.length := rfl
 have hbl : (badT m r0).links.length = m.links.length := rfl
 have hbh : (badT m r0).shifts.length = m.shifts.length := rfl
 have hmr : (mixF m q.z e0 [r0N]).rules.length = m.rules.length := rfl
 have hmz : (mixF m q.z e0 [r0N]).zones.length = m.zones.length := List.length_set
 have hml : (mixF m q.z e0 [r0N]).links.length = m.links.length := rfl
 have hmh : (mixF m q.z e0 [r0N]).shifts.length = 1 := rfl
 have kA := fun (f : Int) (hf : f < 1 \/ 3 < f) w' (hw : Bel w.heap.size w w') (hA : Zaj w' RA ZA LA HA ra za la ha m) => ZdJ RA ZA LA HA ra za la ha m f (⟨0, 0, 0⟩, 2) w' (hsm.acc (hL.up hw) (hG.up hw) hA) (hfe f hf)
 have kB := fun (f : Int) w' (hw : Bel w.heap.size w w') (hA : Zaj w' RB ZB LB HB rb zb lb hb (badT m r0)) => ZdJ RB ZB LB HB rb zb lb hb (badT m r0) f (⟨1, 0, 0⟩, 15) w' (hbsm.acc (hL.up hw) (hG.up hw) hA) (hbto f)
 have kC := fun (hp : ZjN m = true) (f : Int) bS w' (hw : Bel w.heap.size w w') (hA : Zaj w' R1 Z1 L1 H1 r1 z1 l1 h1 (mixF m q.z e0 m.shifts)) (hB : (It.blk bS [.string r0N] 9).sat w') => ZdJ R1 Z1 L1 (some ⟨bS, 0, none⟩) r1 z1 l1 1 (mixF m q.z e0 [r0N]) f (⟨4, 0, 0⟩, 17) w' (hmsm.acc (hL.up hw) (hG.up hw) (Zrj (sh := [r0N]) hA (ZrG (c := 1) (l := [r0N]) (enc := ZaI) (t := 9) ZaI.len (Nat.le_refl 1) (by decide) hB))) (hmto hp f)
 unfold ToF srcE srcV at kA kB kC
 simp only [plV, Zao.enc, hbr, hbz, hbl, hbh, hmr, hmz, hml, hmh] at kA kB kC
 clear hbr hbz hbl hbh hmr hmz hml hmh hbsm hbto hmsm hmto
 generalize badT m r0 = bm at *
 generalize mixF m q.z e0 m.shifts = mm at *
 have e0' : (!decide ((0 : Int) = 0)) = false := rfl
 refine ZfC (fun g : RfH => [(63, .int .i64 g.k), (5, _), (6, _), (7, _), (8, .bool nb), (61, .slice (some ⟨bI, 0, none⟩) 4 4), (62, .int .i64 4)])
  (fun g => [.blk b7 [.slice R1 m.rules.length r1, .slice Z1 m.zones.length z1, .slice L1 m.links.length l1, .slice g.H g.n g.c] 32, .fact FA (fun w' => Zaj w' RA ZA LA HA ra za la ha m), .fact FB (fun w' => Zaj w' RB ZB LB HB rb zb lb hb bm), .fact FC (fun w' => Zaj w' R1 Z1 L1 H1 r1 z1 l1 h1 mm), .blk bI [.int .i64 (-far), .int .i64 (4 + far), .int .i64 9223372036854775807, .int .i64 (-9223372036854775808)] 3, .blk b5 [.slice RA m.rules.length ra, .slice ZA m.zones.length za, .slice LA m.links.length la, .slice HA m.shifts.length ha] 32, .blk b6 [.slice RB m.rules.length rb, .slice ZB m.zones.length zb, .slice LB m.links.length lb, .slice HB m.shifts.length hb] 32])
  (fun g => g.k <= 4) (fun g => 4 - g.k) ⟨0, H1, m.shifts.length, h1⟩ SFA SOA (Nat.zero_le _) ?_
 rintro ⟨k, Hk, nk, ck⟩ hk
 dsimp only at hk ⊢
 repeat (first | refine walk ?_ | (refine jn ?_; (try intro F); (first | (refine bx ?_; intro bk) | (refine stA ?_) | (apply Zag; exact PuA)); refine fin ?_) | (apply RD_W; rfl; intro bk))
 refine Zah rfl (fun hc => ?_) (fun hc => ?_)
 ·have hk4 : k < 4 := by
   have := of_decide_eq_true hc
   omega
  obtain ⟨f, hfk⟩ : ∃ f, (farL far)[k]? = some f := ⟨_, List.getElem?_eq_getElem hk4⟩
  have hff := Zxa hf2.1 hfk
  have kA' := kA f hff
  have kB' := kB f
  cases nb with
  | false =>
   repeat (first | refine und ?_ | (apply RL_pu; rfl; exact ZlG) | (apply RD_Q; rfl; rfl; decide +kernel; rfl; rfl; exact QyTrRf3) | refine walk1 ?_ | (refine jg ?_; (try intro F); (first | (refine ZaW (fun w' hw hO => kA' w' hw (Za1 (hO.of (A := .fact FA (fun w' => Zaj w' RA ZA LA HA ra za la ha m)) (by repeat' constructor)))) ?_) | (refine ZaW (fun w' hw hO => kB' w' hw (Za1 (hO.of (A := .fact FB (fun w' => Zaj w' RB ZB LB HB rb zb lb hb bm)) (by repeat' constructor)))) ?_) | (refine bx ?_; intro bk) | (refine stA ?_)); first | refine ⟨_, EndsA, QFTrRf3, ?_⟩ | refine fin ?_) | (refine jn ?_; (try intro F); (first | (refine bx ?_; intro bk) | (refine stA ?_) | (apply Zag; first | exact ZlG | exact PuA)); first | refine ⟨_, EndsA, QFTrRf3, ?_⟩ | refine fin ?_) | (apply RD_W; rfl; intro bk))
   exact ⟨⟨k + 1, Hk, nk, ck⟩, by dsimp only; omega, hk4, SFA, SOA⟩
  | true =>
   have kC' := kC hnp.symm f
   repeat (first | refine und ?_ | (apply RL_pu; rfl; exact ZlG) | (apply RD_Q; rfl; rfl; decide +kernel; rfl; rfl; exact QyTrRf3) | refine walk1 ?_ | (refine jg ?_; (try intro F); (first | (refine ZaW (fun w' hw hO => kA' w' hw (Za1 (hO.of (A := .fact FA (fun w' => Zaj w' RA ZA LA HA ra za la ha m)) (by repeat' constructor)))) ?_) | (refine ZaW (fun w' hw hO => kB' w' hw (Za1 (hO.of (A := .fact FB (fun w' => Zaj w' RB ZB LB HB rb zb lb hb bm)) (by repeat' constructor)))) ?_) | (refine ZaW (fun w' hw hO => kC' bk w' hw (Za1 (hO.of (A := .fact FC (fun w' => Zaj w' R1 Z1 L1 H1 r1 z1 l1 h1 mm)) (by repeat' constructor))) (hO.of (A := .blk bk [.string r0N] 9) (by repeat' constructor))) ?_) | (refine bx ?_; intro bk) | (refine stA ?_)); first | refine ⟨_, EndsA, QFTrRf3, ?_⟩ | refine fin ?_) | (refine jn ?_; (try intro F); (first | (refine bx ?_; intro bk) | (refine stA ?_) | (apply Zag; first | exact ZlG | exact PuA)); first | refine ⟨_, EndsA, QFTrRf3, ?_⟩ | refine fin ?_) | (apply RD_W; rfl; intro bk))
   exact ⟨⟨k + 1, some ⟨_, 0, none⟩, 1, 1⟩, by dsimp only; omega, hk4, SFA, SOA⟩
 repeat (first | refine walk ?_ | (refine jg ?_; (try intro F); (first | (refine Zad hwk ?_) | (refine bx ?_; intro bk) | (refine stA ?_)); refine fin ?_) | (refine jn ?_; (try intro F); (first | (refine bx ?_; intro bk) | (refine stA ?_) | (apply Zag; exact PuA)); refine fin ?_) | (apply RD_W; rfl; intro bk))
 exact rtA
end Go.Proofs.YtbjomhdhkpgbaaaGreatDoor
