/- Parts of the proof. -/
import Derived.Test.YtbjomhdhkpgbaaaGreatDoorW27
import Derived.Test.YtbjomhdhkpgbaaaGreatDoorW11
import Derived.Test.YtbjomhdhkpgbaaaGreatDoorW09
import Derived.Laws.OwnMore
import Derived.Test.YtbjomhdhkpgbaaaGreatDoorW28
import Derived.Test.YtbjomhdhkpgbaaaGreatDoorW29
import Derived.Test.YtbjomhdhkpgbaaaGreatDoorW12
import Derived.Test.YtbjomhdhkpgbaaaGreatDoorRows
import Derived.LaidSub
import Derived.SevenTiedAt
import Derived.JoinedOf
import Derived.KernelRfl
set_option maxHeartbeats 4000000
set_option linter.unusedVariables false
set_option linter.unusedSimpArgs false
namespace Go.Proofs.YtbjomhdhkpgbaaaGreatDoor
open Go Go.RowKit Go.Wk
theorem Zll {α : Type} {l : List α} {i : Nat} {x : α} (p : α -> Bool) (h : l[i]? = some x) : (l.take (i + 1)).any p = ((l.take i).any p || p x) := by
 obtain ⟨h1, rfl⟩ := List.getElem?_eq_some_iff.1 h
 rw [<- List.take_append_getElem h1, List.any_append]
 simp
def lmtF : ByteArray := ⟨#[76, 77, 84]⟩
def plE (x : E23) : E23 := if x.format % 6 = 3 then { x with format := 0 } else x
def plD (d : DD23) : DD23 := { d with zones := d.zones.map fun l => l.map plE }
def plF (e : DEra) : DEra := if e.format = pctB then { e with format := lmtF } else e
theorem ZmO (n : Int) : ZfJ n = pctB ↔ n % 6 = 3 := by
 have h0 := Int.emod_nonneg n (b := 6) (by decide)
 have h1 := Int.emod_lt_of_pos n (b := 6) (by decide)
 unfold ZfJ
 generalize n % 6 = x at *
 have hc : x = 0 \/ x = 1 \/ x = 2 \/ x = 3 \/ x = 4 \/ x = 5 := by omega
 rcases hc with rfl | rfl | rfl | rfl | rfl | rfl <;> decide
theorem Zzz (x : E23) (f : Bool) (ns y : Int) (b : Bool) : ZgW (plE x) f ns y b = plF (ZgW x f ns y b) := by
 unfold plE plF
 by_cases h : x.format % 6 = 3
 ·rw [if_pos h, if_pos (show (ZgW x f ns y b).format = pctB from (ZmO x.format).2 h)]
  rfl
 ·rw [if_neg h, if_neg (show ¬ (ZgW x f ns y b).format = pctB from fun hh => h ((ZmO x.format).1 hh))]
theorem ZsQ (x : E23) : (plE x).years = x.years := by unfold plE; split <;> rfl
theorem Zyo (l : List E23) (k : Nat) : (l.map plE).getD k e23Z = plE (l.getD k e23Z) := by
 rw [List.getD_eq_getElem?_getD, List.getD_eq_getElem?_getD, List.getElem?_map]
 cases l[k]? with
 | none => rfl
 | some x => rfl
theorem ZtL (ns : Int) (l : List E23) : ∀ c, ZaO ns (l.map plE) c = ((ZaO ns l c).1.map plF, (ZaO ns l c).2)
 | 0 => rfl
 | c + 1 => by
  rw [ZaO, ZaO, ZtL ns l c, Zyo, ZsQ, List.length_map, Zzz]
  simp
theorem Zz8 (l : List E23) : el23 (l.map plE) = (el23 l).map plE := by
 unfold el23
 rw [List.length_map]
 split
 ·rfl
 ·rw [List.map_take]
theorem ZxO (ns : Int) (i : Nat) (l : List E23) : ZhR ns i (l.map plE) = Za4 plF (ZhR ns i l) := by
 unfold ZhR Za4
 rw [Zz8, List.length_map, ZtL]
theorem ZpA (ns : Int) (zs : List (List E23)) : ∀ i, Za8 ns (zs.map fun l => l.map plE) i = (Za8 ns zs i).map (Za4 plF)
 | 0 => rfl
 | i + 1 => by
  have e : (zs.map fun l => l.map plE).getD i [] = (zs.getD i []).map plE := by
   rw [List.getD_eq_getElem?_getD, List.getD_eq_getElem?_getD, List.getElem?_map]
   cases zs[i]? with
   | none => rfl
   | some x => rfl
  rw [Za8, Za8, ZpA ns zs i, e, ZxO, List.map_append]
  rfl
theorem Zz1 (zs : List (List E23)) : zl23 (zs.map fun l => l.map plE) = (zl23 zs).map fun l => l.map plE := by
 unfold zl23
 rw [List.length_map]
 split
 ·rfl
 ·rw [List.map_take]
theorem Zyk (d : DD23) : Zai (plD d) = erasS plF (Zai d) := by
 unfold Zai erasS plD
 dsimp only
 rw [Zz1, List.length_map, ZpA]
 rfl
attribute [local irreducible] W RL Does Zap Zak retQ Calls Pu Stp RD Qy Ay Zal
theorem ZhT {G G' : Prop} (k : G') (h : Hold G' -> G := by intro k9; (first | refine walk ?_ | (refine jn ?_; (try intro F); (apply Zah; exact PuA); refine fin ?_)); exact k9.out) : G := h ⟨k⟩
theorem ZfL (A B : Option Addr) (ca cb : Nat) (x y : List Int) (w : World) (hA : RdSl w A ca iEnc 1 x) (hB : RdSl w B cb iEnc 1 y) :
  Does Tryz.prog 13 [.slice A x.length ca, .slice B y.length cb] w (fun v O => v = .bool (decide (x = y)) /\ O = []) := by
 have hs1 := hA.le
 have hs2 := hA.cap
 unfold maxLen at hs2
 generalize hres : decide (x = y) = res
 refine Zaa Tryz.func13 rfl rfl rfl rfl ?_
 repeat refine ZhT ?_
 refine Zaf rfl (fun h1 => ?_) (fun h1 => ?_)
 ·repeat refine ZhT ?_
  exact ret_1 _ [] (.tmp rfl) .nil ⟨by rw [<- hres, ZfN]; simp at h1; omega, rfl⟩
 have hlen : x.length = y.length := by simp at h1; omega
 clear h1
 repeat refine ZhT ?_
 refine Zat [(0, _), (1, _), (4, _), (12, _)] _ (fun k : Nat => [(13, .int .i64 k)]) (fun _ => []) (fun k => k <= x.length /\ decide (x.drop k = y.drop k) = res) (fun k => x.length - k) 0 ⟨rfl, rfl, rfl, rfl, rfl, trivial⟩ (.refl _) ⟨by omega, hres⟩ ?_
 rintro k ⟨hk, hi⟩
 repeat refine ZhT ?_
 refine Zaf rfl (fun hc => ?_) (fun hc => ?_)
 ·simp only [decide_eq_true_eq, Int.ofNat_lt] at hc
  have hcy : k < y.length := by omega
  obtain ⟨hna, hca⟩ := hA.rd k _ (List.getElem?_eq_getElem hc)
  obtain ⟨hnb, hcb⟩ := hB.rd k _ (List.getElem?_eq_getElem hcy)
  rw [Zao hc, Zao hcy, Zec] at hi
  generalize x[k] = p at *
  generalize y[k] = q at *
  repeat (first | (apply RL_pu; rfl; exact PuI) | (apply RD_Q; rfl; rfl; decide +kernel; rfl; rfl; exact QyI) | refine walk1 ?_ | (refine jn ?_; (try intro F); (apply Zah; first | exact PuI | exact PuA); first | refine ⟨_, EndsA, QFI, ?_⟩ | refine fin ?_))
  refine Zaf rfl (fun h3 => ?_) (fun h3 => ?_)
  ·repeat refine ZhT ?_
   exact ret_1 _ [] (.tmp rfl) .nil ⟨by simp at h3; simp [<- hi, h3], rfl⟩
  repeat refine ZhT ?_
  simp at h3
  exact ⟨k + 1, by omega, ⟨by omega, by rw [<- hi]; simp [h3]⟩, SFA, SOA⟩
 simp only [decide_eq_false_iff_not, Int.ofNat_lt] at hc
 repeat refine ZhT ?_
 exact ret_1 _ [] (.tmp rfl) .nil ⟨by rw [<- hi, ZfM (by omega) (by omega)], rfl⟩
end Go.Proofs.YtbjomhdhkpgbaaaGreatDoor
namespace Go.Wk
open Go Go.RowKit
section
variable {P : Program} {n : Nat} {wr : World} {fr : Fr} {O : List It} {ty : TypeId} {pos : String} {af : Array Edge} {dst : Option Tmp} {g : Option (Nat × Bool)} {Kp : Value -> List It -> Prop}
end
theorem RdSl.pre {α : Type} {w : World} {A : Option Addr} {c sz : Nat} {enc : α -> List Value} {x y : List α} (h : RdSl w A c enc sz (x ++ y)) : RdSl w A c enc sz x :=
 ⟨by have := h.le; rw [List.length_append] at this; omega, h.cap, fun k v hv => h.rd k v (by
  have hk := (List.getElem?_eq_some_iff.1 hv).1
  rw [List.getElem?_append_left hk]; exact hv)⟩
end Go.Wk
set_option maxHeartbeats 8000000
namespace Go.Proofs.YtbjomhdhkpgbaaaGreatDoor
open Go Go.RowKit Go.Wk
attribute [local irreducible] W RL Does Zap Zak retQ Calls Pu Stp RD Qy Ay Zal RW Zai in23
def noF (plain : Bool) (e : DEra) : DEra := if plain = true then plF e else e
def noD (plain : Bool) (d : DD23) : DD23 := if plain = true then plD d else d
theorem Zyl (plain : Bool) (d : DD23) : Zai (noD plain d) = erasS (noF plain) (Zai d) := by
 unfold noD
 cases plain with
 | true =>
  rw [if_pos rfl, Zyk, show noF true = plF from funext fun e => if_pos rfl]
 | false =>
  rw [if_neg (by decide)]
  exact (Zk4 fun z _ e _ => if_neg (by decide)).symm
theorem SubO.drop_tail {l T R : List It} : SubO (l ++ T) (l ++ T ++ R) := SubO.ofPerm (R := R) (.refl _)
structure NoG where
 i : Nat
 nb : Bool
structure NoH where
 k : Nat
 m : List DEra
 nb : Bool
def numQ (f : DEra -> DEra) (q : ZE) : Bool := q.z.eras.any fun e => numE (f e)
theorem ZvW (f : DEra -> DEra) {Zs : List ZE} {m : Zac} (h : Zs.map ZE.z = m.zones) : Zs.any (numQ f) = numZ (erasS f m).zones := by
 unfold numZ erasS
 dsimp only
 rw [<- h, List.any_map, List.any_map]
 congr 1
 funext q
 show _ = (q.z.eras.map f).any numE
 rw [List.any_map]
 rfl
theorem Zg7 {G : Prop} (h : G := by (first | (apply Zaz; rfl; rfl; omega; omega; (intro w' _ hO; exact ZbS (hO.of (A := .row (.slice qA es.length qc) _ _ _ _) (by repeat' constructor)) (by omega))) | (apply Zbk (vs := [.int .i64 off, .int .i64 kd, .int .i64 sv, .string st, .string fm, .bool is, .int .i64 yr, .int .i64 mo, .int .i64 dk, .int .i64 dw, .int .i64 dd, .int .i64 cs', .int .i64 cb]); rfl; (focus repeat' constructor); exact hget; rfl) | (apply ZdT; rfl; (focus repeat' constructor); first | exact hg4 | exact hg4') | (apply Zfi; rfl; rfl; first | exact e1 | exact e2))) : G := h
theorem ZuO {G : Prop} (h : G := by (first | (apply Zaz; rfl; rfl; omega; omega; (intro w' _ hO; exact ZbS (hO.of (A := rowR Rm rm m.rules) (by repeat' constructor)) (by omega))) | (apply Zbk (vs := [.string nm, .int .i64 fr, .int .i64 to, .int .i64 mo, .int .i64 dk, .int .i64 dw, .int .i64 dd, .int .i64 cs', .int .i64 cb, .int .i64 sv, .string lt]); rfl; (focus repeat' constructor); exact hgr; rfl) | (apply ZbD; rfl; rfl; exact e1))) : G := h
theorem Zpk {G : Prop} (h : G := by (apply Pu_sliceH; rfl; rfl; decide; decide)) : G := h
theorem Zr8 {G G' : Prop} (k : G') (h : Hold G' -> G := by intro k9; (first | (apply RL_pu; rfl; exact Zpk) | (refine js ?_; (first | (refine ZaM (fun w' hw hO => hb2 Rm Zm Lm Hm rm zm lm hm w' hw (ZaE hZ2 (hO.of (A := rowR Rm rm m.rules) (by repeat' constructor)) (hO.of (A := rowZ Zm zm Q) (by repeat' constructor)) (hO.of (A := rowL Lm lm m.links) (by repeat' constructor)) (hO.of (A := rowS Hm hm m.shifts) (by repeat' constructor)) (hO.of (A := .fact S (Zav Q)) (by repeat' constructor))) (ZaE hZ2 (hO.of (A := rowR Rm rm m.rules) (by repeat' constructor)) (hO.of (A := rowZ Zm zm Q) (by repeat' constructor)) (hO.of (A := rowL Lm lm m.links) (by repeat' constructor)) (hO.of (A := rowS Hm hm m.shifts) (by repeat' constructor)) (hO.of (A := .fact S (Zav Q)) (by repeat' constructor)))) ?_) | (refine ZaM (fun w' hw hO => hb3 Rm Zm Lm Hm rm zm lm hm w' hw (ZaE hZ2 (hO.of (A := rowR Rm rm m.rules) (by repeat' constructor)) (hO.of (A := rowZ Zm zm Q) (by repeat' constructor)) (hO.of (A := rowL Lm lm m.links) (by repeat' constructor)) (hO.of (A := rowS Hm hm m.shifts) (by repeat' constructor)) (hO.of (A := .fact S (Zav Q)) (by repeat' constructor))) (ZaE hZ2 (hO.of (A := rowR Rm rm m.rules) (by repeat' constructor)) (hO.of (A := rowZ Zm zm Q) (by repeat' constructor)) (hO.of (A := rowL Lm lm m.links) (by repeat' constructor)) (hO.of (A := rowS Hm hm m.shifts) (by repeat' constructor)) (hO.of (A := .fact S (Zav Q)) (by repeat' constructor)))) ?_) | (refine ZaM (fun w' _ hO => ZfL Af (some ⟨bk, 0, none⟩) cf 3 [1] [1] w' (Zba (fun _ => rfl) (hO.of (A := .row (.slice Af ([1] : List Int).length cf) 3 1 ([1] : List Int).length (([1] : List Int).flatMap iEnc)) (by repeat' constructor))) (RdSl.pre (x := [1]) (y := [2, 3]) (Zoo (c := 3) (l := [1, 2, 3]) (enc := iEnc) (t := 3) (fun _ => rfl) (Nat.le_refl 3) (by decide) (hO.of (A := .blk bk [.int .i64 1, .int .i64 2, .int .i64 3] 3) (by repeat' constructor))))) ?_) | (refine Zae hwk ?_))) | refine walk1 ?_); exact k9.out) : G := h ⟨k⟩
set_option maxRecDepth 20000 in
theorem ZeE (As Az Al : Option Addr) (cs cz cl : Nat) (d : DD23) (plain : Bool) (w : World) (hL : LibW w) (hG : Glob w) (hS : RdLL w As cs Zeg 1 d.sets) (hZ : RdLL w Az cz E23.enc 8 d.zones) (hD : RdSl w Al cl Zeg 1 d.links) (hrs : ∀ l ∈ d.sets, ∀ x ∈ l, inR .u8 x) (hrz : ∀ l ∈ d.zones, ∀ x ∈ l, x.ok) (hrl : ∀ x ∈ d.links, inR .u8 x) :
  Does Tryz.prog 4 [d23V As Az Al cs cz cl d, .bool plain] w (fun v O => v = .bool true /\ O = []) := by
 have hwk := fun w' (hw : Bel w.heap.size w w') => Zhf w' (hL.up hw) (hG.up hw)
 have hmd := fun w' (hw : Bel w.heap.size w w') => Zin As Az Al cs cz cl d w' (hS.up hw) (hZ.up hw) (hD.up hw) hrs hrz hrl
 have hb2 := fun R Z L H r z l h w' (hw : Bel w.heap.size w w') => ZhZ R Z L H r z l h (noD plain d) 1 2 R Z L H r z l h (in23 (noD plain d) 1) w' (hL.up hw) (hG.up hw) (.inr (.inl rfl))
 have hb3 := fun R Z L H r z l h w' (hw : Bel w.heap.size w w') => ZhZ R Z L H r z l h (noD plain d) 1 3 R Z L H r z l h (in23 (noD plain d) 1) w' (hL.up hw) (hG.up hw) (.inr (.inr rfl))
 have hfm := fun R Z L H r z l h w' (hw : Bel w.heap.size w w') (hA : Zan w' R Z L H r z l h (Zai (noD plain d))) => ZfH R Z L H r z l h (Zai (noD plain d)) w' ((Zct (noD plain d)).acc (hL.up hw) (hG.up hw) hA)
 have hff := Zmx (noD plain d)
 simp only [Zqc, Zmv, ZsL] at hb2 hb3
 simp only [hff] at hfm
 have hsm := Zct d
 simp only [Zyl] at hb2 hb3 hfm
 clear hff
 generalize Zai d = m at *
 obtain ⟨N, hN⟩ : ∃ N, numZ (erasS (noF plain) m).zones = N := ⟨_, rfl⟩
 obtain ⟨G, hGn⟩ : ∃ G, negR (erasS (noF plain) m).rules = G := ⟨_, rfl⟩
 have hzl2 : (erasS (noF plain) m).zones.length = m.zones.length := List.length_map ..
 unfold srcV at hb2 hb3 hfm
 simp only [hN, hGn, hzl2] at hb2 hb3 hfm
 have hnz := hsm.nz
 have hnr := hsm.nr
 refine Zaa Tryz.func4 rfl rfl rfl rfl ?_
 repeat (first | (refine js ?_; (first | (apply Zad (h := fun w' hw _ => hmd w' hw); rfl; rintro v O' ⟨Rm, rm, Zm, zm, Lm, lm, Hm, hm, Zs, rfl, hZm, rfl⟩) | (refine bx ?_; intro bk))) | refine walk ?_)
 generalize bk = b5
 have hzl : m.zones.length = Zs.length := by rw [<- hZm, List.length_map]
 refine Zet (fun g : NoG => [(20, .int .i64 g.i), (1, .bool plain), (5, _), (6, .bool false), (7, .bool g.nb), (18, _), (19, _)]) (fun g => .blk b5 [.slice Rm m.rules.length rm, .slice Zm m.zones.length zm, .slice Lm m.links.length lm, .slice Hm m.shifts.length hm] 32 :: rowR Rm rm m.rules :: rowZ Zm zm Zs :: rowL Lm lm m.links :: rowS Hm hm m.shifts :: (turR (noF plain) g.i 0 Zs).map Zaw)
  (fun g => g.i <= Zs.length /\ g.nb = (Zs.take g.i).any (numQ (noF plain))) (fun g => Zs.length - g.i) ⟨0, false⟩ SFA (by dsimp only; rw [ZwX]; exact SubO.drop_tail (l := [_, _, _, _, _])) ⟨Nat.zero_le _, rfl⟩ ?_
 rintro ⟨i, nb⟩ ⟨hi, hnb⟩
 dsimp only at hi hnb ⊢
 obtain ⟨T0, hT0⟩ : ∃ T0, (turR (noF plain) i 0 Zs).map Zaw = T0 := ⟨_, rfl⟩
 rw [hT0]
 repeat (first | (refine js ?_; (refine bx ?_; intro bk)) | refine walk ?_)
 refine Zaf rfl (fun hc => ?_) (fun hc => ?_)
 ·have hil : i < Zs.length := by
   have := of_decide_eq_true hc
   omega
  obtain ⟨q, hq⟩ : ∃ q, Zs[i]? = some q := ⟨_, List.getElem?_eq_getElem hil⟩
  have hel : q.z.eras.length <= 100 := by
   have h1 : q.z ∈ m.zones := by rw [<- hZm]; exact List.mem_map_of_mem (List.mem_of_getElem? hq)
   exact (hsm.zs q.z h1).2.1
  have hp0 := (ZkB (f := noF plain) 0 hq).symm
  have hp1 := ZkB (f := noF plain) q.z.eras.length hq
  rw [ZlT (noF plain) hq] at hp1
  have hnx : (Zs.take (i + 1)).any (numQ (noF plain)) = ((Zs.take i).any (numQ (noF plain)) || q.z.eras.any fun e => numE (noF plain e)) := Zll (numQ (noF plain)) hq
  rw [hT0, Zw4] at hp0
  generalize ((Zs.take i).map (turZ (noF plain))).map Zaw ++ (Zs.drop (i + 1)).map Zaw = T at hp0 hp1
  obtain ⟨⟨nm, es⟩, qA, qc⟩ := q
  dsimp only at hel hp1 hnx
  have hgz : ∀ (j : Nat) (v : Value), [Value.string nm, .slice qA es.length qc][j]? = some v -> (Zs.flatMap ZE.enc)[(i : Int).toNat * 2 + j]? = some v := fun j v hj => by
   have := ZaH ZE.len Zs i _ j v hq hj
   simpa using this
  rw [show Zaw ⟨⟨nm, es⟩, qA, qc⟩ = .row (.slice qA es.length qc) 54 13 es.length (es.flatMap DEra.enc) from rfl] at hp0
  rw [show Zaw (parZ (noF plain) es.length ⟨⟨nm, es⟩, qA, qc⟩) = .row (.slice qA es.length qc) 54 13 es.length ((es.map (noF plain)).flatMap DEra.enc) by
   rw [show parZ (noF plain) es.length ⟨⟨nm, es⟩, qA, qc⟩ = turZ (noF plain) ⟨⟨nm, es⟩, qA, qc⟩ from ZpS _ _]
   unfold turZ Za4 Zaw
   dsimp only
   rw [List.length_map]] at hp1
  refine Zkk _ (SubO.permT (l := [_, _, _, _, _]) (.refl _) hp0) ?_
  clear hp0
  dsimp only [List.cons_append, List.nil_append]
  repeat (first | (apply RL_pu; rfl; (first | (apply Zaz; rfl; rfl; omega; omega; (intro w' _ hO; exact ZbS (hO.of (A := rowZ Zm zm Zs) (by repeat' constructor)) (by omega))) | (apply Zbk (vs := [.string nm, .slice qA es.length qc]); rfl; (focus repeat' constructor); exact hgz; rfl))) | (refine js ?_; (refine bx ?_; intro bk)) | refine walk1 ?_)
  generalize bk = b9
  refine Zet (fun h : NoH => [(27, .int .i64 h.k), (1, .bool plain), (5, _), (6, .bool false), (7, .bool h.nb), (18, _), (19, _), (20, _), (9, _), (25, _), (26, _)]) (fun h => .row (.slice qA es.length qc) 54 13 es.length (h.m.flatMap DEra.enc) :: .blk b9 [.string nm, .slice qA es.length qc] 46 :: .blk b5 [.slice Rm m.rules.length rm, .slice Zm m.zones.length zm, .slice Lm m.links.length lm, .slice Hm m.shifts.length hm] 32 :: rowR Rm rm m.rules :: rowZ Zm zm Zs :: rowL Lm lm m.links :: rowS Hm hm m.shifts :: T)
   (fun h => ChI es (noF plain) h.k h.m /\ h.nb = (nb || (es.take h.k).any fun e => numE (noF plain e))) (fun h => es.length - h.k) ⟨0, es, nb⟩ SFA STA ⟨ChI.zero es _, by simp⟩ ?_
  rintro ⟨k, me, nc⟩ ⟨hI, hnc⟩
  dsimp only at hI hnc ⊢
  obtain ⟨i1, i2, i3, i4⟩ := id hI
  repeat (first | (refine js ?_; (refine bx ?_; intro bk)) | refine walk ?_)
  refine Zaf rfl (fun hd => ?_) (fun hd => ?_)
  ·have hkl : k < es.length := by
    have := of_decide_eq_true hd
    omega
   obtain ⟨x, hxk⟩ : ∃ x, es[k]? = some x := ⟨_, List.getElem?_eq_getElem hkl⟩
   have hmk : me[k]? = some x := (i4 k (Nat.le_refl _)).trans hxk
   have hst := hI.step hxk
   have hnk := Zll (fun e => numE (noF plain e)) hxk
   have hget : ∀ (j : Nat) (v : Value), (DEra.enc x)[j]? = some v -> (me.flatMap DEra.enc)[(k : Int).toNat * 13 + j]? = some v := fun j v hj => by
    have := ZaH DEra.len me k x j v hmk hj
    simpa using this
   have hml : (me.flatMap DEra.enc).length = es.length * 13 := by rw [ZaI DEra.len, i2]
   have hlay : lay (me.flatMap DEra.enc) ((k : Int).toNat * 13 + 4) [.string lmtF] = (me.set k { x with format := lmtF }).flatMap DEra.enc := by
    have := Zdn DEra.len 4 [.string lmtF] (by decide : 4 + 1 <= 13) x { x with format := lmtF } rfl me k hmk
    rw [show (k : Int).toNat * 13 + 4 = k * 13 + 4 by simp, this]
   have hsg := ZsD hmk
   have hg4 := hget 4 _ rfl
   have hg4' : ((me.set k { x with format := lmtF }).flatMap DEra.enc)[(k : Int).toNat * 13 + 4]? = some (.string lmtF) := by
    have := ZaH DEra.len (me.set k { x with format := lmtF }) k _ 4 _ (List.getElem?_set_self (by omega)) rfl
    simpa using this
   obtain ⟨off, kd, sv, st, fm, ⟨is, yr, mo, ⟨dk, dw, dd⟩, ⟨cs', cb⟩⟩⟩ := x
   dsimp only at hlay hg4 hg4'
   have e2 : decide (lmtF = pctB) = false := by decide
   have hfin : ∀ (me' : List DEra) (nd : Bool) fr' O', me' = me.set k (noF plain ⟨off, kd, sv, st, fm, ⟨is, yr, mo, ⟨dk, dw, dd⟩, ⟨cs', cb⟩⟩⟩) -> nd = (nc || numE (noF plain ⟨off, kd, sv, st, fm, ⟨is, yr, mo, ⟨dk, dw, dd⟩, ⟨cs', cb⟩⟩⟩)) -> ∀ F : NoH -> Fr, ∀ OO : NoH -> List It, Sub (F ⟨k + 1, me', nd⟩) fr' -> SubO (OO ⟨k + 1, me', nd⟩) O' -> ∃ g' : NoH, es.length - g'.k < es.length - k /\ (ChI es (noF plain) g'.k g'.m /\ g'.nb = (nb || (es.take g'.k).any fun e => numE (noF plain e))) /\ Sub (F g') fr' /\ SubO (OO g') O' := fun me' nd fr' O' h1 h2 F OO h3 h4 =>
    ⟨_, by dsimp only; omega, ⟨h1 ▸ hst, by dsimp only; rw [h2, hnc, hnk, Bool.or_assoc]⟩, h3, h4⟩
   cases plain with
   | false =>
    have hf0 : ∀ e, noF false e = e := fun e => if_neg (by decide)
    rw [hf0] at hfin
    rw [hsg] at hfin
    cases nc with
    | true =>
     repeat (first | (apply RL_pu; rfl; exact Zg7) | (refine js ?_; (refine bx ?_; intro bk)) | refine walk1 ?_)
     exact hfin me true _ _ rfl rfl _ _ SFA STA
    | false =>
     obtain ⟨b, e1⟩ : ∃ b, decide (fm = pctB) = b := ⟨_, rfl⟩
     repeat (first | (apply RL_pu; rfl; exact Zg7) | (refine js ?_; (refine bx ?_; intro bk)) | refine walk1 ?_)
     exact hfin me b _ _ rfl e1.symm _ _ SFA STA
   | true =>
    by_cases hp : fm = pctB
    ·have e1 : decide (fm = pctB) = true := decide_eq_true hp
     have hf1 : noF true ⟨off, kd, sv, st, fm, ⟨is, yr, mo, ⟨dk, dw, dd⟩, ⟨cs', cb⟩⟩⟩ = ⟨off, kd, sv, st, lmtF, ⟨is, yr, mo, ⟨dk, dw, dd⟩, ⟨cs', cb⟩⟩⟩ := by
      unfold noF plF
      rw [if_pos rfl, if_pos hp]
     rw [hf1] at hfin
     cases nc with
     | true =>
      repeat (first | (apply RL_pu; rfl; exact Zg7) | (refine js ?_; (first | (apply ZbQ (vs := [.string lmtF]); rfl; rfl; (focus repeat' constructor); rfl; rfl; rfl; (rw [hml]; omega); decide; exact hlay) | (refine bx ?_; intro bk))) | refine walk1 ?_)
      exact hfin _ true _ _ rfl rfl _ _ SFA STA
     | false =>
      repeat (first | (apply RL_pu; rfl; exact Zg7) | (refine js ?_; (first | (apply ZbQ (vs := [.string lmtF]); rfl; rfl; (focus repeat' constructor); rfl; rfl; rfl; (rw [hml]; omega); decide; exact hlay) | (refine bx ?_; intro bk))) | refine walk1 ?_)
      exact hfin _ false _ _ rfl e2.symm _ _ SFA STA
    ·have e1 : decide (fm = pctB) = false := decide_eq_false hp
     have hf1 : noF true ⟨off, kd, sv, st, fm, ⟨is, yr, mo, ⟨dk, dw, dd⟩, ⟨cs', cb⟩⟩⟩ = ⟨off, kd, sv, st, fm, ⟨is, yr, mo, ⟨dk, dw, dd⟩, ⟨cs', cb⟩⟩⟩ := by
      unfold noF plF
      rw [if_pos rfl, if_neg hp]
     rw [hf1] at hfin
     rw [hsg] at hfin
     cases nc with
     | true =>
      repeat (first | (apply RL_pu; rfl; exact Zg7) | (refine js ?_; (refine bx ?_; intro bk)) | refine walk1 ?_)
      exact hfin me true _ _ rfl rfl _ _ SFA STA
     | false =>
      repeat (first | (apply RL_pu; rfl; exact Zg7) | (refine js ?_; (refine bx ?_; intro bk)) | refine walk1 ?_)
      exact hfin me false _ _ rfl e1.symm _ _ SFA STA
  ·obtain rfl : k = es.length := by
    have := of_decide_eq_false hd
    omega
   obtain rfl := hI.done
   repeat (first | (refine js ?_; (refine bx ?_; intro bk)) | refine walk ?_)
   exact ⟨⟨i + 1, nc⟩, by dsimp only; omega, ⟨hil, by dsimp only; rw [hnc, hnb, hnx, List.take_length]⟩, SFA, SubO.permT (l := [_, _, _, _, _]) STA hp1⟩
 obtain rfl : i = Zs.length := by
  have := of_decide_eq_false hc
  omega
 rw [List.take_length, ZvW _ hZm, hN] at hnb
 obtain rfl : N = nb := hnb.symm
 rw [ZpF] at hT0
 subst hT0
 have hzr : rowZ Zm zm Zs = rowZ Zm zm (Zs.map (turZ (noF plain))) := by unfold rowZ; rw [Zsm, List.length_map]
 have hZ2 : (Zs.map (turZ (noF plain))).map ZE.z = (erasS (noF plain) m).zones := by rw [Zy6, hZm]; rfl
 rw [hzr]
 clear hzr
 generalize Zs.map (turZ (noF plain)) = Q at *
 refine Zkk _ (.refl _) (Zgu (Q.map Zaw) [.blk b5 [.slice Rm m.rules.length rm, .slice Zm m.zones.length zm, .slice Lm m.links.length lm, .slice Hm m.shifts.length hm] 32, rowR Rm rm m.rules, rowZ Zm zm Q, rowL Lm lm m.links, rowS Hm hm m.shifts] (Zav Q) (SubO.ofPerm (R := []) (by rw [List.append_nil]; exact List.perm_append_comm (l₁ := [_, _, _, _, _]))) (fun w' hi q hq => Zba DEra.len (hi (Zaw q) (List.mem_map.2 ⟨q, hq, rfl⟩))) ?_)
 generalize foot (Q.map Zaw) = S
 repeat (first | (refine js ?_; (refine bx ?_; intro bk)) | refine walk ?_)
 refine Zet (fun g : NoG => [(58, .int .i64 g.i), (5, _), (6, .bool g.nb), (7, .bool N), (56, _), (57, _)]) (fun _ => [.fact S (Zav Q), .blk b5 [.slice Rm m.rules.length rm, .slice Zm m.zones.length zm, .slice Lm m.links.length lm, .slice Hm m.shifts.length hm] 32, rowR Rm rm m.rules, rowZ Zm zm Q, rowL Lm lm m.links, rowS Hm hm m.shifts]) (fun g => g.i <= m.rules.length /\ g.nb = (m.rules.take g.i).any fun r => decide (r.save < 0)) (fun g => m.rules.length - g.i) ⟨0, false⟩ SFA STA ⟨Nat.zero_le _, rfl⟩ ?_
 rintro ⟨i, ng⟩ ⟨hi, hng⟩
 dsimp only at hi hng ⊢
 repeat (first | (refine js ?_; (refine bx ?_; intro bk)) | refine walk ?_)
 refine Zaf rfl (fun hc => ?_) (fun hc => ?_)
 ·have hil : i < m.rules.length := by
   have := of_decide_eq_true hc
   omega
  obtain ⟨r, hr⟩ : ∃ r, m.rules[i]? = some r := ⟨_, List.getElem?_eq_getElem hil⟩
  have hnx := Zll (fun r => decide (r.save < 0)) hr
  have hgr : ∀ (j : Nat) (v : Value), (Zab.enc r)[j]? = some v -> (m.rules.flatMap Zab.enc)[(i : Int).toNat * 11 + j]? = some v := fun j v hj => by
   have := ZaH Zab.len m.rules i r j v hr hj
   simpa using this
  obtain ⟨nm, fr, to, mo, ⟨dk, dw, dd⟩, ⟨cs', cb⟩, sv, lt⟩ := r
  dsimp only at hnx
  obtain ⟨b, e1⟩ : ∃ b, decide (sv < 0) = b := ⟨_, rfl⟩
  rw [e1] at hnx
  cases ng with
  | true =>
   repeat (first | (apply RL_pu; rfl; exact ZuO) | (refine js ?_; (refine bx ?_; intro bk)) | refine walk1 ?_)
   exact ⟨⟨i + 1, true⟩, by dsimp only; omega, ⟨hil, by dsimp only; rw [hnx, <- hng]; rfl⟩, SFA, STA⟩
  | false =>
   repeat (first | (apply RL_pu; rfl; exact ZuO) | (refine js ?_; (refine bx ?_; intro bk)) | refine walk1 ?_)
   exact ⟨⟨i + 1, b⟩, by dsimp only; omega, ⟨hil, by dsimp only; rw [hnx, <- hng]; rfl⟩, SFA, STA⟩
 obtain rfl : i = m.rules.length := by
  have := of_decide_eq_false hc
  omega
 have hng2 : ng = G := by rw [hng, List.take_length, <- hGn]; rfl
 subst hng2
 clear hng hGn hN
 cases N with
 | true =>
  cases ng with
  | true =>
   simp only [↓reduceIte, Bool.false_eq_true] at hfm
   repeat (first | refine Zr8 ?_ | (refine js ?_; (first | (apply Zad (h := fun w' hw hO => hfm Rm Zm Lm Hm rm zm lm hm w' hw (ZaE hZ2 (hO.of (A := rowR Rm rm m.rules) (by repeat' constructor)) (hO.of (A := rowZ Zm zm Q) (by repeat' constructor)) (hO.of (A := rowL Lm lm m.links) (by repeat' constructor)) (hO.of (A := rowS Hm hm m.shifts) (by repeat' constructor)) (hO.of (A := .fact S (Zav Q)) (by repeat' constructor)))); rfl; rintro v O' ⟨Af, cf, rfl, rfl⟩) | (refine bx ?_; intro bk))))
   exact rtA
  | false =>
   simp only [↓reduceIte, Bool.false_eq_true] at hfm
   repeat (first | refine Zr8 ?_ | (refine js ?_; (first | (apply Zad (h := fun w' hw hO => hfm Rm Zm Lm Hm rm zm lm hm w' hw (ZaE hZ2 (hO.of (A := rowR Rm rm m.rules) (by repeat' constructor)) (hO.of (A := rowZ Zm zm Q) (by repeat' constructor)) (hO.of (A := rowL Lm lm m.links) (by repeat' constructor)) (hO.of (A := rowS Hm hm m.shifts) (by repeat' constructor)) (hO.of (A := .fact S (Zav Q)) (by repeat' constructor)))); rfl; rintro v O' ⟨Af, cf, rfl, rfl⟩) | (refine bx ?_; intro bk))))
   exact rtA
 | false =>
  cases ng with
  | true =>
   simp only [↓reduceIte, Bool.false_eq_true] at hfm
   repeat (first | (apply RL_pu; rfl; exact Zpk) | (refine js ?_; (first | (refine ZaM (fun w' hw hO => hb2 Rm Zm Lm Hm rm zm lm hm w' hw (ZaE hZ2 (hO.of (A := rowR Rm rm m.rules) (by repeat' constructor)) (hO.of (A := rowZ Zm zm Q) (by repeat' constructor)) (hO.of (A := rowL Lm lm m.links) (by repeat' constructor)) (hO.of (A := rowS Hm hm m.shifts) (by repeat' constructor)) (hO.of (A := .fact S (Zav Q)) (by repeat' constructor))) (ZaE hZ2 (hO.of (A := rowR Rm rm m.rules) (by repeat' constructor)) (hO.of (A := rowZ Zm zm Q) (by repeat' constructor)) (hO.of (A := rowL Lm lm m.links) (by repeat' constructor)) (hO.of (A := rowS Hm hm m.shifts) (by repeat' constructor)) (hO.of (A := .fact S (Zav Q)) (by repeat' constructor)))) ?_) | (refine ZaM (fun w' hw hO => hb3 Rm Zm Lm Hm rm zm lm hm w' hw (ZaE hZ2 (hO.of (A := rowR Rm rm m.rules) (by repeat' constructor)) (hO.of (A := rowZ Zm zm Q) (by repeat' constructor)) (hO.of (A := rowL Lm lm m.links) (by repeat' constructor)) (hO.of (A := rowS Hm hm m.shifts) (by repeat' constructor)) (hO.of (A := .fact S (Zav Q)) (by repeat' constructor))) (ZaE hZ2 (hO.of (A := rowR Rm rm m.rules) (by repeat' constructor)) (hO.of (A := rowZ Zm zm Q) (by repeat' constructor)) (hO.of (A := rowL Lm lm m.links) (by repeat' constructor)) (hO.of (A := rowS Hm hm m.shifts) (by repeat' constructor)) (hO.of (A := .fact S (Zav Q)) (by repeat' constructor)))) ?_) | (apply Zad (h := fun w' hw hO => hfm Rm Zm Lm Hm rm zm lm hm w' hw (ZaE hZ2 (hO.of (A := rowR Rm rm m.rules) (by repeat' constructor)) (hO.of (A := rowZ Zm zm Q) (by repeat' constructor)) (hO.of (A := rowL Lm lm m.links) (by repeat' constructor)) (hO.of (A := rowS Hm hm m.shifts) (by repeat' constructor)) (hO.of (A := .fact S (Zav Q)) (by repeat' constructor)))); rfl; rintro v O' ⟨Af, cf, rfl, rfl⟩) | (refine ZaM (fun w' _ hO => ZfL Af (some ⟨bk, 0, none⟩) cf 3 [1, 2] [1, 2] w' (Zba (fun _ => rfl) (hO.of (A := .row (.slice Af ([1, 2] : List Int).length cf) 3 1 ([1, 2] : List Int).length (([1, 2] : List Int).flatMap iEnc)) (by repeat' constructor))) (RdSl.pre (x := [1, 2]) (y := [3]) (Zoo (c := 3) (l := [1, 2, 3]) (enc := iEnc) (t := 3) (fun _ => rfl) (Nat.le_refl 3) (by decide) (hO.of (A := .blk bk [.int .i64 1, .int .i64 2, .int .i64 3] 3) (by repeat' constructor))))) ?_) | (refine Zae hwk ?_) | (refine bx ?_; intro bk))) | refine walk1 ?_)
   exact rtA
  | false =>
   simp only [↓reduceIte, Bool.false_eq_true] at hfm
   repeat (first | (apply RL_pu; rfl; exact Zpk) | (refine js ?_; (first | (refine ZaM (fun w' hw hO => hb2 Rm Zm Lm Hm rm zm lm hm w' hw (ZaE hZ2 (hO.of (A := rowR Rm rm m.rules) (by repeat' constructor)) (hO.of (A := rowZ Zm zm Q) (by repeat' constructor)) (hO.of (A := rowL Lm lm m.links) (by repeat' constructor)) (hO.of (A := rowS Hm hm m.shifts) (by repeat' constructor)) (hO.of (A := .fact S (Zav Q)) (by repeat' constructor))) (ZaE hZ2 (hO.of (A := rowR Rm rm m.rules) (by repeat' constructor)) (hO.of (A := rowZ Zm zm Q) (by repeat' constructor)) (hO.of (A := rowL Lm lm m.links) (by repeat' constructor)) (hO.of (A := rowS Hm hm m.shifts) (by repeat' constructor)) (hO.of (A := .fact S (Zav Q)) (by repeat' constructor)))) ?_) | (refine ZaM (fun w' hw hO => hb3 Rm Zm Lm Hm rm zm lm hm w' hw (ZaE hZ2 (hO.of (A := rowR Rm rm m.rules) (by repeat' constructor)) (hO.of (A := rowZ Zm zm Q) (by repeat' constructor)) (hO.of (A := rowL Lm lm m.links) (by repeat' constructor)) (hO.of (A := rowS Hm hm m.shifts) (by repeat' constructor)) (hO.of (A := .fact S (Zav Q)) (by repeat' constructor))) (ZaE hZ2 (hO.of (A := rowR Rm rm m.rules) (by repeat' constructor)) (hO.of (A := rowZ Zm zm Q) (by repeat' constructor)) (hO.of (A := rowL Lm lm m.links) (by repeat' constructor)) (hO.of (A := rowS Hm hm m.shifts) (by repeat' constructor)) (hO.of (A := .fact S (Zav Q)) (by repeat' constructor)))) ?_) | (apply Zad (h := fun w' hw hO => hfm Rm Zm Lm Hm rm zm lm hm w' hw (ZaE hZ2 (hO.of (A := rowR Rm rm m.rules) (by repeat' constructor)) (hO.of (A := rowZ Zm zm Q) (by repeat' constructor)) (hO.of (A := rowL Lm lm m.links) (by repeat' constructor)) (hO.of (A := rowS Hm hm m.shifts) (by repeat' constructor)) (hO.of (A := .fact S (Zav Q)) (by repeat' constructor)))); rfl; rintro v O' ⟨Af, cf, rfl, rfl⟩) | (refine ZaM (fun w' _ hO => ZfL Af (some ⟨bk, 0, none⟩) cf 3 [1, 2, 3] [1, 2, 3] w' (Zba (fun _ => rfl) (hO.of (A := .row (.slice Af ([1, 2, 3] : List Int).length cf) 3 1 ([1, 2, 3] : List Int).length (([1, 2, 3] : List Int).flatMap iEnc)) (by repeat' constructor))) (RdSl.pre (x := [1, 2, 3]) (y := []) (Zoo (c := 3) (l := [1, 2, 3]) (enc := iEnc) (t := 3) (fun _ => rfl) (Nat.le_refl 3) (by decide) (hO.of (A := .blk bk [.int .i64 1, .int .i64 2, .int .i64 3] 3) (by repeat' constructor))))) ?_) | (refine Zae hwk ?_) | (refine bx ?_; intro bk))) | refine walk1 ?_)
   exact rtA
end Go.Proofs.YtbjomhdhkpgbaaaGreatDoor
