/- Parts of the proof. -/
import Derived.Test.YtbjomhdhkpgbaaaGreatDoorY15
import Derived.Sort.LotA
import Derived.Test.YtbjomhdhkpgbaaaGreatDoorY06
import Derived.Test.YtbjomhdhkpgbaaaGreatDoorY11
import Derived.Test.YtbjomhdhkpgbaaaGreatDoorY09
import Derived.Test.YtbjomhdhkpgbaaaGreatDoorY13
import Derived.Test.YtbjomhdhkpgbaaaGreatDoorY14
import Derived.Test.YtbjomhdhkpgbaaaGreatDoorY08
import Derived.Recover
set_option maxHeartbeats 4000000
set_option linter.unusedVariables false
set_option linter.unusedSimpArgs false
set_option maxHeartbeats 8000000
namespace Go.Proofs.YtbjomhdhkpgbaaaGreatDoor
open Go Go.RowKit Go.Wk
attribute [local irreducible] W RL Does Zap Zak retQ Calls Pu Stp RD Qy Ay Zal
def fmE (g : DEra -> ByteArray) (e : DEra) : DEra := { e with format := g e }
def EaR (s : Zab) (v : Value) (O : List It) : Prop := ∃ u, v = .tuple #[u, .int .i64 0] /\ Zdq s u O
structure EoG where
 k : Nat
 Az : Option Addr
 cz : Nat
 m : Nat
 xs : List Value
 Zr : List ZE
theorem Zyv {G : Prop} (h : G := by (first | (apply Zav; rfl; rfl; omega; omega; (intro w' _ hO; exact Za6 (hO.of (A := .row (.slice A2 es.length c2) _ _ _ _) (by repeat' constructor)) (by omega))) | (apply Za2 (vs := [.int .i64 off, .int .i64 kd, .int .i64 sv, .string st, .string fm, .bool is, .int .i64 yr, .int .i64 mo, .int .i64 dk, .int .i64 dw, .int .i64 dd, .int .i64 cs', .int .i64 cb]); rfl; (focus repeat' constructor); exact hget; rfl) | (apply ZaG; rfl; rfl; exact e0))) : G := h
theorem Zm0 (Ar Az Al As : Option Addr) (cr cz cl cs : Nat) (a : Zab) (f : FuncId) [Body Tryz.prog f] (us vs : List Value) (g : DEra -> ByteArray) (w : World) (hA : Zaj w Ar Az Al As cr cz cl cs a) (hn : Fits a)
  (hf : ∀ z ∈ a.zones, ∀ e ∈ z.eras, ∀ w', Bel w.heap.size w w' -> Does Tryz.prog f (us ++ [.agg (DEra.enc e).toArray] ++ vs) w' (fun v O => v = .tuple #[.string (g e), .int .i64 0] /\ O = [])) :
  Does Tryz.prog 187 [srcV Ar Az Al As cr cz cl cs a, .func (.func f) us.toArray vs.toArray] w (EaR (erasS (fmE g) a)) := by
 obtain ⟨hnr, hnz, hnl, hns, hne⟩ := hn
 have e0 : (!decide ((0 : Int) = 0)) = false := rfl
 refine Zaa Tryz.func187 rfl rfl rfl rfl ?_
 refine Zdu 46 2 ?_
 unfold srcV
 repeat (first | refine walk ?_ | (refine jg ?_; (try intro F); (first | (apply Zac (h := fun w' hw _ => Zcs Ar cr a.rules w' (hA.r.up hw) hnr); rfl; rintro v O' ⟨A3, c3, rfl, rfl⟩) | (apply Zac (h := fun w' hw _ => Zed Al cl a.links w' (hA.l.up hw) hnl); rfl; rintro v O' ⟨A4, c4, rfl, rfl⟩) | (apply Zac (h := fun w' hw _ => Zcr As cs a.shifts w' (hA.s.up hw) hns); rfl; rintro v O' ⟨A5, c5, rfl, rfl⟩) | (refine bx ?_; intro bk) | (refine stA ?_)); refine fin ?_) | (refine jn ?_; (try intro F); (first | (refine bx ?_; intro bk) | (refine stA ?_) | (apply Zag; exact PuA)); refine fin ?_) | (apply RD_W; rfl; intro bk))
 generalize bk = b6
 refine ZfC (fun g : EoG => [(25, .int .i64 g.k), (1, _), (2, _), (4, _), (6, _), (23, _), (24, _)]) (fun g => .row (.slice g.Az g.m g.cz) 46 2 g.m g.xs :: .blk b6 [.slice A3 a.rules.length c3, .slice g.Az g.m g.cz, .slice A4 a.links.length c4, .slice A5 a.shifts.length c5] 32 :: rowS A5 c5 a.shifts :: rowL A4 c4 a.links :: rowR A3 c3 a.rules :: .blk _ _ _ :: .blk _ _ _ :: g.Zr.map Zau)
  (fun h => h.k <= a.zones.length /\ h.m = h.Zr.length /\ h.xs = h.Zr.reverse.flatMap ZE.enc /\ h.Zr.reverse.map ZE.z = (a.zones.take h.k).map (Za5 (fmE g)))
  (fun h => a.zones.length - h.k) ⟨0, none, 0, 0, [], []⟩ ⟨rfl, rfl, rfl, rfl, rfl, rfl, rfl, trivial⟩ STA ⟨by simp, rfl, rfl, by simp⟩ ?_
 rintro ⟨k, Az', cz', m, xs, Zr⟩ ⟨hk, hm, hx, hz⟩
 dsimp only at hk hm hx hz ⊢
 generalize hT : Zr.map Zau = T
 repeat (first | refine walk ?_ | (refine jn ?_; (try intro F); (first | (refine bx ?_; intro bk) | (refine stA ?_) | (apply Zag; exact PuA)); refine fin ?_) | (apply RD_W; rfl; intro bk))
 refine Zah rfl (fun hc => ?_) (fun hc => ?_)
 ·simp only [decide_eq_true_eq, Int.ofNat_lt] at hc
  obtain ⟨hna, cs1, ⟨Ae, ce, hE, rfl⟩, hca⟩ := hA.z k _ (List.getElem?_eq_getElem hc)
  have ht := List.take_append_getElem hc
  have hl := hne _ (List.getElem_mem hc)
  have hfz := hf _ (List.getElem_mem hc)
  have hzl : Zr.length = k := by rw [<- List.length_reverse, <- List.length_map (f := ZE.z), hz, List.length_map, List.length_take]; omega
  generalize a.zones[k] = z at *
  obtain ⟨nm, es⟩ := z
  dsimp only at hE hl hfz hca
  repeat (first | (apply RL_pu; rfl; exact PuI) | (apply RD_Q; rfl; rfl; decide +kernel; rfl; rfl; exact QyI) | refine walk1 ?_ | (refine jg ?_; (try intro F); (first | (apply Zac (h := fun w' hw _ => Zct Ae ce es w' (hE.up hw) hl); rfl; rintro v O' ⟨A2, c2, rfl, rfl⟩) | (refine bx ?_; intro bk) | (refine stA ?_)); first | refine ⟨_, EndsA, QFI, ?_⟩ | refine fin ?_) | (refine jn ?_; (try intro F); (first | (refine bx ?_; intro bk) | (refine stA ?_) | (apply Zag; first | exact PuI | exact PuA)); first | refine ⟨_, EndsA, QFI, ?_⟩ | refine fin ?_) | (apply RD_W; rfl; intro bk))
  generalize bk = b8
  refine ZfC (fun h : ChG DEra => [(36, .int .i64 h.k), (1, _), (2, _), (4, _), (6, _), (23, _), (24, _), (25, _), (8, _), (34, _), (35, _)]) (fun h => .row (.slice A2 es.length c2) 54 13 es.length (h.m.flatMap DEra.enc) :: .blk b8 [.string nm, .slice A2 es.length c2] 46 :: .row (.slice Az' m cz') 46 2 m xs :: .blk b6 [.slice A3 a.rules.length c3, .slice Az' m cz', .slice A4 a.links.length c4, .slice A5 a.shifts.length c5] 32 :: rowS A5 c5 a.shifts :: rowL A4 c4 a.links :: rowR A3 c3 a.rules :: .blk _ _ _ :: .blk _ _ _ :: T)
   (fun h => ChI es (fmE g) h.k h.m) (fun h => es.length - h.k) ⟨0, es⟩ SFA STA (ChI.zero es (fmE g)) ?_
  rintro ⟨j, me⟩ hI
  dsimp only at hI ⊢
  obtain ⟨i1, i2, i3, i4⟩ := id hI
  repeat (first | refine walk ?_ | (refine jn ?_; (try intro F); (first | (refine bx ?_; intro bk) | (refine stA ?_) | (apply Zag; exact PuA)); refine fin ?_) | (apply RD_W; rfl; intro bk))
  refine Zah rfl (fun hd => ?_) (fun hd => ?_)
  ·have hjl : j < es.length := by
    have := of_decide_eq_true hd
    omega
   obtain ⟨x, hxj⟩ : ∃ x, es[j]? = some x := ⟨_, List.getElem?_eq_getElem hjl⟩
   have hmj : me[j]? = some x := (i4 j (Nat.le_refl _)).trans hxj
   have hfx := fun w' hw => hfz x (List.mem_of_getElem? hxj) w' hw
   have hst := hI.step hxj
   have hget : ∀ (i : Nat) (v : Value), (DEra.enc x)[i]? = some v -> (me.flatMap DEra.enc)[(j : Int).toNat * 13 + i]? = some v := fun i v hi => by
    have := ZaF DEra.len me j x i v hmj hi
    simpa using this
   have hml : (me.flatMap DEra.enc).length = es.length * 13 := by rw [ZaE DEra.len, i2]
   have hlay : lay (me.flatMap DEra.enc) ((j : Int).toNat * 13 + 4) [.string (g x)] = (me.set j (fmE g x)).flatMap DEra.enc := by
    have := ZdR DEra.len 4 [.string (g x)] (by decide : 4 + 1 <= 13) x (fmE g x) rfl me j hmj
    rw [show (j : Int).toNat * 13 + 4 = j * 13 + 4 by simp, this]
   generalize fmE g x = x' at *
   generalize g x = y at *
   obtain ⟨off, kd, sv, st, fm, ⟨is, yr, mo, ⟨dk, dw, dd⟩, ⟨cs', cb⟩⟩⟩ := x
   repeat (first | (apply RL_pu; rfl; exact Zyv) | (refine js ?_; (first | (refine ZdT (fun w' hw _ => hfx w' hw) ?_) | (apply Zbi (vs := [.string y]); rfl; rfl; (focus repeat' constructor); rfl; rfl; rfl; (rw [hml]; omega); decide; exact hlay) | (refine bx ?_; intro bk))) | (apply RD_Q; rfl; rfl; decide +kernel; rfl; rfl; exact QyExB0) | refine walk1 ?_ | (refine ZdC ?_; intro F; (refine ZdT (fun w' hw _ => hfx w' hw) ?_); refine ⟨_, EndsA, SubO.right _ _, ?_⟩) | (refine RD_Lw ?_; intro F; (first | (refine ZdT (fun w' hw _ => hfx w' hw) ?_) | (apply Zbi (vs := [.string y]); rfl; rfl; (focus repeat' constructor); rfl; rfl; rfl; (rw [hml]; omega); decide; exact hlay) | (refine bx ?_; intro bk) | (refine stA ?_) | (apply Zag; first | exact Zyv | exact PuA)); refine ⟨_, EndsA, QFExB0, ?_⟩) | (apply RD_W; rfl; intro bk))
   exact ⟨⟨j + 1, me.set j x'⟩, by dsimp only; omega, hst, SFA, STA⟩
  ·obtain rfl : j = es.length := by
    have := of_decide_eq_false hd
    omega
   obtain rfl := hI.done
   repeat (first | refine walk ?_ | (refine jn ?_; (try intro F); (first | (apply ZaC; rfl; rfl; (intro A' c'; (focus repeat' constructor)); (intro w' _ hO; exact ZbD (hO.of (by repeat' constructor))); rfl; rfl; (simp only [maxLen]; omega); omega; intro A' c' hc1 hc2 hc3) | (refine bx ?_; intro bk) | (refine stA ?_) | (apply Zag; exact PuA)); refine fin ?_) | (apply RD_W; rfl; intro bk))
   subst hT
   have hel : (es.map (fmE g)).length = es.length := List.length_map ..
   refine ⟨⟨k + 1, A', c', m + 1, xs ++ ZE.enc ⟨⟨nm, es.map (fmE g)⟩, A2, c2⟩, ⟨⟨nm, es.map (fmE g)⟩, A2, c2⟩ :: Zr⟩, OA, ⟨OA, by simp [hm], by simp [hx], by rw [List.reverse_cons, List.map_append, hz, <- ht, List.map_append]; rfl⟩, SFA, ?_⟩
   have her : Zau ⟨⟨nm, es.map (fmE g)⟩, A2, c2⟩ = .row (.slice A2 es.length c2) 54 13 es.length ((es.map (fmE g)).flatMap DEra.enc) := by
    unfold Zau
    dsimp only
    rw [hel]
   dsimp only [ZE.enc]
   rw [List.map_cons, her, hel]
   exact STA
 simp only [decide_eq_false_iff_not, Int.ofNat_lt] at hc
 rw [List.take_of_length_le (by omega)] at hz
 subst hT
 refine ZqR _ (SubO.permT (l := [_, _, _, _, _, _, _]) (.refl _) ((List.reverse_perm Zr).symm.map Zau)) ?_
 rw [<- List.length_reverse] at hm
 generalize Zr.reverse = Zs at *
 repeat (first | refine walk ?_ | (refine jn ?_; (try intro F); (first | (refine bx ?_; intro bk) | (refine stA ?_) | (apply Zag; exact PuA)); refine fin ?_) | (apply RD_W; rfl; intro bk))
 subst hm hx
 have hl : Zs.length = a.zones.length := by rw [<- List.length_map (f := ZE.z), hz, List.length_map]
 exact ret_2 _ _ (rowR A3 c3 a.rules :: rowZ Az' cz' Zs :: rowL A4 c4 a.links :: rowS A5 c5 a.shifts :: Zs.map Zau) (.cellB rfl (by repeat' constructor) rfl rfl) (.tmp rfl) STA ⟨_, rfl, A3, c3, Az', cz', A4, c4, A5, c5, Zs, by unfold srcV erasS; rw [List.length_map, <- hl]; rfl, hz, rfl⟩
def EaF (s : Zab) (v : Value) (O : List It) : Prop := ∃ u, v = .tuple #[u, .int .i64 0] /\ ZgD s u O
theorem Zx2 {s : Zab} {v : Value} {O : List It} (h : EaR s v O) : ∃ O', EaF s v O' /\ ∀ base w', Zat base O w' -> Zat base O' w' := by
 obtain ⟨u, rfl, h⟩ := h
 obtain ⟨O', h1, h2⟩ := ZcG h
 exact ⟨O', ⟨u, rfl, h1⟩, h2⟩
theorem Zt6 : (fmE fun e => (Zcb e).format) = Zcb := by
 funext e
 unfold fmE Zcb
 dsimp only
 split <;> rfl
theorem Zzh (rs : List DRule) : (fmE fun e => (expE rs e).format) = expE rs := by
 funext e
 unfold fmE expE
 dsimp only
 split <;> rfl
theorem ZlP (Ar Az Al As : Option Addr) (cr cz cl cs : Nat) (a : Zab) (w : World) (hL : LibW w) (hA : Zaj w Ar Az Al As cr cz cl cs a) (hn : Fits a) (hm : srcM a = true) (hc : ∀ z ∈ a.zones, ∀ e ∈ z.eras, conE a.rules e = true) :
  Does Tryz.prog 146 [srcV Ar Az Al As cr cz cl cs a] w (EaF (erasS Zcb a)) := by
 have hcz : ∀ (b : Nat) (w' : World), Bel w.heap.size w w' -> Zam w' ⟨b, 0, none⟩ (srcC Ar Az Al As cr cz cl cs a) -> Does Tryz.prog 187 [srcV Ar Az Al As cr cz cl cs a, .func (.func 188) #[] #[.pointer (some ⟨b, 0, none⟩)]] w' (EaF (erasS Zcb a)) := fun b w' hw hb => by
  have h := Zm0 Ar Az Al As cr cz cl cs a 188 [] [.pointer (some ⟨b, 0, none⟩)] (fun e => (Zcb e).format) w' (hA.up hw) hn fun z hz e he w2 h2 => ZoK Ar Az Al As cr cz cl cs a b e w2 ((hL.up hw).up h2) ((hA.up hw).up h2) hn.r hm (ZkI hm hz he) (hc z hz e he) (hb.up h2 (Nat.le_refl _))
  rw [Zt6] at h
  exact h.monoO fun _ _ h => Zx2 h
 unfold srcV srcC at *
 refine Zaa Tryz.func146 rfl rfl rfl rfl ?_
 repeat (first | (refine js ?_; (first | (apply Zac (h := fun w' hw hO => hcz _ w' hw (hO.cells (by repeat' constructor))); rfl; rintro v O' ⟨u, rfl, A3, c3, A2, c2, A4, c4, A5, c5, Zs, S, rfl, hZs, rfl⟩) | (refine bx ?_; intro bk))) | refine walk ?_)
 exact ret_2 _ _ [rowR A3 c3 (erasS Zcb a).rules, rowZ A2 c2 Zs, rowL A4 c4 (erasS Zcb a).links, rowS A5 c5 (erasS Zcb a).shifts, .fact S (Zax Zs)] (.cellB rfl (by repeat' constructor) rfl rfl) (.tmp rfl) SOA ⟨_, rfl, A3, c3, A2, c2, A4, c4, A5, c5, Zs, S, rfl, hZs, rfl⟩
theorem ZpG (Ar Az Al As : Option Addr) (cr cz cl cs : Nat) (a : Zab) (w : World) (hA : Zaj w Ar Az Al As cr cz cl cs a) (hn : Fits a) (hm : srcM a = true) (hc : ∀ z ∈ a.zones, ∀ e ∈ z.eras, expZ a.rules e = true) :
  Does Tryz.prog 147 [srcV Ar Az Al As cr cz cl cs a] w (EaF (erasS (expE a.rules) a)) := by
 have hcz : ∀ (b : Nat) (w' : World), Bel w.heap.size w w' -> Zam w' ⟨b, 0, none⟩ (srcC Ar Az Al As cr cz cl cs a) -> Does Tryz.prog 187 [srcV Ar Az Al As cr cz cl cs a, .func (.func 190) #[] #[.pointer (some ⟨b, 0, none⟩)]] w' (EaF (erasS (expE a.rules) a)) := fun b w' hw hb => by
  have h := Zm0 Ar Az Al As cr cz cl cs a 190 [] [.pointer (some ⟨b, 0, none⟩)] (fun e => (expE a.rules e).format) w' (hA.up hw) hn fun z hz e he w2 h2 => Zub Ar Az Al As cr cz cl cs a b e w2 ((hA.up hw).up h2) hn.r hm (ZkI hm hz he) (hc z hz e he) (hb.up h2 (Nat.le_refl _))
  rw [Zzh] at h
  exact h.monoO fun _ _ h => Zx2 h
 unfold srcV srcC at *
 refine Zaa Tryz.func147 rfl rfl rfl rfl ?_
 repeat (first | (refine js ?_; (first | (apply Zac (h := fun w' hw hO => hcz _ w' hw (hO.cells (by repeat' constructor))); rfl; rintro v O' ⟨u, rfl, A3, c3, A2, c2, A4, c4, A5, c5, Zs, S, rfl, hZs, rfl⟩) | (refine bx ?_; intro bk))) | refine walk ?_)
 exact ret_2 _ _ [rowR A3 c3 (erasS (expE a.rules) a).rules, rowZ A2 c2 Zs, rowL A4 c4 (erasS (expE a.rules) a).links, rowS A5 c5 (erasS (expE a.rules) a).shifts, .fact S (Zax Zs)] (.cellB rfl (by repeat' constructor) rfl rfl) (.tmp rfl) SOA ⟨_, rfl, A3, c3, A2, c2, A4, c4, A5, c5, Zs, S, rfl, hZs, rfl⟩
end Go.Proofs.YtbjomhdhkpgbaaaGreatDoor
namespace Go.Proofs.YtbjomhdhkpgbaaaGreatDoor
open Go Go.RowKit Go.Wk
theorem ZgO (a b : Zaf) : ordE a b < 0 ↔ a.nominal < b.nominal \/ (a.nominal = b.nominal /\ (a.rule < b.rule \/ (a.rule = b.rule /\ a.year < b.year))) := by
 unfold ordE
 repeat' split
 all_goals omega
def ltE (x y : Zaf) : Bool := decide (ordE x y < 0)
theorem swoE : Go.Sort.SWO ltE where
 irrefl x := by simp only [ltE, ZgO, decide_eq_false_iff_not]; omega
 trans x y z h1 h2 := by simp only [ltE, ZgO, decide_eq_true_eq] at *; omega
 ntrans x y z h1 h2 := by simp only [ltE, ZgO, decide_eq_false_iff_not] at *; omega
theorem totE (x y : Zaf) (h1 : ltE x y = false) (h2 : ltE y x = false) : x = y := by
 simp only [ltE, ZgO, decide_eq_false_iff_not] at h1 h2
 obtain ⟨a, b, c⟩ := x
 obtain ⟨d, e, f⟩ := y
 simp only [Zaf.mk.injEq]
 simp only at h1 h2
 omega
def ZdW (least y : Int) : List DRule -> Nat -> List Zaf
 | [], _ => []
 | r :: l, i => (onR least r i y).toList ++ ZdW least y l (i + 1)
def allC (l : List DRule) (least from_ : Int) : Nat -> List Zaf
 | 0 => []
 | k + 1 => allC l least from_ k ++ ZdW least (from_ + k) l 0
def insF (a : List Zaf) (e : Zaf) : List Zaf := insE e a
theorem ZgH (least y : Int) : ∀ (l : List DRule) (i : Nat) (acc : List Zaf), ZeA least y l i acc = (ZdW least y l i).foldl insF acc
 | [], _, _ => rfl
 | r :: l, i, acc => by
  rw [ZeA, ZdW, ZgH least y l]
  cases onR least r i y with
  | none => rfl
  | some e => rfl
theorem ZiB (e : Zaf) : ∀ l, (insE e l).Perm (e :: l)
 | [] => .refl _
 | x :: l => by
  rw [insE]
  split
  ·exact .refl _
  ·exact ((ZiB e l).cons x).trans (.swap _ _ _)
theorem ZmJ : ∀ (xs acc : List Zaf), (xs.foldl insF acc).Perm (xs ++ acc)
 | [], _ => .refl _
 | x :: xs, acc => by
  rw [List.foldl_cons]
  refine (ZmJ xs _).trans ?_
  refine ((ZiB x acc).append_left xs).trans ?_
  exact List.perm_middle
theorem Zeg (l : List DRule) (least from_ : Int) : ∀ k, (ZdA l least from_ k).Perm (allC l least from_ k)
 | 0 => .refl _
 | k + 1 => by
  rw [ZdA, allC, ZgH]
  refine (ZmJ _ _).trans ?_
  refine List.perm_append_comm.trans ?_
  exact (Zeg l least from_ k).append_right _
def Zsk (l : List Zaf) : Prop := l.Pairwise fun a b => ltE a b = false
theorem ZmL (e : Zaf) : ∀ l, Zsk l -> Zsk (insE e l)
 | [], _ => List.pairwise_singleton _ _
 | x :: l, h => by
  obtain ⟨h1, h2⟩ := List.pairwise_cons.1 h
  rw [insE]
  split
  ·rename_i hlt
   have hx : ltE x e = true := decide_eq_true hlt
   have hex : ltE e x = false := by
    cases h3 : ltE e x
    ·rfl
    ·have := swoE.trans x e x hx h3
     rw [swoE.irrefl] at this
     cases this
   refine List.pairwise_cons.2 ⟨fun b hb => ?_, h⟩
   rcases List.mem_cons.1 hb with rfl | hb
   ·exact hex
   ·exact swoE.ntrans e x b hex (h1 b hb)
  ·rename_i hlt
   have hx : ltE x e = false := decide_eq_false hlt
   refine List.pairwise_cons.2 ⟨fun b hb => ?_, ZmL e l h2⟩
   rcases List.mem_cons.1 ((ZiB e l).mem_iff.1 hb) with rfl | hb
   ·exact hx
   ·exact h1 b hb
theorem ZmK : ∀ (xs acc : List Zaf), Zsk acc -> Zsk (xs.foldl insF acc)
 | [], _, h => h
 | x :: xs, acc, h => ZmK xs _ (ZmL x acc h)
theorem ZfV (l : List DRule) (least from_ : Int) : ∀ k, Zsk (ZdA l least from_ k)
 | 0 => List.Pairwise.nil
 | k + 1 => by
  rw [ZdA, ZgH]
  exact ZmK _ _ (ZfV l least from_ k)
theorem Zwh (l : List DRule) (least from_ : Int) (k : Nat) : (allC l least from_ k).mergeSort (fun x y => !ltE y x) = (ZdA l least from_ k).reverse := by
 refine List.Perm.eq_of_pairwise (le := fun x y => (!ltE y x) = true) ?_ ?_ ?_ ?_
 ·intro a b _ _ h1 h2
  simp only [Bool.not_eq_true'] at h1 h2
  exact totE a b h2 h1
 ·refine List.pairwise_mergeSort ?_ ?_ _
  ·intro a b c h1 h2
   simp only [Bool.not_eq_true'] at h1 h2 ⊢
   exact swoE.ntrans c b a h2 h1
  ·intro a b
   cases h : ltE b a with
   | false => simp
   | true =>
    have : ltE a b = false := by
     cases h3 : ltE a b
     ·rfl
     ·have := swoE.trans a b a h3 h
      rw [swoE.irrefl] at this
      cases this
    simp [this]
 ·rw [List.pairwise_reverse]
  exact (ZfV l least from_ k).imp fun h => by rw [h]; rfl
 ·exact (List.mergeSort_perm _ _).trans ((Zeg l least from_ k).symm.trans (List.reverse_perm _).symm)
def ZcV : List Zaf -> Option Zaf
 | a :: b :: l => if b.nominal - a.nominal < 259200 then some b else ZcV (b :: l)
 | _ => none
theorem Zi6 (x y : Zaf) : ∀ l : List Zaf, ZcV (l ++ [x, y]) = (ZcV (l ++ [x])).or (if y.nominal - x.nominal < 259200 then some y else none)
 | [] => by simp [ZcV]
 | [a] => by
  simp only [List.cons_append, List.nil_append, ZcV]
  by_cases h : x.nominal - a.nominal < 259200 <;> simp [h]
 | a :: b :: l => by
  have ih := Zi6 x y (b :: l)
  simp only [List.cons_append, ZcV] at ih ⊢
  by_cases h : b.nominal - a.nominal < 259200
  ·simp [h]
  ·simp only [if_neg h]
   exact ih
theorem Zkh : ∀ l : List Zaf, ZcV l.reverse = Zhu l
 | [] => rfl
 | [_] => rfl
 | a :: b :: l => by
  have ih := Zkh (b :: l)
  rw [List.reverse_cons] at ih
  rw [Zhu, <- ih, List.reverse_cons, List.reverse_cons, List.append_assoc]
  exact Zi6 b a l.reverse
theorem Zne (l : List DRule) : ZcV ((allC l (Zai l) 1850 701).mergeSort fun x y => !ltE y x) = ZfA l := by
 rw [Zwh, Zkh]; rfl
end Go.Proofs.YtbjomhdhkpgbaaaGreatDoor
namespace Go.Wk
open Go Go.RowKit
def beIn (least nominal : Int) (r : DRule) (i y : Int) : Nat -> Option Zaf
 | 0 => none
 | k + 1 => match onR least r i y with
  | some e => if e.nominal < nominal then some e else beIn least nominal r i (y - 1) k
  | none => beIn least nominal r i (y - 1) k
def Znd (least nominal yr : Int) : List DRule -> Nat -> Option Zaf -> Option Zaf
 | [], _, best => best
 | r :: l, i, best =>
  Znd least nominal yr l (i + 1) (match beIn least nominal r i (min (lastY r) (yr + 2)) 20 with
   | none => best
   | some e => match best with | none => some e | some b => if ordE b e < 0 then some e else some b)
def befD (l : List DRule) (nominal : Int) : Option Zaf := Znd (Zai l) nominal (Zez nominal) l 0 none
def fiIn (least : Int) (r : DRule) (i y : Int) : Nat -> Option Zaf
 | 0 => none
 | k + 1 => match onR least r i y with
  | some e => some e
  | none => fiIn least r i (y + 1) k
def firL (least : Int) : List DRule -> Nat -> List Zaf
 | [], _ => []
 | r :: l, i => (fiIn least r i (max r.from_ (-2000000000)) 9).toList ++ firL least l (i + 1)
def dR0 : DRule := ⟨ByteArray.empty, 0, 0, 0, ⟨0, 0, 0⟩, ⟨0, 0⟩, 0, ByteArray.empty⟩
def ruE (l : List DRule) (e : Zaf) : DRule := l.getD e.rule.toNat dR0
def fstB (l : List DRule) (all : Bool) (but : Int) (best : Option Zaf) (e : Zaf) : Option Zaf :=
 if (!all && decide ((ruE l e).save = but)) || (match best with | some b => decide (b.nominal <= e.nominal) | none => false) then best else some e
def fstD (l : List DRule) (all : Bool) (but : Int) : Option Zaf := (firL (Zai l) l 0).foldl (fstB l all but) none
def behS (l : List DRule) (e : Zaf) : Int × ByteArray := ((ruE l e).save, (ruE l e).letter)
def iniS (l : List DRule) : Int × ByteArray :=
 match fstD l true 0 with
 | none => (0, ByteArray.empty)
 | some e => match fstD l false (ruE l e).save with
  | some o => behS l o
  | none => behS l e
def befS (l : List DRule) (nominal : Int) : Int × ByteArray :=
 match befD l nominal with
 | some e => behS l e
 | none => iniS l
def ZwX (l : List DRule) (e : Zaf) (off : Int) : Int :=
 if (ruE l e).at_.base = 1 then e.nominal - max (Zai l) (-10800) - off
 else if (ruE l e).at_.base = 0 then e.nominal - (befS l e.nominal).1 - off
 else e.nominal
end Go.Wk
namespace Go.Proofs.YtbjomhdhkpgbaaaGreatDoor
open Go Go.RowKit Go.Wk
attribute [local irreducible] W RL Does Zap Zak retQ Calls Pu Stp RD Qy Ay Zal
def ZBa (l : List DRule) : Prop := ∀ r ∈ l, (-4611686018427387904 <= r.save /\ r.save <= 4611686018427387904) /\ (r.from_ <= 4611686018427387904 /\ -4611686018427387904 <= r.to)
attribute [local irreducible] RLI WI
set_option maxRecDepth 20000
end Go.Proofs.YtbjomhdhkpgbaaaGreatDoor
set_option maxHeartbeats 4000000
set_option maxRecDepth 20000
namespace Go.Proofs.YtbjomhdhkpgbaaaGreatDoor
open Go Go.RowKit Go.Wk
attribute [local irreducible] W RL Does Zap Zak retQ Calls Pu Stp RD Qy Ay Zal RLI WI
end Go.Proofs.YtbjomhdhkpgbaaaGreatDoor
namespace Go.Proofs.YtbjomhdhkpgbaaaGreatDoor
open Go Go.RowKit Go.Wk
attribute [local irreducible] W RL Does Zap Zak retQ Calls Pu Stp RD Qy Ay Zal
structure RsSm (l : List DRule) : Prop where
 n : l.length <= 1000000
 s : ∀ r ∈ l, -1000000000 <= r.save /\ r.save <= 1000000000
 f : ∀ r ∈ l, r.from_ <= 4611686018427387904
 t : ∀ r ∈ l, -4611686018427387904 <= r.to
theorem RsSm.r {l : List DRule} (h : RsSm l) : ∀ r ∈ l, -4611686018427387904 <= r.save /\ r.save <= 4611686018427387904 := fun r hr => by have := h.s r hr; omega
theorem RsSm.b {l : List DRule} (h : RsSm l) : ZBa l := fun r hr => ⟨h.r r hr, h.f r hr, h.t r hr⟩
end Go.Proofs.YtbjomhdhkpgbaaaGreatDoor
namespace Go.Wk
open Go Go.RowKit
def atGo (l : List DRule) (off t : Int) : Nat -> Int -> Int × ByteArray
 | 0, nm => befS l nm
 | k + 1, nm => match befD l nm with
  | none => iniS l
  | some e => if ZwX l e off <= t then behS l e else atGo l off t k e.nominal
def atS (l : List DRule) (off t : Int) : Int × ByteArray := atGo l off t 3 (t + 259200)
end Go.Wk
namespace Go.Proofs.YtbjomhdhkpgbaaaGreatDoor
open Go Go.RowKit Go.Wk
attribute [local irreducible] W RL Does Zap Zak retQ Calls Pu Stp RD Qy Ay Zal
end Go.Proofs.YtbjomhdhkpgbaaaGreatDoor
namespace Go.Wk
open Go Go.RowKit
structure ZxH where
 kind : Int
 day : Int
 month : Int
 week : Int
 sec : Int
deriving DecidableEq
def ZxH.enc (x : ZxH) : List Value := [.int .i64 x.kind, .int .i64 x.day, .int .i64 x.month, .int .i64 x.week, .int .i64 x.sec]
def ZtV (n : Int) : Bool := decide (-604799 <= n) && decide (n <= 604799)
def bsE (e : DEra) (l : List DRule) : Int := if e.kind = 2 then max (Zai l) (-10800) else 0
def bfE (e : DEra) (l : List DRule) (nm : Int) : Int := if e.kind = 1 then e.save else if e.kind = 2 then (befS l nm).1 else 0
def endB (e : DEra) (l : List DRule) : Int := bfE e l (ZaO e.til (bsE e l)).1
def endT (e : DEra) (l : List DRule) : Int :=
 if e.til.at_.base = 0 then 86400 * (onD e.til.year e.til.month e.til.day).1 + e.til.at_.sec - endB e l - e.off
 else if e.til.at_.base = 1 then 86400 * (onD e.til.year e.til.month e.til.day).1 + e.til.at_.sec - e.off
 else 86400 * (onD e.til.year e.til.month e.til.day).1 + e.til.at_.sec
structure UnOk (e : DEra) (l : List DRule) : Prop where
 k : 0 <= e.kind /\ e.kind <= 2
 o : ZtV e.off = true
 s : ZtV e.save = true
 c : ZaJ e.til (bsE e l) = 0
 b : ZtV (endB e l) = true
end Go.Wk
namespace Go.Proofs.YtbjomhdhkpgbaaaGreatDoor
open Go Go.RowKit Go.Wk
attribute [local irreducible] W RL Does Zap Zak retQ Calls Pu Stp RD Qy Ay Zal
end Go.Proofs.YtbjomhdhkpgbaaaGreatDoor
namespace Go.Wk
open Go Go.RowKit
structure Zsl where
 start : Int
 fin : Int
 era : Int
deriving DecidableEq
def Zsl.enc (x : Zsl) : List Value := [.int .i64 x.start, .int .i64 x.fin, .int .i64 x.era]
def spIn (t : Int) (x : Zsl) : Bool := decide (x.start <= t) && decide (t < x.fin)
def Zz7 (t : Int) : List Zsl -> Nat -> Int
 | [], _ => -1
 | x :: l, i => if spIn t x then i else Zz7 t l (i + 1)
end Go.Wk
namespace Go.Proofs.YtbjomhdhkpgbaaaGreatDoor
open Go Go.RowKit Go.Wk
attribute [local irreducible] W RL Does Zap Zak retQ Calls Pu Stp RD Qy Ay Zal
def ruEr (rs : List DRule) (e : DEra) : List DRule := if e.kind = 2 then ofB rs e.set else []
theorem Zju {P : Program} {f : FuncId} {args : List Value} {w : World} {I : List It} {R R' : Value -> List It -> Prop} (h : Zal P f args w I R) (hr : ∀ v O base w', R v O -> Zat base O w' -> ∃ O', R' v O' /\ Zat base O' w') : Zal P f args w I R' := by
 unfold Zal at h ⊢
 exact fun w' hB hH => Calls.mono (h w' hB hH) fun _ _ ⟨v, O, h1, h2, h3, h4⟩ => by
  obtain ⟨O', h5, h6⟩ := hr v O _ _ h4 h3
  exact ⟨v, O', h1, h2, h6, h5⟩
end Go.Proofs.YtbjomhdhkpgbaaaGreatDoor
set_option maxHeartbeats 8000000
namespace Go.Proofs.YtbjomhdhkpgbaaaGreatDoor
open Go Go.RowKit Go.Wk
attribute [local irreducible] W RL Does Zap Zak retQ Calls Pu Stp RD Qy Ay Zal
abbrev drB (bD : Nat) (Ar Az Al As : Option Addr) (cr cz cl cs : Nat) (s : Zab) : It := .blk bD (srcC Ar Az Al As cr cz cl cs s) 94
def drF (wr : World) (Ar Az Al As : Option Addr) (cr cz cl cs : Nat) (s : Zab) : World -> Prop := fun w => Bel wr.heap.size wr w -> Zaj w Ar Az Al As cr cz cl cs s
def DrAt (wr : World) (bD : Nat) (s : Zab) (R O : List It) : Prop := ∃ Ar Az Al As cr cz cl cs S, O = drB bD Ar Az Al As cr cz cl cs s :: .fact S (drF wr Ar Az Al As cr cz cl cs s) :: R
def ZAU (bD : Nat) (s : Zab) (R O : List It) : Prop := ∃ Ar Az Al As cr cz cl cs Zs S, Zs.map ZE.z = s.zones /\ O = drB bD Ar Az Al As cr cz cl cs s :: rowR Ar cr s.rules :: rowZ Az cz Zs :: rowL Al cl s.links :: rowS As cs s.shifts :: .fact S (Zax Zs) :: R
theorem ZA7 {wr : World} {bD : Nat} {s : Zab} {R O : List It} {base : Nat} {w : World} (h : ZAU bD s R O) (hH : Zat base O w) : ∃ O', DrAt wr bD s R O' /\ Zat base O' w := by
 obtain ⟨Ar, Az, Al, As, cr, cz, cl, cs, Zs, S, hz, rfl⟩ := h
 refine ⟨_, ⟨Ar, Az, Al, As, cr, cz, cl, cs, foot [rowR Ar cr s.rules, rowZ Az cz Zs, rowL Al cl s.links, rowS As cs s.shifts, .fact S (Zax Zs)], rfl⟩, ?_⟩
 have h1 : Zat base ([rowR Ar cr s.rules, rowZ Az cz Zs, rowL Al cl s.links, rowS As cs s.shifts, .fact S (Zax Zs)] ++ (drB bD Ar Az Al As cr cz cl cs s :: R)) w := hH.perm (List.perm_middle (l₁ := [_, _, _, _, _])).symm
 have h2 := h1.fact (p := drF wr Ar Az Al As cr cz cl cs s) fun w2 hi _ => Zb2 hz (hi _ (.head _)) (hi _ (.tail _ (.head _))) (hi _ (.tail _ (.tail _ (.head _)))) (hi _ (.tail _ (.tail _ (.tail _ (.head _))))) (hi _ (.tail _ (.tail _ (.tail _ (.tail _ (.head _))))))
 exact h2.perm (List.Perm.swap _ _ _)
theorem ZoI {f : FuncId} {args : List Value} {wr : World} {I : List It} {bD : Nat} {s : Zab} {R : List It} (h : Zal Tryz.prog f args wr I fun v O => v = .tuple #[] /\ ZAU bD s R O) : Zal Tryz.prog f args wr I fun v O => v = .tuple #[] /\ DrAt wr bD s R O :=
 Zju h fun v O base w' ⟨hv, hr⟩ hH => by
  obtain ⟨O', h1, h2⟩ := ZA7 (wr := wr) hr hH
  exact ⟨O', ⟨hv, h1⟩, h2⟩
theorem Zh3 (bD : Nat) (Ar Az Al As A3 A2 A4 A5 : Option Addr) (cr cz cl cs c3 c2 c4 c5 : Nat) (s t : Zab) (R : List It) (wr : World) :
  Zal Tryz.prog 145 [.pointer (some ⟨bD, 0, none⟩), srcV A3 A2 A4 A5 c3 c2 c4 c5 t, .int .i64 0] wr (drB bD Ar Az Al As cr cz cl cs s :: R) (fun v O => v = .tuple #[] /\ O = drB bD A3 A2 A4 A5 c3 c2 c4 c5 t :: R) := by
 have e0 : (!decide ((0 : Int) = 0)) = false := rfl
 unfold srcV drB srcC
 refine Zbj Tryz.func145 rfl rfl rfl rfl ?_
 repeat (first | (apply RL_pu; rfl; (apply ZaG; rfl; rfl; exact e0)) | (refine js ?_; (refine bx ?_; intro bk)) | refine walk1 ?_)
 exact Zmh _ STA ⟨rfl, rfl⟩
theorem Fits.erasS {a : Zab} (h : Fits a) (f : DEra -> DEra) : Fits (erasS f a) := by
 obtain ⟨h1, h2, h3, h4, h5⟩ := h
 refine ⟨h1, by unfold Go.Proofs.YtbjomhdhkpgbaaaGreatDoor.erasS; rw [List.length_map]; exact h2, h3, h4, fun z hz => ?_⟩
 obtain ⟨z', hz', rfl⟩ := List.mem_map.1 hz
 unfold Za5
 rw [List.length_map]
 exact h5 z' hz'
theorem Fits.shiftS {a : Zab} (h : Fits a) (set : ByteArray) (x : Int) : Fits (shiftS set x a) := by
 obtain ⟨h1, h2, h3, h4, h5⟩ := h.erasS (shE set x)
 exact ⟨by unfold Go.Proofs.YtbjomhdhkpgbaaaGreatDoor.shiftS; rw [List.length_map]; exact h1, h2, h3, h4, h5⟩
theorem Fits.byS {a : Zab} (h : Fits a) (set : ByteArray) (x : Int) : Fits (byS a set x) := (h.shiftS set x).erasS (Zb0 set)
theorem Zs3 {a : Zab} (h : ∀ z ∈ a.zones, ∀ e ∈ z.eras, e.format.size <= 1000) (set : ByteArray) (x : Int) : ∀ z ∈ (shiftS set x a).zones, ∀ e ∈ z.eras, e.format.size <= 1000 := fun z hz e he => by
 obtain ⟨z', hz', rfl⟩ := List.mem_map.1 (show z ∈ a.zones.map (Za5 (shE set x)) from hz)
 obtain ⟨e', he', rfl⟩ := List.mem_map.1 (show e ∈ z'.eras.map (shE set x) from he)
 unfold shE
 split
 ·exact h z' hz' e' he'
 ·exact h z' hz' e' he'
theorem Zwe {a : Zab} (h : srcM a = true) : ∀ z ∈ a.zones, ∀ e ∈ z.eras, e.format.size <= 1000 := fun z hz e he => (ZoG (ZkI h hz he)).2.2.2
theorem Zuv (bD : Nat) (Ar Az Al As : Option Addr) (cr cz cl cs : Nat) (S : Nat -> Prop) (s : Zab) (set : ByteArray) (y : Int) (R : List It) (wr : World) (hL : LibW wr) (hn : Fits s) (hg : rngB s set y = true) :
  Zal Tryz.prog 144 [.pointer (some ⟨bD, 0, none⟩), .string set, .int .i64 y] wr (drB bD Ar Az Al As cr cz cl cs s :: .fact S (drF wr Ar Az Al As cr cz cl cs s) :: R) (fun v O => v = .tuple #[] /\ DrAt wr bD (byS s set y) R O) := by
 have hf : ∀ z ∈ (shiftS set y s).zones, ∀ e ∈ z.eras, e.format.size <= 1000 := Zs3 (Zwe (by
  unfold rngB at hg
  rw [Bool.and_eq_true, Bool.and_eq_true] at hg
  exact hg.2.1)) set y
 refine ZoI ?_
 unfold drB srcC
 refine Zbj Tryz.func144 rfl rfl rfl rfl ?_
 repeat (first | (refine js ?_; (first | (apply Zac (h := fun w' hw hO => Zrl Ar Az Al As cr cz cl cs s set y w' ((Za1 (hO.of (A := .fact S (drF wr Ar Az Al As cr cz cl cs s)) (by repeat' constructor)) : drF wr Ar Az Al As cr cz cl cs s w') hw) hn hg); rfl; rintro v O' ⟨u, rfl, A3, c3, A2, c2, A4, c4, A5, c5, Zs, S2, rfl, hZs, rfl⟩) | (apply ZbE (h := Zh3 bD Ar Az Al As A3 A2 A4 A5 cr cz cl cs c3 c2 c4 c5 s (shiftS set y s) _ wr); rfl; exact .cons (by repeat' constructor) (.refl _); rintro v O' ⟨rfl, rfl⟩) | (apply Zac (h := fun w' hw hO => (ZvY A3 A2 A4 A5 c3 c2 c4 c5 (shiftS set y s) set w' (hL.up hw) (Zb2 hZs (hO.of (A := rowR A3 c3 (shiftS set y s).rules) (by repeat' constructor)) (hO.of (A := rowZ A2 c2 Zs) (by repeat' constructor)) (hO.of (A := rowL A4 c4 (shiftS set y s).links) (by repeat' constructor)) (hO.of (A := rowS A5 c5 (shiftS set y s).shifts) (by repeat' constructor)) (hO.of (A := .fact S2 (Zax Zs)) (by repeat' constructor))) (hn.shiftS set y) hf).monoO fun _ _ h => ZcG h); rfl; rintro v O' ⟨A6, c6, A7, c7, A8, c8, A9, c9, Z6, S6, rfl, hZ6, rfl⟩))) | refine walk ?_)
 exact Zmh _ STA ⟨rfl, A6, A7, A8, A9, c6, c7, c8, c9, Z6, S6, hZ6, rfl⟩
end Go.Proofs.YtbjomhdhkpgbaaaGreatDoor
set_option maxHeartbeats 8000000
namespace Go.Proofs.YtbjomhdhkpgbaaaGreatDoor
open Go Go.RowKit Go.Wk
attribute [local irreducible] W RL Does Zap Zak retQ Calls Pu Stp RD Qy Ay Zal
theorem Zxh {s : Zab} (h : conB s = true) : ∀ z ∈ s.zones, ∀ e ∈ z.eras, conE s.rules e = true := fun z hz e he => List.all_eq_true.1 (List.all_eq_true.1 h z hz) e he
theorem Zxb {s : Zab} (h : expB s = true) : ∀ z ∈ s.zones, ∀ e ∈ z.eras, expZ s.rules e = true := fun z hz e he => List.all_eq_true.1 (List.all_eq_true.1 h z hz) e he
theorem Zld (bD : Nat) (Ar Az Al As : Option Addr) (cr cz cl cs : Nat) (S : Nat -> Prop) (s : Zab) (R : List It) (wr : World) (hL : LibW wr) (hn : Fits s) (hm : srcM s = true) (hc : conB s = true) :
  Zal Tryz.prog 103 [.pointer (some ⟨bD, 0, none⟩)] wr (drB bD Ar Az Al As cr cz cl cs s :: .fact S (drF wr Ar Az Al As cr cz cl cs s) :: R) (fun v O => v = .tuple #[] /\ DrAt wr bD (ZaN s) R O) := by
 refine ZoI ?_
 unfold drB srcC ZaN
 refine Zbj Tryz.func103 rfl rfl rfl rfl ?_
 repeat (first | (refine js ?_; (first | (apply Zac (h := fun w' hw hO => ZlP Ar Az Al As cr cz cl cs s w' (hL.up hw) ((Za1 (hO.of (A := .fact S (drF wr Ar Az Al As cr cz cl cs s)) (by repeat' constructor)) : drF wr Ar Az Al As cr cz cl cs s w') hw) hn hm (Zxh hc)); rfl; rintro v O' ⟨u, rfl, A3, c3, A2, c2, A4, c4, A5, c5, Zs, S2, rfl, hZs, rfl⟩) | (apply ZbE (h := Zh3 bD Ar Az Al As A3 A2 A4 A5 cr cz cl cs c3 c2 c4 c5 s (erasS Zcb s) _ wr); rfl; exact .cons (by repeat' constructor) (.refl _); rintro v O' ⟨rfl, rfl⟩))) | refine walk ?_)
 exact Zmh _ STA ⟨rfl, A3, A2, A4, A5, c3, c2, c4, c5, Zs, S2, hZs, rfl⟩
theorem Zk7 (bD : Nat) (Ar Az Al As : Option Addr) (cr cz cl cs : Nat) (S : Nat -> Prop) (s : Zab) (R : List It) (wr : World) (hn : Fits s) (hm : srcM s = true) (hc : expB s = true) :
  Zal Tryz.prog 104 [.pointer (some ⟨bD, 0, none⟩)] wr (drB bD Ar Az Al As cr cz cl cs s :: .fact S (drF wr Ar Az Al As cr cz cl cs s) :: R) (fun v O => v = .tuple #[] /\ DrAt wr bD (ZbS s) R O) := by
 refine ZoI ?_
 unfold drB srcC ZbS
 refine Zbj Tryz.func104 rfl rfl rfl rfl ?_
 repeat (first | (refine js ?_; (first | (apply Zac (h := fun w' hw hO => ZpG Ar Az Al As cr cz cl cs s w' ((Za1 (hO.of (A := .fact S (drF wr Ar Az Al As cr cz cl cs s)) (by repeat' constructor)) : drF wr Ar Az Al As cr cz cl cs s w') hw) hn hm (Zxb hc)); rfl; rintro v O' ⟨u, rfl, A3, c3, A2, c2, A4, c4, A5, c5, Zs, S2, rfl, hZs, rfl⟩) | (apply ZbE (h := Zh3 bD Ar Az Al As A3 A2 A4 A5 cr cz cl cs c3 c2 c4 c5 s (erasS (expE s.rules) s) _ wr); rfl; exact .cons (by repeat' constructor) (.refl _); rintro v O' ⟨rfl, rfl⟩))) | refine walk ?_)
 exact Zmh _ STA ⟨rfl, A3, A2, A4, A5, c3, c2, c4, c5, Zs, S2, hZs, rfl⟩
structure DrG where
 k : Nat
 Ar : Option Addr
 Az : Option Addr
 Al : Option Addr
 As : Option Addr
 cr : Nat
 cz : Nat
 cl : Nat
 cs : Nat
 s : Zab
 S : Nat -> Prop
def ZAV (wr : World) (bD : Nat) (s : Zab) (R O : List It) : Prop := ∃ Ar Az Al As cr cz cl cs S, O = .blk bD [.slice Ar s.rules.length cr, .slice Az s.zones.length cz, .slice Al s.links.length cl, .slice none 0 0] 94 :: .fact S (drF wr Ar Az Al As cr cz cl cs s) :: R
theorem Zxe {wr : World} {bD : Nat} {s : Zab} {R O : List It} {base : Nat} {w : World} (h : ZAV wr bD s R O) (hH : Zat base O w) : ∃ O', DrAt wr bD { s with shifts := [] } R O' /\ Zat base O' w := by
 obtain ⟨Ar, Az, Al, As, cr, cz, cl, cs, S, rfl⟩ := h
 refine ⟨_, ⟨Ar, Az, Al, none, cr, cz, cl, 0, foot [.fact S (drF wr Ar Az Al As cr cz cl cs s)], rfl⟩, ?_⟩
 have h1 : Zat base ([.fact S (drF wr Ar Az Al As cr cz cl cs s)] ++ (drB bD Ar Az Al none cr cz cl 0 { s with shifts := [] } :: R)) w := hH.perm (List.Perm.swap _ _ _)
 have h2 := h1.fact (p := drF wr Ar Az Al none cr cz cl 0 { s with shifts := [] }) fun w2 hi hB => by
  have h := Za1 (hi _ (.head _)) hB
  exact ⟨h.r, h.zle, h.zcap, h.z, h.l, ZwC _ _ _⟩
 exact h2.perm (List.Perm.swap _ _ _)
theorem ZlW (bD : Nat) (Ar Az Al As : Option Addr) (cr cz cl cs : Nat) (S : Nat -> Prop) (s : Zab) (R : List It) (wr : World) (hL : LibW wr) (hn : Fits s) (hu : unB s.shifts s = true) :
  Zal Tryz.prog 102 [.pointer (some ⟨bD, 0, none⟩)] wr (drB bD Ar Az Al As cr cz cl cs s :: .fact S (drF wr Ar Az Al As cr cz cl cs s) :: R) (fun v O => v = .tuple #[] /\ DrAt wr bD (ZaA s) R O) := by
 refine Zju (R := fun v O => v = .tuple #[] /\ ZAV wr bD (unGo s.shifts s) R O) ?_ fun v O base w' ⟨hv, hr⟩ hH => by
  obtain ⟨O', h1, h2⟩ := Zxe hr hH
  exact ⟨O', ⟨hv, h1⟩, h2⟩
 unfold drB srcC
 refine Zbj Tryz.func102 rfl rfl rfl rfl ?_
 repeat (first | (refine js ?_; (apply Zac (h := fun w' hw hO => Zcr As cs s.shifts w' (Zaj.s ((Za1 (hO.of (A := .fact S (drF wr Ar Az Al As cr cz cl cs s)) (by repeat' constructor)) : drF wr Ar Az Al As cr cz cl cs s w') hw)) hn.s); rfl; rintro v O' ⟨A2, c2, rfl, rfl⟩)) | refine walk ?_)
 generalize hl0 : s.shifts = L at *
 have hll : L.length <= 1000000 := by rw [<- hl0]; exact hn.s
 generalize hTT : unGo L s = T
 refine ZfC (fun g : DrG => [(13, .int .i64 g.k), (0, _), (11, _), (12, _)]) (fun g => .blk bD [.slice g.Ar g.s.rules.length g.cr, .slice g.Az g.s.zones.length g.cz, .slice g.Al g.s.links.length g.cl, .slice g.As g.s.shifts.length g.cs] 94 :: .fact g.S (drF wr g.Ar g.Az g.Al g.As g.cr g.cz g.cl g.cs g.s) :: .row (.slice A2 L.length c2) 9 1 L.length (L.flatMap ZaI) :: R)
  (fun g => g.k <= L.length /\ Fits g.s /\ unB (L.drop g.k) g.s = true /\ unGo (L.drop g.k) g.s = T) (fun g => L.length - g.k) ⟨0, Ar, Az, Al, As, cr, cz, cl, cs, s, S⟩ SFA (by dsimp only; rw [hl0]; exact STA) ⟨Nat.zero_le _, hn, hu, hTT⟩ ?_
 clear hu hTT hl0 hn
 clear Ar Az Al As cr cz cl cs S s
 rintro ⟨k, Ar, Az, Al, As, cr, cz, cl, cs, s, S⟩ ⟨hk, hs, hu, hT⟩
 dsimp only at hk hs hu hT ⊢
 repeat (first | refine walk ?_)
 refine Zah rfl (fun hc => ?_) (fun hc => ?_)
 ·have hkl : k < L.length := by
   have := of_decide_eq_true hc
   omega
  obtain ⟨x, hx⟩ : ∃ x, L[k]? = some x := ⟨_, List.getElem?_eq_getElem hkl⟩
  have hdr := getElem?_drop hx
  rw [hdr, unB, Bool.and_eq_true] at hu
  rw [hdr, unGo] at hT
  obtain ⟨hg, hu⟩ := hu
  have hget : (L.flatMap ZaI)[(k : Int).toNat * 1]? = some (.string x) := by
   have := ZaF ZaI.len L k x 0 _ hx rfl
   simpa using this
  have hng : -9223372036854775807 <= (Zbg (ofB s.rules x)).1 /\ (Zbg (ofB s.rules x)).1 <= 9223372036854775807 := by
   have h := hg
   unfold rngB at h
   rw [Bool.and_eq_true, Bool.and_eq_true, ZbL] at h
   omega
  repeat (first | (apply RL_pu; rfl; (first | (apply Zav; rfl; rfl; omega; omega; (intro w' _ hO; exact Za6 (hO.of (A := .row (.slice A2 _ c2) _ _ _ _) (by repeat' constructor)) (by omega))) | (apply Zfo; rfl; (focus repeat' constructor); exact hget) | (apply Zgz; rfl; exact hng))) | (refine js ?_; (first | (apply Zac (h := fun w' hw hO => Zd2 Ar Az Al As cr cz cl cs s x w' ((Za1 (hO.of (A := .fact S (drF wr Ar Az Al As cr cz cl cs s)) (by repeat' constructor)) : drF wr Ar Az Al As cr cz cl cs s w') hw) hs.r); rfl; rintro v O' ⟨A3, c3, rfl, rfl⟩) | (refine ZaW (fun w' _ hO => ZgN A3 c3 (ofB s.rules x) w' (Za4 DRule.len (hO.of (A := .row (.slice A3 (ofB s.rules x).length c3) _ _ _ _) (by repeat' constructor)))) ?_) | (apply ZbE (h := Zuv bD Ar Az Al As cr cz cl cs S s x _ _ wr hL hs hg); rfl; exact .cons (by repeat' constructor) (.cons (by repeat' constructor) (.refl _)); rintro v O' ⟨rfl, Ar', Az', Al', As', cr', cz', cl', cs', S', rfl⟩))) | refine walk1 ?_)
  exact ⟨⟨k + 1, Ar', Az', Al', As', cr', cz', cl', cs', _, S'⟩, OA, ⟨hkl, hs.byS _ _, hu, hT⟩, SFA, STA⟩
 ·obtain rfl : k = L.length := by
   have := of_decide_eq_false hc
   omega
  rw [List.drop_length, unGo] at hT
  subst hT
  repeat (first | refine walk ?_)
  exact Zmh _ STA ⟨rfl, Ar, Az, Al, As, cr, cz, cl, cs, S, rfl⟩
theorem ZyN {w : World} {Ar Az Al As A7 : Option Addr} {cr cz cl cs c7 : Nat} {t : Zab} {l : List ByteArray} {x : ByteArray} (hl : t.shifts = l) (h : Zaj w Ar Az Al As cr cz cl cs t) (hr : (It.row (.slice A7 (t.shifts.length + 1) c7) 9 1 (t.shifts.length + 1) (t.shifts.flatMap ZaI ++ [.string x])).sat w) : Zaj w Ar Az Al A7 cr cz cl c7 { t with shifts := l ++ [x] } := by
 subst hl
 refine ⟨h.r, h.zle, h.zcap, h.z, h.l, ?_⟩
 have e : t.shifts.flatMap ZaI ++ [.string x] = (t.shifts ++ [x]).flatMap ZaI := by simp [ZaI]
 have e2 : t.shifts.length + 1 = (t.shifts ++ [x]).length := by simp
 rw [e, e2] at hr
 exact Za4 ZaI.len hr
theorem Zma (bD : Nat) (Ar Az Al As : Option Addr) (cr cz cl cs : Nat) (S : Nat -> Prop) (s : Zab) (R : List It) (wr : World) (hL : LibW wr) (hn : Fits s) (hsh : s.shifts.length + (ZaP s.rules []).length <= 1000000) (hu : reB (ZaP s.rules []) s = true) :
  Zal Tryz.prog 105 [.pointer (some ⟨bD, 0, none⟩)] wr (drB bD Ar Az Al As cr cz cl cs s :: .fact S (drF wr Ar Az Al As cr cz cl cs s) :: R) (fun v O => v = .tuple #[] /\ DrAt wr bD (Zrs s) R O) := by
 unfold drB srcC
 refine Zbj Tryz.func105 rfl rfl rfl rfl ?_
 repeat (first | (refine js ?_; (first | (apply Zac (h := fun w' hw hO => ZjV Ar Az Al As cr cz cl cs s w' ((Za1 (hO.of (A := .fact S (drF wr Ar Az Al As cr cz cl cs s)) (by repeat' constructor)) : drF wr Ar Az Al As cr cz cl cs s w') hw) hn.r); rfl; rintro v O' ⟨A2, c2, rfl, rfl⟩) | (refine bx ?_; intro bk))) | refine walk ?_)
 unfold Zrs
 generalize hl0 : ZaP s.rules [] = L at *
 generalize hTT : Zes L s = T
 have hll : L.length <= 1000000 := by omega
 refine ZfC (fun g : DrG => [(11, .int .i64 g.k), (0, _), (9, _), (10, _)]) (fun g => .blk bD [.slice g.Ar g.s.rules.length g.cr, .slice g.Az g.s.zones.length g.cz, .slice g.Al g.s.links.length g.cl, .slice g.As g.s.shifts.length g.cs] 94 :: .fact g.S (drF wr g.Ar g.Az g.Al g.As g.cr g.cz g.cl g.cs g.s) :: .row (.slice A2 L.length c2) 9 1 L.length (L.flatMap ZaI) :: R)
  (fun g => g.k <= L.length /\ Fits g.s /\ g.s.shifts.length + (L.length - g.k) <= 1000000 /\ reB (L.drop g.k) g.s = true /\ Zes (L.drop g.k) g.s = T) (fun g => L.length - g.k) ⟨0, Ar, Az, Al, As, cr, cz, cl, cs, s, S⟩ SFA STA ⟨Nat.zero_le _, hn, by dsimp only; omega, hu, hTT⟩ ?_
 clear hu hTT hl0 hn hsh
 clear Ar Az Al As cr cz cl cs S s
 rintro ⟨k, Ar, Az, Al, As, cr, cz, cl, cs, s, S⟩ ⟨hk, hs, hsz, hu, hT⟩
 dsimp only at hk hs hu hT hsz ⊢
 repeat (first | (refine js ?_; (refine bx ?_; intro bk)) | refine walk ?_)
 refine Zah rfl (fun hc => ?_) (fun hc => ?_)
 ·have hkl : k < L.length := by
   have := of_decide_eq_true hc
   omega
  obtain ⟨x, hx⟩ : ∃ x, L[k]? = some x := ⟨_, List.getElem?_eq_getElem hkl⟩
  have hdr := getElem?_drop hx
  rw [hdr, reB] at hu
  rw [hdr, Zes] at hT
  have hget : (L.flatMap ZaI)[(k : Int).toNat * 1]? = some (.string x) := by
   have := ZaF ZaI.len L k x 0 _ hx rfl
   simpa using this
  by_cases hlt : Zai (ofB s.rules x) < 0
  ·rw [if_pos hlt] at hT
   rw [if_pos hlt, Bool.and_eq_true] at hu
   obtain ⟨hg, hu⟩ := hu
   have e1 : decide (Zai (ofB s.rules x) < 0) = true := decide_eq_true hlt
   have hng : -9223372036854775807 <= Zai (ofB s.rules x) /\ Zai (ofB s.rules x) <= 9223372036854775807 := by
    have h := hg
    unfold rngB at h
    rw [Bool.and_eq_true, Bool.and_eq_true, ZbL] at h
    omega
   have hby := fun R => Zuv bD Ar Az Al As cr cz cl cs S s x (-Zai (ofB s.rules x)) R wr hL hs hg
   have hst : (byS s x (-Zai (ofB s.rules x))).shifts = s.shifts := rfl
   have hft0 := hs.byS x (-Zai (ofB s.rules x))
   generalize byS s x (-Zai (ofB s.rules x)) = t at *
   have hbl : t.shifts.length = s.shifts.length := by rw [hst]
   have hbn : t.shifts.length <= 1000000 := by omega
   have hsl : (s.shifts ++ [x]).length = t.shifts.length + 1 := by rw [hbl]; simp
   have hft : Fits ({ t with shifts := s.shifts ++ [x] }) := by
    obtain ⟨h1, h2, h3, h4, h5⟩ := hft0
    exact ⟨h1, h2, h3, by dsimp only; rw [hsl]; omega, h5⟩
   repeat (first | (refine Zei [.fact S' (drF wr Ar' Az' Al' As' cr' cz' cl' cs' t), .row (.slice A7 (t.shifts.length + 1) c7) 9 1 (t.shifts.length + 1) (t.shifts.flatMap ZaI ++ [.string x])] (.blk bD [.slice Ar' t.rules.length cr', .slice Az' t.zones.length cz', .slice Al' t.links.length cl', .slice A7 (t.shifts.length + 1) c7] 94 :: .row (.slice A2 L.length c2) 9 1 L.length (L.flatMap ZaI) :: R) (drF wr Ar' Az' Al' A7 cr' cz' cl' c7 { t with shifts := s.shifts ++ [x] }) (.cons (.there (.there (.there .here))) (.cons (.there .here) (.cons (.there .here) (.cons (.there (.there .here)) (.drop (.drop (.refl _))))))) (fun w' hi hB => ZyN hst (Za1 (hi _ (.head _)) hB) (hi _ (.tail _ (.head _)))) ?_) | (apply RL_pu; rfl; (first | (apply Zav; rfl; rfl; omega; omega; (intro w' _ hO; exact Za6 (hO.of (A := .row (.slice A2 _ c2) _ _ _ _) (by repeat' constructor)) (by omega))) | (apply Zfo; rfl; (focus repeat' constructor); exact hget) | (apply Zbt; rfl; rfl; exact e1) | (apply Zgz; rfl; exact hng))) | (refine js ?_; (first | (apply Zac (h := fun w' hw hO => Zd2 Ar Az Al As cr cz cl cs s x w' ((Za1 (hO.of (A := .fact S (drF wr Ar Az Al As cr cz cl cs s)) (by repeat' constructor)) : drF wr Ar Az Al As cr cz cl cs s w') hw) hs.r); rfl; rintro v O' ⟨A3, c3, rfl, rfl⟩) | (refine ZaW (fun w' _ hO => Zcq A3 c3 (ofB s.rules x) w' (Za4 DRule.len (hO.of (A := .row (.slice A3 (ofB s.rules x).length c3) _ _ _ _) (by repeat' constructor)))) ?_) | (apply ZbE (h := hby _); rfl; exact .cons (by repeat' constructor) (.cons (by repeat' constructor) (.refl _)); rintro v O' ⟨rfl, Ar', Az', Al', As', cr', cz', cl', cs', S', rfl⟩) | (apply Zac (h := fun w' hw hO => Zcr As' cs' t.shifts w' (Zaj.s ((Za1 (hO.of (A := .fact S' (drF wr Ar' Az' Al' As' cr' cz' cl' cs' t)) (by repeat' constructor)) : drF wr Ar' Az' Al' As' cr' cz' cl' cs' t w') hw)) hbn); rfl; rintro v O' ⟨A4, c4, rfl, rfl⟩) | (apply ZaC; rfl; rfl; (intro A' c'; (focus repeat' constructor)); (intro w' _ hO; exact ZbD (hO.of (by repeat' constructor))); rfl; rfl; (simp only [maxLen]; omega); omega; intro A7 c7 hc1 hc2 hc3) | (refine bx ?_; intro bk))) | refine walk1 ?_)
   exact ⟨⟨k + 1, Ar', Az', Al', A7, cr', cz', cl', c7, { t with shifts := s.shifts ++ [x] }, _⟩, OA, ⟨hkl, hft, by dsimp only; rw [hsl]; omega, hu, hT⟩, SFA, by dsimp only; rw [hsl]; exact STA⟩
  ·rw [if_neg hlt] at hT hu
   have e1 : decide (Zai (ofB s.rules x) < 0) = false := decide_eq_false hlt
   repeat (first | (apply RL_pu; rfl; (first | (apply Zav; rfl; rfl; omega; omega; (intro w' _ hO; exact Za6 (hO.of (A := .row (.slice A2 _ c2) _ _ _ _) (by repeat' constructor)) (by omega))) | (apply Zfo; rfl; (focus repeat' constructor); exact hget) | (apply Zbt; rfl; rfl; exact e1))) | (refine js ?_; (first | (apply Zac (h := fun w' hw hO => Zd2 Ar Az Al As cr cz cl cs s x w' ((Za1 (hO.of (A := .fact S (drF wr Ar Az Al As cr cz cl cs s)) (by repeat' constructor)) : drF wr Ar Az Al As cr cz cl cs s w') hw) hs.r); rfl; rintro v O' ⟨A3, c3, rfl, rfl⟩) | (refine ZaW (fun w' _ hO => Zcq A3 c3 (ofB s.rules x) w' (Za4 DRule.len (hO.of (A := .row (.slice A3 (ofB s.rules x).length c3) _ _ _ _) (by repeat' constructor)))) ?_) | (refine bx ?_; intro bk))) | refine walk1 ?_)
   exact ⟨⟨k + 1, Ar, Az, Al, As, cr, cz, cl, cs, s, S⟩, OA, ⟨hkl, hs, by dsimp only; omega, hu, hT⟩, SFA, STA⟩
 ·obtain rfl : k = L.length := by
   have := of_decide_eq_false hc
   omega
  rw [List.drop_length, Zes] at hT
  subst hT
  repeat (first | (refine js ?_; (refine bx ?_; intro bk)) | refine walk ?_)
  exact Zmh _ STA ⟨rfl, Ar, Az, Al, As, cr, cz, cl, cs, S, rfl⟩
end Go.Proofs.YtbjomhdhkpgbaaaGreatDoor
namespace Go.Wk
open Go Go.RowKit
section
variable {P : Program} {n : Nat} {wr : World} {fr : Fr} {O : List It} {D : List Deferred}
theorem ZlO {f : FuncId} {fn : Func} {c : Code} {args : List Value} {w : World} {R : Ending -> World -> Prop} (hf : P.funcs[f]? = some fn) (hb : fn.body = some c) (hn : fn.ntmps = n) (ha : Nat.ble args.length n = true)
  (hB : Bel wr.heap.size wr w) (hH : Zat wr.heap.size O w) (h : Pre P n wr c (bodyPostD P fn R) (ZeZ 0 args) O) : Calls P f args.toArray w R := by
 refine calls_of_wp_defers hf hb (h _ _ ?_)
 have ha' : args.length <= n := Nat.le_of_ble_eq_true ha
 refine ⟨⟨rfl, by simp; omega, fun t v hv => ?_⟩, hB, hH⟩
 have := (Zde args 0 t v hv).2
 simp only [Nat.sub_zero] at this
 have hlt : t < args.length := (List.getElem?_eq_some_iff.1 this).1
 rw [Array.getElem?_append_left (by simpa using hlt)]
 simpa using this
theorem ZvV {QQ : Exit -> Act -> World -> Prop} {id d : Nat} {op1 : Op} {ty0 ty1 : TypeId} {p0 p1 : String} {f0 f1 : Array Edge} {gx : Operand} {ts : Array TypeId} {cs : List Value} {f : FuncId} {y : Code} (hd : Nat.ble (d + 1) n = true) (h1 : Pu P n wr fr O op1 ty0 (.func (.func f) #[] cs.toArray)) (hg : ev ((d, .func (.func f) #[] cs.toArray) :: fr) gx = some (.func (.func f) #[] cs.toArray))
  (k : ∀ a w, St n wr ((d, .func (.func f) #[] cs.toArray) :: fr) O a w -> y.wp P QQ (actD [{ target := .fn (.func f) cs.toArray, args := #[] }] a) w) :
  Pre P n wr (.seq (.region id [⟨some d, op1, ty0, p0, f0, none⟩, ⟨none, .defer ⟨.value gx, #[], ts⟩, ty1, p1, f1, none⟩].toArray false) y) QQ fr O := by
 intro a w hs
 refine wp_seq (wp_region_lit ?_)
 have e1 := h1 a w hs (some d) p0 f0 none
 have hs2 : St n wr ((d, .func (.func f) #[] cs.toArray) :: fr) O (a.put (some d) (.func (.func f) #[] cs.toArray)) w := ⟨hs.sim.put hd _, hs.old, hs.own⟩
 have hk := k _ _ hs2
 obtain ⟨a2, ha2⟩ : ∃ a2, a.put (some d) (.func (.func f) #[] cs.toArray) = a2 := ⟨_, rfl⟩
 rw [ha2] at hs2 hk
 unfold wpList
 rw [if_pos (by rfl)]
 left
 unfold Oper.wp
 rw [e1, Oper.upon_value]
 show wpList P _ _ [_] (a.put (some d) (.func (.func f) #[] cs.toArray)) w
 rw [ha2]
 unfold wpList
 rw [if_pos (by rfl)]
 left
 have e2 : (execOp a2.eval ⟨none, .defer ⟨.value gx, #[], ts⟩, ty1, p1, f1, none⟩).run P w = .ok (.defer { target := .fn (.func f) cs.toArray, args := #[] }) w := by
  simp [execOp, resolve, hs2.sim.ev hg, Deferred.ofValue]
 unfold Oper.wp
 rw [e2, Oper.upon_defer]
 unfold wpList
 show y.wp P QQ _ w
 have e3 : ({ a2 with defers := { target := .fn (.func f) cs.toArray, args := #[] } :: a2.defers } : Act).put none undef = actD [{ target := .fn (.func f) cs.toArray, args := #[] }] a2 := by
  rw [hs2.sim.defers]
  rfl
 rw [e3]
 exact hk
theorem ZzD {c : Code} {Q : Exit -> Fr -> List It -> Prop} {G : Type} (FR : G -> Fr) (OO : G -> List It) (Inv : G -> Prop) (μ : G -> Nat) (g₀ : G) (hf : Sub (FR g₀) fr) (hO : SubO (OO g₀) O) (h₀ : Inv g₀)
  (round : ∀ g, Inv g -> WI Fence.wide D P n wr c (Zap (fun fr' O' => ∃ g', μ g' < μ g /\ Inv g' /\ Sub (FR g') fr' /\ SubO (OO g') O') Q) (FR g) (OO g)) : WI Fence.wide D P n wr (.loop c) Q fr O := by
 intro a w hs
 refine (wpIn_wide (n := 0)).2 (wp_loop_ghost (fun m a w => ∃ g, μ g = m /\ Inv g /\ a.defers = D /\ St n wr (FR g) (OO g) (actD [] a) w) (μ g₀) ⟨g₀, rfl, h₀, rfl, ?_⟩ ?_)
 ·rw [Zeh hs]
  exact hs.sub hf hO
 rintro m a w ⟨g, rfl, hg, hd, hst⟩
 have h := round g hg _ _ hst
 rw [Ze1 hd] at h
 refine wp_mono ((wpIn_wide (n := 0)).1 h) ?_
 rintro e a' w' ⟨hd', fr', O', hs', hq⟩
 cases e with
 | normal =>
  obtain ⟨g', hlt, hg', hf', hO'⟩ := hq
  exact ⟨μ g', hlt, g', rfl, hg', hd', hs'.sub hf' hO'⟩
 | _ => exact ⟨hd', fr', O', hs', hq⟩
theorem Zrf {ops : Array Oper} {Q : Exit -> Act -> List Frame -> World -> Prop} {a : Act} {cs : List Frame} {w : World} (h : Q .normal a cs w) : wpOpsS P ops Q [] a cs w := h
theorem Zre {ops : Array Oper} {Q : Exit -> Act -> List Frame -> World -> Prop} {i : Nat} {rest : List Nat} {a : Act} {cs : List Frame} {w : World} {d : Nat} {ty : TypeId} {pos : String} {af : Array Edge} (ho : ops[i]? = some ⟨some d, .call ⟨.builtin .recover, #[], #[]⟩, ty, pos, af, none⟩) (hr : recoverD cs = none) (h : wpOpsS P ops Q rest (a.put (some d) .nilIface) cs w) : wpOpsS P ops Q (i :: rest) a cs w := by
 unfold wpOpsS
 rw [ho]
 dsimp only
 rw [if_pos (by rfl)]
 have e : (execOp a.eval ⟨some d, .call ⟨.builtin .recover, #[], #[]⟩, ty, pos, af, none⟩).run P w = .ok .recover w := by simp [execOp, resolve, invoke, builtin]
 rw [e]
 dsimp only
 rw [hr]
 exact h
theorem Zrd {ops : Array Oper} {Q : Exit -> Act -> List Frame -> World -> Prop} {i : Nat} {rest : List Nat} {a : Act} {cs : List Frame} {w : World} {d : Nat} {op : Op} {ty : TypeId} {pos : String} {af : Array Edge} {v : Value} (ho : ops[i]? = some ⟨some d, op, ty, pos, af, none⟩) (hs : St n wr fr O a w) (hp : Pu P n wr fr O op ty v) (h : wpOpsS P ops Q rest (a.put (some d) v) cs w) : wpOpsS P ops Q (i :: rest) a cs w := by
 unfold wpOpsS
 rw [ho]
 dsimp only
 rw [if_pos (by rfl), hp a w hs]
 exact h
theorem W_at {c : Code} {Q : Exit -> Fr -> List It -> Prop} {a : Act} {w : World} (h : W P n wr c Q fr O) (hs : St n wr fr O a w) : c.wp P (lift n wr Q) a w := h a w hs
theorem ZkP {c₀ : Frame} {cs : List Frame} (hu : c₀.mode = .returning) : recoverD (c₀ :: cs) = none := by
 simp only [recoverD, hu]
end
end Go.Wk
