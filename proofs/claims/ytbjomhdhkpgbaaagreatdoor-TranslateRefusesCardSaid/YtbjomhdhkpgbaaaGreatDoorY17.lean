/- Parts of the proof. -/
import Derived.Test.YtbjomhdhkpgbaaaGreatDoorY14
import Derived.Test.YtbjomhdhkpgbaaaGreatDoorY13
import Derived.Shelf.SlSortCmp.NoneTotal
import Derived.Shelf.Lay
import Derived.Test.YtbjomhdhkpgbaaaGreatDoorY05
import Derived.Sort.Grow
import Derived.Deep.Draws
import Derived.Deep.RegionHeld3
import Derived.Test.YtbjomhdhkpgbaaaGreatDoorY11
import Derived.Test.YtbjomhdhkpgbaaaGreatDoorY16
import Derived.Test.YtbjomhdhkpgbaaaGreatDoorY09
set_option maxHeartbeats 4000000
set_option linter.unusedVariables false
set_option linter.unusedSimpArgs false
set_option maxHeartbeats 2000000
namespace Go.Wk
open Go Go.RowKit
structure Zg8 (s : Zab) : Prop where
 nr : s.rules.length <= 1000000
 nz : s.zones.length <= 1000000
 nl : s.links.length <= 1000000
 ns : s.shifts.length <= 1000000
 rs : ∀ r ∈ s.rules, r.name.size <= 1000000000 /\ r.letter.size <= 1000000000
 zs : ∀ z ∈ s.zones, z.name.size <= 1000000000 /\ z.eras.length <= 1000000 /\ ∀ e ∈ z.eras, e.set.size <= 1000000000 /\ e.format.size <= 1000000000
 ls : ∀ l ∈ s.links, l.target.size <= 1000000000 /\ l.name.size <= 1000000000
def plV (p : Zao) : Value := .agg (Zao.enc p).toArray
def ptV : Option (Zao × Int) -> Value
 | none => .tuple #[plV ⟨0, 0, 0⟩, .int .i64 0]
 | some (p, e) => .tuple #[plV p, .int .i64 e]
end Go.Wk
namespace Go.Proofs.YtbjomhdhkpgbaaaGreatDoor
open Go Go.RowKit Go.Wk
attribute [local irreducible] W RL Does Zap Zak retQ Calls Pu Stp RD Qy Ay Zal
theorem ZrA (Ar Az Al As : Option Addr) (cr cz cl cs : Nat) (a : Zab) (b1 : Nat) (mk : List (ByteArray × Value)) (w : World) (hA : Zaj w Ar Az Al As cr cz cl cs a) (hS : Zg8 a) (h1 : MpAt w b1 mk) (hk : IxM mk fun x => ZbM x a.zones 0) :
  Does Tryz.prog 128 [srcV Ar Az Al As cr cz cl cs a, .map (some b1)] w (fun v O => v = ptV (Za9 a a.zones 0) /\ O = []) := by
 have hn := hS.nz
 obtain ⟨res, hres⟩ : ∃ res, Za9 a a.zones 0 = res := ⟨_, rfl⟩
 rw [hres]
 refine Zaa Tryz.func128 rfl rfl rfl rfl ?_
 repeat (first | (refine js ?_; (refine bx ?_; intro bk)) | refine walk ?_)
 refine Zaq [(1, .map (some b1)), (4, .pointer (some ⟨bk, 0, none⟩)), (10, .slice Az a.zones.length cz), (11, .int .i64 a.zones.length)] [.blk bk [.int .i64 0, .int .i64 0, .int .i64 0] 36] (fun k : Nat => [(12, .int .i64 k)]) (fun _ => []) (fun k => k <= a.zones.length /\ Za9 a (a.zones.drop k) k = res) (fun k => a.zones.length - k) 0 SFA SOA ⟨Nat.zero_le _, hres⟩ ?_
 rintro k ⟨hkl, hi⟩
 obtain ⟨b4, hb4⟩ : ∃ b4, bk = b4 := ⟨_, rfl⟩
 rw [hb4] at *
 clear hb4 bk
 repeat (first | (refine js ?_; (refine bx ?_; intro bk)) | refine walk ?_)
 refine Zah rfl (fun hc => ?_) (fun hc => ?_)
 ·simp only [decide_eq_true_eq, Int.ofNat_lt] at hc
  obtain ⟨hna, cs1, ⟨Ae, ce, _, rfl⟩, hca⟩ := hA.z k _ (List.getElem?_eq_getElem hc)
  have hmem := List.getElem_mem hc
  rw [Zan hc, Za9] at hi
  generalize a.zones[k] = z at *
  have hsz := (hS.zs z hmem).1
  obtain ⟨j, hj⟩ := Zj9 0 hmem
  obtain ⟨hv0, _⟩ := hk.some hj
  have hzn := fun w' => ZlQ z.name (by omega) w'
  rw [hj] at hi
  generalize Zhz z.name = zb at *
  cases zb with
  | false =>
   rw [if_pos rfl] at hi
   subst hi
   repeat (first | (apply RL_pu; rfl; exact PuI) | (refine js ?_; (first | (refine Zad (fun w' hw => hzn w') ?_) | (refine bx ?_; intro bk))) | refine walk1 ?_)
   exact rtC
  | true =>
   rw [if_neg (by decide)] at hi
   repeat (first | (apply RL_pu; rfl; (first | exact PuI | (apply Zns; rfl; rfl; exact h1; exact hv0))) | (refine js ?_; (first | (refine Zad (fun w' hw => hzn w') ?_) | (refine bx ?_; intro bk))) | refine walk1 ?_)
   refine Zah rfl (fun h2 => ?_) (fun h2 => ?_)
   ·simp only [Bool.not_eq_true', decide_eq_false_iff_not] at h2
    rw [if_pos (fun e => h2 (by simp only [Option.some.injEq] at e; omega))] at hi
    subst hi
    repeat (first | (refine js ?_; (refine bx ?_; intro bk)) | refine walk ?_)
    exact rtC
   ·simp only [Bool.not_eq_false', decide_eq_true_eq] at h2
    rw [if_neg (fun e => e (by congr 1; omega))] at hi
    repeat (first | (refine js ?_; (refine bx ?_; intro bk)) | refine walk ?_)
    exact ⟨k + 1, OA, ⟨OA, hi⟩, SFA, SOA⟩
 ·simp only [decide_eq_false_iff_not, Int.ofNat_lt] at hc
  rw [List.drop_eq_nil_of_le (by omega), Za9] at hi
  subst hi
  repeat (first | (refine js ?_; (refine bx ?_; intro bk)) | refine walk ?_)
  exact rtC
theorem IxM.any {m : List (ByteArray × Value)} {f : ByteArray -> Option Nat} (h : IxM m f) (x : ByteArray) : ∃ n : Int, (mget m x).getD (.int .i64 0) = .int .i64 n /\ (mget m x).isSome = (f x).isSome := by
 rw [h x]
 cases f x with
 | none => exact ⟨0, rfl, rfl⟩
 | some i => exact ⟨i, rfl, rfl⟩
theorem Zey (s : Zab) : ∀ (l : List ZaX) (i : Nat) (p : Zao) (e : Int), Za9 s l i = some (p, e) -> e ≠ 0
 | [], _, _, _, h => by cases h
 | z :: l, i, p, e, h => by
  simp only [Za9] at h
  split at h
  ·simp only [Option.some.injEq, Prod.mk.injEq] at h; omega
  ·split at h
   ·simp only [Option.some.injEq, Prod.mk.injEq] at h; omega
   ·exact Zey s l _ p e h
theorem ZdD {G G' : Prop} (k : G') (h : Hold G' -> G := by intro k9; (first | refine walk ?_ | (refine jn ?_; (try intro F); (first | (refine stA ?_) | (apply Zag; exact PuA)); refine fin ?_)); exact k9.out) : G := h ⟨k⟩
theorem Zvx {G : Prop} (h : G := by (apply ZaG; rfl; rfl; exact hne')) : G := h
theorem Zvw {G : Prop} (h : G := by (first | exact PuI | (apply ZcL; rfl; rfl; (focus repeat' constructor); exact hv1; exact hc1) | (apply ZcL; rfl; rfl; (focus repeat' constructor); exact hv2; exact hc2) | (apply ZcL; rfl; rfl; (focus repeat' constructor); exact hv3; exact hc3) | (apply Zha; rfl; rfl; (focus repeat' constructor); exact hv4))) : G := h
theorem ZnI {G G' : Prop} (k : G') (h : Hold G' -> G := by intro k9; (first | (apply RL_pu; rfl; exact Zvw) | (apply RD_Q; rfl; rfl; decide +kernel; rfl; rfl; exact QyLnkB2) | refine walk1 ?_ | (refine jg ?_; (try intro F); (first | (refine Zad (fun w' hw => hzn w') ?_) | (refine stA ?_)); first | refine ⟨_, EndsA, QFLnkB2, ?_⟩ | refine fin ?_) | (refine jn ?_; (try intro F); (first | (refine stA ?_) | (apply Zag; first | exact Zvw | exact PuA)); first | refine ⟨_, EndsA, QFLnkB2, ?_⟩ | refine fin ?_)); exact k9.out) : G := h ⟨k⟩
theorem ZrH (Ar Az Al As : Option Addr) (cr cz cl cs : Nat) (a : Zab) (w : World) (hA : Zaj w Ar Az Al As cr cz cl cs a) (hS : Zg8 a) :
  Does Tryz.prog 94 [srcV Ar Az Al As cr cz cl cs a] w (fun v O => v = ptV (ZcI a) /\ O = []) := by
 have hnz := hS.nz
 have hnl := hS.nl
 have hnm := fun bm mk w' (h0 : Zaj w' Ar Az Al As cr cz cl cs a) => ZrA Ar Az Al As cr cz cl cs a bm mk w' h0 hS
 refine Zaa Tryz.func94 rfl rfl rfl rfl ?_
 repeat (first | refine ZyD ?_ | (refine jn ?_; (try intro F); (first | (refine bx ?_; intro bk) | (refine stA ?_) | (apply Zag; exact PuA)); refine fin ?_) | (apply RD_W; rfl; intro bk))
 rename_i b1
 obtain ⟨b2, hb2⟩ : ∃ b2, bk = b2 := ⟨_, rfl⟩
 rw [hb2]
 clear hb2 bk
 repeat (first | refine walk ?_ | (refine jg ?_; (try intro F); (first | (apply Zac (h := fun w' hw _ => Zoo Ar Az Al As cr cz cl cs a w' (hA.up hw) hnz); rfl; rintro v O' ⟨bm, mk, rfl, rfl, hk, hkd, hkl⟩) | (apply Zac (h := fun w' hw _ => ZkZ Ar Az Al As cr cz cl cs a w' (hA.up hw) hnl); rfl; rintro v O' ⟨bl, ml, rfl, rfl, hl, hld, hll⟩) | (refine bx ?_; intro bk) | (refine stA ?_)); refine fin ?_) | (refine jn ?_; (try intro F); (first | (refine bx ?_; intro bk) | (refine stA ?_) | (apply Zag; exact PuA)); refine fin ?_) | (apply RD_W; rfl; intro bk))
 have hnm2 := fun w' hw hO => hnm bm mk w' (Zaj.up hA hw) hO hk
 unfold ZcI
 cases hzf : Za9 a a.zones 0 with
 | some pe =>
  obtain ⟨pl, e⟩ := pe
  rw [hzf] at hnm2
  have hne := Zey a a.zones 0 pl e hzf
  have hne' : (!decide (e = 0)) = true := by rw [decide_eq_false hne]; rfl
  repeat (first | (apply RL_pu; rfl; exact Zvx) | (apply RD_Q; rfl; rfl; decide +kernel; rfl; rfl; exact QyLnkB1) | refine walk1 ?_ | (refine jg ?_; (try intro F); (first | (refine ZaW (fun w' hw hO => hnm2 w' hw (hO.of (A := .mp bm mk) (by repeat' constructor))) ?_) | (refine bx ?_; intro bk) | (refine stA ?_)); first | refine ⟨_, EndsA, QFLnkB1, ?_⟩ | refine fin ?_) | (refine jn ?_; (try intro F); (first | (refine bx ?_; intro bk) | (refine stA ?_) | (apply Zag; first | exact Zvx | exact PuA)); first | refine ⟨_, EndsA, QFLnkB1, ?_⟩ | refine fin ?_) | (apply RD_W; rfl; intro bk))
  exact rtC
 | none =>
 rw [hzf] at hnm2
 rw [Option.none_or]
 obtain ⟨res, hres⟩ : ∃ res, (Zbr a a.links 0).or (Zbq a a.links 0) = res := ⟨_, rfl⟩
 rw [hres]
 repeat (first | refine walk ?_ | (refine jg ?_; (try intro F); (first | (refine ZaW (fun w' hw hO => hnm2 w' hw (hO.of (A := .mp bm mk) (by repeat' constructor))) ?_) | (refine bx ?_; intro bk) | (refine stA ?_)); refine fin ?_) | (refine jn ?_; (try intro F); (first | (refine bx ?_; intro bk) | (refine stA ?_) | (apply Zag; exact PuA)); refine fin ?_) | (apply RD_W; rfl; intro bk))
 refine Zaq [(1, .pointer (some ⟨b1, 0, none⟩)), (2, .pointer (some ⟨b2, 0, none⟩)), (4, .map (some bm)), (5, .map (some bl)), (36, .slice Al a.links.length cl), (37, .int .i64 a.links.length)] [.mp bl ml, .mp bm mk, .blk b2 [.int .i64 0, .int .i64 0, .int .i64 0] 36, .blk b1 [.slice Ar a.rules.length cr, .slice Az a.zones.length cz, .slice Al a.links.length cl, .slice As a.shifts.length cs] 32]
  (fun k : Nat => [(38, .int .i64 k)]) (fun _ => []) (fun k => k <= a.links.length /\ (Zbr a (a.links.drop k) k).or (Zbq a a.links 0) = res) (fun k => a.links.length - k) 0 SFA SOA ⟨Nat.zero_le _, hres⟩ ?_
 rintro k ⟨hkl', hi⟩
 repeat (first | refine ZdD ?_ | (refine jn ?_; (try intro F); (refine bx ?_; intro bk); refine fin ?_) | (apply RD_W; rfl; intro bk))
 refine Zah rfl (fun hc => ?_) (fun hc => ?_)
 ·simp only [decide_eq_true_eq, Int.ofNat_lt] at hc
  obtain ⟨hna, hca⟩ := hA.l.rd k _ (List.getElem?_eq_getElem hc)
  have hmem := List.getElem_mem hc
  rw [Zan hc, Zbr] at hi
  generalize a.links[k] = lk at *
  have hsz := (hS.ls lk hmem).2
  obtain ⟨n1, hv1, hc1⟩ := hk.any lk.name
  obtain ⟨n2, hv2, hc2⟩ := hk.any lk.target
  obtain ⟨n3, hv3, hc3⟩ := hl.any lk.target
  obtain ⟨j, hj⟩ := Zka 0 hmem
  have hv4 := (hl.some hj).1
  rw [hj] at hi
  generalize (ZbM lk.name a.zones 0).isSome = c1 at *
  rw [<- Option.not_isSome, <- Option.not_isSome] at hi
  generalize (ZbM lk.target a.zones 0).isSome = c2 at *
  generalize (Zcl lk.target a.links 0).isSome = c3 at *
  have hzn := fun w' => ZlQ lk.name (by omega) w'
  generalize Zhz lk.name = zb at *
  cases zb with
  | false =>
   rw [if_pos rfl] at hi
   subst hi
   repeat (first | refine ZnI ?_ | (refine jg ?_; (try intro F); (refine bx ?_; intro bk); first | refine ⟨_, EndsA, QFLnkB2, ?_⟩ | refine fin ?_) | (refine jn ?_; (try intro F); (refine bx ?_; intro bk); first | refine ⟨_, EndsA, QFLnkB2, ?_⟩ | refine fin ?_) | (apply RD_W; rfl; intro bk))
   exact rtC
  | true =>
   rw [if_neg (by decide)] at hi
   cases c1 with
   | true =>
    rw [if_pos (.inl rfl)] at hi
    subst hi
    repeat (first | refine ZnI ?_ | (refine jg ?_; (try intro F); (refine bx ?_; intro bk); first | refine ⟨_, EndsA, QFLnkB2, ?_⟩ | refine fin ?_) | (refine jn ?_; (try intro F); (refine bx ?_; intro bk); first | refine ⟨_, EndsA, QFLnkB2, ?_⟩ | refine fin ?_) | (apply RD_W; rfl; intro bk))
    exact rtC
   | false =>
    repeat (first | refine ZnI ?_ | (refine jg ?_; (try intro F); (refine bx ?_; intro bk); first | refine ⟨_, EndsA, QFLnkB2, ?_⟩ | refine fin ?_) | (refine jn ?_; (try intro F); (refine bx ?_; intro bk); first | refine ⟨_, EndsA, QFLnkB2, ?_⟩ | refine fin ?_) | (apply RD_W; rfl; intro bk))
    refine Zah rfl (fun h2 => ?_) (fun h2 => ?_)
    ·simp only [Bool.not_eq_true', decide_eq_false_iff_not] at h2
     rw [if_pos (.inr fun e => h2 (by simp only [Option.some.injEq] at e; omega))] at hi
     subst hi
     repeat (first | refine ZdD ?_ | (refine jn ?_; (try intro F); (refine bx ?_; intro bk); refine fin ?_) | (apply RD_W; rfl; intro bk))
     exact rtC
    ·simp only [Bool.not_eq_false', decide_eq_true_eq] at h2
     rw [if_neg (by rintro (e | e); cases e; exact e (by congr 1; omega))] at hi
     by_cases hcc : c2 = false /\ c3 = false
     ·obtain ⟨rfl, rfl⟩ := hcc
      rw [if_pos ⟨rfl, rfl⟩] at hi
      subst hi
      repeat (first | refine ZdD ?_ | (refine jn ?_; (try intro F); (refine bx ?_; intro bk); refine fin ?_) | (apply RD_W; rfl; intro bk))
      exact rtC
     ·rw [if_neg (by simpa using hcc)] at hi
      cases c2 with
      | true =>
       repeat (first | refine ZdD ?_ | (refine jn ?_; (try intro F); (refine bx ?_; intro bk); refine fin ?_) | (apply RD_W; rfl; intro bk))
       exact ⟨k + 1, OA, ⟨OA, hi⟩, SFA, SOA⟩
      | false =>
       cases c3 with
       | false => exact absurd ⟨rfl, rfl⟩ hcc
       | true =>
        repeat (first | refine ZdD ?_ | (refine jn ?_; (try intro F); (refine bx ?_; intro bk); refine fin ?_) | (apply RD_W; rfl; intro bk))
        exact ⟨k + 1, OA, ⟨OA, hi⟩, SFA, SOA⟩
 ·simp only [decide_eq_false_iff_not, Int.ofNat_lt] at hc
  rw [List.drop_eq_nil_of_le (by omega), Zbr, Option.none_or] at hi
  repeat (first | refine ZdD ?_ | (refine jn ?_; (try intro F); (refine bx ?_; intro bk); refine fin ?_) | (apply RD_W; rfl; intro bk))
  clear hc hkl' hres
  refine Zaq [(1, .pointer (some ⟨b1, 0, none⟩)), (2, .pointer (some ⟨b2, 0, none⟩)), (4, .map (some bm)), (5, .map (some bl)), (93, .slice Al a.links.length cl), (94, .int .i64 a.links.length)] [.mp bl ml, .mp bm mk, .blk b2 [.int .i64 0, .int .i64 0, .int .i64 0] 36, .blk b1 [.slice Ar a.rules.length cr, .slice Az a.zones.length cz, .slice Al a.links.length cl, .slice As a.shifts.length cs] 32]
   (fun k : Nat => [(95, .int .i64 k)]) (fun _ => []) (fun k => k <= a.links.length /\ Zbq a (a.links.drop k) k = res) (fun k => a.links.length - k) 0 SFA SOA ⟨Nat.zero_le _, hi⟩ ?_
  clear hi
  rintro k ⟨hkl', hi⟩
  repeat (first | refine ZdD ?_ | (refine jn ?_; (try intro F); (refine bx ?_; intro bk); refine fin ?_) | (apply RD_W; rfl; intro bk))
  refine Zah rfl (fun hc => ?_) (fun hc => ?_)
  ·simp only [decide_eq_true_eq, Int.ofNat_lt] at hc
   obtain ⟨hna, hca⟩ := hA.l.rd k _ (List.getElem?_eq_getElem hc)
   rw [Zan hc, Zbq] at hi
   generalize a.links[k] = lk at *
   have hfo := fun w' h0 h1 h2 => Zoz Ar Az Al As cr cz cl cs a bm bl mk ml lk.name w' h0 h1 h2 hk hl hld hll
   generalize ZcS a (a.links.length + 1) [] lk.name = fo at *
   obtain ⟨fi, fe⟩ := fo
   dsimp only at hfo hi
   repeat (first | (apply RL_pu; rfl; exact PuI) | (apply RD_Q; rfl; rfl; decide +kernel; rfl; rfl; exact QyI) | refine walk1 ?_ | (refine jg ?_; (try intro F); (first | (refine ZaW (fun w' hw hO => hfo w' (hA.up hw) (hO.of (A := .mp bm mk) (by repeat' constructor)) (hO.of (A := .mp bl ml) (by repeat' constructor))) ?_) | (refine bx ?_; intro bk) | (refine stA ?_)); first | refine ⟨_, EndsA, QFI, ?_⟩ | refine fin ?_) | (refine jn ?_; (try intro F); (first | (refine bx ?_; intro bk) | (refine stA ?_) | (apply Zag; first | exact PuI | exact PuA)); first | refine ⟨_, EndsA, QFI, ?_⟩ | refine fin ?_) | (apply RD_W; rfl; intro bk))
   refine Zah rfl (fun h2 => ?_) (fun h2 => ?_)
   ·simp only [decide_eq_true_eq] at h2
    subst h2
    rw [if_pos rfl] at hi
    subst hi
    repeat (first | refine ZdD ?_ | (refine jn ?_; (try intro F); (refine bx ?_; intro bk); refine fin ?_) | (apply RD_W; rfl; intro bk))
    exact rtC
   ·simp only [decide_eq_false_iff_not] at h2
    rw [if_neg h2] at hi
    repeat (first | refine ZdD ?_ | (refine jn ?_; (try intro F); (refine bx ?_; intro bk); refine fin ?_) | (apply RD_W; rfl; intro bk))
    exact ⟨k + 1, OA, ⟨OA, hi⟩, SFA, SOA⟩
  ·simp only [decide_eq_false_iff_not, Int.ofNat_lt] at hc
   rw [List.drop_eq_nil_of_le (by omega), Zbq] at hi
   subst hi
   repeat (first | refine ZdD ?_ | (refine jn ?_; (try intro F); (refine bx ?_; intro bk); refine fin ?_) | (apply RD_W; rfl; intro bk))
   exact rtC
open Go Go.RowKit Go.Wk Go.Lib
attribute [local irreducible] RW
structure LtG where
 k : Nat
 A : Option Addr
 c : Nat
 m : Nat
 ys : List Value
theorem ZvD {G : Prop} (h : G := by (first | (apply Zav; rfl; rfl; omega; omega; (intro w' _ hO; exact (ZbP (hO.of (A := .row (.slice A1 L.length c1) 9 1 L.length (L.flatMap ZaI)) (by repeat' constructor)) hg1).1)) | (apply Zfo; rfl; (focus repeat' constructor); exact hg1))) : G := h
theorem ZvC {G : Prop} (h : G := by (apply Zgy; rfl; rfl; exact hb)) : G := h
theorem ZvB {G : Prop} (h : G := by (apply ZaG; rfl; rfl; exact hb)) : G := h
theorem ZoC (e : DEra) (A : Option Addr) (c : Nat) (l : List DRule) (w : World) (hL : LibW w) (hA : RdSl w A c DRule.enc 11 l) (ho : I64 e.off) (hs : I64 e.save) (hr : ∀ r ∈ l, I64 r.save) (hn : l.length <= 1000000) (hfs : e.format.size <= 1000000000) (hlt : ∀ r ∈ l, r.letter.size <= 1000000000) :
  Does Tryz.prog 136 [.agg e.enc.toArray, .slice A l.length c] w (fun v O => v = .int .i64 (Zdj e l) /\ O = []) := by
 have hk := fun w' (hw : Bel w.heap.size w w') => ZeS e.format w' (hL.up hw) hfs
 have hx := fun w' (hw : Bel w.heap.size w w') => ZfR e A c l w' (hA.up hw) ho hs hr hn
 have hab := fun (x : ByteArray) (hx : x.size <= 1000000000) w' (hw : Bel w.heap.size w w') => Zkb e.format x 0 0 w' (hL.up hw) hfs hx ⟨by decide, by decide⟩ ⟨by decide, by decide⟩
 unfold Zdj
 dsimp only
 obtain ⟨L, hLt⟩ : ∃ L : List ByteArray, (if e.kind = 2 then l.map (·.letter) else [ByteArray.empty]) = L := ⟨_, rfl⟩
 have hLe : (if e.kind = 2 then l.map (fun r => r.letter.data.toList) else [[]]) = L.map (·.data.toList) := by
  rw [<- hLt]
  split
  ·rw [List.map_map]; rfl
  ·rfl
 have hLs : ∀ x ∈ L, x.size <= 1000000000 := by
  rw [<- hLt]
  intro x hx
  split at hx
  ·obtain ⟨r, hr, rfl⟩ := List.mem_map.1 hx; exact hlt r hr
  ·simp only [List.mem_singleton] at hx; subst hx; decide
 have hLn : L.length <= 1000001 := by
  rw [<- hLt]
  split
  ·rw [List.length_map]; omega
  ·decide
 rw [hLe]
 obtain ⟨off, kind, save, set, format, til⟩ := e
 dsimp only at ho hs hk hx hab hfs hLt ⊢
 generalize ZaK format.data.toList = K at *
 obtain ⟨xv, hxv⟩ : ∃ xv, Zba ⟨off, kind, save, set, format, til⟩ l = xv := ⟨_, rfl⟩
 rw [hxv] at hx ⊢
 obtain ⟨xt, xe⟩ := xv
 simp only [xpV, DEra.enc] at hx hab ⊢
 refine Zaa Tryz.func136 rfl rfl rfl rfl ?_
 repeat (first | (refine js ?_; (refine bx ?_; intro bk)) | refine ZlS ?_)
 rename_i b2
 obtain ⟨b1, hb1⟩ : ∃ b1, bk = b1 := ⟨_, rfl⟩
 rw [hb1]
 clear hb1 bk
 refine ZzB (fun fr' O' => ∃ A1 c1, Sub [(2, .pointer (some ⟨b2, 0, none⟩)), (1, .slice A l.length c), (5, .slice A1 L.length c1)] fr' /\ SubO [.row (.slice A1 L.length c1) 9 1 L.length (L.flatMap ZaI), .blk b2 [.int .i64 off, .int .i64 kind, .int .i64 save, .string set, .string format, .bool til.is, .int .i64 til.year, .int .i64 til.month, .int .i64 til.day.kind, .int .i64 til.day.week, .int .i64 til.day.day, .int .i64 til.at_.sec, .int .i64 til.at_.base] 54] O') ?_ ?_
 ·refine Zah rfl (fun h => ?_) (fun h => ?_)
  ·rw [if_pos (of_decide_eq_true h)] at hLt
   subst hLt
   repeat (first | (refine js ?_; (refine bx ?_; intro bk)) | refine walk ?_)
   refine Zdu 9 1 ?_
   refine Zaq [(2, .pointer (some ⟨b2, 0, none⟩)), (1, .slice A l.length c), (19, .slice A l.length c), (20, .int .i64 l.length)] [.blk b2 [.int .i64 off, .int .i64 kind, .int .i64 save, .string set, .string format, .bool til.is, .int .i64 til.year, .int .i64 til.month, .int .i64 til.day.kind, .int .i64 til.day.week, .int .i64 til.day.day, .int .i64 til.at_.sec, .int .i64 til.at_.base] 54] (fun g : LtG => [(5, .slice g.A g.m g.c), (21, .int .i64 g.k)]) (fun g => [.row (.slice g.A g.m g.c) 9 1 g.m g.ys])
    (fun g => g.k <= l.length /\ g.m = g.k /\ g.ys = ((l.take g.k).map (·.letter)).flatMap ZaI) (fun g => l.length - g.k) ⟨0, none, 0, 0, []⟩ SFA SOA ⟨Nat.zero_le _, rfl, rfl⟩ ?_
   rintro ⟨k, A1, c1, m, ys⟩ ⟨hkl, hm, hy⟩
   dsimp only at hkl hm hy ⊢
   repeat (first | (refine js ?_; (refine bx ?_; intro bk)) | refine walk ?_)
   refine Zah rfl (fun hc => ?_) (fun hc => ?_)
   ·simp only [decide_eq_true_eq, Int.ofNat_lt] at hc
    obtain ⟨hna, hca⟩ := hA.rd k _ (List.getElem?_eq_getElem hc)
    have htk := List.take_append_getElem hc
    generalize l[k] = r at *
    repeat (first | (apply RL_pu; rfl; exact PuI) | (refine js ?_; (first | (apply ZaC; rfl; rfl; (intro A' c'; (focus repeat' constructor)); (intro w' _ hO; exact ZbD (hO.of (by repeat' constructor))); rfl; rfl; (simp only [maxLen]; omega); omega; intro A' c' hc1 hc2 hc3) | (refine bx ?_; intro bk))) | refine walk1 ?_)
    exact ⟨⟨k + 1, A', c', m + 1, ys ++ [.string r.letter]⟩, OA, ⟨OA, OA, by dsimp only; rw [hy, <- htk]; simp [ZaI]⟩, SFA, SOA⟩
   ·obtain rfl : k = l.length := by simp only [decide_eq_false_iff_not, Int.ofNat_lt] at hc; omega
    rw [List.take_length] at hy
    subst hm hy
    repeat (first | (refine js ?_; (refine bx ?_; intro bk)) | refine walk ?_)
    rw [List.length_map]
    exact ⟨A1, c1, SFA, SOA⟩
  ·rw [if_neg (of_decide_eq_false h)] at hLt
   subst hLt
   refine ZuP (b := b1) (m := 1) 1 (by repeat' constructor) rfl (by decide) ?_
   repeat (first | (refine js ?_; (refine bx ?_; intro bk)) | refine walk ?_)
   exact ⟨some ⟨b1, 0, none⟩, 1, SFA, SOA⟩
 rintro fr' O' ⟨A1, c1, hf, hO⟩
 refine Zcu hf hO ?_
 clear hf hO fr' O' hLt hLe b1
 by_cases k0 : K = 0
 ·subst k0
  rw [if_pos rfl]
  repeat (first | (refine js ?_; (first | (refine Zad hk ?_) | (refine bx ?_; intro bk))) | refine walk ?_)
  exact rtA
 have e0 : decide (K = 0) = false := decide_eq_false k0
 rw [if_neg k0]
 by_cases k3 : K = 3
 ·subst k3
  rw [if_pos rfl]
  obtain ⟨res, hres⟩ : ∃ res, Zd8 format.data.toList (L.map (·.data.toList)) = res := ⟨_, rfl⟩
  rw [hres]
  repeat (first | (refine js ?_; (first | (refine Zad hk ?_) | (refine bx ?_; intro bk))) | refine walk ?_)
  refine Zaq [(2, .pointer (some ⟨b2, 0, none⟩)), (39, .slice A1 L.length c1), (40, .int .i64 L.length)] [.row (.slice A1 L.length c1) 9 1 L.length (L.flatMap ZaI), .blk b2 [.int .i64 off, .int .i64 kind, .int .i64 save, .string set, .string format, .bool til.is, .int .i64 til.year, .int .i64 til.month, .int .i64 til.day.kind, .int .i64 til.day.week, .int .i64 til.day.day, .int .i64 til.at_.sec, .int .i64 til.at_.base] 54] (fun k : Nat => [(41, .int .i64 k)]) (fun _ => []) (fun k => k <= L.length /\ Zd8 format.data.toList ((L.drop k).map (·.data.toList)) = res) (fun k => L.length - k) 0 SFA SOA ⟨Nat.zero_le _, hres⟩ ?_
  rintro k ⟨hkl, hi⟩
  repeat (first | (refine js ?_; (refine bx ?_; intro bk)) | refine walk ?_)
  refine Zah rfl (fun hc => ?_) (fun hc => ?_)
  ·simp only [decide_eq_true_eq, Int.ofNat_lt] at hc
   have hg1 : (L.flatMap ZaI)[k * 1]? = some (.string L[k]) := by
    have := ZaF (enc := ZaI) (fun _ => rfl) L k _ 0 (.string L[k]) (List.getElem?_eq_getElem hc) rfl
    simpa using this
   rw [Zan hc, List.map_cons, Zd8] at hi
   have hxs := hLs _ (List.getElem_mem hc)
   generalize L[k] = x at *
   have ha := hab x hxs
   generalize Zb7 format.data.toList 0 0 x.data.toList = av at *
   obtain ⟨at_, ae⟩ := av
   dsimp only at ha hi
   by_cases hz : ae = 0
   ·subst hz
    rw [if_pos rfl] at hi
    repeat (first | (apply RL_pu; rfl; exact ZvD) | (refine js ?_; (first | (refine Zad ha ?_) | (refine bx ?_; intro bk))) | refine walk1 ?_)
    exact ⟨k + 1, OA, ⟨OA, hi⟩, SFA, SOA⟩
   ·rw [if_neg hz] at hi
    subst hi
    have hb : (!decide (ae = 0)) = true := by rw [decide_eq_false hz]; rfl
    repeat (first | (apply RL_pu; rfl; (first | exact ZvD | (apply ZaG; rfl; rfl; exact hb))) | (refine js ?_; (first | (refine Zad ha ?_) | (refine bx ?_; intro bk))) | refine walk1 ?_)
    exact rtA
  ·simp only [decide_eq_false_iff_not, Int.ofNat_lt] at hc
   rw [List.drop_eq_nil_of_le (by omega)] at hi
   subst hi
   repeat (first | (refine js ?_; (refine bx ?_; intro bk)) | refine walk ?_)
   exact rtA
 have e3 : decide (K = 3) = false := decide_eq_false k3
 rw [if_neg k3]
 by_cases k45 : K = 4 \/ K = 5
 ·rw [if_pos k45]
  by_cases hxe : xe = 0
  ·subst hxe
   rcases k45 with rfl | rfl
   ·rw [if_neg (by rintro (h | ⟨h, _⟩); exact h rfl; omega)]
    repeat (first | refine und ?_ | (refine js ?_; (first | (refine Zad hk ?_) | (refine Zad hx ?_) | (refine bx ?_; intro bk))) | refine walk ?_)
    exact rtA
   ·by_cases hxt : xt = format.data.toList
    ·have hb : (!decide ((⟨xt.toArray⟩ : ByteArray) = format)) = false := by rw [decide_eq_true (by rw [hxt])]; rfl
     rw [if_neg (by rintro (h | ⟨_, h⟩); exact h rfl; exact h hxt)]
     repeat (first | refine und ?_ | (apply RL_pu; rfl; exact ZvC) | (refine js ?_; (first | (refine Zad hk ?_) | (refine Zad hx ?_) | (refine bx ?_; intro bk))) | refine walk1 ?_)
     exact rtA
    ·have hb : (!decide ((⟨xt.toArray⟩ : ByteArray) = format)) = true := by rw [decide_eq_false (fun h => hxt (by rw [<- h]))]; rfl
     rw [if_pos (.inr ⟨rfl, hxt⟩)]
     repeat (first | refine und ?_ | (apply RL_pu; rfl; exact ZvC) | (refine js ?_; (first | (refine Zad hk ?_) | (refine Zad hx ?_) | (refine bx ?_; intro bk))) | refine walk1 ?_)
     exact rtA
  ·have hb : (!decide (xe = 0)) = true := by rw [decide_eq_false hxe]; rfl
   rw [if_pos (.inl hxe)]
   rcases k45 with rfl | rfl
   ·repeat (first | refine und ?_ | (apply RL_pu; rfl; exact ZvB) | (refine js ?_; (first | (refine Zad hk ?_) | (refine Zad hx ?_) | (refine bx ?_; intro bk))) | refine walk1 ?_)
    exact rtA
   ·repeat (first | refine und ?_ | (apply RL_pu; rfl; exact ZvB) | (refine js ?_; (first | (refine Zad hk ?_) | (refine Zad hx ?_) | (refine bx ?_; intro bk))) | refine walk1 ?_)
    exact rtA
 rw [if_neg k45]
 have e4 : decide (K = 4) = false := decide_eq_false (fun h => k45 (.inl h))
 have e5 : decide (K = 5) = false := decide_eq_false (fun h => k45 (.inr h))
 repeat (first | (apply RL_pu; rfl; (first | (apply ZaH; rfl; rfl; exact e0) | (apply ZaH; rfl; rfl; exact e3) | (apply ZaH; rfl; rfl; exact e4) | (apply ZaH; rfl; rfl; exact e5))) | (refine js ?_; (first | (refine Zad hk ?_) | (refine bx ?_; intro bk))) | refine walk1 ?_)
 exact rtA
end Go.Proofs.YtbjomhdhkpgbaaaGreatDoor
namespace Go.Proofs.YtbjomhdhkpgbaaaGreatDoor
open Go.Shelf Go.RowKit Go.Lib Go.Sort
def ZnY : Ren where
 f := fun | 6 => 173 | 15 => 108 | 14 => 201 | 28 => 157 | 29 => 158 | 20 => 232 | 21 => 233 | 22 => 234 | 23 => 235 | 24 => 236 | 25 => 237 | 26 => 238 | 27 => 239 | 46 => 270 | 47 => 192 | 48 => 193 | 49 => 271 | 50 => 272 | 57 => 280 | n => n
 t := fun | 22 => 212 | 24 => 170 | 25 => 261 | 3 => 3 | 39 => 186 | 0 => 0 | 53 => 244 | 55 => 71 | 4 => 4 | 46 => 237 | 45 => 236 | 50 => 144 | 5 => 5 | 9 => 9 | 66 => 279 | 70 => 283 | 76 => 314 | 77 => 315 | n => n
 g := fun n => n
theorem ZsX : SlLaysF0.n6 Tryz.prog ZnY where
 mixed := by kernel_rfl
 f6 := ⟨Tryz.f173.name, by decide, Tryz.func173.trans (congrArg some (by kernel_rfl))⟩
 f14 := ⟨Tryz.f201.name, by decide, Tryz.func201.trans (congrArg some (by kernel_rfl))⟩
 f20 := ⟨Tryz.f232.name, by decide, Tryz.func232.trans (congrArg some (by kernel_rfl))⟩
 f21 := ⟨Tryz.f233.name, by decide, Tryz.func233.trans (congrArg some (by kernel_rfl))⟩
 f22 := ⟨Tryz.f234.name, by decide, Tryz.func234.trans (congrArg some (by kernel_rfl))⟩
 f23 := ⟨Tryz.f235.name, by decide, Tryz.func235.trans (congrArg some (by kernel_rfl))⟩
 f24 := ⟨Tryz.f236.name, by decide, Tryz.func236.trans (congrArg some (by kernel_rfl))⟩
 f25 := ⟨Tryz.f237.name, by decide, Tryz.func237.trans (congrArg some (by kernel_rfl))⟩
 f26 := ⟨Tryz.f238.name, by decide, Tryz.func238.trans (congrArg some (by kernel_rfl))⟩
 f27 := ⟨Tryz.f239.name, by decide, Tryz.func239.trans (congrArg some (by kernel_rfl))⟩
 f46 := ⟨Tryz.f270.name, by decide, Tryz.func270.trans (congrArg some (by kernel_rfl))⟩
 f49 := ⟨Tryz.f271.name, by decide, Tryz.func271.trans (congrArg some (by kernel_rfl))⟩
 f50 := ⟨Tryz.f272.name, by decide, Tryz.func272.trans (congrArg some (by kernel_rfl))⟩
 f57 := ⟨Tryz.f280.name, by decide, Tryz.func280.trans (congrArg some (by kernel_rfl))⟩
 f15 := Tryz.func108.trans (congrArg some (by kernel_rfl))
 f28 := Tryz.func157.trans (congrArg some (by kernel_rfl))
 f29 := Tryz.func158.trans (congrArg some (by kernel_rfl))
 f47 := Tryz.func192.trans (congrArg some (by kernel_rfl))
 f48 := Tryz.func193.trans (congrArg some (by kernel_rfl))
 t0 := Tryz.underlying0
 a0 := Tryz.isAgg0
 z0 := Tryz.sizeOf0
 v0 := Tryz.zeroValue0
 t3 := Tryz.underlying3
 a3 := Tryz.isAgg3
 z3 := Tryz.sizeOf3
 v3 := Tryz.zeroValue3
 t4 := Tryz.underlying4
 a4 := Tryz.isAgg4
 z4 := Tryz.sizeOf4
 v4 := Tryz.zeroValue4
 t5 := Tryz.underlying5
 a5 := Tryz.isAgg5
 z5 := Tryz.sizeOf5
 v5 := Tryz.zeroValue5
 t9 := Tryz.underlying9
 a9 := Tryz.isAgg9
 z9 := Tryz.sizeOf9
 v9 := Tryz.zeroValue9
 t22 := Tryz.underlying212
 a22 := Tryz.isAgg212
 z22 := Tryz.sizeOf212
 v22 := Tryz.zeroValue212
 t25 := Tryz.underlying261
 a25 := Tryz.isAgg261
 z25 := Tryz.sizeOf261
 v25 := Tryz.zeroValue261
 t39 := Tryz.underlying186
 a39 := Tryz.isAgg186
 z39 := Tryz.sizeOf186
 v39 := Tryz.zeroValue186
 t45 := Tryz.underlying236
 a45 := Tryz.isAgg236
 z45 := Tryz.sizeOf236
 v45 := Tryz.zeroValue236
 t46 := Tryz.underlying237
 a46 := Tryz.isAgg237
 z46 := Tryz.sizeOf237
 v46 := Tryz.zeroValue237
 t50 := Tryz.underlying144
 a50 := Tryz.isAgg144
 z50 := Tryz.sizeOf144
 v50 := Tryz.zeroValue144
 t53 := Tryz.underlying244
 a53 := Tryz.isAgg244
 z53 := Tryz.sizeOf244
 v53 := Tryz.zeroValue244
 t55 := Tryz.underlying71
 a55 := Tryz.isAgg71
 z55 := Tryz.sizeOf71
 v55 := Tryz.zeroValue71
 t66 := Tryz.underlying279
 a66 := Tryz.isAgg279
 z66 := Tryz.sizeOf279
 v66 := Tryz.zeroValue279
 t70 := Tryz.underlying283
 a70 := Tryz.isAgg283
 z70 := Tryz.sizeOf283
 v70 := Tryz.zeroValue283
 t76 := Tryz.underlying314
 a76 := Tryz.isAgg314
 z76 := Tryz.sizeOf314
 v76 := Tryz.zeroValue314
 t77 := Tryz.underlying315
 a77 := Tryz.isAgg315
 z77 := Tryz.sizeOf315
 v77 := Tryz.zeroValue315
open Go Go.Shelf Go.Lib Go.RowKit Go.Sort Go.Wk
set_option maxHeartbeats 4000000
theorem Zzr (a b : Int) (w : World) : Calls Tryz.prog 203 #[.int .i64 a, .int .i64 b] w fun e w' => e = .returned (.int .i64 (cmpI a b)) /\ w' = w := by
 go_enter Tryz.func203, Tryz.ntmps203
 go_wp2
 all_goals go_ret
 all_goals (unfold cmpI; repeat' split)
 all_goals first | exact ⟨rfl, rfl⟩ | (exfalso; omega)
theorem ZAx (a b : Int) (w : World) : Calls Tryz.prog 204 #[.int .i64 a, .int .i64 b] w fun e w' => e = .returned (.int .i64 (cmpI a b)) /\ w' = w := by
 go_enter Tryz.func204, Tryz.ntmps204
 go_wp2
 all_goals go_ret
 all_goals (unfold cmpI; repeat' split)
 all_goals first | exact ⟨rfl, rfl⟩ | (exfalso; omega)
theorem or_l (x y z : Int) (b : Nat) (w : World) (h0 : w.cell? ⟨b, 0, none⟩ = some (.int .i64 x)) (h1 : w.cell? ⟨b, 1, none⟩ = some (.int .i64 y)) (h2 : w.cell? ⟨b, 2, none⟩ = some (.int .i64 z)) :
  Calls Tryz.prog 202 #[.slice (some ⟨b, 0, none⟩) 3 3] w fun e w' => e = .returned (.int .i64 (Zb1 [x, y, z])) /\ w' = w := by
 go_enter Tryz.func202, Tryz.ntmps202
 go_wp2
 refine wp_loop_rounds 4 ?_
 rw [rounds_succ]
 by_cases hx : x = 0
 ·subst hx
  go_wp2
  rw [rounds_succ]
  by_cases hy : y = 0
  ·subst hy
   go_wp2
   rw [rounds_succ]
   by_cases hz : z = 0
   ·subst hz
    go_wp2
    rw [rounds_succ]
    go_wp2
    go_ret
    exact ⟨rfl, rfl⟩
   ·go_wp2
    go_ret
    exact ⟨by simp [Zb1, hz], rfl⟩
  ·go_wp2
   go_ret
   exact ⟨by simp [Zb1, hy], rfl⟩
 ·go_wp2
  go_ret
  exact ⟨by simp [Zb1, hx], rfl⟩
attribute [local irreducible] cmpI Zb1
theorem Zrx (a b : Zaf) (w : World) : Calls Tryz.prog 174 #[.agg (Zaf.enc a).toArray, .agg (Zaf.enc b).toArray] w fun e w' => e = .returned (.int .i64 (ordE a b)) /\ ∃ q os', w' = grow (w.drewN q) os' := by
 rw [Ztm]
 obtain ⟨y, r, n⟩ := a
 obtain ⟨y2, r2, n2⟩ := b
 dsimp only
 have h1 := Zzr
 have h2 := ZAx
 have h3 := or_l
 simp only [Zaf.enc]
 go_enter Tryz.func174, Tryz.ntmps174
 go_wp2_with fail
 go_region_held3 (fun W => W.cell? ⟨w.heap.size, 0, none⟩ = some (.int .i64 y) /\ W.cell? ⟨w.heap.size, 1, none⟩ = some (.int .i64 r) /\ W.cell? ⟨w.heap.size, 2, none⟩ = some (.int .i64 n) /\ W.cell? ⟨w.heap.size + 1, 0, none⟩ = some (.int .i64 y2) /\ W.cell? ⟨w.heap.size + 1, 1, none⟩ = some (.int .i64 r2) /\ W.cell? ⟨w.heap.size + 1, 2, none⟩ = some (.int .i64 n2)) (go_keep)
  (first
   | (go_at_call 203; refine (h1 _ _ _).mono ?_; rintro e w' ⟨rfl, rfl⟩)
   | (go_at_call 204; refine (h2 _ _ _).mono ?_; rintro e w' ⟨rfl, rfl⟩)
   | (go_at_call 202; refine (h3 (cmpI n n2) (cmpI r r2) (cmpI y y2) _ _ (by go_simp) (by go_simp) (by go_simp)).mono ?_; rintro e w' ⟨rfl, rfl⟩))
 all_goals (try go_wp2)
 all_goals go_ret
 all_goals exact ⟨rfl, 1, _, by rw [alloc_eq_grow, alloc_eq_grow, alloc_eq_grow, grow_grow, grow_grow]; rfl⟩
end Go.Proofs.YtbjomhdhkpgbaaaGreatDoor
namespace Go.Proofs.YtbjomhdhkpgbaaaGreatDoor
open Go Go.RowKit Go.Wk
theorem Zaf.len (x : Zaf) : (Zaf.enc x).length = 3 := rfl
def ZmV (A : Option Addr) (c : Nat) (l : List Zaf) : It := .row (.slice A l.length c) 170 3 l.length (l.flatMap Zaf.enc)
def ZcO (l : List Zaf) : List Zaf := l.mergeSort fun x y => !ltE y x
theorem ZfJ (l : List Zaf) : (ZcO l).length = l.length := List.length_mergeSort _
instance : Inhabited Zaf := ⟨dEv0⟩
theorem Zqr (l : List Zaf) : Go.Sort.flatK Zaf.enc 3 l.toArray = (l.flatMap Zaf.enc).toArray := by
 have hfl := ZaE Zaf.len l
 refine Go.Sort.ext_get! (by rw [Go.Sort.size_flatK]; simp [hfl]) fun t ht => ?_
 have ht' : t < l.toArray.size * 3 := by rwa [Go.Sort.size_flatK] at ht
 rw [Go.Sort.get_flatK _ _ _ _ ht']
 have hlt : t / 3 < l.length := by simp at ht'; omega
 have h3 : t % 3 < 3 := Nat.mod_lt _ (by decide)
 have hget := ZaF Zaf.len l (t / 3) l[t / 3] (t % 3) ((Zaf.enc l[t / 3])[t % 3]'h3) (List.getElem?_eq_getElem hlt) (List.getElem?_eq_getElem h3)
 rw [show t / 3 * 3 + t % 3 = t by omega] at hget
 rw [getElem!_pos l.toArray (t / 3) (by simpa using hlt)]
 rw [show (l.flatMap Zaf.enc).toArray[t]! = (l.flatMap Zaf.enc)[t]?.getD default from by simp only [getElem!_def, List.getElem?_toArray]; cases (l.flatMap Zaf.enc)[t]? <;> rfl]
 rw [hget]
 rw [getElem!_pos (Zaf.enc _) (t % 3) (by rw [Zaf.len]; exact h3)]
 simp
 rfl
theorem Zwg (b : Nat) (l : List Zaf) (w : World) : CmpLays Tryz.prog 174 #[] Zaf.enc 3 ordE b 0 l.toArray.size w :=
 fun m os dk _ x y => by
  have := Zrx x y (sortWorldK Zaf.enc 3 w b 0 m dk os)
  simpa using this
theorem ZsY (A : Option Addr) (c : Nat) (l : List Zaf) (wr : World) (hn : l.length <= 1000000000) :
  Zal Tryz.prog 173 [.slice A l.length c, .func (.func 174) #[] #[]] wr [ZmV A c l] (fun v O => v = .tuple #[] /\ O = [ZmV A c (ZcO l)]) := by
 intro w hB hH
 have hsat := hH.sat _ (List.mem_singleton.2 rfl)
 obtain ⟨hxl, ⟨hv, _⟩ | ⟨b, cap, cur, hval, hb0, hg, hmc, hcm, hsz, hcur⟩⟩ := id hsat
 ·injection hv with h1 h2 h3
  obtain rfl := List.eq_nil_of_length_eq_zero h2
  subst h1 h3
  refine Calls.mono (AnyF.slices_SortFunc_none ZsX none 0 (.func (.func 174) #[] #[]) w) ?_
  rintro e w' ⟨rfl, rfl⟩
  exact ⟨_, _, rfl, hB, hH, rfl, by rw [show ZcO [] = [] from by simp [ZcO]]⟩
 injection hval with hA h2 h3
 subst hA h3
 have hbw : b < w.heap.size := (Array.getElem?_eq_some_iff.1 hg).1
 have hin := hH.inb _ (List.mem_singleton.2 rfl) b (by simp [It.S, ZmV, Value.ownBlock])
 have hfl := ZaE Zaf.len l
 have hcl : l.length * 3 <= cur.size := by
  have := congrArg List.length hcur
  rw [List.length_take, hfl, Array.length_toList] at this
  omega
 have hget : ∀ j, j < l.length * 3 -> cur[j]? = (l.flatMap Zaf.enc)[j]? := fun j hj => by
  rw [<- hcur, List.getElem?_take, if_pos (by omega)]
  simp
 have hHold : Go.Sort.HoldsK Zaf.enc 3 w b 0 l.toArray := fun j hj => by
  rw [Zqr] at hj ⊢
  have hj' : j < l.length * 3 := by simpa [hfl] using hj
  have hjl : j < (l.flatMap Zaf.enc).length := by rw [hfl]; exact hj'
  refine ⟨?_, by simp [World.frozen?, hg]⟩
  rw [Nat.zero_add, show w.cell? ⟨b, j, none⟩ = cur[j]? from by simp [World.cell?, hg], hget j hj', List.getElem?_eq_getElem hjl, getElem!_pos _ j (by simpa using hjl)]
  simp
 have h := AnyQ.slices_SortFunc_total ZsX 3 Tryz.isAgg170 Tryz.sizeOf170 Zaf.enc Zaf.len (fun x v hv => by simp [Zaf.enc] at hv; rcases hv with rfl | rfl | rfl <;> rfl) ordE swoE 174 #[] b 0 c l.toArray w
  (enters_of Tryz.func174 (by kernel_rfl) rfl) (Zwg b l w) hHold hbw (by simp; omega) totE
 refine Calls.mono h ?_
 rintro e w' ⟨rfl, n, os, rfl⟩
 rw [show (l.toArray.toList.mergeSort fun x y => !(ltOf ordE) y x) = ZcO l from rfl]
 have hlen := ZfJ l
 generalize ZcO l = s at hlen ⊢
 have hfs := ZaE Zaf.len s
 have hsh : (sortWorldK Zaf.enc 3 w b 0 n s.toArray os).heap = (w.heap.modify b (Go.Sort.onCells (Go.Sort.putCells id 0 (s.flatMap Zaf.enc).toArray))) ++ os := by
  unfold sortWorldK Go.Sort.putRowK
  rw [Zqr]
  rfl
 have hold : ∀ i, i < w.heap.size -> i ≠ b -> (sortWorldK Zaf.enc 3 w b 0 n s.toArray os).heap[i]? = w.heap[i]? := fun i hi hne => by
  rw [hsh, Array.getElem?_append_left (by simpa using hi), Array.getElem?_modify, if_neg (fun e => hne e.symm)]
 have hnew : (sortWorldK Zaf.enc 3 w b 0 n s.toArray os).heap[b]? = some (.cells (Go.Sort.putCells id 0 (s.flatMap Zaf.enc).toArray cur) 170 (0, 0)) := by
  rw [hsh, Array.getElem?_append_left (by simpa using hbw), Array.getElem?_modify, if_pos rfl, hg]
  rfl
 have hsize : w.heap.size <= (sortWorldK Zaf.enc 3 w b 0 n s.toArray os).heap.size := by rw [hsh]; simp
 have hbel : Bel wr.heap.size wr (sortWorldK Zaf.enc 3 w b 0 n s.toArray os) :=
  hB.trans ⟨⟨rfl, rfl, rfl, hsize, fun i hi => hold i (by have := hB.size; omega) (by omega)⟩⟩
 refine ⟨_, [ZmV (some ⟨b, 0, none⟩) c s], rfl, hbel, ?_, rfl, rfl⟩
 refine hH.upd (A := ZmV (some ⟨b, 0, none⟩) c l) .here hB.size hsize (fun i hi hS => hold i hi (fun e => hS (by rw [e]; simp [It.S, ZmV, Value.ownBlock]))) ?_ (fun i hi => .inl hi)
 refine ⟨by rw [hfs], .inr ⟨b, c, _, rfl, Nat.zero_le _, hnew, by omega, hcm, ?_, ?_⟩⟩
 ·simp only [Go.Sort.putCells, Array.size_mapIdx]
  exact hsz
 ·apply List.ext_getElem?
  intro j
  rw [List.getElem?_take]
  by_cases hj : j < s.length * 3
  ·rw [if_pos hj]
   have hjc : j < cur.size := by omega
   have hjs : j < (s.flatMap Zaf.enc).length := by omega
   simp only [Array.getElem?_toList, Go.Sort.putCells, Array.getElem?_mapIdx, Array.getElem?_eq_getElem hjc, Option.map_some, Nat.zero_le, true_and, Nat.zero_add, List.size_toArray, if_pos hjs, Nat.sub_zero]
   rw [List.getElem?_eq_getElem hjs, getElem!_pos _ j (by simpa using hjs)]
   simp
  ·rw [if_neg hj, List.getElem?_eq_none (by omega)]
attribute [local irreducible] W RL Does Zap Zak retQ Calls Pu Stp RD Qy Ay Zal
structure IG where
 k : Nat
 A : Option Addr
 c : Nat
 m : Nat
 xs : List Value
 acc : List Zaf
def ZAS (l : List Zaf) (v : Value) (O : List It) : Prop := ∃ A c, v = .tuple #[.slice A l.length c, .int .i64 0] /\ O = [ZmV A c l]
theorem Zz1 {f t : Int} {M : Nat} (hf : -2000000000 <= f /\ f <= 2000000000) (ht : t + 1 = f + M) (h0 : 0 < M) (hM : M <= 1000) : decide ((1000 : Int) < IntKind.u64.wrap (IntKind.u64.wrap t - IntKind.u64.wrap f)) = false := by
 refine decide_eq_false ?_
 simp [IntKind.wrap, IntKind.signed, IntKind.bits]
 omega
theorem ZwY (A : Option Addr) (c : Nat) (l : List DRule) (f t : Int) (M : Nat) (w : World) (hG : Glob w) (hA : RdSl w A c DRule.enc 11 l) (hn : l.length <= 1000000) (hR : ∀ r ∈ l, -4611686018427387904 <= r.save /\ r.save <= 4611686018427387904)
  (hf : -2000000000 <= f /\ f <= 2000000000) (ht : t + 1 = f + M) (hM0 : 0 < M) (hM : M <= 1000) :
  Does Tryz.prog 127 [.slice A l.length c, .int .i64 f, .int .i64 t] w (ZAS (ZcO (allC l (Zai l) f M))) := by
 have e1 : decide (t < f) = false := decide_eq_false (by omega)
 have e2 := Zz1 hf ht hM0 hM
 have hon := fun (i : Nat) r (hi : l[i]? = some r) y w' (hw : Bel w.heap.size w w') => ZmW A c l i y r w' (hG.up hw) (hA.up hw) hi hn hR
 generalize Zai l = least at *
 obtain ⟨res, hres⟩ : ∃ res, allC l least f M = res := ⟨_, rfl⟩
 rw [hres]
 refine Zaa Tryz.func127 rfl rfl rfl rfl ?_
 repeat (first | (apply RL_pu; rfl; (first | (apply Pu_sub'; rfl; rfl; (constructor <;> omega)) | (apply Zvb; rfl; rfl) | (apply Za0; rfl; rfl; exact e2) | (apply Zbt; rfl; rfl; exact e1) | (apply Pu_convI; rfl))) | (refine js ?_; (refine bx ?_; intro bk)) | refine walk1 ?_)
 refine Zdu 170 3 ?_
 obtain ⟨N, hN⟩ : ∃ N : Int, N = (M : Int) := ⟨_, rfl⟩
 rw [show t - f + 1 = N by omega]
 refine Zaq [(0, .slice A l.length c), (1, .int .i64 f), (27, .int .i64 N)] [] (fun g : IG => [(8, .slice g.A g.m g.c), (28, .int .i64 g.k)]) (fun g => [.row (.slice g.A g.m g.c) 170 3 g.m g.xs])
  (fun g => g.k <= M /\ g.m = g.acc.length /\ g.xs = g.acc.flatMap Zaf.enc /\ g.m <= g.k * 1000000 /\ g.acc = allC l least f g.k) (fun g => M - g.k) ⟨0, none, 0, 0, [], []⟩ SFA SOA ⟨Nat.zero_le _, rfl, rfl, Nat.le_refl _, rfl⟩ ?_
 rintro ⟨k, A1, c1, m, xs, acc⟩ ⟨hk, hm, hx, hmk, hi⟩
 dsimp only at hk hm hx hmk hi ⊢
 repeat (first | (refine js ?_; (refine bx ?_; intro bk)) | refine walk ?_)
 refine Zah rfl (fun hc => ?_) (fun hc => ?_)
 ·have hk2 : k < M := by have := of_decide_eq_true hc; omega
  obtain ⟨nxt, hnxt⟩ : ∃ nxt, allC l least f (k + 1) = nxt := ⟨_, rfl⟩
  have hst : acc ++ ZdW least (f + k) l 0 = nxt := by rw [<- hnxt, allC, hi]
  repeat (first | (refine js ?_; (refine bx ?_; intro bk)) | refine walk ?_)
  refine Zaq [(0, .slice A l.length c), (1, .int .i64 f), (27, .int .i64 N), (28, .int .i64 k), (9, .int .i64 k), (31, .slice A l.length c), (32, .int .i64 l.length)] [] (fun g : IG => [(8, .slice g.A g.m g.c), (33, .int .i64 g.k)]) (fun g => [.row (.slice g.A g.m g.c) 170 3 g.m g.xs])
   (fun g => g.k <= l.length /\ g.m = g.acc.length /\ g.xs = g.acc.flatMap Zaf.enc /\ g.m <= k * 1000000 + g.k /\ g.acc ++ ZdW least (f + k) (l.drop g.k) g.k = nxt) (fun g => l.length - g.k) ⟨0, A1, c1, m, xs, acc⟩ SFA SOA ⟨Nat.zero_le _, hm, hx, Nat.le_trans hmk (Nat.le_add_right _ _), by dsimp only; rw [List.drop_zero]; exact hst⟩ ?_
  clear hm hx hmk hi hst hc
  rintro ⟨i, A1, c1, m, xs, acc⟩ ⟨hil, hm, hx, hmk, hi⟩
  dsimp only at hil hm hx hmk hi ⊢
  repeat (first | (refine js ?_; (refine bx ?_; intro bk)) | refine walk ?_)
  refine Zah rfl (fun hc => ?_) (fun hc => ?_)
  ·simp only [decide_eq_true_eq, Int.ofNat_lt] at hc
   have ho := hon i _ (List.getElem?_eq_getElem hc) (f + (k : Int))
   rw [Zan hc, ZdW] at hi
   generalize onR least l[i] i (f + (k : Int)) = o at *
   cases o with
   | none =>
    simp only [evV, Zaf.enc, dEv0, Option.isSome, Option.toList, List.nil_append] at ho hi
    repeat (first | (refine js ?_; (first | (refine Zad ho ?_) | (refine bx ?_; intro bk))) | refine walk ?_)
    exact ⟨⟨i + 1, A1, c1, m, xs, acc⟩, OA, ⟨OA, hm, hx, OA, hi⟩, SFA, SOA⟩
   | some e =>
    obtain ⟨ey, er, en⟩ := e
    simp only [evV, Zaf.enc, Option.isSome, Option.toList] at ho hi
    repeat (first | (refine js ?_; (first | (refine Zad ho ?_) | (apply ZaC; rfl; rfl; (intro A' c'; (focus repeat' constructor)); (intro w' _ hO; exact ZbD (hO.of (by repeat' constructor))); rfl; rfl; (simp only [maxLen]; omega); omega; intro A' c' hc1 hc2 hc3) | (refine bx ?_; intro bk))) | refine walk ?_)
    exact ⟨⟨i + 1, A', c', m + 1, xs ++ [.int .i64 ey, .int .i64 er, .int .i64 en], acc ++ [⟨ey, er, en⟩]⟩, OA, ⟨OA, by simp [hm], by rw [hx]; simp [Zaf.enc], OA, by rw [<- hi]; simp⟩, SFA, SOA⟩
  ·simp only [decide_eq_false_iff_not, Int.ofNat_lt] at hc
   rw [List.drop_eq_nil_of_le (by omega), ZdW, List.append_nil] at hi
   repeat (first | (refine js ?_; (refine bx ?_; intro bk)) | refine walk ?_)
   exact ⟨⟨k + 1, A1, c1, m, xs, acc⟩, OA, ⟨OA, hm, hx, OA, hi.trans hnxt.symm⟩, SFA, SOA⟩
 ·obtain rfl : k = M := by have := of_decide_eq_false hc; omega
  rw [hres] at hi
  subst hi hm hx
  repeat (first | (refine js ?_; (first | (apply ZbE; rfl; exact ZsY A1 c1 acc w (by omega); exact .refl _; rintro v O' ⟨rfl, rfl⟩) | (refine bx ?_; intro bk))) | refine walk ?_)
  exact ret_2 _ _ [ZmV A1 c1 (ZcO acc)] (.tmp rfl) (.tmp rfl) SOA ⟨A1, c1, by rw [ZfJ], rfl⟩
theorem Zzd (A : Option Addr) (c : Nat) (l : List DRule) (w : World) (hG : Glob w) (hA : RdSl w A c DRule.enc 11 l) (hn : l.length <= 1000000) (hR : ∀ r ∈ l, -4611686018427387904 <= r.save /\ r.save <= 4611686018427387904) :
  Does Tryz.prog 127 [.slice A l.length c, .int .i64 1850, .int .i64 2550] w (ZAS (ZcO (allC l (Zai l) 1850 701))) :=
 ZwY A c l 1850 2550 701 w hG hA hn hR (by omega) (by omega) (by omega) (by omega)
def apV : Option Zaf -> Value
 | none => .tuple #[.agg (Zaf.enc dEv0).toArray, .int .i64 0]
 | some e => .tuple #[.agg (Zaf.enc e).toArray, .int .i64 13]
theorem ZoM {l : List Zaf} {k : Nat} (h : k + 1 < l.length) : ZcV (l.drop k) = if (l[k + 1]'h).nominal - (l[k]'(by omega)).nominal < 259200 then some (l[k + 1]'h) else ZcV (l.drop (k + 1)) := by
 rw [Zan (show k < l.length by omega), Zan h, ZcV]
theorem Zr9 {l : List Zaf} {k : Nat} (h : l.length <= k + 1) : ZcV (l.drop k) = none := by
 by_cases hk : k < l.length
 ·rw [Zan hk, List.drop_eq_nil_of_le h]; rfl
 ·rw [List.drop_eq_nil_of_le (by omega)]; rfl
theorem ZiQ {l : List Zaf} {k : Nat} (h : k < l.length) (j : Nat) (v : Value) (hj : (Zaf.enc l[k])[j]? = some v) : (l.flatMap Zaf.enc)[k * 3 + j]? = some v := ZaF Zaf.len l k _ j v (List.getElem?_eq_getElem h) hj
def ZxF (e : Zaf) : Prop := -200000000000000000 <= e.nominal /\ e.nominal <= 200000000000000000
theorem ZpI (least y : Int) (hl : least <= 0) : ∀ (l : List DRule) (i : Nat), (ZdW least y l i).length <= l.length /\ ∀ e ∈ ZdW least y l i, ZxF e
 | [], _ => ⟨Nat.le_refl _, fun _ h => by cases h⟩
 | r :: l, i => by
  obtain ⟨h1, h2⟩ := ZpI least y hl l (i + 1)
  have h3 := ZxR least hl r i y
  simp only [ZdW, List.length_append, List.length_cons, List.mem_append]
  generalize onR least r i y = o at *
  cases o with
  | none => exact ⟨by simp only [Option.toList, List.length_nil]; omega, fun e he => by rcases he with h | h; cases h; exact h2 e h⟩
  | some x => exact ⟨by simp only [Option.toList, List.length_cons, List.length_nil]; omega, fun e he => by
    rcases he with h | h
    ·simp only [Option.toList, List.mem_singleton] at h; subst h; exact h3 _ rfl
    ·exact h2 e h⟩
theorem Zo0 (l : List DRule) (least from_ : Int) (hl : least <= 0) : ∀ k, (allC l least from_ k).length <= k * l.length /\ ∀ e ∈ allC l least from_ k, ZxF e
 | 0 => ⟨Nat.zero_le _, fun _ h => by cases h⟩
 | k + 1 => by
  obtain ⟨h1, h2⟩ := Zo0 l least from_ hl k
  obtain ⟨h3, h4⟩ := ZpI least (from_ + k) hl l 0
  simp only [allC, List.length_append, List.mem_append, Nat.succ_mul]
  exact ⟨by omega, fun e he => he.elim (h2 e) (h4 e)⟩
theorem Zxq (l : List DRule) (least from_ : Int) (hl : least <= 0) (hn : l.length <= 1000000) : (allC l least from_ 701).length <= 701000000 := by
 have := (Zo0 l least from_ hl 701).1
 omega
theorem Zyy {G : Prop} (h : G := by (apply Zpi; rfl; rfl; exact hmx)) : G := h
theorem ZnE {G : Prop} (h : G := by (first | (apply Zav; rfl; rfl; omega; omega; (intro w' _ hO; exact (ZbP (hO.of (A := .row (.slice A1 s.length c1) 170 3 s.length (s.flatMap Zaf.enc)) (by repeat' constructor)) hg1).1)) | (apply ZcM; rfl; (focus repeat' constructor); exact hg1) | (apply ZcM; rfl; (focus repeat' constructor); exact hg2) | (apply Za2; rfl; (focus repeat' constructor); exact hgn; rfl) | (apply Zbt; rfl; rfl; exact hb))) : G := h
theorem Zyf {G : Prop} (h : G := by first | (apply Qy_y; rfl; exact ZnE) | exact QyA) : G := h
theorem Zsb (A : Option Addr) (c : Nat) (l : List DRule) (w : World) (hG : Glob w) (hA : RdSl w A c DRule.enc 11 l) (hn : l.length <= 1000000) (hR : ∀ r ∈ l, -4611686018427387904 <= r.save /\ r.save <= 4611686018427387904) :
  Does Tryz.prog 90 [.slice A l.length c] w (fun v O => v = apV (ZfA l) /\ O = []) := by
 have hin := fun w' (hw : Bel w.heap.size w w') => Zzd A c l w' (hG.up hw) (hA.up hw) hn hR
 have hle := (Ziv l hR).2
 have hal := Zxq l (Zai l) 1850 hle hn
 have hok := (Zo0 l (Zai l) 1850 hle 701).2
 rw [<- Zne]
 rw [show ((allC l (Zai l) 1850 701).mergeSort fun x y => !ltE y x) = ZcO (allC l (Zai l) 1850 701) from rfl]
 have hsl := ZfJ (allC l (Zai l) 1850 701)
 have hso : ∀ e ∈ ZcO (allC l (Zai l) 1850 701), ZxF e := fun e he => hok e (List.mem_mergeSort.1 he)
 generalize ZcO (allC l (Zai l) 1850 701) = s at *
 have hsl2 : s.length <= 701000000 := by omega
 clear hal hok hsl
 obtain ⟨res, hres⟩ : ∃ res, ZcV s = res := ⟨_, rfl⟩
 rw [hres]
 have hmx : (if (s.length : Int) - 1 < 0 then 0 else (s.length : Int) - 1) = ((s.length - 1 : Nat) : Int) := by split <;> omega
 refine Zaa Tryz.func90 rfl rfl rfl rfl ?_
 repeat (first | (apply RL_pu; rfl; exact Zyy) | (apply RD_Q; rfl; rfl; decide +kernel; rfl; rfl; exact QyEvI1) | refine walk1 ?_ | (refine jg ?_; (try intro F); (first | (apply Zac (h := fun w' hw _ => hin w' hw); rfl; rintro v O' ⟨A1, c1, rfl, rfl⟩) | (refine bx ?_; intro bk) | (refine stA ?_)); first | refine ⟨_, EndsA, QFEvI1, ?_⟩ | refine fin ?_) | (refine jn ?_; (try intro F); (first | (refine bx ?_; intro bk) | (refine stA ?_) | (apply Zag; first | exact Zyy | exact PuA)); first | refine ⟨_, EndsA, QFEvI1, ?_⟩ | refine fin ?_) | (apply RD_W; rfl; intro bk))
 have hn1 : s.length - 1 <= 701000000 := by omega
 obtain ⟨b2, hb2⟩ : ∃ b2, bk = b2 := ⟨_, rfl⟩
 rw [hb2]
 clear hb2 bk
 refine Zaq [(2, .pointer (some ⟨b2, 0, none⟩)), (4, .slice A1 s.length c1), (19, .int .i64 (s.length - 1 : Nat))] [.row (.slice A1 s.length c1) 170 3 s.length (s.flatMap Zaf.enc), .blk b2 [.int .i64 0, .int .i64 0, .int .i64 0] 170] (fun k : Nat => [(20, .int .i64 k)]) (fun _ => []) (fun k => k <= s.length - 1 /\ ZcV (s.drop k) = res) (fun k => s.length - 1 - k) 0 SFA SOA ⟨Nat.zero_le _, hres⟩ ?_
 rintro k ⟨hk, hi⟩
 repeat (first | refine walk ?_ | (refine jn ?_; (try intro F); (first | (refine bx ?_; intro bk) | (refine stA ?_) | (apply Zag; exact PuA)); refine fin ?_) | (apply RD_W; rfl; intro bk))
 refine Zah rfl (fun hc => ?_) (fun hc => ?_)
 ·simp only [decide_eq_true_eq, Int.ofNat_lt] at hc
  have hk1 : k + 1 < s.length := by omega
  rw [ZoM hk1] at hi
  have hg1 := ZiQ hk1 2 _ rfl
  have hg2 := ZiQ (show k < s.length by omega) 2 _ rfl
  have hgn : ∀ j v, (Zaf.enc s[k + 1])[j]? = some v -> (s.flatMap Zaf.enc)[(k + 1) * 3 + j]? = some v := fun j v hj => ZiQ hk1 j v hj
  have o1 := hso _ (List.getElem_mem hk1)
  have o2 := hso _ (List.getElem_mem (show k < s.length by omega))
  generalize s[k + 1] = e1 at *
  generalize s[k] = e2 at *
  obtain ⟨y1, r1, n1⟩ := e1
  obtain ⟨y2, r2, n2⟩ := e2
  simp only [Zaf.enc, ZxF] at hg1 hg2 hgn o1 o2 hi
  have hlen : (s.length : Int) <= 701000000 := by omega
  have hkk : (k : Int) + 1 < s.length := by omega
  by_cases h3 : n1 - n2 < 259200
  ·rw [if_pos h3] at hi
   subst hi
   have hb : decide (n1 - n2 < 259200) = true := decide_eq_true h3
   repeat (first | (apply RL_pu; rfl; exact ZnE) | (apply RD_Q; rfl; rfl; decide +kernel; rfl; rfl; exact Zyf) | refine walk1 ?_ | (refine jn ?_; (try intro F); (first | (refine bx ?_; intro bk) | (refine stA ?_) | (apply Zag; first | exact ZnE | exact PuA)); first | refine ⟨_, EndsA, QFEvI2, ?_⟩ | refine fin ?_) | (apply RD_W; rfl; intro bk))
   exact rtC
  ·rw [if_neg h3] at hi
   have hb : decide (n1 - n2 < 259200) = false := decide_eq_false h3
   repeat (first | (apply RL_pu; rfl; exact ZnE) | (apply RD_Q; rfl; rfl; decide +kernel; rfl; rfl; exact Zyf) | refine walk1 ?_ | (refine jn ?_; (try intro F); (first | (refine bx ?_; intro bk) | (refine stA ?_) | (apply Zag; first | exact ZnE | exact PuA)); first | refine ⟨_, EndsA, QFEvI2, ?_⟩ | refine fin ?_) | (apply RD_W; rfl; intro bk))
   exact ⟨k + 1, OA, ⟨OA, hi⟩, SFA, SOA⟩
 ·simp only [decide_eq_false_iff_not, Int.ofNat_lt] at hc
  rw [Zr9 (show s.length <= k + 1 by omega)] at hi
  subst hi
  repeat (first | refine walk ?_ | (refine jn ?_; (try intro F); (first | (refine bx ?_; intro bk) | (refine stA ?_) | (apply Zag; exact PuA)); refine fin ?_) | (apply RD_W; rfl; intro bk))
  exact rtC
end Go.Proofs.YtbjomhdhkpgbaaaGreatDoor
