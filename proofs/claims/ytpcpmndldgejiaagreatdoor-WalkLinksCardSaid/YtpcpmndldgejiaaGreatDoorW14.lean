/- Parts of the proof. -/
import Derived.Test.YtpcpmndldgejiaaGreatDoorW13
import Derived.Test.YtpcpmndldgejiaaGreatDoorW10
import Derived.Test.YtpcpmndldgejiaaGreatDoorW05
import Derived.Shelf.Lay
import Derived.Shelf.Strings.OnBuilder
import Derived.Shelf.Strings.Prefix
import Derived.Shelf.Strings.Shaped
import Derived.Shelf.Strings.Cut
import Derived.Shelf.Pu.ParseUintPublic10
import Derived.Shelf.GgClosure.StringsRunes
import Derived.Lib.CutLaws
import Derived.Test.YtpcpmndldgejiaaGreatDoorW01
import Derived.Test.YtpcpmndldgejiaaGreatDoorW09
import Derived.Lib.TrimUEq
import Derived.Lib.SmallJoins
set_option maxHeartbeats 4000000
set_option linter.unusedVariables false
set_option linter.unusedSimpArgs false
namespace Go.Wk
open Go Go.RowKit
structure ZaI where
 start : Int
 fin : Int
 era : Int
deriving DecidableEq
def ZaI.enc (x : ZaI) : List Value := [.int .i64 x.start, .int .i64 x.fin, .int .i64 x.era]
theorem ZaI.len (x : ZaI) : x.enc.length = 3 := rfl
def spIn (t : Int) (x : ZaI) : Bool := decide (x.start <= t) && decide (t < x.fin)
def Zdu (t : Int) : List ZaI -> Nat -> Int
 | [], _ => -1
 | x :: l, i => if spIn t x then i else Zdu t l (i + 1)
def sp0 : ZaI := ⟨0, 0, 0⟩
def Zey (l : List ZaI) (t : Int) : ZaI × Bool := if Zdu t l 0 < 0 then (sp0, false) else (l.getD (Zdu t l 0).toNat sp0, true)
theorem ZmB (t : Int) : ∀ (l : List ZaI) (i : Nat), Zdu t l i = -1 \/ ((i : Int) <= Zdu t l i /\ Zdu t l i < i + l.length)
 | [], i => .inl rfl
 | x :: l, i => by
  rw [Zdu]
  split
  ·right
   simp
   omega
  ·rcases ZmB t l (i + 1) with h | h
   ·exact .inl h
   ·right
    rw [List.length_cons]
    omega
end Go.Wk
namespace Go.Proofs.YtpcpmndldgejiaaGreatDoor
open Go Go.RowKit Go.Wk
attribute [local irreducible] W RL Does Zay Zam retQ Calls Pu Stp RD Qy Ay Zan
theorem Zyw {G : Prop} (h : G := by (first | (apply Pu_loadO1; rfl; exact hb 0 _ rfl) | (apply ZcN; rfl; rfl; exact b1))) : G := h
theorem ZsQ (x : ZaI) (t : Int) (b : Nat) (w : World) (hb : Zao w ⟨b, 0, none⟩ [.int .i64 t]) : Does Tryz.prog 106 [.agg x.enc.toArray, .pointer (some ⟨b, 0, none⟩)] w (fun v O => v = .bool (spIn t x) /\ O = []) := by
 obtain ⟨s, f, k⟩ := x
 unfold spIn
 dsimp only
 show Does _ _ [.agg #[.int .i64 s, .int .i64 f, .int .i64 k], _] w _
 refine Zab Tryz.func106 rfl rfl rfl rfl ?_
 by_cases h : s <= t
 ·have b1 : decide (s <= t) = true := decide_eq_true h
  rw [b1, Bool.true_and]
  repeat (first | refine und ?_ | (apply RL_pu; rfl; exact Zyw) | (refine js ?_; (refine bx ?_; intro bk)) | refine walk1 ?_)
  exact rtA
 ·have b1 : decide (s <= t) = false := decide_eq_false h
  rw [b1, Bool.false_and]
  repeat (first | refine und ?_ | (apply RL_pu; rfl; exact Zyw) | (refine js ?_; (refine bx ?_; intro bk)) | refine walk1 ?_)
  exact rtA
theorem ZsP (A : Option Addr) (c : Nat) (l : List ZaI) (t : Int) (b : Nat) (w : World) (hA : RdSl w A c ZaI.enc 3 l) (hb : Zao w ⟨b, 0, none⟩ [.int .i64 t]) :
  Does Tryz.prog 105 [.slice A l.length c, .func (.func 106) #[] #[.pointer (some ⟨b, 0, none⟩)]] w (fun v O => v = .int .i64 (Zdu t l 0) /\ O = []) := by
 have hle := hA.le
 have hcp := hA.cap
 simp only [maxLen] at hcp
 have hin := fun x w' (hw : Bel w.heap.size w w') => ZsQ x t b w' (hb.up hw (Nat.le_refl _))
 obtain ⟨res, hres⟩ : ∃ res, Zdu t l 0 = res := ⟨_, rfl⟩
 rw [hres]
 refine Zab Tryz.func105 rfl rfl rfl rfl ?_
 repeat (first | refine walk ?_)
 refine Zaq [(0, .slice A l.length c), (1, .func (.func 106) #[] #[.pointer (some ⟨b, 0, none⟩)]), (7, .int .i64 l.length)] [] (fun k : Nat => [(8, .int .i64 k)]) (fun _ => []) (fun k => k <= l.length /\ Zdu t (l.drop k) k = res) (fun k => l.length - k) 0 SFA SOA ⟨Nat.zero_le _, hres⟩ ?_
 clear hres
 rintro k ⟨hk, hi⟩
 repeat (first | refine walk ?_)
 refine Zah rfl (fun hc => ?_) (fun hc => ?_)
 ·have hkl : k < l.length := by simpa using hc
  obtain ⟨hna, hca⟩ := hA.rd k _ (List.getElem?_eq_getElem hkl)
  rw [Zat hkl, Zdu] at hi
  have hx := hin l[k]
  generalize l[k] = x at *
  generalize spIn t x = q at *
  obtain ⟨s, f, e⟩ := x
  change Zao w _ [.int .i64 s, .int .i64 f, .int .i64 e] at hca
  cases q with
  | true =>
   rw [if_pos rfl] at hi
   subst hi
   repeat (first | (apply RL_pu; rfl; exact PuI) | (refine js ?_; (apply Zar (f := 106) (us := []) (vs := [.agg #[.int .i64 s, .int .i64 f, .int .i64 e]]) (cs := [.pointer (some ⟨b, 0, none⟩)]) (h := fun w' hw _ => hx w' hw); rfl; rfl; rintro v O' ⟨rfl, rfl⟩)) | refine walk1 ?_)
   exact rtA
  | false =>
   rw [if_neg (by decide)] at hi
   repeat (first | (apply RL_pu; rfl; exact PuI) | (refine js ?_; (apply Zar (f := 106) (us := []) (vs := [.agg #[.int .i64 s, .int .i64 f, .int .i64 e]]) (cs := [.pointer (some ⟨b, 0, none⟩)]) (h := fun w' hw _ => hx w' hw); rfl; rfl; rintro v O' ⟨rfl, rfl⟩)) | refine walk1 ?_)
   exact ⟨k + 1, OA, ⟨OA, hi⟩, SFA, SOA⟩
 ·obtain rfl : k = l.length := by simp only [decide_eq_false_iff_not, Int.ofNat_lt] at hc; omega
  rw [List.drop_length, Zdu] at hi
  subst hi
  repeat (first | refine walk ?_)
  exact rtA
theorem Zyv {G : Prop} (h : G := by (apply Zbi; rfl; rfl; exact b1)) : G := h
theorem ZfZ (A : Option Addr) (c : Nat) (l : List ZaI) (t : Int) (w : World) (hA : RdSl w A c ZaI.enc 3 l) :
  Does Tryz.prog 62 [.slice A l.length c, .int .i64 t] w (fun v O => v = .tuple #[.agg (Zey l t).1.enc.toArray, .bool (Zey l t).2] /\ O = []) := by
 have hle := hA.le
 have hcp := hA.cap
 simp only [maxLen] at hcp
 have hix := fun (b : Nat) w' (hw : Bel w.heap.size w w') hb => ZsP A c l t b w' (hA.up hw) hb
 have hrg := ZmB t l 0
 unfold Zey
 generalize Zdu t l 0 = i at *
 refine Zab Tryz.func62 rfl rfl rfl rfl ?_
 by_cases h : i < 0
 ·have b1 : decide (i < 0) = true := decide_eq_true h
  rw [if_pos h]
  repeat (first | (apply RL_pu; rfl; exact Zyv) | (refine js ?_; (first | (apply Zag (h := fun w' hw hH => hix _ w' hw (hH.cells (by repeat' constructor))); rfl; rintro v O' ⟨rfl, rfl⟩) | (refine bx ?_; intro bk))) | refine walk1 ?_)
  exact rtC
 ·have b1 : decide (i < 0) = false := decide_eq_false h
  rw [if_neg h]
  obtain ⟨x, hx⟩ : ∃ x, l[i.toNat]? = some x := ⟨_, List.getElem?_eq_getElem (by omega)⟩
  obtain ⟨hna, hca⟩ := hA.rd _ _ hx
  rw [List.getD_eq_getElem?_getD, hx, Option.getD_some]
  obtain ⟨s, f, e⟩ := x
  change Zao w _ [.int .i64 s, .int .i64 f, .int .i64 e] at hca
  repeat (first | (apply RL_pu; rfl; (first | exact Zyv | exact PuI)) | (refine js ?_; (first | (apply Zag (h := fun w' hw hH => hix _ w' hw (hH.cells (by repeat' constructor))); rfl; rintro v O' ⟨rfl, rfl⟩) | (refine bx ?_; intro bk))) | refine walk1 ?_)
  exact rtC
end Go.Proofs.YtpcpmndldgejiaaGreatDoor
namespace Go.Proofs.YtpcpmndldgejiaaGreatDoor
open Go Go.RowKit Go.Wk
attribute [local irreducible] W RL Does Zay Zam retQ Calls Pu Stp RD Qy Ay
theorem Zyp {G : Prop} (h : G := by (first | (apply Pu_indexAddr; rfl; rfl; omega; omega; (first | exact hna)) | (apply Pu_loadON; rfl; (first | exact hca); rfl))) : G := h
theorem Zfi (Ar Az Al As : Option Addr) (cr cz cl cs : Nat) (a : Zai) (set : ByteArray) (w : World) (hA : Zaj w Ar Az Al As cr cz cl cs a) (hn : a.rules.length <= 1000000) :
  Does Tryz.prog 61 [srcV Ar Az Al As cr cz cl cs a, .string set] w (Zsq 118 11 Zaa.enc (ofB a.rules set)) := by
 generalize hres : ofB a.rules set = res
 refine Zab Tryz.func61 rfl rfl rfl rfl ?_
 repeat (first | (refine js ?_; (refine bx ?_; intro bk)) | refine walk ?_)
 refine ZfG 118 11 ?_
 refine Zaq [(1, _), (2, _), (4, _), (9, _), (10, _)] [_] (fun g : AG Zaa => [(5, .slice g.A g.m g.c), (11, .int .i64 g.k)]) (fun g => [.row (.slice g.A g.m g.c) 118 11 g.m g.xs]) (fun g => g.k <= a.rules.length /\ g.m = g.acc.length /\ g.xs = g.acc.flatMap Zaa.enc /\ g.m <= g.k /\ g.acc ++ ofB (a.rules.drop g.k) set = res) (fun g => a.rules.length - g.k) ⟨0, none, 0, 0, [], []⟩ ⟨rfl, rfl, rfl, rfl, rfl, rfl, rfl, trivial⟩ (.cons (by repeat' constructor) (.refl _)) ⟨by simp, rfl, rfl, Nat.le_refl _, by simpa using hres⟩ ?_
 rintro ⟨k, A, c, m, xs, acc⟩ ⟨hk, hm, hx, hmk, hi⟩
 dsimp only at hk hm hx hmk hi ⊢
 repeat (first | (refine js ?_; (refine bx ?_; intro bk)) | refine walk ?_)
 refine Zah rfl (fun hc => ?_) (fun hc => ?_)
 ·simp only [decide_eq_true_eq, Int.ofNat_lt] at hc
  obtain ⟨hna, hca⟩ := hA.r.rd k _ (List.getElem?_eq_getElem hc)
  rw [Zat hc, ofB, List.filter_cons] at hi
  generalize a.rules[k] = r at *
  repeat (first | (apply RL_pu; rfl; exact Zyp) | (refine js ?_; (refine bx ?_; intro bk)) | refine walk1 ?_)
  refine Zah rfl (fun h3 => ?_) (fun h3 => ?_)
  ·rw [if_pos h3] at hi
   repeat (first | (apply RL_pu; rfl; exact Zyp) | (refine js ?_; (first | (apply Zau; rfl; rfl; (intro A' c'; (focus repeat' constructor)); (intro w' _ hO; exact Za4 (hO.of (by repeat' constructor))); rfl; rfl; (simp only [maxLen]; omega); omega; intro A' c' hc1 hc2 hc3) | (refine bx ?_; intro bk))) | refine walk1 ?_)
   exact ⟨⟨k + 1, A', c', m + 1, xs ++ r.enc, acc ++ [r]⟩, OA, ⟨OA, by simp [hm], by rw [hx]; exact ZgG acc r, OA, by rw [<- hi]; simp [ofB]⟩, SFA, SOA⟩
  rw [h3] at hi
  repeat (first | (refine js ?_; (refine bx ?_; intro bk)) | refine walk ?_)
  exact ⟨⟨k + 1, A, c, m, xs, acc⟩, OA, ⟨OA, hm, hx, OA, hi⟩, SFA, SOA⟩
 simp only [decide_eq_false_iff_not, Int.ofNat_lt] at hc
 rw [List.drop_eq_nil_of_le (by omega)] at hi
 simp only [ofB, List.filter_nil, List.append_nil] at hi
 subst hi
 repeat (first | (refine js ?_; (refine bx ?_; intro bk)) | refine walk ?_)
 exact ret_1 _ [.row (.slice A acc.length c) 118 11 acc.length (acc.flatMap Zaa.enc)] (.tmp rfl) (by subst hm hx; exact SOA) ⟨A, c, by rw [hm], rfl⟩
attribute [local irreducible] Zan
def KnP (rs : List Zaa) (m : List (ByteArray × Value)) : Prop := ∀ k v, mget m k = some v -> ∃ A c, v = .slice A (ofB rs k).length c
def KnAt (rs : List Zaa) (m : List (ByteArray × Value)) (w : World) : Prop := ∀ k A n c, mget m k = some (.slice A n c) -> RdSl w A c Zaa.enc 11 (ofB rs k)
def ruEr (rs : List Zaa) (e : DEra) : List Zaa := if e.kind = 2 then ofB rs e.set else []
def Zz9 (Ar Az Al As : Option Addr) (cr cz cl cs : Nat) (s : Zai) (b : Nat) : Value := .agg #[.slice Ar s.rules.length cr, .slice Az s.zones.length cz, .slice Al s.links.length cl, .slice As s.shifts.length cs, .map (some b)]
def BkR (rs : List Zaa) (b : Nat) (e : DEra) (R : List It) (v : Value) (O' : List It) : Prop :=
 ∃ A c m' S', v = .slice A (ruEr rs e).length c /\ KnP rs m' /\ O' = .mp b m' :: .fact S' (fun w => KnAt rs m' w /\ RdSl w A c Zaa.enc 11 (ruEr rs e)) :: R
theorem ZpU {P : Program} {f : FuncId} {args : List Value} {w : World} {I : List It} {R R' : Value -> List It -> Prop} (h : Zan P f args w I R) (hr : ∀ v O base w', R v O -> Zax base O w' -> ∃ O', R' v O' /\ Zax base O' w') : Zan P f args w I R' := by
 unfold Zan at h ⊢
 exact fun w' hB hH => Calls.mono (h w' hB hH) fun _ _ ⟨v, O, h1, h2, h3, h4⟩ => by
  obtain ⟨O', h5, h6⟩ := hr v O _ _ h4 h3
  exact ⟨v, O', h1, h2, h6, h5⟩
theorem Zyu {G : Prop} (h : G := by (first | (apply ZaE; rfl; rfl; exact b1) | (apply Zcb; rfl; rfl; (focus repeat' constructor); exact hv; exact hs))) : G := h
theorem Zph (Ar Az Al As : Option Addr) (cr cz cl cs : Nat) (s : Zai) (b : Nat) (m : List (ByteArray × Value)) (S : Nat -> Prop) (P : World -> Prop) (R : List It) (e : DEra) (wr : World) (hA : Zaj wr Ar Az Al As cr cz cl cs s) (hn : s.rules.length <= 1000000) (hP : KnP s.rules m) (hK : ∀ w, P w -> KnAt s.rules m w) :
  Zan Tryz.prog 104 [Zz9 Ar Az Al As cr cz cl cs s b, .agg e.enc.toArray] wr (.mp b m :: .fact S P :: R) (BkR s.rules b e R) := by
 have hof := fun w' (hw : Bel wr.heap.size wr w') => Zfi Ar Az Al As cr cz cl cs s e.set w' (hA.up hw) hn
 unfold BkR ruEr
 obtain ⟨off, kd, esv, st, fm, ⟨ui, uy, um, ⟨ud1, ud2, ud3⟩, ⟨uc1, uc2⟩⟩⟩ := e
 dsimp only at hof ⊢
 show Zan _ _ [.agg #[.slice Ar s.rules.length cr, .slice Az s.zones.length cz, .slice Al s.links.length cl, .slice As s.shifts.length cs, .map (some b)], .agg #[.int .i64 off, .int .i64 kd, .int .i64 esv, .string st, .string fm, .bool ui, .int .i64 uy, .int .i64 um, .int .i64 ud1, .int .i64 ud2, .int .i64 ud3, .int .i64 uc1, .int .i64 uc2]] wr _ _
 by_cases hk : kd = 2
 ·have b1 : (!decide (kd = 2)) = false := by rw [decide_eq_true hk]; rfl
  rw [if_pos hk]
  cases hg : mget m st with
  | some v =>
   obtain ⟨A, c, rfl⟩ := hP st v hg
   have hv : (mget m st).getD (.slice none 0 0) = .slice A (ofB s.rules st).length c := by rw [hg]; rfl
   have hs : (mget m st).isSome = true := by rw [hg]; rfl
   refine ZbH Tryz.func104 rfl rfl rfl rfl ?_
   refine ZdG [.fact S P] (.mp b m :: R) (fun w => KnAt s.rules m w /\ RdSl w A c Zaa.enc 11 (ofB s.rules st)) (.cons (.there .here) (.cons .here (.refl _))) (fun w' hi => ⟨hK _ (ZaA (hi _ List.mem_cons_self)), hK _ (ZaA (hi _ List.mem_cons_self)) st A _ c hg⟩) ?_
   repeat (first | (apply RL_pu; rfl; exact Zyu) | (refine js ?_; (refine bx ?_; intro bk)) | refine walk1 ?_)
   exact ret_1 _ _ (.tmp rfl) (.drop (.drop (.cons (.there .here) (.cons .here (.refl _))))) ⟨A, c, m, _, rfl, hP, rfl⟩
  | none =>
   have hv : (mget m st).getD (.slice none 0 0) = .slice none 0 0 := by rw [hg]; rfl
   have hs : (mget m st).isSome = false := by rw [hg]; rfl
   refine ZpU (R := fun v O => ∃ A3 c3, v = .slice A3 (ofB s.rules st).length c3 /\ O = [.fact S P, .row (.slice A3 (ofB s.rules st).length c3) 118 11 (ofB s.rules st).length ((ofB s.rules st).flatMap Zaa.enc)] ++ (.mp b (mset m st (.slice A3 (ofB s.rules st).length c3)) :: R)) ?_ ?_
   ·refine ZbH Tryz.func104 rfl rfl rfl rfl ?_
    repeat (first | (apply RL_pu; rfl; exact Zyu) | (refine js ?_; (first | (apply Zag (h := fun w' hw _ => hof w' hw); rfl; rintro v O' ⟨A3, c3, rfl, rfl⟩) | (refine bx ?_; intro bk))) | refine walk1 ?_)
    exact ret_1 _ _ (.tmp rfl) (.cons (.there (.there (.there (.there .here)))) (.cons .here (.cons (.there (.there .here)) (.drop (.drop (.refl _)))))) ⟨A3, c3, rfl, rfl⟩
   ·rintro v O base w' ⟨A3, c3, rfl, rfl⟩ hH
    have hrr : ∀ w', (∀ i ∈ [It.fact S P, .row (.slice A3 (ofB s.rules st).length c3) 118 11 (ofB s.rules st).length ((ofB s.rules st).flatMap Zaa.enc)], i.sat w') -> KnAt s.rules (mset m st (.slice A3 (ofB s.rules st).length c3)) w' /\ RdSl w' A3 c3 Zaa.enc 11 (ofB s.rules st) := by
     intro w' hi
     have h1 := hK _ (ZaA (hi _ List.mem_cons_self))
     have h2 := ZaW Zaa.len (hi _ (List.mem_cons_of_mem _ List.mem_cons_self))
     refine ⟨fun k A n c hk => ?_, h2⟩
     rw [ZeP] at hk
     by_cases hks : k = st
     ·subst hks
      rw [if_pos rfl] at hk
      cases hk
      exact h2
     ·rw [if_neg hks] at hk
      exact h1 k A n c hk
    refine ⟨_, ⟨A3, c3, mset m st (.slice A3 (ofB s.rules st).length c3), foot [It.fact S P, .row (.slice A3 (ofB s.rules st).length c3) 118 11 (ofB s.rules st).length ((ofB s.rules st).flatMap Zaa.enc)], rfl, fun k v hk => ?_, rfl⟩, (hH.fact hrr).sub (.cons (.there .here) (.cons .here (.refl _)))⟩
    rw [ZeP] at hk
    by_cases hks : k = st
    ·subst hks
     rw [if_pos rfl] at hk
     cases hk
     exact ⟨A3, c3, rfl⟩
    ·rw [if_neg hks] at hk
     exact hP k v hk
 ·have b1 : (!decide (kd = 2)) = true := by rw [decide_eq_false hk]; rfl
  rw [if_neg hk]
  refine ZbH Tryz.func104 rfl rfl rfl rfl ?_
  refine ZdG [.fact S P] (.mp b m :: R) (fun w => KnAt s.rules m w /\ RdSl w none 0 Zaa.enc 11 []) (.cons (.there .here) (.cons .here (.refl _))) (fun w' hi => ⟨hK _ (ZaA (hi _ List.mem_cons_self)), ZyT _ _ _⟩) ?_
  repeat (first | (apply RL_pu; rfl; (apply ZaE; rfl; rfl; exact b1)) | (refine js ?_; (refine bx ?_; intro bk)) | refine walk1 ?_)
  exact ret_1 _ _ (.tmp rfl) (.drop (.drop (.cons (.there .here) (.cons .here (.refl _))))) ⟨none, 0, m, _, rfl, hP, rfl⟩
end Go.Proofs.YtpcpmndldgejiaaGreatDoor
namespace Go.Wk
open Go Go.RowKit
structure SpG where
 k : Nat
 st : Int
 A : Option Addr
 c : Nat
 m : Nat
 xs : List Value
 acc : List ZaI
 mp : List (ByteArray × Value)
 S : Nat -> Prop
 P : World -> Prop
end Go.Wk
namespace Go.Proofs.YtpcpmndldgejiaaGreatDoor
open Go Go.RowKit Go.Wk
attribute [local irreducible] W RL Does Zay Zam retQ Calls Pu Stp RD Qy Ay Zan
def spGo (rs : List Zaa) : List DEra -> Int -> Nat -> Option (List ZaI)
 | [], _, _ => some []
 | [_], st, i => some [⟨st, 9223372036854775807, i⟩]
 | e :: f :: l, st, i => if endT e (ruEr rs e) <= st then none else (spGo rs (f :: l) (endT e (ruEr rs e)) (i + 1)).map fun r => ⟨st, endT e (ruEr rs e), i⟩ :: r
def ZfB (rs : List Zaa) (l : List DEra) : Option (List ZaI) := spGo rs l (-9223372036854775808) 0
def SpR (l : List ZaI) (v : Value) (O : List It) : Prop := ∃ A c, v = .tuple #[.slice A l.length c, .int .i64 0] /\ O = [.row (.slice A l.length c) 150 3 l.length (l.flatMap ZaI.enc)]
theorem ZvC {G : Prop} (h : G := by (first | (apply Zbi; rfl; rfl; exact hb0) | (apply Zcv; rfl; rfl; exact hb1) | (apply Pu_indexAddr; rfl; rfl; omega; omega; exact hnz) | (apply Pu_loadO1; rfl; exact hcz 1 _ rfl))) : G := h
theorem ZxL {G : Prop} (h : G := by first | (apply Qy_y; rfl; exact ZvC) | exact QyA) : G := h
theorem ZAy {G : Prop} (h : G := by repeat (first | exact QF.nil | (apply QF.mk; rfl; rfl; decide +kernel; exact ZxL))) : G := h
theorem ZvB {G : Prop} (h : G := by (first | exact PuI | (apply Zbi; rfl; rfl; exact q1) | (apply ZcN; rfl; rfl; exact q2))) : G := h
theorem ZxK {G : Prop} (h : G := by first | (apply Qy_y; rfl; exact ZvB) | exact QyA) : G := h
theorem ZAx {G : Prop} (h : G := by repeat (first | exact QF.nil | (apply QF.mk; rfl; rfl; decide +kernel; exact ZxK))) : G := h
theorem Zyt {G : Prop} (h : G := by (first | exact PuI | (apply Zbi; rfl; rfl; exact q1))) : G := h
set_option maxHeartbeats 4000000 in
theorem Zkl (Ar Az Al As : Option Addr) (cr cz cl cs : Nat) (a : Zai) (i : Nat) (z : ZaY) (res : List ZaI) (w : World) (hG : Glob w) (hA : Zaj w Ar Az Al As cr cz cl cs a) (hn : a.rules.length <= 1000000) (hl : z.eras.length <= 1000000) (hz : a.zones[i]? = some z)
  (hE : ∀ k e, z.eras[k]? = some e -> k + 1 < z.eras.length -> RsSm (ruEr a.rules e) /\ UnOk e (ruEr a.rules e)) (hsp : ZfB a.rules z.eras = some res) :
  Does Tryz.prog 60 [srcV Ar Az Al As cr cz cl cs a, .int .i64 i] w (SpR res) := by
 have hil : i < a.zones.length := (List.getElem?_eq_some_iff.1 hz).1
 obtain ⟨hnz, cs1, ⟨Ae, ce, hEz, rfl⟩, hcz⟩ := hA.z i _ hz
 have hcpz := hA.zcap
 simp only [maxLen] at hcpz
 have hb0 : decide ((i : Int) < 0) = false := decide_eq_false (by omega)
 have hb1 : decide ((a.zones.length : Int) <= (i : Int)) = false := decide_eq_false (by omega)
 refine Zab Tryz.func60 rfl rfl rfl rfl ?_
 repeat (first | (apply RL_pu; rfl; exact ZvC) | (apply RD_Q; rfl; rfl; decide +kernel; rfl; rfl; exact ZxL) | refine walk1 ?_ | (refine jn ?_; (try intro F); (first | (refine bx ?_; intro bk) | (refine stA ?_) | (apply Zae; first | exact ZvC | exact PuA)); first | refine ⟨_, EndsA, ZAy, ?_⟩ | refine fin ?_) | (apply RD_W; rfl; intro bk))
 rename_i bm _
 generalize bk = b6
 have hel := hEz.le
 have hec := hEz.cap
 simp only [maxLen] at hec
 refine ZfG 150 3 ?_
 refine ZdG [] [.row (.slice none 0 0) 150 3 0 [], .blk b6 [.slice Ar a.rules.length cr, .slice Az a.zones.length cz, .slice Al a.links.length cl, .slice As a.shifts.length cs, .map (some bm)] 198, .mp bm []] (fun w => KnAt a.rules [] w) SOA (fun w' _ k A n c hk => by cases hk) ?_
 refine Zaq [(6, .pointer (some ⟨b6, 0, none⟩)), (9, .slice Ae z.eras.length ce), (33, .slice Ae z.eras.length ce), (34, .int .i64 z.eras.length)] [.blk b6 [.slice Ar a.rules.length cr, .slice Az a.zones.length cz, .slice Al a.links.length cl, .slice As a.shifts.length cs, .map (some bm)] 198]
  (fun g : SpG => [(7, .slice g.A g.m g.c), (8, .int .i64 g.st), (35, .int .i64 g.k)]) (fun g => [.row (.slice g.A g.m g.c) 150 3 g.m g.xs, .mp bm g.mp, .fact g.S g.P])
  (fun g => g.k <= z.eras.length /\ g.m = g.acc.length /\ g.xs = g.acc.flatMap ZaI.enc /\ g.m = g.k /\ KnP a.rules g.mp /\ (∀ w, g.P w -> KnAt a.rules g.mp w) /\ ∃ rest, spGo a.rules (z.eras.drop g.k) g.st g.k = some rest /\ g.acc ++ rest = res) (fun g => z.eras.length - g.k)
  ⟨0, -9223372036854775808, none, 0, 0, [], [], [], foot [], KnAt a.rules []⟩ SFA SOA ⟨Nat.zero_le _, rfl, rfl, rfl, (fun k v hk => by cases hk), fun _ h => h, res, hsp, rfl⟩ ?_
 rintro ⟨k, st, A, c, m, xs, acc, mp, S, P⟩ ⟨hk, hm, hx, hmk, hP, hK, rest, hi, hacc⟩
 dsimp only at hk hm hx hmk hP hK hi hacc ⊢
 repeat (first | refine walk ?_ | (refine jn ?_; (try intro F); (first | (refine bx ?_; intro bk) | (refine stA ?_) | (apply Zae; exact PuA)); refine fin ?_) | (apply RD_W; rfl; intro bk))
 refine Zah rfl (fun hc => ?_) (fun hc => ?_)
 ·simp only [decide_eq_true_eq, Int.ofNat_lt] at hc
  obtain ⟨hna, hca⟩ := hEz.rd k _ (List.getElem?_eq_getElem hc)
  have hgk := List.getElem?_eq_getElem hc
  rw [Zat hc] at hi
  generalize z.eras[k] = e at *
  by_cases hlast : k + 1 < z.eras.length
  ·have q1 : decide ((k : Int) < (z.eras.length : Int) - 1) = true := decide_eq_true (by omega)
   obtain ⟨hsm, hun⟩ := hE k _ hgk hlast
   rw [Zat hlast, spGo] at hi
   have hin := fun (A3 : Option Addr) (c3 : Nat) w' (hw : Bel w.heap.size w w') hR => Zrl e A3 c3 (ruEr a.rules e) w' (hG.up hw) hR hsm hun
   have hru := fun R => Zph Ar Az Al As cr cz cl cs a bm mp S P R e w hA hn hP hK
   have hrl : (ruEr a.rules e).length <= 1000000 := hsm.n
   generalize endT e (ruEr a.rules e) = T at *
   by_cases hT : T <= st
   ·rw [if_pos hT] at hi
    cases hi
   rw [if_neg hT, <- Zat hlast] at hi
   have q2 : decide (T <= st) = false := decide_eq_false hT
   obtain ⟨r2, hr2, rfl⟩ := Option.map_eq_some_iff.1 hi
   unfold BkR at hru
   generalize ruEr a.rules e = rr at *
   obtain ⟨off, kd, esv, sset, fm, ⟨ui, uy, um, ⟨ud1, ud2, ud3⟩, ⟨uc1, uc2⟩⟩⟩ := e
   simp only [DEra.enc] at hca hin hru
   unfold Zz9 at hru
   repeat (first | (apply RL_pu; rfl; exact ZvB) | (apply RD_Q; rfl; rfl; decide +kernel; rfl; rfl; exact ZxK) | refine walk1 ?_ | (refine ZeB ?_; intro F; (first | (apply Zd7 (h := hru _); rfl; exact .cons (by repeat' constructor) (.cons (by repeat' constructor) (.refl _)); rintro v O' ⟨A3, c3, m3, S3, rfl, hP3, rfl⟩) | (apply Zag (h := fun w' hw hH => hin A3 c3 w' hw (ZaA (hH.of (A := .fact S3 (fun w => KnAt a.rules m3 w /\ RdSl w A3 c3 Zaa.enc 11 rr)) (by repeat' constructor))).2); rfl; rintro v O' ⟨rfl, rfl⟩)); refine ⟨_, EndsA, SubO.right _ _, ?_⟩) | (refine jn ?_; (try intro F); (first | (apply Zd7 (h := hru _); rfl; exact .cons (by repeat' constructor) (.cons (by repeat' constructor) (.refl _)); rintro v O' ⟨A3, c3, m3, S3, rfl, hP3, rfl⟩) | (apply Zag (h := fun w' hw hH => hin A3 c3 w' hw (ZaA (hH.of (A := .fact S3 (fun w => KnAt a.rules m3 w /\ RdSl w A3 c3 Zaa.enc 11 rr)) (by repeat' constructor))).2); rfl; rintro v O' ⟨rfl, rfl⟩) | (apply Zau; rfl; rfl; (intro A' c'; (focus repeat' constructor)); (intro w' _ hO; exact Za4 (hO.of (by repeat' constructor))); rfl; rfl; (simp only [maxLen]; omega); omega; intro A' c' hc1 hc2 hc3) | (refine bx ?_; intro bk) | (refine stA ?_) | (apply Zae; first | exact ZvB | exact PuA)); first | refine ⟨_, EndsA, ZAx, ?_⟩ | refine fin ?_) | (apply RD_W; rfl; intro bk))
   exact ⟨⟨k + 1, T, A', c', m + 1, xs ++ (⟨st, T, k⟩ : ZaI).enc, acc ++ [⟨st, T, k⟩], m3, S3, fun w => KnAt a.rules m3 w /\ RdSl w A3 c3 Zaa.enc 11 rr⟩, OA, ⟨OA, by simp [hm], by rw [hx]; exact ZgG acc _, OA, hP3, fun _ h => h.1, r2, hr2, by rw [<- hacc]; simp⟩, SFA, SOA⟩
  ·have q1 : decide ((k : Int) < (z.eras.length : Int) - 1) = false := decide_eq_false (by omega)
   rw [List.drop_eq_nil_of_le (by omega), spGo] at hi
   cases hi
   obtain ⟨off, kd, esv, sset, fm, ⟨ui, uy, um, ⟨ud1, ud2, ud3⟩, ⟨uc1, uc2⟩⟩⟩ := e
   simp only [DEra.enc] at hca
   repeat (first | (apply RL_pu; rfl; exact Zyt) | (apply RD_Q; rfl; rfl; decide +kernel; rfl; rfl; exact QyErC2) | refine walk1 ?_ | (refine jn ?_; (try intro F); (first | (apply Zau; rfl; rfl; (intro A' c'; (focus repeat' constructor)); (intro w' _ hO; exact Za4 (hO.of (by repeat' constructor))); rfl; rfl; (simp only [maxLen]; omega); omega; intro A' c' hc1 hc2 hc3) | (refine bx ?_; intro bk) | (refine stA ?_) | (apply Zae; first | exact Zyt | exact PuA)); first | refine ⟨_, EndsA, QFErC2, ?_⟩ | refine fin ?_) | (apply RD_W; rfl; intro bk))
   exact ⟨⟨k + 1, 9223372036854775807, A', c', m + 1, xs ++ (⟨st, 9223372036854775807, k⟩ : ZaI).enc, acc ++ [⟨st, 9223372036854775807, k⟩], mp, S, P⟩, OA, ⟨OA, by simp [hm], by rw [hx]; exact ZgG acc _, OA, hP, hK, [], by dsimp only; rw [List.drop_eq_nil_of_le (by omega)]; rfl, by rw [List.append_nil]; exact hacc⟩, SFA, SOA⟩
 ·simp only [decide_eq_false_iff_not, Int.ofNat_lt] at hc
  obtain rfl : k = z.eras.length := by omega
  rw [List.drop_length, spGo] at hi
  cases hi
  rw [List.append_nil] at hacc
  subst hacc
  repeat (first | refine walk ?_ | (refine jn ?_; (try intro F); (first | (refine bx ?_; intro bk) | (refine stA ?_) | (apply Zae; exact PuA)); refine fin ?_) | (apply RD_W; rfl; intro bk))
  exact ret_2 _ _ [.row (.slice A acc.length c) 150 3 acc.length (acc.flatMap ZaI.enc)] (.tmp rfl) (.tmp rfl) (by subst hm hx; exact SOA) ⟨A, c, by rw [hm], rfl⟩
end Go.Proofs.YtpcpmndldgejiaaGreatDoor
namespace Go.Proofs.YtpcpmndldgejiaaGreatDoor
open Go.Shelf Go.RowKit Go.Lib
def Zi6 : Ren where
 f := fun | 156 => 234 | 165 => 248 | 166 => 249 | 169 => 250 | 240 => 260 | 241 => 261 | 276 => 264 | 277 => 265 | n => n
 t := fun | 31 => 32 | 9 => 9 | 3 => 3 | 4 => 4 | 0 => 0 | 20 => 20 | 72 => 341 | 76 => 343 | 70 => 339 | 37 => 24 | 75 => 318 | 127 => 357 | 164 => 362 | 5 => 5 | 80 => 345 | n => n
 g := fun n => n
theorem ZtI : Lays.n156 Tryz.prog Zi6 where
 mixed := by kernel_rfl
 f156 := Tryz.func234.trans (congrArg some (by kernel_rfl))
 f165 := Tryz.func248.trans (congrArg some (by kernel_rfl))
 f166 := Tryz.func249.trans (congrArg some (by kernel_rfl))
 f169 := Tryz.func250.trans (congrArg some (by kernel_rfl))
 f240 := Tryz.func260.trans (congrArg some (by kernel_rfl))
 f241 := Tryz.func261.trans (congrArg some (by kernel_rfl))
 f276 := Tryz.func264.trans (congrArg some (by kernel_rfl))
 f277 := Tryz.func265.trans (congrArg some (by kernel_rfl))
 t0 := Tryz.underlying0
 a0 := Tryz.isAgg0
 z0 := Tryz.sizeOf0
 v0 := Tryz.zeroValue0
 t3 := Tryz.underlying3
 a3 := Tryz.isAgg3
 z3 := Tryz.sizeOf3
 v3 := Tryz.zeroValue3
 t4 := Tryz.underlying4
 a4 := Tryz.isAgg4
 z4 := Tryz.sizeOf4
 v4 := Tryz.zeroValue4
 t9 := Tryz.underlying9
 a9 := Tryz.isAgg9
 z9 := Tryz.sizeOf9
 v9 := Tryz.zeroValue9
 t20 := Tryz.underlying20
 a20 := Tryz.isAgg20
 z20 := Tryz.sizeOf20
 v20 := Tryz.zeroValue20
 t31 := Tryz.underlying32
 a31 := Tryz.isAgg32
 z31 := Tryz.sizeOf32
 v31 := Tryz.zeroValue32
 t37 := Tryz.underlying24
 a37 := Tryz.isAgg24
 z37 := Tryz.sizeOf24
 v37 := Tryz.zeroValue24
 t70 := Tryz.underlying339
 a70 := Tryz.isAgg339
 z70 := Tryz.sizeOf339
 v70 := Tryz.zeroValue339
 t72 := Tryz.underlying341
 a72 := Tryz.isAgg341
 z72 := Tryz.sizeOf341
 v72 := Tryz.zeroValue341
 t75 := Tryz.underlying318
 a75 := Tryz.isAgg318
 z75 := Tryz.sizeOf318
 v75 := Tryz.zeroValue318
 t76 := Tryz.underlying343
 a76 := Tryz.isAgg343
 z76 := Tryz.sizeOf343
 v76 := Tryz.zeroValue343
 t127 := Tryz.underlying357
 a127 := Tryz.isAgg357
 z127 := Tryz.sizeOf357
 v127 := Tryz.zeroValue357
 t164 := Tryz.underlying362
 a164 := Tryz.isAgg362
 z164 := Tryz.sizeOf362
 v164 := Tryz.zeroValue362
def ZoD : Ren where
 f := fun | 99 => 221 | 206 => 243 | n => n
 t := fun | 9 => 9 | 4 => 4 | 3 => 3 | n => n
 g := fun n => n
theorem ZyK : Lays.n99 Tryz.prog ZoD where
 mixed := by kernel_rfl
 f99 := Tryz.func221.trans (congrArg some (by kernel_rfl))
 f206 := Tryz.func243.trans (congrArg some (by kernel_rfl))
 t3 := Tryz.underlying3
 a3 := Tryz.isAgg3
 z3 := Tryz.sizeOf3
 v3 := Tryz.zeroValue3
 t4 := Tryz.underlying4
 a4 := Tryz.isAgg4
 z4 := Tryz.sizeOf4
 v4 := Tryz.zeroValue4
 t9 := Tryz.underlying9
 a9 := Tryz.isAgg9
 z9 := Tryz.sizeOf9
 v9 := Tryz.zeroValue9
def ZdW : Ren where
 f := fun | 14 => 220 | 16 => 241 | 17 => 242 | 19 => 253 | 20 => 254 | 21 => 255 | 22 => 256 | 23 => 257 | 24 => 258 | 25 => 262 | 27 => 31 | 26 => 263 | 28 => 69 | 29 => 109 | 30 => 151 | 31 => 152 | 32 => 153 | 33 => 154 | 35 => 187 | 34 => 193 | 36 => 194 | 37 => 195 | 38 => 196 | 39 => 215 | 40 => 216 | n => n
 t := fun | 9 => 9 | 3 => 3 | 22 => 27 | 24 => 318 | 25 => 319 | 4 => 4 | 34 => 348 | 5 => 5 | 36 => 243 | 37 => 24 | 0 => 0 | 39 => 350 | 21 => 21 | 44 => 360 | 47 => 357 | 50 => 367 | 48 => 365 | 2 => 2 | 52 => 251 | 55 => 254 | 59 => 289 | 60 => 28 | 20 => 20 | 61 => 290 | 65 => 333 | 66 => 334 | 67 => 345 | n => n
 g := fun | 0 => 10 | 1 => 11 | 2 => 3 | 3 => 5 | 4 => 6 | n => n
theorem ZzU : LaysPu.n14 Tryz.prog ZdW where
 mixed := by kernel_rfl
 f14 := Tryz.func220.trans (congrArg some (by kernel_rfl))
 f16 := Tryz.func241.trans (congrArg some (by kernel_rfl))
 f17 := Tryz.func242.trans (congrArg some (by kernel_rfl))
 f19 := Tryz.func253.trans (congrArg some (by kernel_rfl))
 f20 := Tryz.func254.trans (congrArg some (by kernel_rfl))
 f21 := Tryz.func255.trans (congrArg some (by kernel_rfl))
 f22 := Tryz.func256.trans (congrArg some (by kernel_rfl))
 f23 := Tryz.func257.trans (congrArg some (by kernel_rfl))
 f24 := Tryz.func258.trans (congrArg some (by kernel_rfl))
 f25 := Tryz.func262.trans (congrArg some (by kernel_rfl))
 f26 := Tryz.func263.trans (congrArg some (by kernel_rfl))
 f27 := Tryz.func31.trans (congrArg some (by kernel_rfl))
 f28 := Tryz.func69.trans (congrArg some (by kernel_rfl))
 f29 := Tryz.func109.trans (congrArg some (by kernel_rfl))
 f30 := Tryz.func151.trans (congrArg some (by kernel_rfl))
 f31 := Tryz.func152.trans (congrArg some (by kernel_rfl))
 f32 := Tryz.func153.trans (congrArg some (by kernel_rfl))
 f33 := Tryz.func154.trans (congrArg some (by kernel_rfl))
 f34 := Tryz.func193.trans (congrArg some (by kernel_rfl))
 f35 := Tryz.func187.trans (congrArg some (by kernel_rfl))
 f36 := Tryz.func194.trans (congrArg some (by kernel_rfl))
 f37 := Tryz.func195.trans (congrArg some (by kernel_rfl))
 f38 := Tryz.func196.trans (congrArg some (by kernel_rfl))
 f39 := Tryz.func215.trans (congrArg some (by kernel_rfl))
 f40 := Tryz.func216.trans (congrArg some (by kernel_rfl))
 t0 := Tryz.underlying0
 a0 := Tryz.isAgg0
 z0 := Tryz.sizeOf0
 v0 := Tryz.zeroValue0
 t2 := Tryz.underlying2
 a2 := Tryz.isAgg2
 z2 := Tryz.sizeOf2
 v2 := Tryz.zeroValue2
 t3 := Tryz.underlying3
 a3 := Tryz.isAgg3
 z3 := Tryz.sizeOf3
 v3 := Tryz.zeroValue3
 t4 := Tryz.underlying4
 a4 := Tryz.isAgg4
 z4 := Tryz.sizeOf4
 v4 := Tryz.zeroValue4
 t5 := Tryz.underlying5
 a5 := Tryz.isAgg5
 z5 := Tryz.sizeOf5
 v5 := Tryz.zeroValue5
 t9 := Tryz.underlying9
 a9 := Tryz.isAgg9
 z9 := Tryz.sizeOf9
 v9 := Tryz.zeroValue9
 t20 := Tryz.underlying20
 a20 := Tryz.isAgg20
 z20 := Tryz.sizeOf20
 v20 := Tryz.zeroValue20
 t21 := Tryz.underlying21
 a21 := Tryz.isAgg21
 z21 := Tryz.sizeOf21
 v21 := Tryz.zeroValue21
 t22 := Tryz.underlying27
 a22 := Tryz.isAgg27
 z22 := Tryz.sizeOf27
 v22 := Tryz.zeroValue27
 t24 := Tryz.underlying318
 a24 := Tryz.isAgg318
 z24 := Tryz.sizeOf318
 v24 := Tryz.zeroValue318
 t25 := Tryz.underlying319
 a25 := Tryz.isAgg319
 z25 := Tryz.sizeOf319
 v25 := Tryz.zeroValue319
 t34 := Tryz.underlying348
 a34 := Tryz.isAgg348
 z34 := Tryz.sizeOf348
 v34 := Tryz.zeroValue348
 t36 := Tryz.underlying243
 a36 := Tryz.isAgg243
 z36 := Tryz.sizeOf243
 v36 := Tryz.zeroValue243
 t37 := Tryz.underlying24
 a37 := Tryz.isAgg24
 z37 := Tryz.sizeOf24
 v37 := Tryz.zeroValue24
 t39 := Tryz.underlying350
 a39 := Tryz.isAgg350
 z39 := Tryz.sizeOf350
 v39 := Tryz.zeroValue350
 t44 := Tryz.underlying360
 a44 := Tryz.isAgg360
 z44 := Tryz.sizeOf360
 v44 := Tryz.zeroValue360
 t47 := Tryz.underlying357
 a47 := Tryz.isAgg357
 z47 := Tryz.sizeOf357
 v47 := Tryz.zeroValue357
 t48 := Tryz.underlying365
 a48 := Tryz.isAgg365
 z48 := Tryz.sizeOf365
 v48 := Tryz.zeroValue365
 t50 := Tryz.underlying367
 a50 := Tryz.isAgg367
 z50 := Tryz.sizeOf367
 v50 := Tryz.zeroValue367
 t52 := Tryz.underlying251
 a52 := Tryz.isAgg251
 z52 := Tryz.sizeOf251
 v52 := Tryz.zeroValue251
 t55 := Tryz.underlying254
 a55 := Tryz.isAgg254
 z55 := Tryz.sizeOf254
 v55 := Tryz.zeroValue254
 t59 := Tryz.underlying289
 a59 := Tryz.isAgg289
 z59 := Tryz.sizeOf289
 v59 := Tryz.zeroValue289
 t60 := Tryz.underlying28
 a60 := Tryz.isAgg28
 z60 := Tryz.sizeOf28
 v60 := Tryz.zeroValue28
 t61 := Tryz.underlying290
 a61 := Tryz.isAgg290
 z61 := Tryz.sizeOf290
 t65 := Tryz.underlying333
 a65 := Tryz.isAgg333
 z65 := Tryz.sizeOf333
 v65 := Tryz.zeroValue333
 t66 := Tryz.underlying334
 a66 := Tryz.isAgg334
 z66 := Tryz.sizeOf334
 v66 := Tryz.zeroValue334
 t67 := Tryz.underlying345
 a67 := Tryz.isAgg345
 z67 := Tryz.sizeOf345
 v67 := Tryz.zeroValue345
 i0 := by kernel_rfl
 i2 := by kernel_rfl
 i3 := by kernel_rfl
 i4 := by kernel_rfl
 i5 := by kernel_rfl
 i9 := by kernel_rfl
 i20 := by kernel_rfl
 i21 := by kernel_rfl
 i22 := by kernel_rfl
 i24 := by kernel_rfl
 i25 := by kernel_rfl
 i34 := by kernel_rfl
 c34 := by kernel_rfl
 i36 := by kernel_rfl
 i37 := by kernel_rfl
 i39 := by kernel_rfl
 i44 := by kernel_rfl
 i47 := by kernel_rfl
 i48 := by kernel_rfl
 i50 := by kernel_rfl
 i52 := by kernel_rfl
 i55 := by kernel_rfl
 i59 := by kernel_rfl
 i60 := by kernel_rfl
 i65 := by kernel_rfl
 i66 := by kernel_rfl
 i67 := by kernel_rfl
 g0 := by kernel_rfl
 m0 := by kernel_rfl
 g1 := by kernel_rfl
 m1 := by kernel_rfl
 g2 := by kernel_rfl
 m2 := by kernel_rfl
 g3 := by kernel_rfl
 m3 := by kernel_rfl
 g4 := by kernel_rfl
 m4 := by kernel_rfl
def ZkR : Ren where
 f := fun | 145 => 162 | 220 => 201 | 219 => 219 | 217 => 237 | 225 => 238 | 224 => 239 | 267 => 240 | 266 => 251 | 314 => 252 | n => n
 t := fun | 9 => 9 | 4 => 4 | 59 => 211 | 3 => 3 | 5 => 5 | 46 => 243 | 146 => 346 | 51 => 28 | n => n
 g := fun | 1 => 7 | n => n
theorem ZnE : LaysM.n145 Tryz.prog ZkR where
 mixed := by kernel_rfl
 f145 := Tryz.func162.trans (congrArg some (by kernel_rfl))
 f217 := Tryz.func237.trans (congrArg some (by kernel_rfl))
 f219 := Tryz.func219.trans (congrArg some (by kernel_rfl))
 f220 := Tryz.func201.trans (congrArg some (by kernel_rfl))
 f224 := Tryz.func239.trans (congrArg some (by kernel_rfl))
 f225 := Tryz.func238.trans (congrArg some (by kernel_rfl))
 f266 := Tryz.func251.trans (congrArg some (by kernel_rfl))
 f267 := Tryz.func240.trans (congrArg some (by kernel_rfl))
 f314 := Tryz.func252.trans (congrArg some (by kernel_rfl))
 t3 := Tryz.underlying3
 a3 := Tryz.isAgg3
 z3 := Tryz.sizeOf3
 v3 := Tryz.zeroValue3
 t4 := Tryz.underlying4
 a4 := Tryz.isAgg4
 z4 := Tryz.sizeOf4
 v4 := Tryz.zeroValue4
 t5 := Tryz.underlying5
 a5 := Tryz.isAgg5
 z5 := Tryz.sizeOf5
 v5 := Tryz.zeroValue5
 t9 := Tryz.underlying9
 a9 := Tryz.isAgg9
 z9 := Tryz.sizeOf9
 v9 := Tryz.zeroValue9
 t46 := Tryz.underlying243
 a46 := Tryz.isAgg243
 z46 := Tryz.sizeOf243
 v46 := Tryz.zeroValue243
 t51 := Tryz.underlying28
 a51 := Tryz.isAgg28
 z51 := Tryz.sizeOf28
 v51 := Tryz.zeroValue28
 t59 := Tryz.underlying211
 a59 := Tryz.isAgg211
 z59 := Tryz.sizeOf211
 v59 := Tryz.zeroValue211
 t146 := Tryz.underlying346
 a146 := Tryz.isAgg346
 z146 := Tryz.sizeOf346
 v146 := Tryz.zeroValue346
 g1 := by kernel_rfl
 i3 := by kernel_rfl
 i4 := by kernel_rfl
 i5 := by kernel_rfl
 i9 := by kernel_rfl
 i46 := by kernel_rfl
 i51 := by kernel_rfl
 i59 := by kernel_rfl
 i146 := by kernel_rfl
 m1 := by kernel_rfl
 s1_3 := fun w h => cell_of_shapedOpen_int (zero := #[.int .i64 0]) h (by decide) (by kernel_rfl) rfl (by kernel_rfl) (by kernel_rfl) Tryz.underlying3
def ZrP : Ren where
 f := fun | 15 => 164 | 20 => 203 | n => n
 t := fun | 9 => 9 | 23 => 264 | 3 => 3 | 4 => 4 | 0 => 0 | 21 => 21 | n => n
 g := fun n => n
theorem Zz5 : LaysGw.n15 Tryz.prog ZrP where
 mixed := by kernel_rfl
 f15 := Tryz.func164.trans (congrArg some (by kernel_rfl))
 f20 := Tryz.func203.trans (congrArg some (by kernel_rfl))
 t0 := Tryz.underlying0
 a0 := Tryz.isAgg0
 z0 := Tryz.sizeOf0
 v0 := Tryz.zeroValue0
 t3 := Tryz.underlying3
 a3 := Tryz.isAgg3
 z3 := Tryz.sizeOf3
 v3 := Tryz.zeroValue3
 t4 := Tryz.underlying4
 a4 := Tryz.isAgg4
 z4 := Tryz.sizeOf4
 v4 := Tryz.zeroValue4
 t9 := Tryz.underlying9
 a9 := Tryz.isAgg9
 z9 := Tryz.sizeOf9
 v9 := Tryz.zeroValue9
 t21 := Tryz.underlying21
 a21 := Tryz.isAgg21
 z21 := Tryz.sizeOf21
 v21 := Tryz.zeroValue21
 t23 := Tryz.underlying264
 a23 := Tryz.isAgg264
 z23 := Tryz.sizeOf264
 v23 := Tryz.zeroValue264
 i0 := by kernel_rfl
 i3 := by kernel_rfl
 i4 := by kernel_rfl
 i9 := by kernel_rfl
 i21 := by kernel_rfl
 i23 := by kernel_rfl
theorem Znc : Builder.Extra Tryz.prog Zi6 where
 sizeBuilder := by kernel_rfl
 liesBuilder := by kernel_rfl
 t5 := Tryz.underlying5
 a5 := Tryz.isAgg5
 z5 := Tryz.sizeOf5
 v5 := Tryz.zeroValue5
 infoByte := by kernel_rfl
 cellsByte := by kernel_rfl
 sizeByte := by kernel_rfl
 neB5 := by decide
end Go.Proofs.YtpcpmndldgejiaaGreatDoor
namespace Go.Wk
open Go Go.RowKit
theorem ZqJ (p : List UInt8) : ∀ (f acc : List UInt8), ZdP p f acc = if 0 <= Lib.index f p then some (acc ++ f.take (Lib.index f p).toNat, f.drop ((Lib.index f p).toNat + p.length)) else none
 | [], acc => by
  simp only [ZdP, Lib.index, List.isEmpty_iff]
  by_cases h : p = []
  ·simp [h]
  ·rw [if_neg h, if_neg h]; rfl
 | c :: l, acc => by
  by_cases h : p.isPrefixOf (c :: l) = true
  ·simp [ZdP, Lib.index, h]
  ·have e0 : Lib.index (c :: l) p = if (Lib.index l p == -1) = true then -1 else Lib.index l p + 1 := by rw [Lib.index, if_neg h]
   generalize hI : Lib.index (c :: l) p = I at *
   subst e0
   rw [ZdP, if_neg h, ZqJ p l]
   clear hI
   have hge := Lib.index_ge l p
   by_cases h2 : Lib.index l p = -1
   ·simp [h2]
   ·rw [if_pos (show 0 <= Lib.index l p by omega)]
    have hb : (Lib.index l p == -1) = false := by simpa using h2
    rw [hb]
    simp only [Bool.false_eq_true, if_false]
    rw [if_pos (show 0 <= Lib.index l p + 1 by omega)]
    have e : (Lib.index l p + 1).toNat = (Lib.index l p).toNat + 1 := by omega
    rw [e, show (Lib.index l p).toNat + 1 + p.length = ((Lib.index l p).toNat + p.length) + 1 by omega]
    simp
def cutV (f p : List UInt8) : List UInt8 × List UInt8 × Bool := match ZdP p f [] with | some (a, b) => (a, b, true) | none => (f, [], false)
theorem Zy6 (f p : List UInt8) : Lib.cut f p = cutV f p := by
 unfold Lib.cut cutV
 rw [ZqJ]
 by_cases h : 0 <= Lib.index f p
 ·rw [if_pos h, if_pos h]; rfl
 ·rw [if_neg h, if_neg h]
theorem ZnF {p f acc a b : List UInt8} (h : ZdP p f acc = some (a, b)) : a.length + b.length + p.length <= acc.length + f.length := by
 induction f generalizing acc with
 | nil =>
  simp only [ZdP] at h
  split at h
  ·rename_i hp; simp only [Option.some.injEq, Prod.mk.injEq] at h; obtain ⟨rfl, rfl⟩ := h; simp [hp]
  ·cases h
 | cons c l ih =>
  simp only [ZdP] at h
  split at h
  ·rename_i hp
   simp only [Option.some.injEq, Prod.mk.injEq] at h
   obtain ⟨rfl, rfl⟩ := h
   have := List.IsPrefix.length_le (List.isPrefixOf_iff_prefix.1 hp)
   rw [List.length_drop]
   omega
  ·have := ih h
   simp only [List.length_append, List.length_cons, List.length_nil] at this ⊢
   omega
end Go.Wk
namespace Go.Proofs.YtpcpmndldgejiaaGreatDoor
open Go Go.RowKit Go.Wk
attribute [local irreducible] W RL Does Zay Zam retQ Calls Pu Stp RD Qy Ay Zan
end Go.Proofs.YtpcpmndldgejiaaGreatDoor
namespace Go.Wk
open Go Go.RowKit
def ZdY (c : Int) : Bool := (decide (c < 65) || decide (90 < c)) && (decide (c < 97) || decide (122 < c))
end Go.Wk
namespace Go.Proofs.YtpcpmndldgejiaaGreatDoor
open Go Go.RowKit Go.Wk
attribute [local irreducible] W RL Does Zay Zam retQ Calls Pu Stp RD Qy Ay Zan
theorem Zhd (s : ByteArray) (ok : Bool) (w : World) : Does Tryz.prog 116 [.string s, .bool ok] w (fun v O => v = .tuple #[.string (if ok then s else ByteArray.empty), .int .i64 (if ok then 0 else 15)] /\ O = []) := by
 rw [show ByteArray.empty = ⟨#[]⟩ from rfl]
 refine Zab Tryz.func116 rfl rfl rfl rfl ?_
 cases ok
 ·repeat' (first | refine walk ?_ | (refine Zah rfl (fun hc => ?_) (fun hc => ?_)))
  all_goals exact clo2
 ·repeat' (first | refine walk ?_ | (refine Zah rfl (fun hc => ?_) (fun hc => ?_)))
  all_goals exact clo2
end Go.Proofs.YtpcpmndldgejiaaGreatDoor
namespace Go.Wk
open Go Go.RowKit Go.Lib
theorem Zjs {P : Program} {f : FuncId} {args : List Value} {w : World} {v : Value} (h : Calls P f args.toArray w fun e w' => e = .returned v /\ Below w.heap.size w w') : Does P f args w fun v' O => v' = v /\ O = [] :=
 h.mono fun _ _ ⟨he, hb⟩ => ⟨v, [], he, ⟨hb⟩, Zax.nil _ _, rfl, rfl⟩
theorem Zzb (B : Nat) (w : World) (n : Nat) : Below B w (w.drewN n) := ⟨rfl, rfl, rfl, Nat.le_refl _, fun _ _ => rfl⟩
theorem ZtM (s : ByteArray) : ∀ (f pos : Nat), s.size <= pos + f -> (idxFuncFrom (fun r => ZdY (r : Int)) true s f pos < 0 ↔ Zdj (s.data.toList.drop pos) = true)
 | 0, pos, h => by
  rw [List.drop_eq_nil_of_le (by simpa using h)]
  simp [idxFuncFrom, Zdj]
 | f + 1, pos, h => by
  unfold idxFuncFrom
  by_cases hp : pos < s.size
  ·rw [if_pos hp]
   have hp' : pos < s.data.toList.length := by simpa using hp
   rw [List.drop_eq_getElem_cons hp', Zdj, List.all_cons]
   have hg : s.get! pos = s.data.toList[pos] := by
    rw [Array.getElem_toList]
    show s.data[pos]! = _
    rw [getElem!_pos s.data pos (by simpa using hp')]
   have ih := ZtM s f (pos + 1) (by omega)
   unfold Zdj at ih
   have hd : (s.data.toList[pos].toNat < 128 /\ Utf8.decode s pos = (s.data.toList[pos].toNat, 1)) \/ (128 <= s.data.toList[pos].toNat /\ 128 <= (Utf8.decode s pos).1) := by
    unfold Utf8.decode
    simp only [Nat.add_zero, hg]
    generalize s.data.toList[pos].toNat = b
    by_cases hb : b < 128
    ·exact .inl ⟨hb, by rw [if_pos hb]⟩
    ·refine .inr ⟨by omega, ?_⟩
     rw [if_neg hb]
     repeat' split
     all_goals first | (simp only [Utf8.runeError]; omega) | (dsimp only; omega) | (dsimp only; simp only [Bool.and_eq_true, decide_eq_true_eq, ge_iff_le] at *; omega) | decide
   generalize s.data.toList[pos] = b at *
   rcases hd with ⟨hb, hd⟩ | ⟨hb, hd⟩
   ·rw [hd]
    dsimp only
    by_cases hl : ZdY (b.toNat : Int) = true
    ·rw [if_pos hl]
     have : decide (Zdv b.toNat = 1) = false := by
      unfold ZdY at hl
      simp only [Bool.and_eq_true, Bool.or_eq_true, decide_eq_true_eq] at hl
      unfold Zdv
      rw [if_neg (by omega)]
      repeat' split
      all_goals decide
     rw [this]
     simp
    ·rw [if_neg hl, ih]
     have : decide (Zdv b.toNat = 1) = true := by
      unfold ZdY at hl
      simp only [Bool.and_eq_true, Bool.or_eq_true, decide_eq_true_eq] at hl
      unfold Zdv
      rw [if_pos (by omega)]
      rfl
     rw [this, Bool.true_and]
   ·have hl : ZdY ((Utf8.decode s pos).1 : Int) = true := by
     unfold ZdY
     simp only [Bool.and_eq_true, Bool.or_eq_true, decide_eq_true_eq]
     omega
    rw [if_pos hl]
    have : decide (Zdv b.toNat = 1) = false := by
     unfold Zdv
     rw [if_neg (by omega)]
     repeat' split
     all_goals decide
    rw [this]
    simp
  ·rw [if_neg hp, List.drop_eq_nil_of_le (by simpa using hp)]
   simp [Zdj]
theorem ZmN : ∀ (l : List UInt8), l.length <= 2 -> (match numU l with | some n => ∃ u : Nat, parseUintB 8 l = .ok u /\ n = u /\ u <= 99 | none => parseUintB 8 l = .syntax)
 | [], _ => rfl
 | [a], _ => by
  unfold numU parseUintB
  simp only [parseUintM, List.isEmpty_cons, Bool.false_eq_true, if_false, List.all_cons, List.all_nil, Bool.and_true, List.foldl_cons, List.foldl_nil, reduceCtorEq]
  by_cases h : 48 <= a /\ a <= 57
  ·have h1 : 48 <= a.toNat /\ a.toNat <= 57 := ⟨UInt8.le_iff_toNat_le.1 h.1, UInt8.le_iff_toNat_le.1 h.2⟩
   rw [if_pos (by simp [h.1, h.2]), if_pos h1]
   dsimp only
   refine ⟨_, by rw [if_neg (by omega), if_neg (by omega)], by omega, by omega⟩
  ·have h1 : ¬ (48 <= a.toNat /\ a.toNat <= 57) := fun hh => h ⟨UInt8.le_iff_toNat_le.2 hh.1, UInt8.le_iff_toNat_le.2 hh.2⟩
   rw [if_neg (by simpa using h), if_neg h1]
 | [a, b], _ => by
  unfold numU parseUintB
  simp only [parseUintM, List.isEmpty_cons, Bool.false_eq_true, if_false, List.all_cons, List.all_nil, Bool.and_true, List.foldl_cons, List.foldl_nil, reduceCtorEq]
  by_cases h : 48 <= a /\ a <= 57
  ·have h1 : 48 <= a.toNat /\ a.toNat <= 57 := ⟨UInt8.le_iff_toNat_le.1 h.1, UInt8.le_iff_toNat_le.1 h.2⟩
   by_cases h' : 48 <= b /\ b <= 57
   ·have h2 : 48 <= b.toNat /\ b.toNat <= 57 := ⟨UInt8.le_iff_toNat_le.1 h'.1, UInt8.le_iff_toNat_le.1 h'.2⟩
    rw [if_pos (by simp [h.1, h.2, h'.1, h'.2]), if_pos h1, if_neg (by omega), if_neg (by omega), if_pos h2]
    dsimp only
    refine ⟨_, by rw [if_neg (by omega), if_neg (by omega)], by omega, by omega⟩
   ·have h2 : ¬ (48 <= b.toNat /\ b.toNat <= 57) := fun hh => h' ⟨UInt8.le_iff_toNat_le.2 hh.1, UInt8.le_iff_toNat_le.2 hh.2⟩
    rw [if_neg (by intro hh; simp only [Bool.and_eq_true, decide_eq_true_eq] at hh; exact h' hh.2), if_pos h1, if_neg (by omega), if_neg (by omega), if_neg h2]
  ·have h1 : ¬ (48 <= a.toNat /\ a.toNat <= 57) := fun hh => h ⟨UInt8.le_iff_toNat_le.2 hh.1, UInt8.le_iff_toNat_le.2 hh.2⟩
   rw [if_neg (by intro hh; simp only [Bool.and_eq_true, decide_eq_true_eq] at hh; exact h hh.1), if_neg h1]
 | _ :: _ :: _ :: _, h => by simp only [List.length_cons] at h; omega
end Go.Wk
namespace Go.Proofs.YtpcpmndldgejiaaGreatDoor
open Go Go.RowKit Go.Wk Go.Lib
structure LibW (w : World) : Prop where
 mxl : ∃ m, w.cell? ⟨ZkR.g 1, 0, none⟩ = some (.int .i64 m)
 syn : ∃ ev, w.cell? ⟨ZdW.g 0, 0, none⟩ = some ev /\ (ev = .nilIface \/ ∃ te pe, ev = .iface te pe)
theorem ZlN (s p : ByteArray) (w : World) (hL : LibW w) (hs : s.size < 4294967281) :
  Does Tryz.prog 162 [.string s, .string p] w (fun v O => v = .tuple #[.string ⟨(cutV s.data.toList p.data.toList).1.toArray⟩, .string ⟨(cutV s.data.toList p.data.toList).2.1.toArray⟩, .bool (cutV s.data.toList p.data.toList).2.2] /\ O = []) := by
 obtain ⟨m, hm⟩ := hL.mxl
 rw [<- Zy6]
 exact Zjs ((Any.strings_Cut { ZnE with } s p m w hs hm).mono fun e w' ⟨he, n, hw⟩ => ⟨he, hw ▸ Zzb _ _ _⟩)
theorem Zs9 (s p : ByteArray) (w : World) : Does Tryz.prog 221 [.string s, .string p] w (fun v O => v = .bool (p.data.toList.isPrefixOf s.data.toList) /\ O = []) :=
 Zjs ((Any.strings_HasPrefix ZyK s p w).mono fun e w' ⟨he, hw⟩ => ⟨he, hw ▸ Below.refl _ _⟩)
theorem Zur (c : Int) (w : World) : Calls Tryz.prog 165 #[.int .i32 c] w fun e w' => e = .returned (.bool (ZdY c)) /\ ∃ q, w' = w.drewN q := by
 go_enter Tryz.func165, Tryz.ntmps165
 go_wp2
 all_goals go_ret
 all_goals refine ⟨congrArg Ending.returned (congrArg Value.bool (?_ : _ = ZdY c)), 0, rfl⟩
 all_goals unfold ZdY
 all_goals first | rfl | (simp [*]; done) | (simp_all; done) | (simp_all; omega)
theorem Zwr (s : ByteArray) (w : World) : Does Tryz.prog 164 [.string s, .func (.func 165) #[] #[]] w (fun v O => v = .int .i64 (idxFunc (fun r => ZdY (r : Int)) true s) /\ O = []) :=
 Zjs (Any.strings_IndexFunc_runes Zz5 165 #[] (enters_of Tryz.func165 (by kernel_rfl) rfl) (fun r => ZdY (r : Int)) s w (fun W x _ _ => by unfold FnGives; simpa using Zur x W))
theorem Zv8 (s : ByteArray) (w : World) (hL : LibW w) (hs : s.size <= 2) :
  Does Tryz.prog 220 [.string s, .int .i64 10, .int .i64 8] w (fun v O => (match numU s.data.toList with | some n => v = .tuple #[.int .u64 n, .nilIface] /\ 0 <= n /\ n <= 99 | none => ∃ t p, v = .tuple #[.int .u64 0, .iface t (.pointer p)]) /\ O = []) := by
 have h := ZmN s.data.toList (by simpa using hs)
 cases hn : numU s.data.toList with
 | none =>
  rw [hn] at h
  obtain ⟨ev, h1, h2⟩ := hL.syn
  exact (Any.strconv_ParseUint_10_at8_syntax ZzU s (by omega) h ev w h1 h2).mono fun e w' ⟨N, he, _, _, hb⟩ => ⟨_, [], he, ⟨hb⟩, Zax.nil _ _, ⟨_, _, rfl⟩, rfl⟩
 | some n =>
  rw [hn] at h
  obtain ⟨u, h1, rfl, h3⟩ := h
  exact (Any.strconv_ParseUint_10_at8_ok ZzU s (by omega) u h1 w).mono fun e w' ⟨he, hb⟩ => ⟨_, [], he, ⟨by rcases hb with rfl | rfl; exact Below.refl _ _; exact Go.Joins.below_bytesWorld _ _ _ _ (Nat.le_refl _)⟩, Zax.nil _ _, ⟨rfl, by omega, by omega⟩, rfl⟩
end Go.Proofs.YtpcpmndldgejiaaGreatDoor
