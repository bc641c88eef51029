/- Parts of the proof. -/
import Derived.Test.YtbjomhdhkpgbaaaGreatDoorY09
import Derived.Shelf.Lay
import Derived.Shelf.Strings.OnBuilder
import Derived.Shelf.Strings.Prefix
import Derived.Shelf.Strings.Shaped
import Derived.Shelf.Strings.Cut
import Derived.Shelf.Pu.ParseUintPublic10
import Derived.Shelf.GgClosure.StringsRunes
import Derived.Test.YtbjomhdhkpgbaaaGreatDoorY05
import Derived.Lib.CutLaws
import Derived.Test.YtbjomhdhkpgbaaaGreatDoorY06
import Derived.Test.YtbjomhdhkpgbaaaGreatDoorY08
set_option maxHeartbeats 4000000
set_option linter.unusedVariables false
set_option linter.unusedSimpArgs false
namespace Go.Proofs.YtbjomhdhkpgbaaaGreatDoor
open Go Go.RowKit Go.Wk
attribute [local irreducible] W RL Does Zap Zak retQ Calls Pu Stp RD Qy Ay Zal
structure ChG (α : Type) where
 k : Nat
 m : List α
def ChI {α : Type} (l : List α) (g : α -> α) (k : Nat) (m : List α) : Prop := k <= l.length /\ m.length = l.length /\ (∀ j, j < k -> m[j]? = (l[j]?).map g) /\ ∀ j, k <= j -> m[j]? = l[j]?
theorem ChI.zero {α : Type} (l : List α) (g : α -> α) : ChI l g 0 l := ⟨Nat.zero_le _, rfl, fun j h => absurd h (Nat.not_lt_zero j), fun _ _ => rfl⟩
theorem ChI.step {α : Type} {l : List α} {g : α -> α} {k : Nat} {m : List α} (h : ChI l g k m) {x : α} (hx : l[k]? = some x) : ChI l g (k + 1) (m.set k (g x)) := by
 have hk := (List.getElem?_eq_some_iff.1 hx).1
 obtain ⟨h1, h2, h3, h4⟩ := h
 refine ⟨hk, by rw [List.length_set]; exact h2, fun j hj => ?_, fun j hj => ?_⟩
 ·by_cases hjk : j = k
  ·subst hjk
   rw [List.getElem?_set_self (by omega), hx]
   rfl
  ·rw [List.getElem?_set_ne (fun e => hjk e.symm)]
   exact h3 j (by omega)
 ·rw [List.getElem?_set_ne (by omega)]
  exact h4 j (by omega)
theorem ChI.done {α : Type} {l : List α} {g : α -> α} {m : List α} (h : ChI l g l.length m) : m = l.map g := by
 obtain ⟨_, h2, h3, _⟩ := h
 refine List.ext_getElem? fun j => ?_
 rw [List.getElem?_map]
 by_cases hj : j < l.length
 ·exact h3 j hj
 ·rw [List.getElem?_eq_none (by omega), List.getElem?_eq_none (by omega)]
  rfl
set_option maxHeartbeats 4000000 in
theorem Zlj (A : Option Addr) (c : Nat) (l : List DRule) (f : FuncId) [Body Tryz.prog f] (us cs : List Value) (g : DRule -> DRule) (w : World) (hA : RdSl w A c DRule.enc 11 l) (hn : l.length <= 1000000)
  (hf : ∀ r ∈ l, ∀ w', Bel w.heap.size w w' -> Does Tryz.prog f (us ++ [.agg (DRule.enc r).toArray] ++ cs) w' (fun v O => v = .agg (DRule.enc (g r)).toArray /\ O = [])) :
  Does Tryz.prog 222 [.slice A l.length c, .func (.func f) us.toArray cs.toArray] w (ZhD 56 11 DRule.enc (l.map g)) := by
 have hcl := fun w' (hw : Bel w.heap.size w w') => Zcs A c l w' (hA.up hw) hn
 refine Zaa Tryz.func222 rfl rfl rfl rfl ?_
 repeat (first | (refine js ?_; (first | (apply Zac (h := fun w' hw _ => hcl w' hw); rfl; rintro v O' ⟨A2, c2, rfl, rfl⟩) | (refine bx ?_; intro bk))) | refine walk ?_)
 refine Zaq [(1, .func (.func f) us.toArray cs.toArray), (5, .slice A2 l.length c2), (10, .slice A2 l.length c2), (11, .int .i64 l.length)] [] (fun h : ChG DRule => [(12, .int .i64 h.k)]) (fun h => [.row (.slice A2 l.length c2) 56 11 l.length (h.m.flatMap DRule.enc)]) (fun h => ChI l g h.k h.m) (fun h => l.length - h.k) ⟨0, l⟩ SFA SOA (ChI.zero l g) ?_
 rintro ⟨k, m⟩ hI
 dsimp only at hI ⊢
 obtain ⟨i1, i2, i3, i4⟩ := id hI
 repeat (first | (refine js ?_; (refine bx ?_; intro bk)) | refine walk ?_)
 refine Zah rfl (fun hc => ?_) (fun hc => ?_)
 ·have hkl : k < l.length := by
   have := of_decide_eq_true hc
   omega
  obtain ⟨x, hx⟩ : ∃ x, l[k]? = some x := ⟨_, List.getElem?_eq_getElem hkl⟩
  have hmk : m[k]? = some x := (i4 k (Nat.le_refl _)).trans hx
  have hfx := fun w' hw => hf x (List.mem_of_getElem? hx) w' hw
  have hst := hI.step hx
  have hlay : lay (m.flatMap DRule.enc) ((k : Int).toNat * 11) (DRule.enc (g x)) = (m.set k (g x)).flatMap DRule.enc := by
   have := ZdR DRule.len 0 (DRule.enc (g x)) (by rw [DRule.len]; decide) x (g x) rfl m k hmk
   rw [show (k : Int).toNat * 11 = k * 11 + 0 by simp]
   exact this
  have hget : ∀ (j : Nat) (v : Value), (DRule.enc x)[j]? = some v -> (m.flatMap DRule.enc)[(k : Int).toNat * 11 + j]? = some v := fun j v hj => by
   have := ZaF DRule.len m k x j v hmk hj
   simpa using this
  have hml : (m.flatMap DRule.enc).length = l.length * 11 := by rw [ZaE DRule.len, i2]
  generalize g x = y at *
  obtain ⟨a1, a2, a3, a4, ⟨a5, a6, a7⟩, ⟨a8, a9⟩, a10, a11⟩ := x
  repeat (first | (apply RL_pu; rfl; (first | (apply Zav; rfl; rfl; omega; omega; (intro w' _ hO; exact Za6 (hO.of (A := .row (.slice A2 l.length c2) _ _ _ _) (by repeat' constructor)) (by omega))) | (apply Za2 (vs := [.string a1, .int .i64 a2, .int .i64 a3, .int .i64 a4, .int .i64 a5, .int .i64 a6, .int .i64 a7, .int .i64 a8, .int .i64 a9, .int .i64 a10, .string a11]); rfl; (focus repeat' constructor); exact hget; rfl))) | (refine js ?_; (first | (refine ZdT (fun w' hw _ => hfx w' hw) ?_) | (apply Zc5 (vs := DRule.enc y); rfl; rfl; (focus repeat' constructor); rfl; rfl; (obtain ⟨z1, z2, z3, z4, ⟨z5, z6, z7⟩, ⟨z8, z9⟩, z10, z11⟩ := y; rfl); (rw [hml]; omega); decide; exact hlay) | (refine bx ?_; intro bk))) | refine walk1 ?_)
  exact ⟨⟨k + 1, m.set k y⟩, by dsimp only; omega, hst, SFA, SOA⟩
 ·obtain rfl : k = l.length := by
   have := of_decide_eq_false hc
   omega
  obtain rfl := hI.done
  repeat (first | (refine js ?_; (refine bx ?_; intro bk)) | refine walk ?_)
  exact ret_1 _ [.row (.slice A2 l.length c2) 56 11 l.length ((l.map g).flatMap DRule.enc)] (.tmp rfl) SOA ⟨A2, c2, by rw [List.length_map], by rw [List.length_map]⟩
set_option maxHeartbeats 4000000 in
theorem Zlk (A : Option Addr) (c : Nat) (l : List DEra) (f : FuncId) [Body Tryz.prog f] (us cs : List Value) (g : DEra -> DEra) (w : World) (hA : RdSl w A c DEra.enc 13 l) (hn : l.length <= 1000000)
  (hf : ∀ r ∈ l, ∀ w', Bel w.heap.size w w' -> Does Tryz.prog f (us ++ [.agg (DEra.enc r).toArray] ++ cs) w' (fun v O => v = .agg (DEra.enc (g r)).toArray /\ O = [])) :
  Does Tryz.prog 263 [.slice A l.length c, .func (.func f) us.toArray cs.toArray] w (ZhD 54 13 DEra.enc (l.map g)) := by
 have hcl := fun w' (hw : Bel w.heap.size w w') => Zct A c l w' (hA.up hw) hn
 refine Zaa Tryz.func263 rfl rfl rfl rfl ?_
 repeat (first | (refine js ?_; (first | (apply Zac (h := fun w' hw _ => hcl w' hw); rfl; rintro v O' ⟨A2, c2, rfl, rfl⟩) | (refine bx ?_; intro bk))) | refine walk ?_)
 refine Zaq [(1, .func (.func f) us.toArray cs.toArray), (5, .slice A2 l.length c2), (10, .slice A2 l.length c2), (11, .int .i64 l.length)] [] (fun h : ChG DEra => [(12, .int .i64 h.k)]) (fun h => [.row (.slice A2 l.length c2) 54 13 l.length (h.m.flatMap DEra.enc)]) (fun h => ChI l g h.k h.m) (fun h => l.length - h.k) ⟨0, l⟩ SFA SOA (ChI.zero l g) ?_
 rintro ⟨k, m⟩ hI
 dsimp only at hI ⊢
 obtain ⟨i1, i2, i3, i4⟩ := id hI
 repeat (first | (refine js ?_; (refine bx ?_; intro bk)) | refine walk ?_)
 refine Zah rfl (fun hc => ?_) (fun hc => ?_)
 ·have hkl : k < l.length := by
   have := of_decide_eq_true hc
   omega
  obtain ⟨x, hx⟩ : ∃ x, l[k]? = some x := ⟨_, List.getElem?_eq_getElem hkl⟩
  have hmk : m[k]? = some x := (i4 k (Nat.le_refl _)).trans hx
  have hfx := fun w' hw => hf x (List.mem_of_getElem? hx) w' hw
  have hst := hI.step hx
  have hlay : lay (m.flatMap DEra.enc) ((k : Int).toNat * 13) (DEra.enc (g x)) = (m.set k (g x)).flatMap DEra.enc := by
   have := ZdR DEra.len 0 (DEra.enc (g x)) (by rw [DEra.len]; decide) x (g x) rfl m k hmk
   rw [show (k : Int).toNat * 13 = k * 13 + 0 by simp]
   exact this
  have hget : ∀ (j : Nat) (v : Value), (DEra.enc x)[j]? = some v -> (m.flatMap DEra.enc)[(k : Int).toNat * 13 + j]? = some v := fun j v hj => by
   have := ZaF DEra.len m k x j v hmk hj
   simpa using this
  have hml : (m.flatMap DEra.enc).length = l.length * 13 := by rw [ZaE DEra.len, i2]
  generalize g x = y at *
  obtain ⟨a1, a2, a3, a4, a5, ⟨a6, a7, a8, ⟨a9, a10, a11⟩, ⟨a12, a13⟩⟩⟩ := x
  repeat (first | (apply RL_pu; rfl; (first | (apply Zav; rfl; rfl; omega; omega; (intro w' _ hO; exact Za6 (hO.of (A := .row (.slice A2 l.length c2) _ _ _ _) (by repeat' constructor)) (by omega))) | (apply Za2 (vs := [.int .i64 a1, .int .i64 a2, .int .i64 a3, .string a4, .string a5, .bool a6, .int .i64 a7, .int .i64 a8, .int .i64 a9, .int .i64 a10, .int .i64 a11, .int .i64 a12, .int .i64 a13]); rfl; (focus repeat' constructor); exact hget; rfl))) | (refine js ?_; (first | (refine ZdT (fun w' hw _ => hfx w' hw) ?_) | (apply Zc5 (vs := DEra.enc y); rfl; rfl; (focus repeat' constructor); rfl; rfl; (obtain ⟨z1, z2, z3, z4, z5, ⟨z6, z7, z8, ⟨z9, z10, z11⟩, ⟨z12, z13⟩⟩⟩ := y; rfl); (rw [hml]; omega); decide; exact hlay) | (refine bx ?_; intro bk))) | refine walk1 ?_)
  exact ⟨⟨k + 1, m.set k y⟩, by dsimp only; omega, hst, SFA, SOA⟩
 ·obtain rfl : k = l.length := by
   have := of_decide_eq_false hc
   omega
  obtain rfl := hI.done
  repeat (first | (refine js ?_; (refine bx ?_; intro bk)) | refine walk ?_)
  exact ret_1 _ [.row (.slice A2 l.length c2) 54 13 l.length ((l.map g).flatMap DEra.enc)] (.tmp rfl) SOA ⟨A2, c2, by rw [List.length_map], by rw [List.length_map]⟩
theorem ZhS {P : Program} {n : Nat} {wr : World} {fr : Fr} {O : List It} {ty t t' : TypeId} {x y : Operand} {a b : ByteArray} {q : Bool} (hx : ev fr x = some (.string a)) (hy : ev fr y = some (.string b)) (hq : (!decide (a = b)) = q) : Pu P n wr fr O (.binOp .neq t x y t') ty (.bool q) := hq ▸ Pu_neqS hx hy
theorem Zq3 {G : Prop} (h : G := by (first | (apply Pu_loadO1; rfl; exact h1 0 _ rfl) | (apply Pu_loadO1; rfl; exact h2 0 _ rfl) | (apply ZaG; rfl; rfl; exact e1) | (apply ZhS; rfl; rfl; exact e2))) : G := h
theorem ZrW (e : DEra) (set : ByteArray) (x : Int) (b1 b2 : Nat) (w : World) (he : eraM e = true) (hx : -1000000000 <= x /\ x <= 1000000000) (h1 : Zam w ⟨b1, 0, none⟩ [.string set]) (h2 : Zam w ⟨b2, 0, none⟩ [.int .i64 x]) :
  Does Tryz.prog 259 [.agg e.enc.toArray, .pointer (some ⟨b1, 0, none⟩), .pointer (some ⟨b2, 0, none⟩)] w (fun v O => v = .agg (shE set x e).enc.toArray /\ O = []) := by
 unfold eraM at he
 simp only [Bool.and_eq_true, ZbL] at he
 obtain ⟨ho, _, hc, _⟩ := he
 have hmv := fun w' => ZjX e.til.at_ x w' hc hx
 by_cases hi : ZeT set e
 ·have hE : shE set x e = { e with off := e.off - x, til := shU e.til x } := if_pos hi
  rw [hE]
  obtain ⟨hk, hs⟩ := hi
  unfold shU
  clear hE
  obtain ⟨off, kd, sv, st, fm, ⟨is, yr, mo, ⟨dk, dw, dd⟩, ⟨cs, cb⟩⟩⟩ := e
  dsimp only at ho hc hmv hk hs ⊢
  generalize mvC ⟨cs, cb⟩ x = m at *
  obtain ⟨ms, mb⟩ := m
  simp only [DClock.enc] at hmv
  show Does _ _ [.agg #[.int .i64 off, .int .i64 kd, .int .i64 sv, .string st, .string fm, .bool is, .int .i64 yr, .int .i64 mo, .int .i64 dk, .int .i64 dw, .int .i64 dd, .int .i64 cs, .int .i64 cb], _, _] w _
  have e1 : (!decide (kd = 2)) = false := by rw [decide_eq_true hk]; rfl
  have e2 : (!decide (st = set)) = false := by rw [decide_eq_true hs]; rfl
  cases is with
  | true =>
   rw [if_pos rfl]
   refine Zaa Tryz.func259 rfl rfl rfl rfl ?_
   repeat (first | refine und ?_ | (apply RL_pu; rfl; exact Zq3) | (refine js ?_; (first | (refine Zad (fun w' _ => hmv w') ?_) | (refine bx ?_; intro bk))) | refine walk1 ?_)
   exact ret_1 _ [] (.cellB rfl (by repeat' constructor) rfl rfl) .nil ⟨rfl, rfl⟩
  | false =>
   rw [if_neg (by decide)]
   refine Zaa Tryz.func259 rfl rfl rfl rfl ?_
   repeat (first | refine und ?_ | (apply RL_pu; rfl; exact Zq3) | (refine js ?_; (first | (refine Zad (fun w' _ => hmv w') ?_) | (refine bx ?_; intro bk))) | refine walk1 ?_)
   exact ret_1 _ [] (.cellB rfl (by repeat' constructor) rfl rfl) .nil ⟨rfl, rfl⟩
 ·have hE : shE set x e = e := if_neg hi
  rw [hE]
  unfold ZeT at hi
  clear hE hmv
  obtain ⟨off, kd, sv, st, fm, ⟨is, yr, mo, ⟨dk, dw, dd⟩, ⟨cs, cb⟩⟩⟩ := e
  dsimp only at ho hc hi ⊢
  show Does _ _ [.agg #[.int .i64 off, .int .i64 kd, .int .i64 sv, .string st, .string fm, .bool is, .int .i64 yr, .int .i64 mo, .int .i64 dk, .int .i64 dw, .int .i64 dd, .int .i64 cs, .int .i64 cb], _, _] w _
  by_cases hk : kd = 2
  ·have e1 : (!decide (kd = 2)) = false := by rw [decide_eq_true hk]; rfl
   have e2 : (!decide (st = set)) = true := by rw [decide_eq_false (fun h => hi ⟨hk, h⟩)]; rfl
   refine Zaa Tryz.func259 rfl rfl rfl rfl ?_
   repeat (first | refine und ?_ | (apply RL_pu; rfl; exact Zq3) | (refine js ?_; (refine bx ?_; intro bk)) | refine walk1 ?_)
   exact ret_1 _ [] (.cellB rfl (by repeat' constructor) rfl rfl) .nil ⟨rfl, rfl⟩
  ·have e1 : (!decide (kd = 2)) = true := by rw [decide_eq_false hk]; rfl
   refine Zaa Tryz.func259 rfl rfl rfl rfl ?_
   repeat (first | refine und ?_ | (apply RL_pu; rfl; exact Zq3) | (refine js ?_; (refine bx ?_; intro bk)) | refine walk1 ?_)
   exact ret_1 _ [] (.cellB rfl (by repeat' constructor) rfl rfl) .nil ⟨rfl, rfl⟩
def erFn (b1 b2 : Nat) : Value := .func (.func 259) #[] #[.pointer (some ⟨b1, 0, none⟩), .pointer (some ⟨b2, 0, none⟩)]
def ZoR (z : ZaX) (v : Value) (O : List It) : Prop := ∃ A c, v = .agg #[.string z.name, .slice A z.eras.length c] /\ O = [Zau ⟨z, A, c⟩]
theorem Zvp {G : Prop} (h : G := by (apply Pu_loadO1; rfl; exact h3 0 _ rfl)) : G := h
theorem Zyc {G : Prop} (h : G := by first | (apply Qy_y; rfl; exact Zvp) | exact QyA) : G := h
theorem Zyh {G : Prop} (h : G := by repeat (first | exact QF.nil | (apply QF.mk; rfl; rfl; decide +kernel; exact Zyc))) : G := h
theorem ZrV (q : ZE) (set : ByteArray) (x : Int) (b1 b2 b3 : Nat) (w : World) (hq : RdSl w q.A q.c DEra.enc 13 q.z.eras) (hl : q.z.eras.length <= 1000000) (he : ∀ e ∈ q.z.eras, eraM e = true) (hx : -1000000000 <= x /\ x <= 1000000000) (h1 : Zam w ⟨b1, 0, none⟩ [.string set]) (h2 : Zam w ⟨b2, 0, none⟩ [.int .i64 x]) (h3 : Zam w ⟨b3, 0, none⟩ [erFn b1 b2]) :
  Does Tryz.prog 262 [.agg q.enc.toArray, .pointer (some ⟨b3, 0, none⟩)] w (ZoR (Za5 (shE set x) q.z)) := by
 have hch := fun w' (hw : Bel w.heap.size w w') => Zlk q.A q.c q.z.eras 259 [] [.pointer (some ⟨b1, 0, none⟩), .pointer (some ⟨b2, 0, none⟩)] (shE set x) w' (hq.up hw) hl fun e hm w2 h2' => ZrW e set x b1 b2 w2 (he e hm) hx ((h1.up hw (Nat.le_refl _)).up h2' (Nat.le_refl _)) ((h2.up hw (Nat.le_refl _)).up h2' (Nat.le_refl _))
 obtain ⟨⟨nm, es⟩, A, c⟩ := q
 unfold erFn at h3
 dsimp only at hq hl he hch ⊢
 show Does _ _ [.agg #[.string nm, .slice A es.length c], _] w _
 refine Zaa Tryz.func262 rfl rfl rfl rfl ?_
 repeat (first | (apply RL_pu; rfl; exact Zvp) | (apply RD_Q; rfl; rfl; decide +kernel; rfl; rfl; exact Zyc) | refine walk1 ?_ | (refine jg ?_; (try intro F); (first | (apply Zac (h := fun w' hw _ => hch w' hw); rfl; rintro v O' ⟨A2, c2, rfl, rfl⟩) | (refine bx ?_; intro bk) | (refine stA ?_)); first | refine ⟨_, EndsA, Zyh, ?_⟩ | refine fin ?_) | (refine jn ?_; (try intro F); (first | (refine bx ?_; intro bk) | (refine stA ?_) | (apply Zag; first | exact Zvp | exact PuA)); first | refine ⟨_, EndsA, Zyh, ?_⟩ | refine fin ?_) | (apply RD_W; rfl; intro bk))
 exact ret_1 _ [.row (.slice A2 (es.map (shE set x)).length c2) 54 13 (es.map (shE set x)).length ((es.map (shE set x)).flatMap DEra.enc)] (.cellB rfl (by repeat' constructor) rfl rfl) SOA ⟨A2, c2, rfl, rfl⟩
structure CzG where
 k : Nat
 Zr : List ZE
def ZAO (zs : List ZaX) (v : Value) (O : List It) : Prop := ∃ A c Zs, v = .slice A zs.length c /\ Zs.map ZE.z = zs /\ O = rowZ A c Zs :: Zs.map Zau
set_option maxHeartbeats 4000000 in
theorem Zli (Az : Option Addr) (cz : Nat) (Zo : List ZE) (f : FuncId) [Body Tryz.prog f] (us cs : List Value) (g : ZaX -> ZaX) (w : World) (hZr : RdSl w Az cz ZE.enc 2 Zo) (hnz : Zo.length <= 1000000)
  (hf : ∀ q ∈ Zo, ∀ w', Bel w.heap.size w w' -> Does Tryz.prog f (us ++ [.agg (ZE.enc q).toArray] ++ cs) w' (ZoR (g q.z))) :
  Does Tryz.prog 261 [.slice Az Zo.length cz, .func (.func f) us.toArray cs.toArray] w (ZAO (Zo.map fun q => g q.z)) := by
 refine Zaa Tryz.func261 rfl rfl rfl rfl ?_
 repeat (first | (refine js ?_; (first | (apply Zac (h := fun w' hw _ => Zi7 Az cz Zo w' (hZr.up hw) hnz); rfl; rintro v O' ⟨A2, c2, rfl, rfl, hA2⟩) | (refine bx ?_; intro bk))) | refine walk ?_)
 refine ZfC (fun g : CzG => [(12, .int .i64 g.k), (1, _), (5, _), (10, _), (11, _)]) (fun g => .row (.slice A2 Zo.length c2) 46 2 Zo.length ((g.Zr.reverse ++ Zo.drop g.k).flatMap ZE.enc) :: g.Zr.map Zau)
  (fun h => h.k <= Zo.length /\ h.Zr.length = h.k /\ h.Zr.reverse.map ZE.z = (Zo.take h.k).map fun q => g q.z) (fun g => Zo.length - g.k) ⟨0, []⟩ SFA STA ⟨by simp, rfl, by simp⟩ ?_
 rintro ⟨k, Zr⟩ ⟨hk, hZl, hZz⟩
 dsimp only at hk hZl hZz ⊢
 rw [<- List.length_reverse] at hZl
 obtain ⟨Zs, hZs⟩ : ∃ Zs, Zr.reverse = Zs := ⟨_, rfl⟩
 rw [hZs] at hZl hZz
 rw [hZs]
 generalize hT : Zr.map Zau = T
 repeat (first | (refine js ?_; (refine bx ?_; intro bk)) | refine walk ?_)
 refine Zah rfl (fun hc => ?_) (fun hc => ?_)
 ·simp only [decide_eq_true_eq, Int.ofNat_lt] at hc
  have hAn := hA2 (by omega)
  have hfx := fun w' hw => hf _ (List.getElem_mem hc) w' hw
  have hget : (Zs ++ Zo.drop k)[k]? = some Zo[k] := by rw [List.getElem?_append_right (by omega), hZl, Nat.sub_self, List.getElem?_drop, Nat.add_zero, List.getElem?_eq_getElem hc]
  have hset : ∀ q : ZE, (Zs ++ Zo.drop k).set k q = (Zs ++ [q]) ++ Zo.drop (k + 1) := fun q => by
   rw [List.set_append_right _ _ (by omega), hZl, Nat.sub_self, Zan hc, List.set_cons_zero]
   simp
  have htk : (Zo.take (k + 1)).map (fun q => g q.z) = (Zo.take k).map (fun q => g q.z) ++ [g Zo[k].z] := by rw [<- List.take_append_getElem hc, List.map_append]; rfl
  have hLl : (Zs ++ Zo.drop k).length = Zo.length := by rw [List.length_append, List.length_drop]; omega
  generalize Zo[k] = z at *
  have hx1 : ∀ (j : Nat) (v : Value), (ZE.enc z)[j]? = some v -> ((Zs ++ Zo.drop k).flatMap ZE.enc)[((k : Int)).toNat * 2 + j]? = some v := fun j v hj => by
   have := ZaF ZE.len _ k z j v hget hj
   simpa using this
  generalize g z.z = y at *
  have hlay : ∀ (A' : Option Addr) (c' : Nat), lay ((Zs ++ Zo.drop k).flatMap ZE.enc) ((k : Int).toNat * 2) [.string y.name, .slice A' y.eras.length c'] = ((Zs ++ [(⟨y, A', c'⟩ : ZE)]) ++ Zo.drop (k + 1)).flatMap ZE.enc := fun A' c' => by
   have := ZdR ZE.len 0 [.string y.name, .slice A' y.eras.length c'] (Nat.le_refl 2) z ⟨y, A', c'⟩ rfl _ k hget
   rw [show (k : Int).toNat * 2 = k * 2 + 0 by simp, this, hset]
  obtain ⟨⟨zn, zes⟩, zA, zc⟩ := z
  repeat (first | (apply RL_pu; rfl; (first | (apply Pu_indexAddr; rfl; rfl; omega; omega; exact hAn) | (apply Za2 (vs := [.string zn, .slice zA zes.length zc]); rfl; (focus repeat' constructor); exact hx1; rfl))) | (refine js ?_; (first | (apply Zar (h := fun w' hw _ => hfx w' hw); rfl; rfl; rintro v O' ⟨A3, c3, rfl, rfl⟩) | (apply Zc5 (vs := [.string y.name, .slice A3 y.eras.length c3]); rfl; rfl; (focus repeat' constructor); rfl; rfl; rfl; (rw [ZaE ZE.len, hLl]; omega); decide; exact hlay A3 c3) | (refine bx ?_; intro bk))) | refine walk1 ?_)
  subst hT
  have hrev : (⟨y, A3, c3⟩ :: Zr : List ZE).reverse = Zs ++ [⟨y, A3, c3⟩] := by rw [List.reverse_cons, hZs]
  exact ⟨⟨k + 1, ⟨y, A3, c3⟩ :: Zr⟩, OA, ⟨OA, by rw [<- List.length_reverse, hrev]; simp [hZl], by rw [hrev, List.map_append, hZz]; exact htk.symm⟩, SFA, by rw [hrev]; exact STA⟩
 simp only [decide_eq_false_iff_not, Int.ofNat_lt] at hc
 have hkl : k = Zo.length := by omega
 subst hkl
 rw [List.drop_length, List.append_nil]
 rw [List.take_length] at hZz
 subst hT
 refine ZqR _ (SubO.permT (l := [_]) (.refl _) ((List.reverse_perm Zr).symm.map Zau)) ?_
 rw [hZs]
 rw [<- hZl]
 repeat (first | (refine js ?_; (refine bx ?_; intro bk)) | refine walk ?_)
 have hl : Zs.length = (Zo.map fun q => g q.z).length := by rw [<- hZz, List.length_map]
 exact ret_1 _ (rowZ A2 c2 Zs :: Zs.map Zau) (.tmp rfl) STA ⟨A2, c2, Zs, by rw [<- hl], hZz, rfl⟩
def ZAP (zs : List ZaX) (v : Value) (O : List It) : Prop := ∃ A c Zs S, v = .slice A zs.length c /\ Zs.map ZE.z = zs /\ O = [.row (.slice A zs.length c) 46 2 zs.length (Zs.flatMap ZE.enc), .fact S (Zax Zs)]
theorem ZwD {zs : List ZaX} {v : Value} {O : List It} (h : ZAO zs v O) : ∃ O', ZAP zs v O' /\ ∀ base w', Zat base O w' -> Zat base O' w' := by
 obtain ⟨A, c, Zs, rfl, hz, rfl⟩ := h
 have hl : zs.length = Zs.length := by rw [<- hz, List.length_map]
 refine ⟨_, ⟨A, c, Zs, foot (Zs.map Zau), rfl, hz, rfl⟩, fun base w' hH => ?_⟩
 rw [hl]
 have h1 : Zat base (Zs.map Zau ++ [rowZ A c Zs]) w' := hH.perm (List.perm_append_comm (l₁ := [rowZ A c Zs]))
 have h2 := h1.fact (p := Zax Zs) (fun w2 hi q hq => Za4 DEra.len (hi (Zau q) (List.mem_map.2 ⟨q, hq, rfl⟩)))
 exact h2.perm (List.Perm.swap _ _ _)
instance zfnR : ZeroT Tryz.prog 125 [.nilFunc] := ⟨by kernel_rfl⟩
instance zfnE : ZeroT Tryz.prog 343 [.nilFunc] := ⟨by kernel_rfl⟩
def Zwk (b : Nat) : Value := .func (.func 220) #[] #[.pointer (some ⟨b, 0, none⟩)]
theorem Znz {G : Prop} (h : G := by (first | (apply Pu_loadO1; rfl; exact h1 0 _ rfl) | (apply Pu_loadO1; rfl; exact h2 0 _ rfl))) : G := h
theorem ZuW {G : Prop} (h : G := by first | (apply Qy_y; rfl; exact Znz) | exact QyA) : G := h
theorem ZqY {G : Prop} (h : G := by repeat (first | exact QF.nil | (apply QF.mk; rfl; rfl; decide +kernel; exact ZuW))) : G := h
theorem Zs7 (r : DRule) (set : ByteArray) (x : Int) (bo bv bs : Nat) (w : World) (hr : rulM r = true) (hx : -1000000000 <= x /\ x <= 1000000000) (h1 : Zam w ⟨bo, 0, none⟩ [Zwk bs]) (h2 : Zam w ⟨bv, 0, none⟩ [.int .i64 x]) (h3 : Zam w ⟨bs, 0, none⟩ [.string set]) :
  Does Tryz.prog 223 [.agg r.enc.toArray, .pointer (some ⟨bo, 0, none⟩), .pointer (some ⟨bv, 0, none⟩)] w (fun v O => v = .agg (shN set x r).enc.toArray /\ O = []) := by
 have hof := fun w' (hw : Bel w.heap.size w w') => Zmb r set bs w' (h3.up hw (Nat.le_refl _))
 have hr1 := fun b w' hb => Zrr r x b w' hr hx hb
 unfold Zwk at h1
 unfold shN
 generalize shR x r = y at *
 obtain ⟨nm, fr, to, mo, ⟨dk, dw, dd⟩, ⟨cs, cb⟩, sv, le⟩ := r
 dsimp only at hof ⊢
 obtain ⟨yn, yf, yt, ym, ⟨yk, yw, yd⟩, ⟨ys, yb⟩, yv, yl⟩ := y
 simp only [DRule.enc] at hof hr1
 show Does _ _ [.agg #[.string nm, .int .i64 fr, .int .i64 to, .int .i64 mo, .int .i64 dk, .int .i64 dw, .int .i64 dd, .int .i64 cs, .int .i64 cb, .int .i64 sv, .string le], _, _] w _
 by_cases hn : nm = set
 ·have e1 : decide (nm = set) = true := decide_eq_true hn
  rw [e1] at hof
  rw [if_pos hn]
  refine Zaa Tryz.func223 rfl rfl rfl rfl ?_
  repeat (first | (apply RL_pu; rfl; exact Znz) | (apply RD_Q; rfl; rfl; decide +kernel; rfl; rfl; exact ZuW) | refine walk1 ?_ | (refine jg ?_; (try intro F); (first | (apply Zar (f := 220) (us := []) (cs := [.pointer (some ⟨bs, 0, none⟩)]) (vs := [.agg #[.string nm, .int .i64 fr, .int .i64 to, .int .i64 mo, .int .i64 dk, .int .i64 dw, .int .i64 dd, .int .i64 cs, .int .i64 cb, .int .i64 sv, .string le]]) (h := fun w' hw _ => hof w' hw); rfl; rfl; rintro v O' ⟨rfl, rfl⟩) | (apply Zac (h := fun w' _ _ => Zn1 x w'); rfl; rintro v O' ⟨b, rfl, rfl⟩) | (apply Zar (f := 264) (us := []) (cs := [.pointer (some ⟨b, 0, none⟩)]) (vs := [.agg #[.string nm, .int .i64 fr, .int .i64 to, .int .i64 mo, .int .i64 dk, .int .i64 dw, .int .i64 dd, .int .i64 cs, .int .i64 cb, .int .i64 sv, .string le]]) (h := fun w' _ hO => hr1 b w' (hO.cells (by repeat' constructor))); rfl; rfl; rintro v O' ⟨rfl, rfl⟩) | (refine bx ?_; intro bk) | (refine stA ?_)); first | refine ⟨_, EndsA, ZqY, ?_⟩ | refine fin ?_) | (refine jn ?_; (try intro F); (first | (refine bx ?_; intro bk) | (refine stA ?_) | (apply Zag; first | exact Znz | exact PuA)); first | refine ⟨_, EndsA, ZqY, ?_⟩ | refine fin ?_) | (apply RD_W; rfl; intro bk))
  exact ret_1 _ [] (.cellB rfl (by repeat' constructor) rfl rfl) .nil ⟨rfl, rfl⟩
 ·have e1 : decide (nm = set) = false := decide_eq_false hn
  rw [e1] at hof
  rw [if_neg hn]
  refine Zaa Tryz.func223 rfl rfl rfl rfl ?_
  repeat (first | (apply RL_pu; rfl; exact Znz) | (apply RD_Q; rfl; rfl; decide +kernel; rfl; rfl; exact ZuW) | refine walk1 ?_ | (refine jg ?_; (try intro F); (first | (apply Zar (f := 220) (us := []) (cs := [.pointer (some ⟨bs, 0, none⟩)]) (vs := [.agg #[.string nm, .int .i64 fr, .int .i64 to, .int .i64 mo, .int .i64 dk, .int .i64 dw, .int .i64 dd, .int .i64 cs, .int .i64 cb, .int .i64 sv, .string le]]) (h := fun w' hw _ => hof w' hw); rfl; rfl; rintro v O' ⟨rfl, rfl⟩) | (refine bx ?_; intro bk) | (refine stA ?_)); first | refine ⟨_, EndsA, ZqY, ?_⟩ | refine fin ?_) | (refine jn ?_; (try intro F); (first | (refine bx ?_; intro bk) | (refine stA ?_) | (apply Zag; first | exact Znz | exact PuA)); first | refine ⟨_, EndsA, ZqY, ?_⟩ | refine fin ?_) | (apply RD_W; rfl; intro bk))
  exact ret_1 _ [] (.cellB rfl (by repeat' constructor) rfl rfl) .nil ⟨rfl, rfl⟩
set_option maxHeartbeats 4000000 in
theorem Zn2 (Ar Az Al As : Option Addr) (cr cz cl cs : Nat) (a : Zab) (set : ByteArray) (x : Int) (w : World) (hA : Zaj w Ar Az Al As cr cz cl cs a) (hn : Fits a) (hm : srcM a = true) (hx : -1000000000 <= x /\ x <= 1000000000) :
  Does Tryz.prog 221 [srcV Ar Az Al As cr cz cl cs a, .string set, .int .i64 x] w (ZgD ⟨a.rules, a.zones.map (Za5 (shE set x)), a.links, a.shifts⟩) := by
 obtain ⟨hnr, hnz, hnl, hns, hne⟩ := hn
 obtain ⟨Zo, hZo, hZr, hZe⟩ := ZxN hA
 have hzl : a.zones.length = Zo.length := by rw [<- hZo, List.length_map]
 unfold srcM at hm
 rw [Bool.and_eq_true, List.all_eq_true, List.all_eq_true] at hm
 have hcz : ∀ (b1 b2 b3 : Nat) (w' : World), Bel w.heap.size w w' -> Zam w' ⟨b1, 0, none⟩ [.string set] -> Zam w' ⟨b2, 0, none⟩ [.int .i64 x] -> Zam w' ⟨b3, 0, none⟩ [erFn b1 b2] ->
   Does Tryz.prog 261 [.slice Az Zo.length cz, .func (.func 262) #[] #[.pointer (some ⟨b3, 0, none⟩)]] w' (ZAP (Zo.map fun q => Za5 (shE set x) q.z)) := fun b1 b2 b3 w' hw q1 q2 q3 =>
  (Zli Az cz Zo 262 [] [.pointer (some ⟨b3, 0, none⟩)] (Za5 (shE set x)) w' (hZr.up hw) (by omega) fun q hq w2 h2 => by
   have hqz : q.z ∈ a.zones := by rw [<- hZo]; exact List.mem_map.2 ⟨q, hq, rfl⟩
   exact ZrV q set x b1 b2 b3 w2 (((hZe q hq).up hw).up h2) (hne _ hqz) (fun e he => by
    have := hm.2 _ hqz
    rw [List.all_eq_true] at this
    exact this e he) hx (q1.up h2 (Nat.le_refl _)) (q2.up h2 (Nat.le_refl _)) (q3.up h2 (Nat.le_refl _))).monoO fun _ _ h => ZwD h
 have hmz : (Zo.map fun q => Za5 (shE set x) q.z) = a.zones.map (Za5 (shE set x)) := by rw [<- hZo, List.map_map]; rfl
 refine Zaa Tryz.func221 rfl rfl rfl rfl ?_
 unfold srcV
 rw [hzl]
 repeat (first | refine walk ?_ | (refine jg ?_; (try intro F); (first | (apply Zac (h := fun w' hw _ => Zcs Ar cr a.rules w' (hA.r.up hw) hnr); rfl; rintro v O' ⟨A3, c3, rfl, rfl⟩) | (apply Zac (h := fun w' hw _ => Zed Al cl a.links w' (hA.l.up hw) hnl); rfl; rintro v O' ⟨A4, c4, rfl, rfl⟩) | (apply Zac (h := fun w' hw _ => Zcr As cs a.shifts w' (hA.s.up hw) hns); rfl; rintro v O' ⟨A5, c5, rfl, rfl⟩) | (apply Zac (h := fun w' hw hO => hcz _ _ _ w' hw (hO.cells (by repeat' constructor)) (hO.cells (by repeat' constructor)) (hO.cells (by repeat' constructor))); rfl; rintro v O' ⟨A2, c2, Zs, S, rfl, hZs, rfl⟩) | (refine bx ?_; intro bk) | (refine stA ?_)); refine fin ?_) | (refine jn ?_; (try intro F); (first | (refine bx ?_; intro bk) | (refine stA ?_) | (apply Zag; exact PuA)); refine fin ?_) | (apply RD_W; rfl; intro bk))
 have hl : (Zo.map fun q => Za5 (shE set x) q.z).length = Zs.length := by rw [<- hZs, List.length_map]
 have hl2 : (a.zones.map (Za5 (shE set x))).length = Zs.length := by rw [<- hmz, hl]
 rw [hl]
 exact ret_1 _ [rowR A3 c3 a.rules, rowZ A2 c2 Zs, rowL A4 c4 a.links, rowS A5 c5 a.shifts, .fact S (Zax Zs)] (.cellB rfl (by repeat' constructor) rfl rfl) SOA ⟨A3, c3, A2, c2, A4, c4, A5, c5, Zs, S, by rw [srcV, hl2]; rfl, hZs.trans hmz, rfl⟩
set_option maxHeartbeats 4000000 in
theorem Zrl (Ar Az Al As : Option Addr) (cr cz cl cs : Nat) (a : Zab) (set : ByteArray) (x : Int) (w : World) (hA : Zaj w Ar Az Al As cr cz cl cs a) (hn : Fits a) (hg : rngB a set x = true) :
  Does Tryz.prog 185 [srcV Ar Az Al As cr cz cl cs a, .string set, .int .i64 x] w (fun v O => ∃ u, v = .tuple #[u, .int .i64 0] /\ ZgD (shiftS set x a) u O) := by
 unfold rngB at hg
 rw [Bool.and_eq_true, Bool.and_eq_true, ZbL] at hg
 obtain ⟨hh, hm, hx⟩ := hg
 have hnr := hn.1
 have her := fun w' (hw : Bel w.heap.size w w') => Zn2 Ar Az Al As cr cz cl cs a set x w' (hA.up hw) hn hm hx
 have hco := fun (b : Nat) w' (hw : Bel w.heap.size w w') (hb : Zam w' ⟨b, 0, none⟩ [.string set]) => Zdm Ar cr a.rules 220 [] [.pointer (some ⟨b, 0, none⟩)] (fun r => decide (r.name = set)) w' (hA.r.up hw) fun r w2 h2 => Zmb r set b w2 (hb.up h2 (Nat.le_refl _))
 unfold hasN at hh
 rw [hh] at hco
 have hrm : ∀ r ∈ a.rules, rulM r = true := by
  unfold srcM at hm
  rw [Bool.and_eq_true, List.all_eq_true] at hm
  exact hm.1
 have hch := fun (bo bv bs : Nat) A3 c3 w' (_ : Bel w.heap.size w w') (q1 : Zam w' ⟨bo, 0, none⟩ [Zwk bs]) (q2 : Zam w' ⟨bv, 0, none⟩ [.int .i64 x]) (q3 : Zam w' ⟨bs, 0, none⟩ [.string set]) (hr : RdSl w' A3 c3 DRule.enc 11 a.rules) => Zlj A3 c3 a.rules 223 [] [.pointer (some ⟨bo, 0, none⟩), .pointer (some ⟨bv, 0, none⟩)] (shN set x) w' hr hnr fun r hm w2 h2 => Zs7 r set x bo bv bs w2 (hrm r hm) hx (q1.up h2 (Nat.le_refl _)) (q2.up h2 (Nat.le_refl _)) (q3.up h2 (Nat.le_refl _))
 unfold Zwk at hch
 refine Zaa Tryz.func185 rfl rfl rfl rfl ?_
 repeat (first | (refine js ?_; (first | (refine ZaW (fun w' hw hO => hco _ w' hw (hO.cells (by repeat' constructor))) ?_) | (apply Zac (h := fun w' hw _ => her w' hw); rfl; rintro v O' ⟨A3, c3, A2, c2, A4, c4, A5, c5, Zs, S, rfl, hZs, rfl⟩) | (apply Zac (h := fun w' hw hO => hch _ _ _ A3 c3 w' hw (hO.cells (by repeat' constructor)) (hO.cells (by repeat' constructor)) (hO.cells (by repeat' constructor)) (Za4 DRule.len (hO.of (A := rowR A3 c3 a.rules) (by repeat' constructor)))); rfl; rintro v O' ⟨A6, c6, rfl, rfl⟩) | (refine bx ?_; intro bk))) | refine walk ?_)
 have hZs2 : Zs.map ZE.z = a.zones.map (Za5 (shE set x)) := hZs
 have hl2 : (a.zones.map (Za5 (shE set x))).length = Zs.length := by rw [<- hZs2, List.length_map]
 have hz2 : rowZ A2 c2 Zs = .row (.slice A2 (a.zones.map (Za5 (shE set x))).length c2) 46 2 (a.zones.map (Za5 (shE set x))).length (Zs.flatMap ZE.enc) := by rw [hl2]
 exact ret_2 _ _ [rowR A6 c6 (a.rules.map (shN set x)), rowZ A2 c2 Zs, rowL A4 c4 a.links, rowS A5 c5 a.shifts, .fact S (Zax Zs)] (.cellB rfl (by repeat' constructor) rfl rfl) (.tmp rfl) SOA ⟨_, rfl, A6, c6, A2, c2, A4, c4, A5, c5, Zs, S, rfl, hZs, rfl⟩
end Go.Proofs.YtbjomhdhkpgbaaaGreatDoor
namespace Go.Proofs.YtbjomhdhkpgbaaaGreatDoor
open Go.Shelf Go.RowKit Go.Lib
def ZiA : Ren where
 f := fun | 156 => 246 | 165 => 274 | 166 => 275 | 169 => 276 | 240 => 281 | 241 => 282 | 276 => 284 | 277 => 285 | n => n
 t := fun | 31 => 30 | 9 => 9 | 3 => 3 | 4 => 4 | 0 => 0 | 20 => 20 | 72 => 354 | 76 => 356 | 70 => 352 | 37 => 24 | 75 => 271 | 127 => 369 | 164 => 374 | 5 => 5 | 80 => 358 | n => n
 g := fun n => n
theorem ZtT : Lays.n156 Tryz.prog ZiA where
 mixed := by kernel_rfl
 f156 := Tryz.func246.trans (congrArg some (by kernel_rfl))
 f165 := Tryz.func274.trans (congrArg some (by kernel_rfl))
 f166 := Tryz.func275.trans (congrArg some (by kernel_rfl))
 f169 := Tryz.func276.trans (congrArg some (by kernel_rfl))
 f240 := Tryz.func281.trans (congrArg some (by kernel_rfl))
 f241 := Tryz.func282.trans (congrArg some (by kernel_rfl))
 f276 := Tryz.func284.trans (congrArg some (by kernel_rfl))
 f277 := Tryz.func285.trans (congrArg some (by kernel_rfl))
 t0 := Tryz.underlying0
 a0 := Tryz.isAgg0
 z0 := Tryz.sizeOf0
 v0 := Tryz.zeroValue0
 t3 := Tryz.underlying3
 a3 := Tryz.isAgg3
 z3 := Tryz.sizeOf3
 v3 := Tryz.zeroValue3
 t4 := Tryz.underlying4
 a4 := Tryz.isAgg4
 z4 := Tryz.sizeOf4
 v4 := Tryz.zeroValue4
 t9 := Tryz.underlying9
 a9 := Tryz.isAgg9
 z9 := Tryz.sizeOf9
 v9 := Tryz.zeroValue9
 t20 := Tryz.underlying20
 a20 := Tryz.isAgg20
 z20 := Tryz.sizeOf20
 v20 := Tryz.zeroValue20
 t31 := Tryz.underlying30
 a31 := Tryz.isAgg30
 z31 := Tryz.sizeOf30
 v31 := Tryz.zeroValue30
 t37 := Tryz.underlying24
 a37 := Tryz.isAgg24
 z37 := Tryz.sizeOf24
 v37 := Tryz.zeroValue24
 t70 := Tryz.underlying352
 a70 := Tryz.isAgg352
 z70 := Tryz.sizeOf352
 v70 := Tryz.zeroValue352
 t72 := Tryz.underlying354
 a72 := Tryz.isAgg354
 z72 := Tryz.sizeOf354
 v72 := Tryz.zeroValue354
 t75 := Tryz.underlying271
 a75 := Tryz.isAgg271
 z75 := Tryz.sizeOf271
 v75 := Tryz.zeroValue271
 t76 := Tryz.underlying356
 a76 := Tryz.isAgg356
 z76 := Tryz.sizeOf356
 v76 := Tryz.zeroValue356
 t127 := Tryz.underlying369
 a127 := Tryz.isAgg369
 z127 := Tryz.sizeOf369
 v127 := Tryz.zeroValue369
 t164 := Tryz.underlying374
 a164 := Tryz.isAgg374
 z164 := Tryz.sizeOf374
 v164 := Tryz.zeroValue374
def Zoa : Ren where
 f := fun | 99 => 184 | 206 => 219 | n => n
 t := fun | 9 => 9 | 4 => 4 | 3 => 3 | n => n
 g := fun n => n
theorem ZyX : Lays.n99 Tryz.prog Zoa where
 mixed := by kernel_rfl
 f99 := Tryz.func184.trans (congrArg some (by kernel_rfl))
 f206 := Tryz.func219.trans (congrArg some (by kernel_rfl))
 t3 := Tryz.underlying3
 a3 := Tryz.isAgg3
 z3 := Tryz.sizeOf3
 v3 := Tryz.zeroValue3
 t4 := Tryz.underlying4
 a4 := Tryz.isAgg4
 z4 := Tryz.sizeOf4
 v4 := Tryz.zeroValue4
 t9 := Tryz.underlying9
 a9 := Tryz.isAgg9
 z9 := Tryz.sizeOf9
 v9 := Tryz.zeroValue9
def Zf7 : Ren where
 f := fun | 14 => 183 | 16 => 217 | 17 => 218 | 19 => 253 | 20 => 254 | 21 => 255 | 22 => 256 | 23 => 257 | 24 => 258 | 25 => 277 | 27 => 25 | 26 => 278 | 28 => 47 | 29 => 83 | 30 => 118 | 31 => 119 | 32 => 120 | 33 => 121 | 35 => 158 | 34 => 163 | 36 => 164 | 37 => 165 | 38 => 166 | 39 => 198 | 40 => 199 | n => n
 t := fun | 9 => 9 | 3 => 3 | 22 => 71 | 24 => 271 | 25 => 272 | 4 => 4 | 34 => 337 | 5 => 5 | 36 => 186 | 37 => 24 | 0 => 0 | 39 => 339 | 21 => 21 | 44 => 360 | 47 => 369 | 50 => 372 | 48 => 370 | 2 => 2 | 52 => 199 | 55 => 202 | 59 => 252 | 60 => 244 | 20 => 20 | 61 => 253 | 65 => 319 | 66 => 320 | 67 => 358 | n => n
 g := fun | 0 => 9 | 1 => 10 | 2 => 3 | 3 => 6 | 4 => 7 | n => n
theorem ZAi : LaysPu.n14 Tryz.prog Zf7 where
 mixed := by kernel_rfl
 f14 := Tryz.func183.trans (congrArg some (by kernel_rfl))
 f16 := Tryz.func217.trans (congrArg some (by kernel_rfl))
 f17 := Tryz.func218.trans (congrArg some (by kernel_rfl))
 f19 := Tryz.func253.trans (congrArg some (by kernel_rfl))
 f20 := Tryz.func254.trans (congrArg some (by kernel_rfl))
 f21 := Tryz.func255.trans (congrArg some (by kernel_rfl))
 f22 := Tryz.func256.trans (congrArg some (by kernel_rfl))
 f23 := Tryz.func257.trans (congrArg some (by kernel_rfl))
 f24 := Tryz.func258.trans (congrArg some (by kernel_rfl))
 f25 := Tryz.func277.trans (congrArg some (by kernel_rfl))
 f26 := Tryz.func278.trans (congrArg some (by kernel_rfl))
 f27 := Tryz.func25.trans (congrArg some (by kernel_rfl))
 f28 := Tryz.func47.trans (congrArg some (by kernel_rfl))
 f29 := Tryz.func83.trans (congrArg some (by kernel_rfl))
 f30 := Tryz.func118.trans (congrArg some (by kernel_rfl))
 f31 := Tryz.func119.trans (congrArg some (by kernel_rfl))
 f32 := Tryz.func120.trans (congrArg some (by kernel_rfl))
 f33 := Tryz.func121.trans (congrArg some (by kernel_rfl))
 f34 := Tryz.func163.trans (congrArg some (by kernel_rfl))
 f35 := Tryz.func158.trans (congrArg some (by kernel_rfl))
 f36 := Tryz.func164.trans (congrArg some (by kernel_rfl))
 f37 := Tryz.func165.trans (congrArg some (by kernel_rfl))
 f38 := Tryz.func166.trans (congrArg some (by kernel_rfl))
 f39 := Tryz.func198.trans (congrArg some (by kernel_rfl))
 f40 := Tryz.func199.trans (congrArg some (by kernel_rfl))
 t0 := Tryz.underlying0
 a0 := Tryz.isAgg0
 z0 := Tryz.sizeOf0
 v0 := Tryz.zeroValue0
 t2 := Tryz.underlying2
 a2 := Tryz.isAgg2
 z2 := Tryz.sizeOf2
 v2 := Tryz.zeroValue2
 t3 := Tryz.underlying3
 a3 := Tryz.isAgg3
 z3 := Tryz.sizeOf3
 v3 := Tryz.zeroValue3
 t4 := Tryz.underlying4
 a4 := Tryz.isAgg4
 z4 := Tryz.sizeOf4
 v4 := Tryz.zeroValue4
 t5 := Tryz.underlying5
 a5 := Tryz.isAgg5
 z5 := Tryz.sizeOf5
 v5 := Tryz.zeroValue5
 t9 := Tryz.underlying9
 a9 := Tryz.isAgg9
 z9 := Tryz.sizeOf9
 v9 := Tryz.zeroValue9
 t20 := Tryz.underlying20
 a20 := Tryz.isAgg20
 z20 := Tryz.sizeOf20
 v20 := Tryz.zeroValue20
 t21 := Tryz.underlying21
 a21 := Tryz.isAgg21
 z21 := Tryz.sizeOf21
 v21 := Tryz.zeroValue21
 t22 := Tryz.underlying71
 a22 := Tryz.isAgg71
 z22 := Tryz.sizeOf71
 v22 := Tryz.zeroValue71
 t24 := Tryz.underlying271
 a24 := Tryz.isAgg271
 z24 := Tryz.sizeOf271
 v24 := Tryz.zeroValue271
 t25 := Tryz.underlying272
 a25 := Tryz.isAgg272
 z25 := Tryz.sizeOf272
 v25 := Tryz.zeroValue272
 t34 := Tryz.underlying337
 a34 := Tryz.isAgg337
 z34 := Tryz.sizeOf337
 v34 := Tryz.zeroValue337
 t36 := Tryz.underlying186
 a36 := Tryz.isAgg186
 z36 := Tryz.sizeOf186
 v36 := Tryz.zeroValue186
 t37 := Tryz.underlying24
 a37 := Tryz.isAgg24
 z37 := Tryz.sizeOf24
 v37 := Tryz.zeroValue24
 t39 := Tryz.underlying339
 a39 := Tryz.isAgg339
 z39 := Tryz.sizeOf339
 v39 := Tryz.zeroValue339
 t44 := Tryz.underlying360
 a44 := Tryz.isAgg360
 z44 := Tryz.sizeOf360
 v44 := Tryz.zeroValue360
 t47 := Tryz.underlying369
 a47 := Tryz.isAgg369
 z47 := Tryz.sizeOf369
 v47 := Tryz.zeroValue369
 t48 := Tryz.underlying370
 a48 := Tryz.isAgg370
 z48 := Tryz.sizeOf370
 v48 := Tryz.zeroValue370
 t50 := Tryz.underlying372
 a50 := Tryz.isAgg372
 z50 := Tryz.sizeOf372
 v50 := Tryz.zeroValue372
 t52 := Tryz.underlying199
 a52 := Tryz.isAgg199
 z52 := Tryz.sizeOf199
 v52 := Tryz.zeroValue199
 t55 := Tryz.underlying202
 a55 := Tryz.isAgg202
 z55 := Tryz.sizeOf202
 v55 := Tryz.zeroValue202
 t59 := Tryz.underlying252
 a59 := Tryz.isAgg252
 z59 := Tryz.sizeOf252
 v59 := Tryz.zeroValue252
 t60 := Tryz.underlying244
 a60 := Tryz.isAgg244
 z60 := Tryz.sizeOf244
 v60 := Tryz.zeroValue244
 t61 := Tryz.underlying253
 a61 := Tryz.isAgg253
 z61 := Tryz.sizeOf253
 t65 := Tryz.underlying319
 a65 := Tryz.isAgg319
 z65 := Tryz.sizeOf319
 v65 := Tryz.zeroValue319
 t66 := Tryz.underlying320
 a66 := Tryz.isAgg320
 z66 := Tryz.sizeOf320
 v66 := Tryz.zeroValue320
 t67 := Tryz.underlying358
 a67 := Tryz.isAgg358
 z67 := Tryz.sizeOf358
 v67 := Tryz.zeroValue358
 i0 := by kernel_rfl
 i2 := by kernel_rfl
 i3 := by kernel_rfl
 i4 := by kernel_rfl
 i5 := by kernel_rfl
 i9 := by kernel_rfl
 i20 := by kernel_rfl
 i21 := by kernel_rfl
 i22 := by kernel_rfl
 i24 := by kernel_rfl
 i25 := by kernel_rfl
 i34 := by kernel_rfl
 c34 := by kernel_rfl
 i36 := by kernel_rfl
 i37 := by kernel_rfl
 i39 := by kernel_rfl
 i44 := by kernel_rfl
 i47 := by kernel_rfl
 i48 := by kernel_rfl
 i50 := by kernel_rfl
 i52 := by kernel_rfl
 i55 := by kernel_rfl
 i59 := by kernel_rfl
 i60 := by kernel_rfl
 i65 := by kernel_rfl
 i66 := by kernel_rfl
 i67 := by kernel_rfl
 g0 := by kernel_rfl
 m0 := by kernel_rfl
 g1 := by kernel_rfl
 m1 := by kernel_rfl
 g2 := by kernel_rfl
 m2 := by kernel_rfl
 g3 := by kernel_rfl
 m3 := by kernel_rfl
 g4 := by kernel_rfl
 m4 := by kernel_rfl
def Zkf : Ren where
 f := fun | 145 => 98 | 220 => 140 | 219 => 181 | 217 => 213 | 225 => 214 | 224 => 215 | 267 => 216 | 266 => 251 | 314 => 252 | n => n
 t := fun | 9 => 9 | 4 => 4 | 59 => 180 | 3 => 3 | 5 => 5 | 46 => 186 | 146 => 335 | 51 => 244 | n => n
 g := fun | 1 => 5 | n => n
theorem Zul : LaysM.n145 Tryz.prog Zkf where
 mixed := by kernel_rfl
 f145 := Tryz.func98.trans (congrArg some (by kernel_rfl))
 f217 := Tryz.func213.trans (congrArg some (by kernel_rfl))
 f219 := Tryz.func181.trans (congrArg some (by kernel_rfl))
 f220 := Tryz.func140.trans (congrArg some (by kernel_rfl))
 f224 := Tryz.func215.trans (congrArg some (by kernel_rfl))
 f225 := Tryz.func214.trans (congrArg some (by kernel_rfl))
 f266 := Tryz.func251.trans (congrArg some (by kernel_rfl))
 f267 := Tryz.func216.trans (congrArg some (by kernel_rfl))
 f314 := Tryz.func252.trans (congrArg some (by kernel_rfl))
 t3 := Tryz.underlying3
 a3 := Tryz.isAgg3
 z3 := Tryz.sizeOf3
 v3 := Tryz.zeroValue3
 t4 := Tryz.underlying4
 a4 := Tryz.isAgg4
 z4 := Tryz.sizeOf4
 v4 := Tryz.zeroValue4
 t5 := Tryz.underlying5
 a5 := Tryz.isAgg5
 z5 := Tryz.sizeOf5
 v5 := Tryz.zeroValue5
 t9 := Tryz.underlying9
 a9 := Tryz.isAgg9
 z9 := Tryz.sizeOf9
 v9 := Tryz.zeroValue9
 t46 := Tryz.underlying186
 a46 := Tryz.isAgg186
 z46 := Tryz.sizeOf186
 v46 := Tryz.zeroValue186
 t51 := Tryz.underlying244
 a51 := Tryz.isAgg244
 z51 := Tryz.sizeOf244
 v51 := Tryz.zeroValue244
 t59 := Tryz.underlying180
 a59 := Tryz.isAgg180
 z59 := Tryz.sizeOf180
 v59 := Tryz.zeroValue180
 t146 := Tryz.underlying335
 a146 := Tryz.isAgg335
 z146 := Tryz.sizeOf335
 v146 := Tryz.zeroValue335
 g1 := by kernel_rfl
 i3 := by kernel_rfl
 i4 := by kernel_rfl
 i5 := by kernel_rfl
 i9 := by kernel_rfl
 i46 := by kernel_rfl
 i51 := by kernel_rfl
 i59 := by kernel_rfl
 i146 := by kernel_rfl
 m1 := by kernel_rfl
 s1_3 := fun w h => cell_of_shapedOpen_int (zero := #[.int .i64 0]) h (by decide) (by kernel_rfl) rfl (by kernel_rfl) (by kernel_rfl) Tryz.underlying3
def ZrO : Ren where
 f := fun | 15 => 141 | 20 => 182 | n => n
 t := fun | 9 => 9 | 23 => 229 | 3 => 3 | 4 => 4 | 0 => 0 | 21 => 21 | n => n
 g := fun n => n
theorem ZAu : LaysGw.n15 Tryz.prog ZrO where
 mixed := by kernel_rfl
 f15 := Tryz.func141.trans (congrArg some (by kernel_rfl))
 f20 := Tryz.func182.trans (congrArg some (by kernel_rfl))
 t0 := Tryz.underlying0
 a0 := Tryz.isAgg0
 z0 := Tryz.sizeOf0
 v0 := Tryz.zeroValue0
 t3 := Tryz.underlying3
 a3 := Tryz.isAgg3
 z3 := Tryz.sizeOf3
 v3 := Tryz.zeroValue3
 t4 := Tryz.underlying4
 a4 := Tryz.isAgg4
 z4 := Tryz.sizeOf4
 v4 := Tryz.zeroValue4
 t9 := Tryz.underlying9
 a9 := Tryz.isAgg9
 z9 := Tryz.sizeOf9
 v9 := Tryz.zeroValue9
 t21 := Tryz.underlying21
 a21 := Tryz.isAgg21
 z21 := Tryz.sizeOf21
 v21 := Tryz.zeroValue21
 t23 := Tryz.underlying229
 a23 := Tryz.isAgg229
 z23 := Tryz.sizeOf229
 v23 := Tryz.zeroValue229
 i0 := by kernel_rfl
 i3 := by kernel_rfl
 i4 := by kernel_rfl
 i9 := by kernel_rfl
 i21 := by kernel_rfl
 i23 := by kernel_rfl
theorem ZmI : Builder.Extra Tryz.prog ZiA where
 sizeBuilder := by kernel_rfl
 liesBuilder := by kernel_rfl
 t5 := Tryz.underlying5
 a5 := Tryz.isAgg5
 z5 := Tryz.sizeOf5
 v5 := Tryz.zeroValue5
 infoByte := by kernel_rfl
 cellsByte := by kernel_rfl
 sizeByte := by kernel_rfl
 neB5 := by decide
end Go.Proofs.YtbjomhdhkpgbaaaGreatDoor
namespace Go.Wk
open Go Go.RowKit
theorem ZqD (p : List UInt8) : ∀ (f acc : List UInt8), ZcT p f acc = if 0 <= Lib.index f p then some (acc ++ f.take (Lib.index f p).toNat, f.drop ((Lib.index f p).toNat + p.length)) else none
 | [], acc => by
  simp only [ZcT, Lib.index, List.isEmpty_iff]
  by_cases h : p = []
  ·simp [h]
  ·rw [if_neg h, if_neg h]; rfl
 | c :: l, acc => by
  by_cases h : p.isPrefixOf (c :: l) = true
  ·simp [ZcT, Lib.index, h]
  ·have e0 : Lib.index (c :: l) p = if (Lib.index l p == -1) = true then -1 else Lib.index l p + 1 := by rw [Lib.index, if_neg h]
   generalize hI : Lib.index (c :: l) p = I at *
   subst e0
   rw [ZcT, if_neg h, ZqD p l]
   clear hI
   have hge := Lib.index_ge l p
   by_cases h2 : Lib.index l p = -1
   ·simp [h2]
   ·rw [if_pos (show 0 <= Lib.index l p by omega)]
    have hb : (Lib.index l p == -1) = false := by simpa using h2
    rw [hb]
    simp only [Bool.false_eq_true, if_false]
    rw [if_pos (show 0 <= Lib.index l p + 1 by omega)]
    have e : (Lib.index l p + 1).toNat = (Lib.index l p).toNat + 1 := by omega
    rw [e, show (Lib.index l p).toNat + 1 + p.length = ((Lib.index l p).toNat + p.length) + 1 by omega]
    simp
def cutV (f p : List UInt8) : List UInt8 × List UInt8 × Bool := match ZcT p f [] with | some (a, b) => (a, b, true) | none => (f, [], false)
theorem Zzp (f p : List UInt8) : Lib.cut f p = cutV f p := by
 unfold Lib.cut cutV
 rw [ZqD]
 by_cases h : 0 <= Lib.index f p
 ·rw [if_pos h, if_pos h]; rfl
 ·rw [if_neg h, if_neg h]
theorem Zm5 {p f acc a b : List UInt8} (h : ZcT p f acc = some (a, b)) : a.length + b.length + p.length <= acc.length + f.length := by
 induction f generalizing acc with
 | nil =>
  simp only [ZcT] at h
  split at h
  ·rename_i hp; simp only [Option.some.injEq, Prod.mk.injEq] at h; obtain ⟨rfl, rfl⟩ := h; simp [hp]
  ·cases h
 | cons c l ih =>
  simp only [ZcT] at h
  split at h
  ·rename_i hp
   simp only [Option.some.injEq, Prod.mk.injEq] at h
   obtain ⟨rfl, rfl⟩ := h
   have := List.IsPrefix.length_le (List.isPrefixOf_iff_prefix.1 hp)
   rw [List.length_drop]
   omega
  ·have := ih h
   simp only [List.length_append, List.length_cons, List.length_nil] at this ⊢
   omega
theorem Zsn (z : Array Value) (k : Nat) (h : z.toList.all Value.oneCell' = true) (h0 : 0 < z.size) : (Builtin.zeroCells z k).toList.all Value.oneCell' = true := by
 rw [List.all_eq_true] at h ⊢
 intro x hx
 unfold Builtin.zeroCells at hx
 rw [Array.toList_map, List.mem_map] at hx
 obtain ⟨i, hi, rfl⟩ := hx
 have hlt := Nat.mod_lt i h0
 rw [getElem!_pos z (i % z.size) hlt]
 exact h _ (by simp)
theorem Zqh : ∀ (vs xs : List Value) (j : Nat), xs.length <= j -> lay xs j vs = xs
 | [], _, _, _ => rfl
 | v :: r, xs, j, h => by rw [lay, List.set_eq_of_length_le h, Zqh r xs (j + 1) (by omega)]
theorem ZxV : ∀ (vs pre cs post : List Value), cs.length = vs.length -> lay (pre ++ cs ++ post) pre.length vs = pre ++ vs ++ post
 | [], pre, cs, post, h => by
  have : cs = [] := List.eq_nil_of_length_eq_zero h
  rw [this]; rfl
 | v :: r, pre, [], post, h => by simp at h
 | v :: r, pre, c :: cs, post, h => by
  have := ZxV r (pre ++ [v]) cs post (by simpa using h)
  rw [lay]
  rw [show (pre ++ c :: cs ++ post).set pre.length v = pre ++ [v] ++ cs ++ post by simp]
  rw [List.length_append] at this
  simpa using this
end Go.Wk
namespace Go.Proofs.YtbjomhdhkpgbaaaGreatDoor
open Go Go.RowKit Go.Wk
attribute [local irreducible] W RL Does Zap Zak retQ Calls Pu Stp RD Qy Ay Zal Zdc
theorem ZiN {α : Type} (p : α -> Bool) : ∀ (l : List α) (k : Nat), (ZbG p l k = -1 /\ l.filter (fun r => !p r) = l) \/ ∃ i, ZbG p l k = ((k + i : Nat) : Int) /\ i < l.length /\ (l.take (i + 1)).filter (fun r => !p r) = l.take i
 | [], k => .inl ⟨rfl, rfl⟩
 | x :: l, k => by
  rw [ZbG]
  by_cases h : p x = true
  ·rw [if_pos h]
   exact .inr ⟨0, rfl, by simp, by simp [h]⟩
  ·rw [if_neg h]
   rcases ZiN p l (k + 1) with ⟨h1, h2⟩ | ⟨i, h1, h2, h3⟩
   ·exact .inl ⟨h1, by rw [List.filter_cons, if_pos (by simp [h]), h2]⟩
   ·refine .inr ⟨i + 1, by rw [h1]; omega, by simpa using h2, ?_⟩
    rw [List.take_succ_cons, List.filter_cons, if_pos (by simp [h]), h3, List.take_succ_cons]
theorem ZyU {base : Nat} {A : Option Addr} {c : Nat} {l : List DRule} {w : World} {O R : List It} (h : Zat base O w) (hp : Pick (rowR A c l) O R) (hlc : l.length <= c) (hcm : c <= maxLen) : RdSl w A c DRule.enc 11 l :=
 ⟨hlc, hcm, fun k x hk => by
  have hs := h.sat _ (hp.perm.mem_iff.2 List.mem_cons_self)
  have hlt := (List.getElem?_eq_some_iff.1 hk).1
  refine ⟨Za6 hs (by omega), fun j v hj => ?_⟩
  rw [Za7]
  exact (ZbP hs (ZaF DRule.len l k x j v hk hj)).2⟩
instance zeroRule : ZeroV Tryz.prog 56 (.agg #[.string ByteArray.empty, .int .i64 0, .int .i64 0, .int .i64 0, .int .i64 0, .int .i64 0, .int .i64 0, .int .i64 0, .int .i64 0, .int .i64 0, .string ByteArray.empty]) := ⟨by kernel_rfl⟩
structure DG where
 j : Nat
 C : List DRule
set_option maxHeartbeats 2000000 in
theorem ZoJ (A : Option Addr) (c : Nat) (l : List DRule) (f : FuncId) [Body Tryz.prog f] (p : DRule -> Bool) (wr : World) (hn : l.length <= 1000000) (hlc : l.length <= c) (hcm : c <= maxLen) (hAn : 0 < l.length -> A ≠ none) (hf : ∀ r w', Does Tryz.prog f [.agg (DRule.enc r).toArray] w' (fun v O => v = .bool (p r) /\ O = [])) :
  Zal Tryz.prog 169 [.slice A l.length c, .func (.func f) #[] #[]] wr [rowR A c l] (fun v O => v = .slice A (l.filter fun r => !p r).length c /\ O = [rowR A c (l.filter fun r => !p r)]) := by
 have hidx := fun w' (hH : Zat wr.heap.size [rowR A c l] w') => ZdF A c l f [] [] p w' (ZyU hH .here hlc hcm) fun r w2 _ => hf r w2
 unfold maxLen at hcm
 generalize hres : (l.filter fun r => !p r) = res
 rcases ZiN p l 0 with ⟨h1, h2⟩ | ⟨i, h1, h2, h3⟩
 ·rw [h1] at hidx
  rw [h2] at hres
  subst hres
  refine Zbj Tryz.func169 rfl rfl rfl rfl ?_
  repeat (first | (refine js ?_; (first | (apply Zac (h := fun w' _ hH => hidx w' hH); rfl; rintro v O' ⟨rfl, rfl⟩) | (refine bx ?_; intro bk))) | refine walk ?_)
  exact ret_1 _ _ (.tmp rfl) (.refl _) ⟨rfl, rfl⟩
 ·rw [h1, Nat.zero_add] at hidx
  have hA := hAn (by omega)
  obtain ⟨ad, rfl⟩ : ∃ ad, A = some ad := by
   cases A with
   | none => exact absurd rfl hA
   | some ad => exact ⟨ad, rfl⟩
  clear hA hAn
  refine Zbj Tryz.func169 rfl rfl rfl rfl ?_
  repeat (first | (refine js ?_; (first | (apply Zac (h := fun w' _ hH => hidx w' hH); rfl; rintro v O' ⟨rfl, rfl⟩) | (refine bx ?_; intro bk))) | refine ZlS ?_)
  refine Zcm (fun fr' O' => Go.Wk.Sub [(0, .slice (some ad) l.length c), (5, .int .i64 res.length)] fr' /\ SubO [.row (.slice (some ad) l.length c) 56 11 l.length ((res ++ l.drop res.length).flatMap DRule.enc)] O') ?_ ?_
  ·apply W_block
   refine Zaq [(0, _), (1, _)] [] (fun g : DG => [(5, .int .i64 g.C.length), (6, .int .i64 g.j)]) (fun g => [.row (.slice (some ad) l.length c) 56 11 l.length ((g.C ++ l.drop g.C.length).flatMap DRule.enc)])
    (fun g => g.C = (l.take g.j).filter (fun r => !p r) /\ g.C.length + 1 <= g.j /\ g.j <= l.length) (fun g => l.length - g.j) ⟨i + 1, l.take i⟩ (by dsimp only; rw [List.length_take, Nat.min_eq_left (by omega)]; exact ⟨rfl, rfl, rfl, rfl, trivial⟩) (by dsimp only; rw [List.length_take, Nat.min_eq_left (by omega), List.take_append_drop]; exact .refl _) ⟨h3.symm, by show (l.take i).length + 1 <= i + 1; rw [List.length_take]; omega, by show i + 1 <= l.length; omega⟩ ?_
   rintro ⟨j, C⟩ ⟨hC, hCj, hj⟩
   dsimp only at hC hCj hj ⊢
   have hLl : (C ++ l.drop C.length).length = l.length := by rw [List.length_append, List.length_drop]; omega
   repeat (first | (refine js ?_; (refine bx ?_; intro bk)) | refine walk ?_)
   refine Zah rfl (fun g => ?_) (fun g => ?_)
   ·have hjl : j < l.length := by simpa using g
    have hx : ∀ q v, (DRule.enc l[j])[q]? = some v -> ((C ++ l.drop C.length).flatMap DRule.enc)[(j : Int).toNat * 11 + q]? = some v := fun q v hv => by
     refine ZaF DRule.len _ j l[j] q v ?_ hv
     rw [List.getElem?_append_right (by omega), List.getElem?_drop, show C.length + (j - C.length) = j from by omega, List.getElem?_eq_getElem hjl]
    have hst : (l.take (j + 1)).filter (fun r => !p r) = C ++ (if p l[j] then [] else [l[j]]) := by
     rw [List.take_succ_eq_append_getElem hjl, List.filter_append, <- hC]
     by_cases hp : p l[j] = true
     ·simp [hp]
     ·simp [hp]
    have hput : lay ((C ++ l.drop C.length).flatMap DRule.enc) (C.length * 11) (DRule.enc l[j]) = ((C ++ [l[j]]) ++ l.drop (C.length + 1)).flatMap DRule.enc := by
     have hlt : C.length < l.length := by omega
     rw [Zan hlt, show C ++ l[C.length] :: l.drop (C.length + 1) = C ++ [l[C.length]] ++ l.drop (C.length + 1) by simp, List.flatMap_append, List.flatMap_append, List.flatMap_append, List.flatMap_append, List.flatMap_singleton, List.flatMap_singleton]
     have := ZxV (DRule.enc l[j]) (C.flatMap DRule.enc) (DRule.enc l[C.length]) ((l.drop (C.length + 1)).flatMap DRule.enc) rfl
     rw [ZaE DRule.len] at this
     exact this
    generalize l[j] = r at *
    obtain ⟨nm, fr, to, mo, ⟨dk, dw, dd⟩, ⟨cs, cb⟩, sv, le⟩ := r
    have hfr := hf ⟨nm, fr, to, mo, ⟨dk, dw, dd⟩, ⟨cs, cb⟩, sv, le⟩
    generalize p ⟨nm, fr, to, mo, ⟨dk, dw, dd⟩, ⟨cs, cb⟩, sv, le⟩ = b at *
    simp only [DRule.enc] at hx hput hfr
    repeat (first | (apply RL_pu; rfl; (first | (apply Pu_indexAddr; rfl; rfl; omega; omega; nofun) | (apply Za2; rfl; (focus repeat' constructor); exact hx; rfl))) | (refine js ?_; (first | (apply Zar (f := f) (us := []) (cs := []) (vs := [.agg #[.string nm, .int .i64 fr, .int .i64 to, .int .i64 mo, .int .i64 dk, .int .i64 dw, .int .i64 dd, .int .i64 cs, .int .i64 cb, .int .i64 sv, .string le]]) (h := fun w' hw _ => hfr w'); rfl; rfl; rintro v O' ⟨rfl, rfl⟩) | (refine bx ?_; intro bk))) | refine walk1 ?_)
    refine Zah rfl (fun g2 => ?_) (fun g2 => ?_)
    ·have hb : b = false := by simpa using g2
     rw [hb, if_neg (by decide)] at hst
     have hfl : ((C ++ l.drop C.length).flatMap DRule.enc).length = l.length * 11 := by rw [ZaE DRule.len, hLl]
     repeat (first | (apply RL_pu; rfl; (apply Pu_indexAddr; rfl; rfl; omega; omega; nofun)) | (refine js ?_; (first | (apply Zc5 (vs := [.string nm, .int .i64 fr, .int .i64 to, .int .i64 mo, .int .i64 dk, .int .i64 dw, .int .i64 dd, .int .i64 cs, .int .i64 cb, .int .i64 sv, .string le]); rfl; rfl; (focus repeat' constructor); rfl; rfl; rfl; (rw [hfl]; omega); decide; exact hput) | (refine bx ?_; intro bk))) | refine walk1 ?_)
     refine ⟨⟨j + 1, _⟩, OA, ⟨hst.symm, by dsimp only; rw [List.length_append, List.length_singleton]; omega, OA⟩, ?_, ?_⟩
     ·dsimp only
      rw [List.length_append, List.length_singleton]
      exact SFA
     ·dsimp only
      rw [List.length_append, List.length_singleton]
      exact SOA
    ·have hb : b = true := by simpa using g2
     rw [hb, if_pos rfl, List.append_nil] at hst
     repeat (first | (refine js ?_; (refine bx ?_; intro bk)) | refine walk ?_)
     exact ⟨⟨j + 1, C⟩, OA, ⟨hst.symm, OA, OA⟩, SFA, SOA⟩
   ·have hjl : j = l.length := by
     have := of_decide_eq_false g
     omega
    rw [hjl, List.take_length, hres] at hC
    subst hC
    repeat (first | (refine js ?_; (refine bx ?_; intro bk)) | refine walk ?_)
    exact ⟨rfl, SFA, SOA⟩
  rintro fr' O' ⟨hf1, hO⟩
  apply thenQ_n
  refine Zcu hf1 hO ?_
  clear hf1 hO fr' O'
  have hrl : res.length < l.length := by
   have h4 : l.take (i + 1) ++ l.drop (i + 1) = l := List.take_append_drop _ _
   have h5 : res = l.take i ++ (l.drop (i + 1)).filter (fun r => !p r) := by rw [<- hres, <- h3, <- List.filter_append, h4]
   have h6 := List.length_filter_le (fun r => !p r) (l.drop (i + 1))
   rw [List.length_drop] at h6
   have h7 := congrArg List.length h5
   rw [List.length_append, List.length_take] at h7
   omega
  have hLl : ((res ++ l.drop res.length).flatMap DRule.enc).length = l.length * 11 := by rw [ZaE DRule.len, List.length_append, List.length_drop]; congr 1; omega
  have htk : ∀ vs, (lay ((res ++ l.drop res.length).flatMap DRule.enc) ((res.length : Int).toNat * 11) vs).take (res.length * 11) = res.flatMap DRule.enc := fun vs => by
   rw [ZhJ, List.flatMap_append, List.take_left' (by rw [ZaE DRule.len])]
   exact Zqh _ _ _ (by rw [ZaE DRule.len]; omega)
  repeat (first | ((apply RL_st0; apply Zsf (p := (res.length : Int).toNat * 11) (k := l.length - (res.length : Int).toNat); rfl; (focus repeat' constructor); exact Zsn _ _ rfl (by decide); omega; (rw [hLl]; omega)); refine ZuR (m := l.length) res.length (by omega) (by repeat' constructor) ?_; rw [htk]) | (apply RL_pu; rfl; (apply Zvd; rfl; rfl; omega; omega; omega)) | (refine js ?_; (refine bx ?_; intro bk)) | refine walk1 ?_)
  exact ret_1 _ _ (.tmp rfl) (.refl _) ⟨rfl, rfl⟩
end Go.Proofs.YtbjomhdhkpgbaaaGreatDoor
