/- Parts of the proof. -/
import Derived.Test.YtbjomhdhkpgbaaaGreatDoorY18
import Derived.Test.YtbjomhdhkpgbaaaGreatDoorY08
set_option maxHeartbeats 4000000
set_option linter.unusedVariables false
set_option linter.unusedSimpArgs false
namespace Go.Proofs.YtbjomhdhkpgbaaaGreatDoor
open Go Go.RowKit Go.Wk
attribute [local irreducible] W RL Does Zap Zak retQ Calls Pu Stp RD Qy Ay Zal
theorem ZvQ {G : Prop} (h : G := by (apply Ze3; rfl; rfl; exact b1)) : G := h
theorem Zj6 (off save : Int) (ho : I64 off) (hs : I64 save) (w : World) : Does Tryz.prog 131 [.int .i64 off, .int .i64 save] w (fun v O => v = .bool (Zbx off save) /\ O = []) := by
 have hsm := fun w' => Zjg off save ho hs w'
 refine Zaa Tryz.func131 rfl rfl rfl rfl ?_
 cases hok : Zdr (off + save) with
 | false =>
  rw [hok] at hsm
  have hb : Zbx off save = false := by
   unfold Zbx
   by_cases h1 : -54000 <= off + save
   ·by_cases h2 : off + save <= 54000
    ·exfalso
     have : Zdr (off + save) = true := by unfold Zdr; rw [decide_eq_true (by omega), decide_eq_true (by omega)]; rfl
     rw [this] at hok
     cases hok
    ·rw [decide_eq_false h2, Bool.and_false]
   ·rw [decide_eq_false h1, Bool.false_and]
  rw [hb]
  repeat (first | refine und ?_ | (refine js ?_; (refine Zad (fun w' hw => hsm w') ?_)) | refine walk ?_)
  exact rtA
 | true =>
  rw [hok, if_pos rfl] at hsm
  unfold Zbx
  generalize off + save = x at *
  by_cases h1 : -54000 <= x
  ·have b1 : decide (-54000 <= x) = true := decide_eq_true h1
   rw [b1]
   repeat (first | refine und ?_ | (apply RL_pu; rfl; exact ZvQ) | (refine js ?_; (refine Zad (fun w' hw => hsm w') ?_)) | refine walk1 ?_)
   exact rtA
  ·have b1 : decide (-54000 <= x) = false := decide_eq_false h1
   rw [b1]
   repeat (first | refine und ?_ | (apply RL_pu; rfl; exact ZvQ) | (refine js ?_; (refine Zad (fun w' hw => hsm w') ?_)) | refine walk1 ?_)
   exact rtA
theorem Zgf (Ar Az Al As : Option Addr) (cr cz cl cs : Nat) (a : Zab) (e : DEra) (w : World) (hA : Zaj w Ar Az Al As cr cz cl cs a) (hn : a.rules.length <= 1000000) :
  Does Tryz.prog 132 [srcV Ar Az Al As cr cz cl cs a, .agg e.enc.toArray] w (ZhD 56 11 DRule.enc (Zaz a.rules e)) := by
 have hof := fun w' (hw : Bel w.heap.size w w') => Zd2 Ar Az Al As cr cz cl cs a e.set w' (hA.up hw) hn
 unfold Zaz
 obtain ⟨off, kind, save, set, format, til⟩ := e
 dsimp only at hof ⊢
 simp only [DEra.enc]
 refine Zaa Tryz.func132 rfl rfl rfl rfl ?_
 by_cases hk : kind = 2
 ·subst hk
  rw [if_pos rfl]
  generalize ofB a.rules set = R at *
  repeat (first | (refine js ?_; (first | (apply Zac (h := fun w' hw _ => hof w' hw); rfl; rintro v O' ⟨A3, c3, rfl, rfl⟩) | (refine bx ?_; intro bk))) | refine walk ?_)
  exact ret_1 _ [.row (.slice A3 R.length c3) 56 11 R.length (R.flatMap DRule.enc)] (.tmp rfl) SOA ⟨A3, c3, rfl, rfl⟩
 ·rw [if_neg hk]
  have hb : (!decide (kind = 2)) = true := by rw [decide_eq_false hk]; rfl
  refine Zdu 56 11 ?_
  repeat (first | (apply RL_pu; rfl; (apply ZaG; rfl; rfl; exact hb)) | (refine js ?_; (refine bx ?_; intro bk)) | refine walk1 ?_)
  exact ret_1 _ [.row (.slice none 0 0) 56 11 0 []] (.tmp rfl) SOA ⟨none, 0, rfl, rfl⟩
def Zch (x : Int × ByteArray) : List Value := [.int .i64 x.1, .string x.2]
theorem Zch.len (x : Int × ByteArray) : (Zch x).length = 2 := rfl
structure StG where
 k : Nat
 A : Option Addr
 c : Nat
 m : Nat
 ys : List Value
def StR (l : List (Int × ByteArray)) (v : Value) (O : List It) : Prop := ZhD 156 2 Zch l v O \/ ∃ b x, l = [x] /\ v = .slice (some ⟨b, 0, none⟩) 1 1 /\ O = [.blk b (Zch x) 156]
theorem ZvP {G : Prop} (h : G := by (apply ZaH; rfl; rfl; exact b1)) : G := h
theorem Zl5 (Ar Az Al As : Option Addr) (cr cz cl cs : Nat) (a : Zab) (e : DEra) (w : World) (hA : Zaj w Ar Az Al As cr cz cl cs a) (hn : a.rules.length <= 1000000) :
  Does Tryz.prog 134 [srcV Ar Az Al As cr cz cl cs a, .agg e.enc.toArray] w (StR (ZaD a.rules e)) := by
 have hst := fun w' (hw : Bel w.heap.size w w') => Zgf Ar Az Al As cr cz cl cs a e w' (hA.up hw) hn
 have hRl : (Zaz a.rules e).length <= 1000000 := by
  unfold Zaz
  split
  ·exact Nat.le_trans (Zof _ _) hn
  ·exact Nat.zero_le _
 unfold ZaD
 generalize Zaz a.rules e = R at *
 obtain ⟨off, kind, save, set, format, til⟩ := e
 dsimp only at hst ⊢
 simp only [DEra.enc] at hst ⊢
 refine Zaa Tryz.func134 rfl rfl rfl rfl ?_
 by_cases hk1 : kind = 1
 ·subst hk1
  rw [if_pos rfl]
  repeat (first | (refine js ?_; (refine bx ?_; intro bk)) | refine walk ?_)
  exact ret_1 _ [.blk bk [.int .i64 save, .string ByteArray.empty] 156] (.tmp rfl) SOA (.inr ⟨bk, (save, ByteArray.empty), rfl, rfl, rfl⟩)
 have b1 : decide (kind = 1) = false := decide_eq_false hk1
 rw [if_neg hk1]
 by_cases hk2 : kind = 2
 ·subst hk2
  rw [if_pos rfl]
  repeat (first | (apply RL_pu; rfl; exact ZvP) | (refine js ?_; (first | (apply Zac (h := fun w' hw _ => hst w' hw); rfl; rintro v O' ⟨A3, c3, rfl, rfl⟩) | (refine bx ?_; intro bk))) | refine walk1 ?_)
  refine Zdu 156 2 ?_
  refine Zaq [(20, .slice A3 R.length c3), (21, .int .i64 R.length)] [.row (.slice A3 R.length c3) 56 11 R.length (R.flatMap DRule.enc)] (fun g : StG => [(5, .slice g.A g.m g.c), (22, .int .i64 g.k)]) (fun g => [.row (.slice g.A g.m g.c) 156 2 g.m g.ys])
   (fun g => g.k <= R.length /\ g.m = g.k /\ g.ys = ((R.take g.k).map fun r => (r.save, r.letter)).flatMap Zch) (fun g => R.length - g.k) ⟨0, none, 0, 0, []⟩ SFA SOA ⟨Nat.zero_le _, rfl, rfl⟩ ?_
  rintro ⟨k, A1, c1, m, ys⟩ ⟨hkl, hm, hy⟩
  dsimp only at hkl hm hy ⊢
  repeat (first | (refine js ?_; (refine bx ?_; intro bk)) | refine walk ?_)
  refine Zah rfl (fun hc => ?_) (fun hc => ?_)
  ·simp only [decide_eq_true_eq, Int.ofNat_lt] at hc
   have hg1 := ZaF DRule.len R k _ 0 _ (List.getElem?_eq_getElem hc) rfl
   have hgn : ∀ j v, (DRule.enc R[k])[j]? = some v -> (R.flatMap DRule.enc)[k * 11 + j]? = some v := fun j v hj => ZaF DRule.len R k _ j v (List.getElem?_eq_getElem hc) hj
   have htk := List.take_append_getElem hc
   generalize R[k] = r at *
   simp only [DRule.enc] at hgn hg1
   repeat (first | (apply RL_pu; rfl; (first | (apply Zav; rfl; rfl; omega; omega; (intro w' _ hO; exact (ZbP (hO.of (A := .row (.slice A3 R.length c3) 56 11 R.length (R.flatMap DRule.enc)) (by repeat' constructor)) hg1).1)) | (apply Za2; rfl; (focus repeat' constructor); exact hgn; rfl))) | (refine js ?_; (first | (apply ZaC; rfl; rfl; (intro A' c'; (focus repeat' constructor)); (intro w' _ hO; exact ZbD (hO.of (by repeat' constructor))); rfl; rfl; (simp only [maxLen]; omega); omega; intro A' c' hc1 hc2 hc3) | (refine bx ?_; intro bk))) | refine walk1 ?_)
   exact ⟨⟨k + 1, A', c', m + 1, ys ++ [.int .i64 r.save, .string r.letter]⟩, OA, ⟨OA, OA, by dsimp only; rw [hy, <- htk]; simp [Zch]⟩, SFA, SOA⟩
  ·obtain rfl : k = R.length := by simp only [decide_eq_false_iff_not, Int.ofNat_lt] at hc; omega
   rw [List.take_length] at hy
   subst hm hy
   repeat (first | (refine js ?_; (refine bx ?_; intro bk)) | refine walk ?_)
   exact ret_1 _ [.row (.slice A1 R.length c1) 156 2 R.length ((R.map fun r => (r.save, r.letter)).flatMap Zch)] (.tmp rfl) SOA (.inl ⟨A1, c1, by rw [List.length_map], by rw [List.length_map]⟩)
 have b2 : decide (kind = 2) = false := decide_eq_false hk2
 rw [if_neg hk2]
 repeat (first | (apply RL_pu; rfl; (first | exact ZvP | (apply ZaH; rfl; rfl; exact b2))) | (refine js ?_; (refine bx ?_; intro bk)) | refine walk1 ?_)
 exact ret_1 _ [.blk bk [.int .i64 0, .string ByteArray.empty] 156] (.tmp rfl) SOA (.inr ⟨bk, (0, ByteArray.empty), rfl, rfl, rfl⟩)
theorem Zh5 (Ar Az Al As : Option Addr) (cr cz cl cs : Nat) (a : Zab) (e : DEra) (w : World) (hA : Zaj w Ar Az Al As cr cz cl cs a) (hn : a.rules.length <= 1000000) :
  Does Tryz.prog 134 [srcV Ar Az Al As cr cz cl cs a, .agg e.enc.toArray] w (ZhD 156 2 Zch (ZaD a.rules e)) :=
 (Zl5 Ar Az Al As cr cz cl cs a e w hA hn).monoH fun v O base w' hR hH => by
  rcases hR with h | ⟨b, x, hl, rfl, rfl⟩
  ·exact ⟨O, h, hH⟩
  ·rw [hl]
   exact ⟨_, ⟨some ⟨b, 0, none⟩, 1, rfl, rfl⟩, hH.toRow (m := 1) 2 rfl (by decide) (by simpa using Upd.here)⟩
end Go.Proofs.YtbjomhdhkpgbaaaGreatDoor
namespace Go.Wk
open Go Go.RowKit
theorem ZxA {P : Program} {n : Nat} {wr : World} {fr : Fr} {O : List It} {ty t t' : TypeId} {α : Type} [DecidableEq α] {enc : α -> List Value} {x y : Operand} {i j : α} {b : Bool} [hE : EqE P t α enc] (hx : ev fr x = some (.agg (enc i).toArray)) (hy : ev fr y = some (.agg (enc j).toArray)) (h : (!decide (i = j)) = b) :
  Pu P n wr fr O (.binOp .neq t x y t') ty (.bool b) := h ▸ Pu_neqE hx hy
end Go.Wk
namespace Go.Proofs.YtbjomhdhkpgbaaaGreatDoor
open Go Go.RowKit Go.Wk
attribute [local irreducible] W RL Does Zap Zak retQ Calls Pu Stp RD Qy Ay Zal
theorem ZmM (A : Option Addr) (c : Nat) (l : List (Int × ByteArray)) (f : FuncId) [Body Tryz.prog f] (us cs : List Value) (p : Int × ByteArray -> Bool) (w : World) (hA : RdSl w A c Zch 2 l)
  (hf : ∀ r ∈ l, ∀ w', Bel w.heap.size w w' -> Does Tryz.prog f (us ++ [.agg (Zch r).toArray] ++ cs) w' (fun v O => v = .bool (p r) /\ O = [])) :
  Does Tryz.prog 176 [.slice A l.length c, .func (.func f) us.toArray cs.toArray] w (fun v O => v = .int .i64 (ZbG p l 0) /\ O = []) := by
 have hs1 := hA.le
 have hs2 := hA.cap
 unfold maxLen at hs2
 generalize hres : ZbG p l 0 = res
 refine Zaa Tryz.func176 rfl rfl rfl rfl ?_
 repeat (first | refine walk ?_)
 refine Zaq [(0, _), (1, _), (4, _), (7, _)] _ (fun k : Nat => [(8, .int .i64 k)]) (fun _ => []) (fun k => k <= l.length /\ ZbG p (l.drop k) k = res) (fun k => l.length - k) 0 ⟨rfl, rfl, rfl, rfl, rfl, trivial⟩ (.refl _) ⟨by omega, by simpa using hres⟩ ?_
 rintro k ⟨hk, hi⟩
 repeat (first | refine walk ?_)
 refine Zah rfl (fun hc => ?_) (fun hc => ?_)
 ·simp only [decide_eq_true_eq, Int.ofNat_lt] at hc
  obtain ⟨hna, hca⟩ := hA.rd k _ (List.getElem?_eq_getElem hc)
  have hnb := hna
  have hcb := hca
  rw [Zan hc, ZbG] at hi
  have hrm := List.getElem_mem hc
  generalize l[k] = r at *
  repeat (first | (apply RL_pu; rfl; exact PuI) | (refine js ?_; (refine ZdT (fun w' hw _ => hf r hrm w' hw) ?_)) | refine walk1 ?_)
  refine Zah rfl (fun h3 => ?_) (fun h3 => ?_)
  ·repeat (first | refine walk ?_)
   rw [if_pos h3] at hi
   exact ret_1 _ [] (.tmp rfl) .nil ⟨by rw [<- hi], rfl⟩
  repeat (first | refine walk ?_)
  rw [h3] at hi
  exact ⟨k + 1, by omega, ⟨by omega, hi⟩, SFA, SOA⟩
 simp only [decide_eq_false_iff_not, Int.ofNat_lt] at hc
 repeat (first | refine walk ?_)
 exact ret_1 _ [] (.tmp rfl) .nil ⟨by rw [<- hi, List.drop_eq_nil_of_le (by omega)]; rfl, rfl⟩
theorem Zi5 (A : Option Addr) (c : Nat) (l : List (Int × ByteArray)) (f : FuncId) [Body Tryz.prog f] (us cs : List Value) (p : Int × ByteArray -> Bool) (w : World) (hA : RdSl w A c Zch 2 l)
  (hf : ∀ r ∈ l, ∀ w', Bel w.heap.size w w' -> Does Tryz.prog f (us ++ [.agg (Zch r).toArray] ++ cs) w' (fun v O => v = .bool (p r) /\ O = [])) :
  Does Tryz.prog 133 [.slice A l.length c, .func (.func f) us.toArray cs.toArray] w (fun v O => v = .bool (l.any p) /\ O = []) := by
 have h := fun w' (hw : Bel w.heap.size w w') => ZmM A c l f us cs p w' (hA.up hw) fun r hr w2 h2 => hf r hr w2 (hw.trans (h2.mono hw.size))
 rw [<- ZiO p l 0]
 generalize ZbG p l 0 = k at *
 refine Zaa Tryz.func133 rfl rfl rfl rfl ?_
 repeat (first | (refine js ?_; (refine Zad h ?_)) | refine walk ?_)
 exact rtA
theorem Zue (x : Int × ByteArray) (ad : Addr) (off : Int) (w : World) (h : w.cell? ad = some (.int .i64 off)) (ho : I64 off) (hx : I64 x.1) : Does Tryz.prog 130 [.agg (Zch x).toArray, .pointer (some ad)] w (fun v O => v = .bool (!Zbx off x.1) /\ O = []) := by
 obtain ⟨sv, lt⟩ := x
 dsimp only at hx ⊢
 have hh := fun w' => Zj6 off sv ho hx w'
 generalize Zbx off sv = hb at *
 simp only [Zch]
 refine Zaa Tryz.func130 rfl rfl rfl rfl ?_
 repeat (first | (apply RL_pu; rfl; (apply Pu_loadO1; rfl; exact h)) | (refine js ?_; (first | (refine Zad (fun w' hw => hh w') ?_) | (refine bx ?_; intro bk))) | refine walk1 ?_)
 exact rtA
instance : EqE Tryz.prog 52 DUntil DUntil.enc where
 h r s w := by
  unfold DUntil.enc
  simp [go_sem, Zco]
  rcases r with ⟨_, _, _, ⟨_, _, _⟩, ⟨_, _⟩⟩
  rcases s with ⟨_, _, _, ⟨_, _, _⟩, ⟨_, _⟩⟩
  simp only [Zij, Result.ok.injEq, and_true]
  rw [Bool.eq_iff_iff]
  simp [and_assoc]
 g := by kernel_rfl
theorem ZnP (e : DEra) (w : World) : Does Tryz.prog 135 [.agg e.enc.toArray] w (fun v O => v = .bool (ZeC e) /\ O = []) := by
 obtain ⟨off, kind, save, set, format, til⟩ := e
 unfold ZeC
 dsimp only
 obtain ⟨is, year, month, ⟨dk, dw, dd⟩, ⟨cs, cb⟩⟩ := til
 dsimp only
 obtain ⟨n1, e1⟩ : ∃ b, (!decide (kind = 1)) = b := ⟨_, rfl⟩
 obtain ⟨n2, e2⟩ : ∃ b, (!decide (save = 0)) = b := ⟨_, rfl⟩
 obtain ⟨n3, e3⟩ : ∃ b, (!decide (kind = 2)) = b := ⟨_, rfl⟩
 obtain ⟨n4, e4⟩ : ∃ b, (!decide (set = ByteArray.empty)) = b := ⟨_, rfl⟩
 obtain ⟨n5, e5⟩ : ∃ b, (!decide ((⟨false, year, month, ⟨dk, dw, dd⟩, ⟨cs, cb⟩⟩ : DUntil) = dU0)) = b := ⟨_, rfl⟩
 rw [e1, e2, e3, e4, e5]
 simp only [DEra.enc]
 refine Zaa Tryz.func135 rfl rfl rfl rfl ?_
 repeat' (first | (apply RL_pu; rfl; (first | (apply ZaG; rfl; rfl; exact e1) | (apply ZaG; rfl; rfl; exact e2) | (apply ZaG; rfl; rfl; exact e3) | (apply Zgy; rfl; rfl; exact e4) | (apply ZxA (i := (⟨false, year, month, ⟨dk, dw, dd⟩, ⟨cs, cb⟩⟩ : DUntil)) (j := dU0) (enc := DUntil.enc); rfl; rfl; exact e5))) | (refine js ?_; (refine bx ?_; intro bk)) | refine walk1 ?_ | refine und ?_ | (refine Zay rfl rfl rfl (fun hc => ?_) (fun hc => ?_)) | (refine Zaw rfl rfl rfl (fun hc => ?_) (fun hc => ?_)) | (refine Zah rfl (fun hc => ?_) (fun hc => ?_)))
 all_goals exact clo1
theorem Zlv.i64 {s : Zab} (h : Zlv s) : ∀ r ∈ s.rules, I64 r.save := fun r hr => by have := (h r hr).1; unfold I64; omega
theorem Zf3 {rs : List DRule} {e : DEra} {r : DRule} (h : r ∈ Zaz rs e) : r ∈ rs := by
 unfold Zaz at h
 split at h
 ·exact Ztp h
 ·cases h
theorem Zie (rs : List DRule) (e : DEra) : (Zaz rs e).length <= rs.length := by
 unfold Zaz
 split
 ·exact Zof _ _
 ·exact Nat.zero_le _
theorem Zh7 {rs : List DRule} {e : DEra} (hr : ∀ r ∈ rs, I64 r.save) (hs : I64 e.save) : ∀ x ∈ ZaD rs e, I64 x.1 := by
 intro x hx
 unfold ZaD at hx
 split at hx
 ·simp only [List.mem_singleton] at hx; subst hx; exact hs
 ·split at hx
  ·obtain ⟨r, h, rfl⟩ := List.mem_map.1 hx
   exact hr r (Zf3 h)
  ·simp only [List.mem_singleton] at hx; subst hx; exact ⟨by decide, by decide⟩
def offB (off : Int) (x : Int × ByteArray) : Bool := !Zbx off x.1
structure ZvZ (e : DEra) : Prop where
 off : I64 e.off
 save : I64 e.save
 kind : I64 e.kind
 fmt : e.format.size <= 1000000000
theorem ZpB {G : Prop} (h : G := by (apply Zbt; rfl; rfl; exact b1)) : G := h
theorem ZvO {G : Prop} (h : G := by (first | exact ZpB | (apply Za0; rfl; rfl; exact b2))) : G := h
theorem ZpA {G : Prop} (h : G := by (apply Zbt; rfl; rfl; exact s1)) : G := h
theorem Zjt {G : Prop} (h : G := by (first | exact ZpA | (apply Za0; rfl; rfl; exact s2))) : G := h
theorem Zpe {G : Prop} (h : G := by first | (apply Qy_y; rfl; exact Zjt) | exact QyA) : G := h
theorem Zpf {G : Prop} (h : G := by repeat (first | exact QF.nil | (apply QF.mk; rfl; rfl; decide +kernel; exact Zpe))) : G := h
theorem Zjs {G : Prop} (h : G := by (apply ZaH; rfl; rfl; exact r0)) : G := h
theorem Zpd {G : Prop} (h : G := by first | (apply Qy_y; rfl; exact Zjs) | exact QyA) : G := h
theorem Zlx {G : Prop} (h : G := by repeat (first | exact QF.nil | (apply QF.mk; rfl; rfl; decide +kernel; exact Zpd))) : G := h
set_option maxHeartbeats 4000000 in
theorem ZtJ (Ar Az Al As : Option Addr) (cr cz cl cs : Nat) (a : Zab) (e : DEra) (first : Bool) (w : World) (hL : LibW w) (hA : Zaj w Ar Az Al As cr cz cl cs a) (hS : Zg8 a) (hV : Zlv a) (hE : ZvZ e) :
  Does Tryz.prog 95 [srcV Ar Az Al As cr cz cl cs a, .agg e.enc.toArray, .bool first] w (fun v O => v = .int .i64 (ZcJ a.rules e first) /\ O = []) := by
 have hn := hS.nr
 have hst := fun w' (hw : Bel w.heap.size w w') => Zgf Ar Az Al As cr cz cl cs a e w' (hA.up hw) hn
 have hh0 := fun w' => Zj6 e.off 0 hE.off ⟨by decide, by decide⟩ w'
 have hss := fun w' (hw : Bel w.heap.size w w') => Zh5 Ar Az Al As cr cz cl cs a e w' (hA.up hw) hn
 have hun := fun w' => ZnP e w'
 have hRs : ∀ r ∈ Zaz a.rules e, r ∈ a.rules := fun r h => Zf3 h
 have hRl := Zie a.rules e
 have hS64 := Zh7 (fun r h => hV.i64 r h) hE.save
 have hfc := fun A3 c3 w' (hw : Bel w.heap.size w w') h => ZoC e A3 c3 (Zaz a.rules e) w' (hL.up hw) h hE.off hE.save (fun r hr => hV.i64 r (hRs r hr)) (by omega) hE.fmt (fun r hr => (hS.rs r (hRs r hr)).2)
 unfold ZcJ
 rw [show (fun x : Int × ByteArray => !Zbx e.off x.1) = offB e.off from rfl]
 generalize Zaz a.rules e = R at *
 generalize ZaD a.rules e = S at *
 generalize ZeC e = un at *
 generalize Zdj e R = fc at *
 obtain ⟨off, kind, save, set, format, til⟩ := e
 have ho := hE.off
 have hki := hE.kind
 have hcn := fun A5 c5 (b4 : Nat) (cells : List Value) w' (h : RdSl w' A5 c5 Zch 2 S) (h4 : Zam w' ⟨b4, 0, none⟩ (.int .i64 off :: cells)) => Zi5 A5 c5 S 130 [] [.pointer (some ⟨b4, 0, none⟩)] (offB off) w' h (fun x hx w2 hw2 => by
  have hc0 : w'.cell? ⟨b4, 0, none⟩ = some (.int .i64 off) := by
   have := h4 0 _ rfl
   rwa [Zcd] at this
  exact Zue x ⟨b4, 0, none⟩ off w2 ((hw2.cell (World.block_lt_of_cell? w' _ hc0)).trans hc0) ho (hS64 x hx))
 replace hcn := fun A5 c5 w' h {b4 cells} h4 => hcn A5 c5 b4 cells w' h h4
 dsimp only at hst hh0 hss hun hfc ho hki ⊢
 simp only [DEra.enc] at hst hss hun hfc ⊢
 obtain ⟨an, han⟩ : ∃ an, S.any (offB off) = an := ⟨_, rfl⟩
 rw [han] at hcn ⊢
 generalize Zbx off 0 = h0 at *
 clear hS64 han hE
 refine Zaa Tryz.func95 rfl rfl rfl rfl ?_
 by_cases hlo : kind < 0
 ·have b1 : decide (kind < 0) = true := decide_eq_true hlo
  rw [if_pos (.inl hlo)]
  repeat (first | refine und ?_ | (apply RL_pu; rfl; exact ZpB) | (apply RD_Q; rfl; rfl; decide +kernel; rfl; rfl; exact QyAccG0) | refine walk1 ?_ | (refine jn ?_; (try intro F); (first | (refine bx ?_; intro bk) | (apply Zag; first | exact ZpB | exact PuA)); first | refine ⟨_, EndsA, QFAccG0, ?_⟩ | refine fin ?_))
  exact rtA
 by_cases hhi : 2 < kind
 ·have b1 : decide (kind < 0) = false := decide_eq_false hlo
  have b2 : decide (2 < kind) = true := decide_eq_true hhi
  rw [if_pos (.inr hhi)]
  repeat (first | refine und ?_ | (apply RL_pu; rfl; exact ZvO) | (apply RD_Q; rfl; rfl; decide +kernel; rfl; rfl; exact QyAccG1) | refine walk1 ?_ | (refine jn ?_; (try intro F); (first | (refine bx ?_; intro bk) | (apply Zag; first | exact ZvO | exact PuA)); first | refine ⟨_, EndsA, QFAccG1, ?_⟩ | refine fin ?_))
  exact rtA
 rw [if_neg (by omega)]
 obtain rfl | rfl | rfl : kind = 0 \/ kind = 1 \/ kind = 2 := by omega
 ·cases first
  all_goals
   rw [if_neg (by rintro ⟨h1, h2⟩; first | (cases h1; done) | (cases h2; done)), if_neg (by rintro ⟨h, _⟩; cases h), if_neg (by rintro ⟨h, _⟩; cases h)]
  all_goals
   cases h0 <;> first | rw [if_pos (Or.inl rfl)] | (cases an <;> first | rw [if_pos (Or.inr rfl)] | (rw [if_neg (by rintro (h | h) <;> cases h)]; cases un <;> first | rw [if_pos rfl] | rw [if_neg (by decide)]))
  all_goals
   repeat (first | refine und ?_ | refine walk ?_ | (refine jg ?_; (try intro F); (first | (apply Zac (h := fun w' hw _ => hst w' hw); rfl; rintro v O' ⟨A3, c3, rfl, rfl⟩) | (refine Zad (fun w' hw => hh0 w') ?_) | (apply Zac (h := fun w' hw _ => hss w' hw); rfl; rintro v O' ⟨A5, c5, rfl, rfl⟩) | (refine ZaW (fun w' hw hO => hcn A5 c5 w' (Za4 Zch.len (hO.of (A := .row (.slice A5 S.length c5) 156 2 S.length (S.flatMap Zch)) (by repeat' constructor))) (hO.cells (by repeat' constructor))) ?_) | (refine Zad (fun w' hw => hun w') ?_) | (refine ZaW (fun w' hw hO => hfc A3 c3 w' hw (Za4 DRule.len (hO.of (A := .row (.slice A3 R.length c3) 56 11 R.length (R.flatMap DRule.enc)) (by repeat' constructor)))) ?_) | (refine bx ?_; intro bk)); refine fin ?_) | (refine jn ?_; (try intro F); (first | (refine bx ?_; intro bk) | (apply Zag; exact PuA)); refine fin ?_))
   exact rtA
 ·rw [if_neg (by rintro ⟨_, h⟩; cases h), if_neg (by rintro ⟨h, _⟩; cases h)]
  by_cases hs1 : save < 1
  ·have s1 : decide (save < 1) = true := decide_eq_true hs1
   rw [if_pos ⟨rfl, .inl hs1⟩]
   cases first
   all_goals
    repeat (first | refine und ?_ | (apply RL_pu; rfl; exact ZpA) | (apply RD_Q; rfl; rfl; decide +kernel; rfl; rfl; exact QyAccG2) | refine walk1 ?_ | (refine jn ?_; (try intro F); (first | (refine bx ?_; intro bk) | (apply Zag; first | exact ZpA | exact PuA)); first | refine ⟨_, EndsA, QFAccG2, ?_⟩ | refine fin ?_))
    exact rtA
  have s1 : decide (save < 1) = false := decide_eq_false hs1
  by_cases hs2 : 10800 < save
  ·have s2 : decide (10800 < save) = true := decide_eq_true hs2
   rw [if_pos ⟨rfl, .inr hs2⟩]
   cases first
   all_goals
    repeat (first | refine und ?_ | (apply RL_pu; rfl; exact Zjt) | (apply RD_Q; rfl; rfl; decide +kernel; rfl; rfl; exact Zpe) | refine walk1 ?_ | (refine jn ?_; (try intro F); (first | (refine bx ?_; intro bk) | (apply Zag; first | exact Zjt | exact PuA)); first | refine ⟨_, EndsA, Zpf, ?_⟩ | refine fin ?_))
    exact rtA
  have s2 : decide (10800 < save) = false := decide_eq_false hs2
  rw [if_neg (by omega)]
  cases first
  all_goals
   cases h0 <;> first | rw [if_pos (Or.inl rfl)] | (cases an <;> first | rw [if_pos (Or.inr rfl)] | (rw [if_neg (by rintro (h | h) <;> cases h)]; cases un <;> first | rw [if_pos rfl] | rw [if_neg (by decide)]))
  all_goals
   repeat (first | refine und ?_ | (apply RL_pu; rfl; exact Zjt) | (apply RD_Q; rfl; rfl; decide +kernel; rfl; rfl; exact Zpe) | refine walk1 ?_ | (refine jg ?_; (try intro F); (first | (apply Zac (h := fun w' hw _ => hst w' hw); rfl; rintro v O' ⟨A3, c3, rfl, rfl⟩) | (refine Zad (fun w' hw => hh0 w') ?_) | (apply Zac (h := fun w' hw _ => hss w' hw); rfl; rintro v O' ⟨A5, c5, rfl, rfl⟩) | (refine ZaW (fun w' hw hO => hcn A5 c5 w' (Za4 Zch.len (hO.of (A := .row (.slice A5 S.length c5) 156 2 S.length (S.flatMap Zch)) (by repeat' constructor))) (hO.cells (by repeat' constructor))) ?_) | (refine Zad (fun w' hw => hun w') ?_) | (refine ZaW (fun w' hw hO => hfc A3 c3 w' hw (Za4 DRule.len (hO.of (A := .row (.slice A3 R.length c3) 56 11 R.length (R.flatMap DRule.enc)) (by repeat' constructor)))) ?_) | (refine bx ?_; intro bk)); first | refine ⟨_, EndsA, Zpf, ?_⟩ | refine fin ?_) | (refine jn ?_; (try intro F); (first | (refine bx ?_; intro bk) | (apply Zag; first | exact Zjt | exact PuA)); first | refine ⟨_, EndsA, Zpf, ?_⟩ | refine fin ?_))
   exact rtA
 ·cases first with
  | true =>
   rw [if_pos ⟨rfl, rfl⟩]
   repeat (first | refine und ?_ | refine walk ?_ | (refine jn ?_; (try intro F); (first | (refine bx ?_; intro bk) | (apply Zag; exact PuA)); refine fin ?_))
   exact rtA
  | false =>
   rw [if_neg (by rintro ⟨h, _⟩; cases h)]
   by_cases hR : R = []
   ·have r0 : decide ((R.length : Int) = 0) = true := by rw [hR]; rfl
    rw [if_pos ⟨rfl, hR⟩]
    repeat (first | refine und ?_ | (apply RL_pu; rfl; exact Zjs) | (apply RD_Q; rfl; rfl; decide +kernel; rfl; rfl; exact Zpd) | refine walk1 ?_ | (refine jg ?_; (try intro F); (first | (apply Zac (h := fun w' hw _ => hst w' hw); rfl; rintro v O' ⟨A3, c3, rfl, rfl⟩) | (refine bx ?_; intro bk)); first | refine ⟨_, EndsA, Zlx, ?_⟩ | refine fin ?_) | (refine jn ?_; (try intro F); (first | (refine bx ?_; intro bk) | (apply Zag; first | exact Zjs | exact PuA)); first | refine ⟨_, EndsA, Zlx, ?_⟩ | refine fin ?_))
    exact rtA
   have r0 : decide ((R.length : Int) = 0) = false := decide_eq_false (fun h => hR (List.eq_nil_of_length_eq_zero (by omega)))
   rw [if_neg (fun h => hR h.2), if_neg (by rintro ⟨h, _⟩; cases h)]
   cases h0 <;> first | rw [if_pos (Or.inl rfl)] | (cases an <;> first | rw [if_pos (Or.inr rfl)] | (rw [if_neg (by rintro (h | h) <;> cases h)]; cases un <;> first | rw [if_pos rfl] | rw [if_neg (by decide)]))
   all_goals
    repeat (first | refine und ?_ | (apply RL_pu; rfl; exact Zjs) | (apply RD_Q; rfl; rfl; decide +kernel; rfl; rfl; exact Zpd) | refine walk1 ?_ | (refine jg ?_; (try intro F); (first | (apply Zac (h := fun w' hw _ => hst w' hw); rfl; rintro v O' ⟨A3, c3, rfl, rfl⟩) | (refine Zad (fun w' hw => hh0 w') ?_) | (apply Zac (h := fun w' hw _ => hss w' hw); rfl; rintro v O' ⟨A5, c5, rfl, rfl⟩) | (refine ZaW (fun w' hw hO => hcn A5 c5 w' (Za4 Zch.len (hO.of (A := .row (.slice A5 S.length c5) 156 2 S.length (S.flatMap Zch)) (by repeat' constructor))) (hO.cells (by repeat' constructor))) ?_) | (refine Zad (fun w' hw => hun w') ?_) | (refine ZaW (fun w' hw hO => hfc A3 c3 w' hw (Za4 DRule.len (hO.of (A := .row (.slice A3 R.length c3) 56 11 R.length (R.flatMap DRule.enc)) (by repeat' constructor)))) ?_) | (refine bx ?_; intro bk)); first | refine ⟨_, EndsA, Zlx, ?_⟩ | refine fin ?_) | (refine jn ?_; (try intro F); (first | (refine bx ?_; intro bk) | (apply Zag; first | exact Zjs | exact PuA)); first | refine ⟨_, EndsA, Zlx, ?_⟩ | refine fin ?_))
    exact rtA
end Go.Proofs.YtbjomhdhkpgbaaaGreatDoor
namespace Go.Wk
open Go Go.RowKit
theorem Zpg {P : Program} {n : Nat} {wr : World} {fr : Fr} {O : List It} {ty t t' : TypeId} {x y : Operand} {i j m : Int} (hx : ev fr x = some (.int .i64 i)) (hy : ev fr y = some (.int .i64 j)) (hm : i - j = m) (h : -9223372036854775808 <= m /\ m <= 9223372036854775807) : Pu P n wr fr O (.binOp .sub t x y t') ty (.int .i64 m) := hm ▸ Pu_sub' hx hy (hm ▸ h)
end Go.Wk
namespace Go.Proofs.YtbjomhdhkpgbaaaGreatDoor
open Go Go.RowKit Go.Wk
attribute [local irreducible] W RL Does Zap Zak retQ Calls Pu Stp RD Qy Ay Zal
theorem Ztr (u : DUntil) (least : Int) : -200000000000000000 <= (ZaO u least).1 /\ (ZaO u least).1 <= 200000000000000000 := by
 unfold ZaO
 split
 ·exact ⟨by dsimp only; omega, by dsimp only; omega⟩
 ·rename_i h
  have h0 : ZaJ u least = 0 := Decidable.not_not.1 h
  have hb := Zmo u.year u.month u.day
  unfold ZaJ at h0
  dsimp only at h0 ⊢
  repeat' split at h0
  all_goals first | (exfalso; omega) | (split <;> omega)
theorem ZAo {u : DUntil} {least : Int} (h : ZaJ u least = 0) : (ZaO u least).2 = 0 := by
 unfold ZaO
 rw [if_neg (fun hh => hh h)]
theorem Zv5 {w : World} {ad : Addr} {e : DEra} (h : Zam w ad e.enc) : Zam w (ad.add 5) (DUntil.enc e.til) := fun j v hj => by
 rw [Za7]
 refine h (5 + j) v ?_
 rw [show DEra.enc e = [.int .i64 e.off, .int .i64 e.kind, .int .i64 e.save, .string e.set, .string e.format] ++ DUntil.enc e.til from rfl, List.getElem?_append_right (by simp)]
 simpa using hj
theorem Zlv.rs {s : Zab} (h : Zlv s) (e : DEra) : RsOk (Zaz s.rules e) := fun r hr => h r (Zf3 hr)
theorem Zeo {G : Prop} (h : G := by (first | exact PuI | (apply Pu_loadON; rfl; exact hcu; rfl) | (apply Zpg; rfl; rfl; exact hln; omega) | (apply Zpg; rfl; rfl; exact hkj; omega) | (apply Zbt; rfl; rfl; exact hdl))) : G := h
theorem Zpc {G : Prop} (h : G := by first | (apply Qy_y; rfl; exact Zeo) | exact QyA) : G := h
theorem ZdH {G : Prop} (h : G := by repeat (first | exact QF.nil | (apply QF.mk; rfl; rfl; decide +kernel; exact Zpc))) : G := h
theorem ZnL {G G' : Prop} (k : G') (h : Hold G' -> G := by intro k9; (first | refine und ?_ | (apply RL_pu; rfl; exact Zeo) | (apply RD_Q; rfl; rfl; decide +kernel; rfl; rfl; exact Zpc) | refine walk1 ?_ | (refine jn ?_; (try intro F); (first | (refine stA ?_) | (apply Zag; first | exact Zeo | exact PuA)); first | refine ⟨_, EndsA, ZdH, ?_⟩ | refine fin ?_)); exact k9.out) : G := h ⟨k⟩
theorem Zsv {G G' : Prop} (k : G') (h : Hold G' -> G := by intro k9; (first | refine und ?_ | (apply RL_pu; rfl; exact Zeo) | (apply RD_Q; rfl; rfl; decide +kernel; rfl; rfl; exact Zpc) | refine walk1 ?_ | (refine jg ?_; (try intro F); (first | (refine ZaW (fun w' hw hO => hle A3 c3 w' (Za4 DRule.len (hO.of (A := .row (.slice A3 R.length c3) 56 11 R.length (R.flatMap DRule.enc)) (by repeat' constructor)))) ?_) | (refine Zad huc ?_) | (refine Zad hno ?_) | (refine ZaW (fun w' hw hO => hfa A3 c3 w' hw (Za4 DRule.len (hO.of (A := .row (.slice A3 R.length c3) 56 11 R.length (R.flatMap DRule.enc)) (by repeat' constructor)))) ?_) | (refine stA ?_)); first | refine ⟨_, EndsA, ZdH, ?_⟩ | refine fin ?_) | (refine jn ?_; (try intro F); (first | (refine stA ?_) | (apply Zag; first | exact Zeo | exact PuA)); first | refine ⟨_, EndsA, ZdH, ?_⟩ | refine fin ?_)); exact k9.out) : G := h ⟨k⟩
theorem Zpz {G : Prop} (h : G := by (first | exact Zeo | (apply ZaH; rfl; rfl; exact bk2))) : G := h
theorem Zu4 {G : Prop} (h : G := by first | (apply Qy_y; rfl; exact Zpz) | exact QyA) : G := h
theorem Zva {G : Prop} (h : G := by repeat (first | exact QF.nil | (apply QF.mk; rfl; rfl; decide +kernel; exact Zu4))) : G := h
theorem ZlM {G : Prop} (h : G := by (first | exact Zeo | (apply Za0; rfl; rfl; exact bj) | (apply Zpg; rfl; rfl; exact hdf; omega) | (apply Zbt; rfl; rfl; exact b3))) : G := h
theorem Zu3 {G : Prop} (h : G := by first | (apply Qy_y; rfl; exact ZlM) | exact QyA) : G := h
theorem Ze2 {G : Prop} (h : G := by repeat (first | exact QF.nil | (apply QF.mk; rfl; rfl; decide +kernel; exact Zu3))) : G := h
theorem ZnK {G G' : Prop} (k : G') (h : Hold G' -> G := by intro k9; (first | refine und ?_ | (apply RL_pu; rfl; exact ZlM) | (apply RD_Q; rfl; rfl; decide +kernel; rfl; rfl; exact Zu3) | refine walk1 ?_ | (refine jg ?_; (try intro F); (first | (refine ZaW (fun w' hw hO => hle A3 c3 w' (Za4 DRule.len (hO.of (A := .row (.slice A3 R.length c3) 56 11 R.length (R.flatMap DRule.enc)) (by repeat' constructor)))) ?_) | (refine Zad huc ?_) | (refine Zad hno ?_) | (refine ZaW (fun w' hw hO => hfa A3 c3 w' hw (Za4 DRule.len (hO.of (A := .row (.slice A3 R.length c3) 56 11 R.length (R.flatMap DRule.enc)) (by repeat' constructor)))) ?_) | (refine ZaW (fun w' hw hO => hle2 A4 c4 w' (Za4 DRule.len (hO.of (A := .row (.slice A4 R2.length c4) 56 11 R2.length (R2.flatMap DRule.enc)) (by repeat' constructor)))) ?_) | (refine Zad hno2 ?_) | (refine stA ?_)); first | refine ⟨_, EndsA, Ze2, ?_⟩ | refine fin ?_) | (refine jn ?_; (try intro F); (first | (refine stA ?_) | (apply Zag; first | exact ZlM | exact PuA)); first | refine ⟨_, EndsA, Ze2, ?_⟩ | refine fin ?_)); exact k9.out) : G := h ⟨k⟩
theorem Zpy {G : Prop} (h : G := by (first | exact ZlM | (apply ZaH; rfl; rfl; exact bk2))) : G := h
theorem Zu2 {G : Prop} (h : G := by first | (apply Qy_y; rfl; exact Zpy) | exact QyA) : G := h
theorem Zu9 {G : Prop} (h : G := by repeat (first | exact QF.nil | (apply QF.mk; rfl; rfl; decide +kernel; exact Zu2))) : G := h
theorem Zpx {G : Prop} (h : G := by (first | exact Zeo | (apply Za0; rfl; rfl; exact bj) | (apply ZaG; rfl; rfl; exact b2))) : G := h
theorem Zu1 {G : Prop} (h : G := by first | (apply Qy_y; rfl; exact Zpx) | exact QyA) : G := h
theorem Zu8 {G : Prop} (h : G := by repeat (first | exact QF.nil | (apply QF.mk; rfl; rfl; decide +kernel; exact Zu1))) : G := h
theorem Zpw {G : Prop} (h : G := by (first | exact Zeo | (apply ZaG; rfl; rfl; exact bu))) : G := h
theorem Zu0 {G : Prop} (h : G := by first | (apply Qy_y; rfl; exact Zpw) | exact QyA) : G := h
theorem Zu7 {G : Prop} (h : G := by repeat (first | exact QF.nil | (apply QF.mk; rfl; rfl; decide +kernel; exact Zu0))) : G := h
set_option maxHeartbeats 2000000 in
theorem ZtK (Ar Az Al As : Option Addr) (cr cz cl cs : Nat) (a : Zab) (Ae : Option Addr) (ce : Nat) (eras : List DEra) (k : Nat) (w : World) (hG : Glob w) (hA : Zaj w Ar Az Al As cr cz cl cs a) (hS : Zg8 a) (hV : Zlv a)
  (hE : RdSl w Ae ce DEra.enc 13 eras) (hel : eras.length <= 1000000) (hk : k < eras.length) :
  Does Tryz.prog 96 [srcV Ar Az Al As cr cz cl cs a, .slice Ae eras.length ce, .int .i64 k] w (fun v O => v = .int .i64 (Zfz a.rules eras k) /\ O = []) := by
 have hn := hS.nr
 obtain ⟨hna, hca⟩ := hE.rd k _ (List.getElem?_eq_getElem hk)
 have hgd : eras.getD k dE0 = eras[k] := by rw [List.getD_eq_getElem?_getD, List.getElem?_eq_getElem hk]; rfl
 unfold Zfz
 rw [hgd]
 dsimp only
 generalize eras[k] = e at *
 have hst := fun w' (hw : Bel w.heap.size w w') => Zgf Ar Az Al As cr cz cl cs a e w' (hA.up hw) hn
 have hle := fun A3 c3 w' h => Zcq A3 c3 (Zaz a.rules e) w' h
 have hRl := Zie a.rules e
 have hRs := hV.rs e
 have huc := fun w' (hw : Bel w.heap.size w w') => ZhY e.til (Zai (Zaz a.rules e)) w' (hG.up hw)
 have hno := fun w' (hw : Bel w.heap.size w w') => Zhk e.til (Zai (Zaz a.rules e)) w' (hG.up hw)
 have hnb := Ztr e.til (Zai (Zaz a.rules e))
 have hn0 := @ZAo e.til (Zai (Zaz a.rules e))
 have hfa := fun A3 c3 w' (hw : Bel w.heap.size w w') h => Zw8 A3 c3 (Zaz a.rules e) (ZaO e.til (Zai (Zaz a.rules e))).1 w' (hG.up hw) h (by omega) hRs (by omega)
 generalize Zaz a.rules e = R at *
 generalize hLT : Zai R = least at *
 generalize ZaJ e.til least = uc at *
 generalize farD R (ZaO e.til least).1 = fr at *
 generalize ZaO e.til least = nm at *
 obtain ⟨n, ne⟩ := nm
 dsimp only at hno hnb hn0 hfa ⊢
 obtain ⟨off, kind, save, set, format, til⟩ := e
 dsimp only at huc hno hst ⊢
 simp only [DEra.enc] at hst hca
 obtain ⟨is, year, month, ⟨dk, dw, dd⟩, ⟨us, ub⟩⟩ := til
 dsimp only at hst hca ⊢
 simp only [DUntil.enc] at huc hno
 obtain ⟨ln, hln⟩ : ∃ ln : Int, (eras.length : Int) - 1 = ln := ⟨_, rfl⟩
 have hdl : decide ((k : Int) < ln) = decide (k + 1 < eras.length) := by rw [decide_eq_decide]; omega
 generalize hlt : decide (k + 1 < eras.length) = lt at *
 refine Zaa Tryz.func96 rfl rfl rfl rfl ?_
 have hcb := hca
 have hcu := hca
 have hkj : (k : Int) - 0 = k := by omega
 cases is with
 | false =>
  cases lt with
  | true =>
   rw [if_pos (by decide)]
   repeat (first | refine ZnL ?_ | (refine jn ?_; (try intro F); (refine bx ?_; intro bk); first | refine ⟨_, EndsA, ZdH, ?_⟩ | refine fin ?_) | (apply RD_W; rfl; intro bk))
   exact rtA
  | false =>
   rw [if_neg (by decide), if_pos rfl]
   repeat (first | refine ZnL ?_ | (refine jn ?_; (try intro F); (refine bx ?_; intro bk); first | refine ⟨_, EndsA, ZdH, ?_⟩ | refine fin ?_) | (apply RD_W; rfl; intro bk))
   exact rtA
 | true =>
 cases lt with
 | false =>
  rw [if_pos (by decide)]
  repeat (first | refine ZnL ?_ | (refine jn ?_; (try intro F); (refine bx ?_; intro bk); first | refine ⟨_, EndsA, ZdH, ?_⟩ | refine fin ?_) | (apply RD_W; rfl; intro bk))
  exact rtA
 | true =>
 rw [if_neg (by decide), if_neg (by decide)]
 by_cases hu : uc = 0
 ·rw [if_neg (fun h => h hu)]
  have hne : ne = 0 := hn0 hu
  subst hu hne
  cases k with
  | zero =>
   rw [if_neg (by rintro ⟨h, _⟩; omega)]
   clear hcb hcu
   by_cases hk2 : kind = 2
   ·subst hk2
    cases fr with
    | false =>
     rw [if_pos ⟨rfl, rfl⟩]
     repeat (first | refine Zsv ?_ | (refine jg ?_; (try intro F); (first | (apply Zac (h := fun w' hw _ => hst w' hw); rfl; rintro v O' ⟨A3, c3, rfl, rfl⟩) | (refine bx ?_; intro bk)); first | refine ⟨_, EndsA, ZdH, ?_⟩ | refine fin ?_) | (refine jn ?_; (try intro F); (refine bx ?_; intro bk); first | refine ⟨_, EndsA, ZdH, ?_⟩ | refine fin ?_) | (apply RD_W; rfl; intro bk))
     exact rtA
    | true =>
     rw [if_neg (by rintro ⟨_, h⟩; cases h)]
     repeat (first | refine Zsv ?_ | (refine jg ?_; (try intro F); (first | (apply Zac (h := fun w' hw _ => hst w' hw); rfl; rintro v O' ⟨A3, c3, rfl, rfl⟩) | (refine bx ?_; intro bk)); first | refine ⟨_, EndsA, ZdH, ?_⟩ | refine fin ?_) | (refine jn ?_; (try intro F); (refine bx ?_; intro bk); first | refine ⟨_, EndsA, ZdH, ?_⟩ | refine fin ?_) | (apply RD_W; rfl; intro bk))
     exact rtA
   ·have bk2 : decide (kind = 2) = false := decide_eq_false hk2
    rw [if_neg (fun h => hk2 h.1)]
    repeat (first | refine und ?_ | (apply RL_pu; rfl; exact Zpz) | (apply RD_Q; rfl; rfl; decide +kernel; rfl; rfl; exact Zu4) | refine walk1 ?_ | (refine jg ?_; (try intro F); (first | (apply Zac (h := fun w' hw _ => hst w' hw); rfl; rintro v O' ⟨A3, c3, rfl, rfl⟩) | (refine ZaW (fun w' hw hO => hle A3 c3 w' (Za4 DRule.len (hO.of (A := .row (.slice A3 R.length c3) 56 11 R.length (R.flatMap DRule.enc)) (by repeat' constructor)))) ?_) | (refine Zad huc ?_) | (refine Zad hno ?_) | (refine ZaW (fun w' hw hO => hfa A3 c3 w' hw (Za4 DRule.len (hO.of (A := .row (.slice A3 R.length c3) 56 11 R.length (R.flatMap DRule.enc)) (by repeat' constructor)))) ?_) | (refine bx ?_; intro bk) | (refine stA ?_)); first | refine ⟨_, EndsA, Zva, ?_⟩ | refine fin ?_) | (refine jn ?_; (try intro F); (first | (refine bx ?_; intro bk) | (refine stA ?_) | (apply Zag; first | exact Zpz | exact PuA)); first | refine ⟨_, EndsA, Zva, ?_⟩ | refine fin ?_) | (apply RD_W; rfl; intro bk))
    exact rtA
  | succ j =>
   have bj : decide ((0 : Int) < ((j + 1 : Nat) : Int)) = true := decide_eq_true (by omega)
   clear hcb hcu hkj
   have hj : j < eras.length := by omega
   obtain ⟨hnb', hcb⟩ := hE.rd j _ (List.getElem?_eq_getElem hj)
   have hgj : eras.getD (j + 1 - 1) dE0 = eras[j] := by rw [Nat.add_sub_cancel, List.getD_eq_getElem?_getD, List.getElem?_eq_getElem hj]; rfl
   rw [hgj]
   generalize eras[j] = b at *
   have hcu := Zv5 hcb
   have hkj : ((j + 1 : Nat) : Int) - 1 = (j : Int) := by omega
   have hst2 := fun w' (hw : Bel w.heap.size w w') => Zgf Ar Az Al As cr cz cl cs a b w' (hA.up hw) hn
   have hle2 := fun A3 c3 w' h => Zcq A3 c3 (Zaz a.rules b) w' h
   have hno2 := fun w' (hw : Bel w.heap.size w w') => Zhk b.til (Zai (Zaz a.rules b)) w' (hG.up hw)
   have hnb2 := Ztr b.til (Zai (Zaz a.rules b))
   generalize Zaz a.rules b = R2 at *
   generalize Zai R2 = least2 at *
   generalize ZaO b.til least2 = nm2 at *
   obtain ⟨n2, ne2⟩ := nm2
   obtain ⟨off2, ZAs, save2, set2, format2, ⟨is2, year2, month2, ⟨dk2, dw2, dd2⟩, ⟨us2, ub2⟩⟩⟩ := b
   dsimp only at hno2 hnb2 hst2 hcu ⊢
   simp only [DEra.enc] at hst2 hcb
   simp only [DUntil.enc] at hno2 hcu
   by_cases h2 : ne2 = 0
   ·subst h2
    obtain ⟨df, hdf⟩ : ∃ df, n - n2 = df := ⟨_, rfl⟩
    rw [hdf]
    by_cases h3 : df < 259200
    ·have b3 : decide (df < 259200) = true := decide_eq_true h3
     rw [if_pos ⟨by omega, .inr h3⟩]
     repeat (first | refine ZnK ?_ | (refine jg ?_; (try intro F); (first | (apply Zac (h := fun w' hw _ => hst w' hw); rfl; rintro v O' ⟨A3, c3, rfl, rfl⟩) | (apply Zac (h := fun w' hw _ => hst2 w' hw); rfl; rintro v O' ⟨A4, c4, rfl, rfl⟩) | (refine bx ?_; intro bk)); first | refine ⟨_, EndsA, Ze2, ?_⟩ | refine fin ?_) | (refine jn ?_; (try intro F); (refine bx ?_; intro bk); first | refine ⟨_, EndsA, Ze2, ?_⟩ | refine fin ?_) | (apply RD_W; rfl; intro bk))
     exact rtA
    ·have b3 : decide (df < 259200) = false := decide_eq_false h3
     rw [if_neg (by rintro ⟨_, h | h⟩; exact h rfl; exact h3 h)]
     by_cases hk2 : kind = 2
     ·subst hk2
      cases fr with
      | false =>
       rw [if_pos ⟨rfl, rfl⟩]
       repeat (first | refine ZnK ?_ | (refine jg ?_; (try intro F); (first | (apply Zac (h := fun w' hw _ => hst w' hw); rfl; rintro v O' ⟨A3, c3, rfl, rfl⟩) | (apply Zac (h := fun w' hw _ => hst2 w' hw); rfl; rintro v O' ⟨A4, c4, rfl, rfl⟩) | (refine bx ?_; intro bk)); first | refine ⟨_, EndsA, Ze2, ?_⟩ | refine fin ?_) | (refine jn ?_; (try intro F); (refine bx ?_; intro bk); first | refine ⟨_, EndsA, Ze2, ?_⟩ | refine fin ?_) | (apply RD_W; rfl; intro bk))
       exact rtA
      | true =>
       rw [if_neg (by rintro ⟨_, h⟩; cases h)]
       repeat (first | refine ZnK ?_ | (refine jg ?_; (try intro F); (first | (apply Zac (h := fun w' hw _ => hst w' hw); rfl; rintro v O' ⟨A3, c3, rfl, rfl⟩) | (apply Zac (h := fun w' hw _ => hst2 w' hw); rfl; rintro v O' ⟨A4, c4, rfl, rfl⟩) | (refine bx ?_; intro bk)); first | refine ⟨_, EndsA, Ze2, ?_⟩ | refine fin ?_) | (refine jn ?_; (try intro F); (refine bx ?_; intro bk); first | refine ⟨_, EndsA, Ze2, ?_⟩ | refine fin ?_) | (apply RD_W; rfl; intro bk))
       exact rtA
     ·have bk2 : decide (kind = 2) = false := decide_eq_false hk2
      rw [if_neg (fun h => hk2 h.1)]
      repeat (first | refine und ?_ | (apply RL_pu; rfl; exact Zpy) | (apply RD_Q; rfl; rfl; decide +kernel; rfl; rfl; exact Zu2) | refine walk1 ?_ | (refine jg ?_; (try intro F); (first | (apply Zac (h := fun w' hw _ => hst w' hw); rfl; rintro v O' ⟨A3, c3, rfl, rfl⟩) | (refine ZaW (fun w' hw hO => hle A3 c3 w' (Za4 DRule.len (hO.of (A := .row (.slice A3 R.length c3) 56 11 R.length (R.flatMap DRule.enc)) (by repeat' constructor)))) ?_) | (refine Zad huc ?_) | (refine Zad hno ?_) | (refine ZaW (fun w' hw hO => hfa A3 c3 w' hw (Za4 DRule.len (hO.of (A := .row (.slice A3 R.length c3) 56 11 R.length (R.flatMap DRule.enc)) (by repeat' constructor)))) ?_) | (apply Zac (h := fun w' hw _ => hst2 w' hw); rfl; rintro v O' ⟨A4, c4, rfl, rfl⟩) | (refine ZaW (fun w' hw hO => hle2 A4 c4 w' (Za4 DRule.len (hO.of (A := .row (.slice A4 R2.length c4) 56 11 R2.length (R2.flatMap DRule.enc)) (by repeat' constructor)))) ?_) | (refine Zad hno2 ?_) | (refine bx ?_; intro bk) | (refine stA ?_)); first | refine ⟨_, EndsA, Zu9, ?_⟩ | refine fin ?_) | (refine jn ?_; (try intro F); (first | (refine bx ?_; intro bk) | (refine stA ?_) | (apply Zag; first | exact Zpy | exact PuA)); first | refine ⟨_, EndsA, Zu9, ?_⟩ | refine fin ?_) | (apply RD_W; rfl; intro bk))
      exact rtA
   ·have b2 : (!decide (ne2 = 0)) = true := by rw [decide_eq_false h2]; rfl
    rw [if_pos ⟨by omega, .inl h2⟩]
    repeat (first | refine und ?_ | (apply RL_pu; rfl; exact Zpx) | (apply RD_Q; rfl; rfl; decide +kernel; rfl; rfl; exact Zu1) | refine walk1 ?_ | (refine jg ?_; (try intro F); (first | (apply Zac (h := fun w' hw _ => hst w' hw); rfl; rintro v O' ⟨A3, c3, rfl, rfl⟩) | (refine ZaW (fun w' hw hO => hle A3 c3 w' (Za4 DRule.len (hO.of (A := .row (.slice A3 R.length c3) 56 11 R.length (R.flatMap DRule.enc)) (by repeat' constructor)))) ?_) | (refine Zad huc ?_) | (refine Zad hno ?_) | (refine ZaW (fun w' hw hO => hfa A3 c3 w' hw (Za4 DRule.len (hO.of (A := .row (.slice A3 R.length c3) 56 11 R.length (R.flatMap DRule.enc)) (by repeat' constructor)))) ?_) | (apply Zac (h := fun w' hw _ => hst2 w' hw); rfl; rintro v O' ⟨A4, c4, rfl, rfl⟩) | (refine ZaW (fun w' hw hO => hle2 A4 c4 w' (Za4 DRule.len (hO.of (A := .row (.slice A4 R2.length c4) 56 11 R2.length (R2.flatMap DRule.enc)) (by repeat' constructor)))) ?_) | (refine Zad hno2 ?_) | (refine bx ?_; intro bk) | (refine stA ?_)); first | refine ⟨_, EndsA, Zu8, ?_⟩ | refine fin ?_) | (refine jn ?_; (try intro F); (first | (refine bx ?_; intro bk) | (refine stA ?_) | (apply Zag; first | exact Zpx | exact PuA)); first | refine ⟨_, EndsA, Zu8, ?_⟩ | refine fin ?_) | (apply RD_W; rfl; intro bk))
    exact rtA
 ·rw [if_pos hu]
  have bu : (!decide (uc = 0)) = true := by rw [decide_eq_false hu]; rfl
  repeat (first | refine und ?_ | (apply RL_pu; rfl; exact Zpw) | (apply RD_Q; rfl; rfl; decide +kernel; rfl; rfl; exact Zu0) | refine walk1 ?_ | (refine jg ?_; (try intro F); (first | (apply Zac (h := fun w' hw _ => hst w' hw); rfl; rintro v O' ⟨A3, c3, rfl, rfl⟩) | (refine ZaW (fun w' hw hO => hle A3 c3 w' (Za4 DRule.len (hO.of (A := .row (.slice A3 R.length c3) 56 11 R.length (R.flatMap DRule.enc)) (by repeat' constructor)))) ?_) | (refine Zad huc ?_) | (refine bx ?_; intro bk) | (refine stA ?_)); first | refine ⟨_, EndsA, Zu7, ?_⟩ | refine fin ?_) | (refine jn ?_; (try intro F); (first | (refine bx ?_; intro bk) | (refine stA ?_) | (apply Zag; first | exact Zpw | exact PuA)); first | refine ⟨_, EndsA, Zu7, ?_⟩ | refine fin ?_) | (apply RD_W; rfl; intro bk))
  exact rtA
end Go.Proofs.YtbjomhdhkpgbaaaGreatDoor
