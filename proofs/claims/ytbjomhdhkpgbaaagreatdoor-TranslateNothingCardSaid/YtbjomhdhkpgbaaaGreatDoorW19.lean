/- Parts of the proof. -/
import Derived.Test.YtbjomhdhkpgbaaaGreatDoorW18
import Derived.Test.YtbjomhdhkpgbaaaGreatDoorW08
set_option maxHeartbeats 4000000
set_option linter.unusedVariables false
set_option linter.unusedSimpArgs false
namespace Go.Proofs.YtbjomhdhkpgbaaaGreatDoor
open Go Go.RowKit Go.Wk
attribute [local irreducible] W RL Does Zap Zak retQ Calls Pu Stp RD Qy Ay Zal
theorem Zvg {G : Prop} (h : G := by (apply Ze0; rfl; rfl; exact b1)) : G := h
theorem Zj1 (off save : Int) (ho : I64 off) (hs : I64 save) (w : World) : Does Tryz.prog 131 [.int .i64 off, .int .i64 save] w (fun v O => v = .bool (Zby off save) /\ O = []) := by
 have hsm := fun w' => Zjc off save ho hs w'
 refine Zaa Tryz.func131 rfl rfl rfl rfl ?_
 cases hok : Zdu (off + save) with
 | false =>
  rw [hok] at hsm
  have hb : Zby off save = false := by
   unfold Zby
   by_cases h1 : -54000 <= off + save
   ·by_cases h2 : off + save <= 54000
    ·exfalso
     have : Zdu (off + save) = true := by unfold Zdu; rw [decide_eq_true (by omega), decide_eq_true (by omega)]; rfl
     rw [this] at hok
     cases hok
    ·rw [decide_eq_false h2, Bool.and_false]
   ·rw [decide_eq_false h1, Bool.false_and]
  rw [hb]
  repeat (first | refine und ?_ | (refine js ?_; (refine Zae (fun w' hw => hsm w') ?_)) | refine walk ?_)
  exact rtA
 | true =>
  rw [hok, if_pos rfl] at hsm
  unfold Zby
  generalize off + save = x at *
  by_cases h1 : -54000 <= x
  ·have b1 : decide (-54000 <= x) = true := decide_eq_true h1
   rw [b1]
   repeat (first | refine und ?_ | (apply RL_pu; rfl; exact Zvg) | (refine js ?_; (refine Zae (fun w' hw => hsm w') ?_)) | refine walk1 ?_)
   exact rtA
  ·have b1 : decide (-54000 <= x) = false := decide_eq_false h1
   rw [b1]
   repeat (first | refine und ?_ | (apply RL_pu; rfl; exact Zvg) | (refine js ?_; (refine Zae (fun w' hw => hsm w') ?_)) | refine walk1 ?_)
   exact rtA
theorem Zge (Ar Az Al As : Option Addr) (cr cz cl cs : Nat) (a : Zac) (e : DEra) (w : World) (hA : Zan w Ar Az Al As cr cz cl cs a) (hn : a.rules.length <= 1000000) :
  Does Tryz.prog 132 [srcV Ar Az Al As cr cz cl cs a, .agg e.enc.toArray] w (ZhC 56 11 Zab.enc (ZaD a.rules e)) := by
 have hof := fun w' (hw : Bel w.heap.size w w') => Zd1 Ar Az Al As cr cz cl cs a e.set w' (hA.up hw) hn
 unfold ZaD
 obtain ⟨off, kind, save, set, format, til⟩ := e
 dsimp only at hof ⊢
 simp only [DEra.enc]
 refine Zaa Tryz.func132 rfl rfl rfl rfl ?_
 by_cases hk : kind = 2
 ·subst hk
  rw [if_pos rfl]
  generalize ofB a.rules set = R at *
  repeat (first | (refine js ?_; (first | (apply Zad (h := fun w' hw _ => hof w' hw); rfl; rintro v O' ⟨A3, c3, rfl, rfl⟩) | (refine bx ?_; intro bk))) | refine walk ?_)
  exact ret_1 _ [.row (.slice A3 R.length c3) 56 11 R.length (R.flatMap Zab.enc)] (.tmp rfl) SOA ⟨A3, c3, rfl, rfl⟩
 ·rw [if_neg hk]
  have hb : (!decide (kind = 2)) = true := by rw [decide_eq_false hk]; rfl
  refine Zdw 56 11 ?_
  repeat (first | (apply RL_pu; rfl; (apply ZaT; rfl; rfl; exact hb)) | (refine js ?_; (refine bx ?_; intro bk)) | refine walk1 ?_)
  exact ret_1 _ [.row (.slice none 0 0) 56 11 0 []] (.tmp rfl) SOA ⟨none, 0, rfl, rfl⟩
def Zcl (x : Int × ByteArray) : List Value := [.int .i64 x.1, .string x.2]
theorem Zcl.len (x : Int × ByteArray) : (Zcl x).length = 2 := rfl
structure StG where
 k : Nat
 A : Option Addr
 c : Nat
 m : Nat
 ys : List Value
def StR (l : List (Int × ByteArray)) (v : Value) (O : List It) : Prop := ZhC 156 2 Zcl l v O \/ ∃ b x, l = [x] /\ v = .slice (some ⟨b, 0, none⟩) 1 1 /\ O = [.blk b (Zcl x) 156]
theorem Zvf {G : Prop} (h : G := by (apply ZaF; rfl; rfl; exact b1)) : G := h
theorem Zl1 (Ar Az Al As : Option Addr) (cr cz cl cs : Nat) (a : Zac) (e : DEra) (w : World) (hA : Zan w Ar Az Al As cr cz cl cs a) (hn : a.rules.length <= 1000000) :
  Does Tryz.prog 134 [srcV Ar Az Al As cr cz cl cs a, .agg e.enc.toArray] w (StR (ZaG a.rules e)) := by
 have hst := fun w' (hw : Bel w.heap.size w w') => Zge Ar Az Al As cr cz cl cs a e w' (hA.up hw) hn
 have hRl : (ZaD a.rules e).length <= 1000000 := by
  unfold ZaD
  split
  ·exact Nat.le_trans (Zod _ _) hn
  ·exact Nat.zero_le _
 unfold ZaG
 generalize ZaD a.rules e = R at *
 obtain ⟨off, kind, save, set, format, til⟩ := e
 dsimp only at hst ⊢
 simp only [DEra.enc] at hst ⊢
 refine Zaa Tryz.func134 rfl rfl rfl rfl ?_
 by_cases hk1 : kind = 1
 ·subst hk1
  rw [if_pos rfl]
  repeat (first | (refine js ?_; (refine bx ?_; intro bk)) | refine walk ?_)
  exact ret_1 _ [.blk bk [.int .i64 save, .string ByteArray.empty] 156] (.tmp rfl) SOA (.inr ⟨bk, (save, ByteArray.empty), rfl, rfl, rfl⟩)
 have b1 : decide (kind = 1) = false := decide_eq_false hk1
 rw [if_neg hk1]
 by_cases hk2 : kind = 2
 ·subst hk2
  rw [if_pos rfl]
  repeat (first | (apply RL_pu; rfl; exact Zvf) | (refine js ?_; (first | (apply Zad (h := fun w' hw _ => hst w' hw); rfl; rintro v O' ⟨A3, c3, rfl, rfl⟩) | (refine bx ?_; intro bk))) | refine walk1 ?_)
  refine Zdw 156 2 ?_
  refine Zat [(20, .slice A3 R.length c3), (21, .int .i64 R.length)] [.row (.slice A3 R.length c3) 56 11 R.length (R.flatMap Zab.enc)] (fun g : StG => [(5, .slice g.A g.m g.c), (22, .int .i64 g.k)]) (fun g => [.row (.slice g.A g.m g.c) 156 2 g.m g.ys])
   (fun g => g.k <= R.length /\ g.m = g.k /\ g.ys = ((R.take g.k).map fun r => (r.save, r.letter)).flatMap Zcl) (fun g => R.length - g.k) ⟨0, none, 0, 0, []⟩ SFA SOA ⟨Nat.zero_le _, rfl, rfl⟩ ?_
  rintro ⟨k, A1, c1, m, ys⟩ ⟨hkl, hm, hy⟩
  dsimp only at hkl hm hy ⊢
  repeat (first | (refine js ?_; (refine bx ?_; intro bk)) | refine walk ?_)
  refine Zaf rfl (fun hc => ?_) (fun hc => ?_)
  ·simp only [decide_eq_true_eq, Int.ofNat_lt] at hc
   have hg1 := ZaH Zab.len R k _ 0 _ (List.getElem?_eq_getElem hc) rfl
   have hgn : ∀ j v, (Zab.enc R[k])[j]? = some v -> (R.flatMap Zab.enc)[k * 11 + j]? = some v := fun j v hj => ZaH Zab.len R k _ j v (List.getElem?_eq_getElem hc) hj
   have htk := List.take_append_getElem hc
   generalize R[k] = r at *
   simp only [Zab.enc] at hgn hg1
   repeat (first | (apply RL_pu; rfl; (first | (apply Zaz; rfl; rfl; omega; omega; (intro w' _ hO; exact (Zb2 (hO.of (A := .row (.slice A3 R.length c3) 56 11 R.length (R.flatMap Zab.enc)) (by repeat' constructor)) hg1).1)) | (apply Zbk; rfl; (focus repeat' constructor); exact hgn; rfl))) | (refine js ?_; (first | (apply ZaC; rfl; rfl; (intro A' c'; (focus repeat' constructor)); (intro w' _ hO; exact ZbF (hO.of (by repeat' constructor))); rfl; rfl; (simp only [maxLen]; omega); omega; intro A' c' hc1 hc2 hc3) | (refine bx ?_; intro bk))) | refine walk1 ?_)
   exact ⟨⟨k + 1, A', c', m + 1, ys ++ [.int .i64 r.save, .string r.letter]⟩, OA, ⟨OA, OA, by dsimp only; rw [hy, <- htk]; simp [Zcl]⟩, SFA, SOA⟩
  ·obtain rfl : k = R.length := by simp only [decide_eq_false_iff_not, Int.ofNat_lt] at hc; omega
   rw [List.take_length] at hy
   subst hm hy
   repeat (first | (refine js ?_; (refine bx ?_; intro bk)) | refine walk ?_)
   exact ret_1 _ [.row (.slice A1 R.length c1) 156 2 R.length ((R.map fun r => (r.save, r.letter)).flatMap Zcl)] (.tmp rfl) SOA (.inl ⟨A1, c1, by rw [List.length_map], by rw [List.length_map]⟩)
 have b2 : decide (kind = 2) = false := decide_eq_false hk2
 rw [if_neg hk2]
 repeat (first | (apply RL_pu; rfl; (first | exact Zvf | (apply ZaF; rfl; rfl; exact b2))) | (refine js ?_; (refine bx ?_; intro bk)) | refine walk1 ?_)
 exact ret_1 _ [.blk bk [.int .i64 0, .string ByteArray.empty] 156] (.tmp rfl) SOA (.inr ⟨bk, (0, ByteArray.empty), rfl, rfl, rfl⟩)
theorem Zh4 (Ar Az Al As : Option Addr) (cr cz cl cs : Nat) (a : Zac) (e : DEra) (w : World) (hA : Zan w Ar Az Al As cr cz cl cs a) (hn : a.rules.length <= 1000000) :
  Does Tryz.prog 134 [srcV Ar Az Al As cr cz cl cs a, .agg e.enc.toArray] w (ZhC 156 2 Zcl (ZaG a.rules e)) :=
 (Zl1 Ar Az Al As cr cz cl cs a e w hA hn).monoH fun v O base w' hR hH => by
  rcases hR with h | ⟨b, x, hl, rfl, rfl⟩
  ·exact ⟨O, h, hH⟩
  ·rw [hl]
   exact ⟨_, ⟨some ⟨b, 0, none⟩, 1, rfl, rfl⟩, hH.toRow (m := 1) 2 rfl (by decide) (by simpa using Upd.here)⟩
end Go.Proofs.YtbjomhdhkpgbaaaGreatDoor
namespace Go.Wk
open Go Go.RowKit
theorem ZwL {P : Program} {n : Nat} {wr : World} {fr : Fr} {O : List It} {ty t t' : TypeId} {α : Type} [DecidableEq α] {enc : α -> List Value} {x y : Operand} {i j : α} {b : Bool} [hE : EqE P t α enc] (hx : ev fr x = some (.agg (enc i).toArray)) (hy : ev fr y = some (.agg (enc j).toArray)) (h : (!decide (i = j)) = b) :
  Pu P n wr fr O (.binOp .neq t x y t') ty (.bool b) := h ▸ Pu_neqE hx hy
end Go.Wk
namespace Go.Proofs.YtbjomhdhkpgbaaaGreatDoor
open Go Go.RowKit Go.Wk
attribute [local irreducible] W RL Does Zap Zak retQ Calls Pu Stp RD Qy Ay Zal
theorem ZmK (A : Option Addr) (c : Nat) (l : List (Int × ByteArray)) (f : FuncId) [Body Tryz.prog f] (us cs : List Value) (p : Int × ByteArray -> Bool) (w : World) (hA : RdSl w A c Zcl 2 l)
  (hf : ∀ r ∈ l, ∀ w', Bel w.heap.size w w' -> Does Tryz.prog f (us ++ [.agg (Zcl r).toArray] ++ cs) w' (fun v O => v = .bool (p r) /\ O = [])) :
  Does Tryz.prog 176 [.slice A l.length c, .func (.func f) us.toArray cs.toArray] w (fun v O => v = .int .i64 (ZbK p l 0) /\ O = []) := by
 have hs1 := hA.le
 have hs2 := hA.cap
 unfold maxLen at hs2
 generalize hres : ZbK p l 0 = res
 refine Zaa Tryz.func176 rfl rfl rfl rfl ?_
 repeat (first | refine walk ?_)
 refine Zat [(0, _), (1, _), (4, _), (7, _)] _ (fun k : Nat => [(8, .int .i64 k)]) (fun _ => []) (fun k => k <= l.length /\ ZbK p (l.drop k) k = res) (fun k => l.length - k) 0 ⟨rfl, rfl, rfl, rfl, rfl, trivial⟩ (.refl _) ⟨by omega, by simpa using hres⟩ ?_
 rintro k ⟨hk, hi⟩
 repeat (first | refine walk ?_)
 refine Zaf rfl (fun hc => ?_) (fun hc => ?_)
 ·simp only [decide_eq_true_eq, Int.ofNat_lt] at hc
  obtain ⟨hna, hca⟩ := hA.rd k _ (List.getElem?_eq_getElem hc)
  have hnb := hna
  have hcb := hca
  rw [Zao hc, ZbK] at hi
  have hrm := List.getElem_mem hc
  generalize l[k] = r at *
  repeat (first | (apply RL_pu; rfl; exact PuI) | (refine js ?_; (refine ZdQ (fun w' hw _ => hf r hrm w' hw) ?_)) | refine walk1 ?_)
  refine Zaf rfl (fun h3 => ?_) (fun h3 => ?_)
  ·repeat (first | refine walk ?_)
   rw [if_pos h3] at hi
   exact ret_1 _ [] (.tmp rfl) .nil ⟨by rw [<- hi], rfl⟩
  repeat (first | refine walk ?_)
  rw [h3] at hi
  exact ⟨k + 1, by omega, ⟨by omega, hi⟩, SFA, SOA⟩
 simp only [decide_eq_false_iff_not, Int.ofNat_lt] at hc
 repeat (first | refine walk ?_)
 exact ret_1 _ [] (.tmp rfl) .nil ⟨by rw [<- hi, List.drop_eq_nil_of_le (by omega)]; rfl, rfl⟩
theorem Zi1 (A : Option Addr) (c : Nat) (l : List (Int × ByteArray)) (f : FuncId) [Body Tryz.prog f] (us cs : List Value) (p : Int × ByteArray -> Bool) (w : World) (hA : RdSl w A c Zcl 2 l)
  (hf : ∀ r ∈ l, ∀ w', Bel w.heap.size w w' -> Does Tryz.prog f (us ++ [.agg (Zcl r).toArray] ++ cs) w' (fun v O => v = .bool (p r) /\ O = [])) :
  Does Tryz.prog 133 [.slice A l.length c, .func (.func f) us.toArray cs.toArray] w (fun v O => v = .bool (l.any p) /\ O = []) := by
 have h := fun w' (hw : Bel w.heap.size w w') => ZmK A c l f us cs p w' (hA.up hw) fun r hr w2 h2 => hf r hr w2 (hw.trans (h2.mono hw.size))
 rw [<- ZiJ p l 0]
 generalize ZbK p l 0 = k at *
 refine Zaa Tryz.func133 rfl rfl rfl rfl ?_
 repeat (first | (refine js ?_; (refine Zae h ?_)) | refine walk ?_)
 exact rtA
theorem ZtM (x : Int × ByteArray) (ad : Addr) (off : Int) (w : World) (h : w.cell? ad = some (.int .i64 off)) (ho : I64 off) (hx : I64 x.1) : Does Tryz.prog 130 [.agg (Zcl x).toArray, .pointer (some ad)] w (fun v O => v = .bool (!Zby off x.1) /\ O = []) := by
 obtain ⟨sv, lt⟩ := x
 dsimp only at hx ⊢
 have hh := fun w' => Zj1 off sv ho hx w'
 generalize Zby off sv = hb at *
 simp only [Zcl]
 refine Zaa Tryz.func130 rfl rfl rfl rfl ?_
 repeat (first | (apply RL_pu; rfl; (apply Pu_loadO1; rfl; exact h)) | (refine js ?_; (first | (refine Zae (fun w' hw => hh w') ?_) | (refine bx ?_; intro bk))) | refine walk1 ?_)
 exact rtA
instance : EqE Tryz.prog 52 ZaY ZaY.enc where
 h r s w := by
  unfold ZaY.enc
  simp [go_sem, Zc6]
  rcases r with ⟨_, _, _, ⟨_, _, _⟩, ⟨_, _⟩⟩
  rcases s with ⟨_, _, _, ⟨_, _, _⟩, ⟨_, _⟩⟩
  simp only [ZjP, Result.ok.injEq, and_true]
  rw [Bool.eq_iff_iff]
  simp [and_assoc]
 g := by kernel_rfl
theorem ZnO (e : DEra) (w : World) : Does Tryz.prog 135 [.agg e.enc.toArray] w (fun v O => v = .bool (ZeC e) /\ O = []) := by
 obtain ⟨off, kind, save, set, format, til⟩ := e
 unfold ZeC
 dsimp only
 obtain ⟨is, year, month, ⟨dk, dw, dd⟩, ⟨cs, cb⟩⟩ := til
 dsimp only
 obtain ⟨n1, e1⟩ : ∃ b, (!decide (kind = 1)) = b := ⟨_, rfl⟩
 obtain ⟨n2, e2⟩ : ∃ b, (!decide (save = 0)) = b := ⟨_, rfl⟩
 obtain ⟨n3, e3⟩ : ∃ b, (!decide (kind = 2)) = b := ⟨_, rfl⟩
 obtain ⟨n4, e4⟩ : ∃ b, (!decide (set = ByteArray.empty)) = b := ⟨_, rfl⟩
 obtain ⟨n5, e5⟩ : ∃ b, (!decide ((⟨false, year, month, ⟨dk, dw, dd⟩, ⟨cs, cb⟩⟩ : ZaY) = dU0)) = b := ⟨_, rfl⟩
 rw [e1, e2, e3, e4, e5]
 simp only [DEra.enc]
 refine Zaa Tryz.func135 rfl rfl rfl rfl ?_
 repeat' (first | (apply RL_pu; rfl; (first | (apply ZaT; rfl; rfl; exact e1) | (apply ZaT; rfl; rfl; exact e2) | (apply ZaT; rfl; rfl; exact e3) | (apply Zgy; rfl; rfl; exact e4) | (apply ZwL (i := (⟨false, year, month, ⟨dk, dw, dd⟩, ⟨cs, cb⟩⟩ : ZaY)) (j := dU0) (enc := ZaY.enc); rfl; rfl; exact e5))) | (refine js ?_; (refine bx ?_; intro bk)) | refine walk1 ?_ | refine und ?_ | (refine Zay rfl rfl rfl (fun hc => ?_) (fun hc => ?_)) | (refine Zax rfl rfl rfl (fun hc => ?_) (fun hc => ?_)) | (refine Zaf rfl (fun hc => ?_) (fun hc => ?_)))
 all_goals exact clo1
theorem Zlr.i64 {s : Zac} (h : Zlr s) : ∀ r ∈ s.rules, I64 r.save := fun r hr => by have := (h r hr).1; unfold I64; omega
theorem Zf3 {rs : List Zab} {e : DEra} {r : Zab} (h : r ∈ ZaD rs e) : r ∈ rs := by
 unfold ZaD at h
 split at h
 ·exact ZsY h
 ·cases h
theorem Zib (rs : List Zab) (e : DEra) : (ZaD rs e).length <= rs.length := by
 unfold ZaD
 split
 ·exact Zod _ _
 ·exact Nat.zero_le _
theorem Zh6 {rs : List Zab} {e : DEra} (hr : ∀ r ∈ rs, I64 r.save) (hs : I64 e.save) : ∀ x ∈ ZaG rs e, I64 x.1 := by
 intro x hx
 unfold ZaG at hx
 split at hx
 ·simp only [List.mem_singleton] at hx; subst hx; exact hs
 ·split at hx
  ·obtain ⟨r, h, rfl⟩ := List.mem_map.1 hx
   exact hr r (Zf3 h)
  ·simp only [List.mem_singleton] at hx; subst hx; exact ⟨by decide, by decide⟩
def offB (off : Int) (x : Int × ByteArray) : Bool := !Zby off x.1
structure Zvo (e : DEra) : Prop where
 off : I64 e.off
 save : I64 e.save
 kind : I64 e.kind
 fmt : e.format.size <= 1000000000
theorem Zpu {G : Prop} (h : G := by (apply ZbD; rfl; rfl; exact b1)) : G := h
theorem Zve {G : Prop} (h : G := by (first | exact Zpu | (apply Za5; rfl; rfl; exact b2))) : G := h
theorem Zpt {G : Prop} (h : G := by (apply ZbD; rfl; rfl; exact s1)) : G := h
theorem Zjo {G : Prop} (h : G := by (first | exact Zpt | (apply Za5; rfl; rfl; exact s2))) : G := h
theorem Zpa {G : Prop} (h : G := by first | (apply Qy_y; rfl; exact Zjo) | exact QyA) : G := h
theorem Zpb {G : Prop} (h : G := by repeat (first | exact QF.nil | (apply QF.mk; rfl; rfl; decide +kernel; exact Zpa))) : G := h
theorem Zjn {G : Prop} (h : G := by (apply ZaF; rfl; rfl; exact r0)) : G := h
theorem Zo9 {G : Prop} (h : G := by first | (apply Qy_y; rfl; exact Zjn) | exact QyA) : G := h
theorem Zlt {G : Prop} (h : G := by repeat (first | exact QF.nil | (apply QF.mk; rfl; rfl; decide +kernel; exact Zo9))) : G := h
set_option maxHeartbeats 4000000 in
theorem Ztg (Ar Az Al As : Option Addr) (cr cz cl cs : Nat) (a : Zac) (e : DEra) (first : Bool) (w : World) (hL : LibW w) (hA : Zan w Ar Az Al As cr cz cl cs a) (hS : Zg4 a) (hV : Zlr a) (hE : Zvo e) :
  Does Tryz.prog 95 [srcV Ar Az Al As cr cz cl cs a, .agg e.enc.toArray, .bool first] w (fun v O => v = .int .i64 (ZcO a.rules e first) /\ O = []) := by
 have hn := hS.nr
 have hst := fun w' (hw : Bel w.heap.size w w') => Zge Ar Az Al As cr cz cl cs a e w' (hA.up hw) hn
 have hh0 := fun w' => Zj1 e.off 0 hE.off ⟨by decide, by decide⟩ w'
 have hss := fun w' (hw : Bel w.heap.size w w') => Zh4 Ar Az Al As cr cz cl cs a e w' (hA.up hw) hn
 have hun := fun w' => ZnO e w'
 have hRs : ∀ r ∈ ZaD a.rules e, r ∈ a.rules := fun r h => Zf3 h
 have hRl := Zib a.rules e
 have hS64 := Zh6 (fun r h => hV.i64 r h) hE.save
 have hfc := fun A3 c3 w' (hw : Bel w.heap.size w w') h => ZoA e A3 c3 (ZaD a.rules e) w' (hL.up hw) h hE.off hE.save (fun r hr => hV.i64 r (hRs r hr)) (by omega) hE.fmt (fun r hr => (hS.rs r (hRs r hr)).2)
 unfold ZcO
 rw [show (fun x : Int × ByteArray => !Zby e.off x.1) = offB e.off from rfl]
 generalize ZaD a.rules e = R at *
 generalize ZaG a.rules e = S at *
 generalize ZeC e = un at *
 generalize Zdm e R = fc at *
 obtain ⟨off, kind, save, set, format, til⟩ := e
 have ho := hE.off
 have hki := hE.kind
 have hcn := fun A5 c5 (b4 : Nat) (cells : List Value) w' (h : RdSl w' A5 c5 Zcl 2 S) (h4 : Zam w' ⟨b4, 0, none⟩ (.int .i64 off :: cells)) => Zi1 A5 c5 S 130 [] [.pointer (some ⟨b4, 0, none⟩)] (offB off) w' h (fun x hx w2 hw2 => by
  have hc0 : w'.cell? ⟨b4, 0, none⟩ = some (.int .i64 off) := by
   have := h4 0 _ rfl
   rwa [Zci] at this
  exact ZtM x ⟨b4, 0, none⟩ off w2 ((hw2.cell (World.block_lt_of_cell? w' _ hc0)).trans hc0) ho (hS64 x hx))
 replace hcn := fun A5 c5 w' h {b4 cells} h4 => hcn A5 c5 b4 cells w' h h4
 dsimp only at hst hh0 hss hun hfc ho hki ⊢
 simp only [DEra.enc] at hst hss hun hfc ⊢
 obtain ⟨an, han⟩ : ∃ an, S.any (offB off) = an := ⟨_, rfl⟩
 rw [han] at hcn ⊢
 generalize Zby off 0 = h0 at *
 clear hS64 han hE
 refine Zaa Tryz.func95 rfl rfl rfl rfl ?_
 by_cases hlo : kind < 0
 ·have b1 : decide (kind < 0) = true := decide_eq_true hlo
  rw [if_pos (.inl hlo)]
  repeat (first | refine und ?_ | (apply RL_pu; rfl; exact Zpu) | (apply RD_Q; rfl; rfl; decide +kernel; rfl; rfl; exact QyAccG0) | refine walk1 ?_ | (refine jn ?_; (try intro F); (first | (refine bx ?_; intro bk) | (apply Zah; first | exact Zpu | exact PuA)); first | refine ⟨_, EndsA, QFAccG0, ?_⟩ | refine fin ?_))
  exact rtA
 by_cases hhi : 2 < kind
 ·have b1 : decide (kind < 0) = false := decide_eq_false hlo
  have b2 : decide (2 < kind) = true := decide_eq_true hhi
  rw [if_pos (.inr hhi)]
  repeat (first | refine und ?_ | (apply RL_pu; rfl; exact Zve) | (apply RD_Q; rfl; rfl; decide +kernel; rfl; rfl; exact QyAccG1) | refine walk1 ?_ | (refine jn ?_; (try intro F); (first | (refine bx ?_; intro bk) | (apply Zah; first | exact Zve | exact PuA)); first | refine ⟨_, EndsA, QFAccG1, ?_⟩ | refine fin ?_))
  exact rtA
 rw [if_neg (by omega)]
 obtain rfl | rfl | rfl : kind = 0 \/ kind = 1 \/ kind = 2 := by omega
 ·cases first
  all_goals
   rw [if_neg (by rintro ⟨h1, h2⟩; first | (cases h1; done) | (cases h2; done)), if_neg (by rintro ⟨h, _⟩; cases h), if_neg (by rintro ⟨h, _⟩; cases h)]
  all_goals
   cases h0 <;> first | rw [if_pos (Or.inl rfl)] | (cases an <;> first | rw [if_pos (Or.inr rfl)] | (rw [if_neg (by rintro (h | h) <;> cases h)]; cases un <;> first | rw [if_pos rfl] | rw [if_neg (by decide)]))
  all_goals
   repeat (first | refine und ?_ | refine walk ?_ | (refine jg ?_; (try intro F); (first | (apply Zad (h := fun w' hw _ => hst w' hw); rfl; rintro v O' ⟨A3, c3, rfl, rfl⟩) | (refine Zae (fun w' hw => hh0 w') ?_) | (apply Zad (h := fun w' hw _ => hss w' hw); rfl; rintro v O' ⟨A5, c5, rfl, rfl⟩) | (refine ZaM (fun w' hw hO => hcn A5 c5 w' (Zba Zcl.len (hO.of (A := .row (.slice A5 S.length c5) 156 2 S.length (S.flatMap Zcl)) (by repeat' constructor))) (hO.cells (by repeat' constructor))) ?_) | (refine Zae (fun w' hw => hun w') ?_) | (refine ZaM (fun w' hw hO => hfc A3 c3 w' hw (Zba Zab.len (hO.of (A := .row (.slice A3 R.length c3) 56 11 R.length (R.flatMap Zab.enc)) (by repeat' constructor)))) ?_) | (refine bx ?_; intro bk)); refine fin ?_) | (refine jn ?_; (try intro F); (first | (refine bx ?_; intro bk) | (apply Zah; exact PuA)); refine fin ?_))
   exact rtA
 ·rw [if_neg (by rintro ⟨_, h⟩; cases h), if_neg (by rintro ⟨h, _⟩; cases h)]
  by_cases hs1 : save < 1
  ·have s1 : decide (save < 1) = true := decide_eq_true hs1
   rw [if_pos ⟨rfl, .inl hs1⟩]
   cases first
   all_goals
    repeat (first | refine und ?_ | (apply RL_pu; rfl; exact Zpt) | (apply RD_Q; rfl; rfl; decide +kernel; rfl; rfl; exact QyAccG2) | refine walk1 ?_ | (refine jn ?_; (try intro F); (first | (refine bx ?_; intro bk) | (apply Zah; first | exact Zpt | exact PuA)); first | refine ⟨_, EndsA, QFAccG2, ?_⟩ | refine fin ?_))
    exact rtA
  have s1 : decide (save < 1) = false := decide_eq_false hs1
  by_cases hs2 : 10800 < save
  ·have s2 : decide (10800 < save) = true := decide_eq_true hs2
   rw [if_pos ⟨rfl, .inr hs2⟩]
   cases first
   all_goals
    repeat (first | refine und ?_ | (apply RL_pu; rfl; exact Zjo) | (apply RD_Q; rfl; rfl; decide +kernel; rfl; rfl; exact Zpa) | refine walk1 ?_ | (refine jn ?_; (try intro F); (first | (refine bx ?_; intro bk) | (apply Zah; first | exact Zjo | exact PuA)); first | refine ⟨_, EndsA, Zpb, ?_⟩ | refine fin ?_))
    exact rtA
  have s2 : decide (10800 < save) = false := decide_eq_false hs2
  rw [if_neg (by omega)]
  cases first
  all_goals
   cases h0 <;> first | rw [if_pos (Or.inl rfl)] | (cases an <;> first | rw [if_pos (Or.inr rfl)] | (rw [if_neg (by rintro (h | h) <;> cases h)]; cases un <;> first | rw [if_pos rfl] | rw [if_neg (by decide)]))
  all_goals
   repeat (first | refine und ?_ | (apply RL_pu; rfl; exact Zjo) | (apply RD_Q; rfl; rfl; decide +kernel; rfl; rfl; exact Zpa) | refine walk1 ?_ | (refine jg ?_; (try intro F); (first | (apply Zad (h := fun w' hw _ => hst w' hw); rfl; rintro v O' ⟨A3, c3, rfl, rfl⟩) | (refine Zae (fun w' hw => hh0 w') ?_) | (apply Zad (h := fun w' hw _ => hss w' hw); rfl; rintro v O' ⟨A5, c5, rfl, rfl⟩) | (refine ZaM (fun w' hw hO => hcn A5 c5 w' (Zba Zcl.len (hO.of (A := .row (.slice A5 S.length c5) 156 2 S.length (S.flatMap Zcl)) (by repeat' constructor))) (hO.cells (by repeat' constructor))) ?_) | (refine Zae (fun w' hw => hun w') ?_) | (refine ZaM (fun w' hw hO => hfc A3 c3 w' hw (Zba Zab.len (hO.of (A := .row (.slice A3 R.length c3) 56 11 R.length (R.flatMap Zab.enc)) (by repeat' constructor)))) ?_) | (refine bx ?_; intro bk)); first | refine ⟨_, EndsA, Zpb, ?_⟩ | refine fin ?_) | (refine jn ?_; (try intro F); (first | (refine bx ?_; intro bk) | (apply Zah; first | exact Zjo | exact PuA)); first | refine ⟨_, EndsA, Zpb, ?_⟩ | refine fin ?_))
   exact rtA
 ·cases first with
  | true =>
   rw [if_pos ⟨rfl, rfl⟩]
   repeat (first | refine und ?_ | refine walk ?_ | (refine jn ?_; (try intro F); (first | (refine bx ?_; intro bk) | (apply Zah; exact PuA)); refine fin ?_))
   exact rtA
  | false =>
   rw [if_neg (by rintro ⟨h, _⟩; cases h)]
   by_cases hR : R = []
   ·have r0 : decide ((R.length : Int) = 0) = true := by rw [hR]; rfl
    rw [if_pos ⟨rfl, hR⟩]
    repeat (first | refine und ?_ | (apply RL_pu; rfl; exact Zjn) | (apply RD_Q; rfl; rfl; decide +kernel; rfl; rfl; exact Zo9) | refine walk1 ?_ | (refine jg ?_; (try intro F); (first | (apply Zad (h := fun w' hw _ => hst w' hw); rfl; rintro v O' ⟨A3, c3, rfl, rfl⟩) | (refine bx ?_; intro bk)); first | refine ⟨_, EndsA, Zlt, ?_⟩ | refine fin ?_) | (refine jn ?_; (try intro F); (first | (refine bx ?_; intro bk) | (apply Zah; first | exact Zjn | exact PuA)); first | refine ⟨_, EndsA, Zlt, ?_⟩ | refine fin ?_))
    exact rtA
   have r0 : decide ((R.length : Int) = 0) = false := decide_eq_false (fun h => hR (List.eq_nil_of_length_eq_zero (by omega)))
   rw [if_neg (fun h => hR h.2), if_neg (by rintro ⟨h, _⟩; cases h)]
   cases h0 <;> first | rw [if_pos (Or.inl rfl)] | (cases an <;> first | rw [if_pos (Or.inr rfl)] | (rw [if_neg (by rintro (h | h) <;> cases h)]; cases un <;> first | rw [if_pos rfl] | rw [if_neg (by decide)]))
   all_goals
    repeat (first | refine und ?_ | (apply RL_pu; rfl; exact Zjn) | (apply RD_Q; rfl; rfl; decide +kernel; rfl; rfl; exact Zo9) | refine walk1 ?_ | (refine jg ?_; (try intro F); (first | (apply Zad (h := fun w' hw _ => hst w' hw); rfl; rintro v O' ⟨A3, c3, rfl, rfl⟩) | (refine Zae (fun w' hw => hh0 w') ?_) | (apply Zad (h := fun w' hw _ => hss w' hw); rfl; rintro v O' ⟨A5, c5, rfl, rfl⟩) | (refine ZaM (fun w' hw hO => hcn A5 c5 w' (Zba Zcl.len (hO.of (A := .row (.slice A5 S.length c5) 156 2 S.length (S.flatMap Zcl)) (by repeat' constructor))) (hO.cells (by repeat' constructor))) ?_) | (refine Zae (fun w' hw => hun w') ?_) | (refine ZaM (fun w' hw hO => hfc A3 c3 w' hw (Zba Zab.len (hO.of (A := .row (.slice A3 R.length c3) 56 11 R.length (R.flatMap Zab.enc)) (by repeat' constructor)))) ?_) | (refine bx ?_; intro bk)); first | refine ⟨_, EndsA, Zlt, ?_⟩ | refine fin ?_) | (refine jn ?_; (try intro F); (first | (refine bx ?_; intro bk) | (apply Zah; first | exact Zjn | exact PuA)); first | refine ⟨_, EndsA, Zlt, ?_⟩ | refine fin ?_))
    exact rtA
end Go.Proofs.YtbjomhdhkpgbaaaGreatDoor
namespace Go.Wk
open Go Go.RowKit
theorem Zpc {P : Program} {n : Nat} {wr : World} {fr : Fr} {O : List It} {ty t t' : TypeId} {x y : Operand} {i j m : Int} (hx : ev fr x = some (.int .i64 i)) (hy : ev fr y = some (.int .i64 j)) (hm : i - j = m) (h : -9223372036854775808 <= m /\ m <= 9223372036854775807) : Pu P n wr fr O (.binOp .sub t x y t') ty (.int .i64 m) := hm ▸ Pu_sub' hx hy (hm ▸ h)
end Go.Wk
namespace Go.Proofs.YtbjomhdhkpgbaaaGreatDoor
open Go Go.RowKit Go.Wk
attribute [local irreducible] W RL Does Zap Zak retQ Calls Pu Stp RD Qy Ay Zal
theorem ZsZ (u : ZaY) (least : Int) : -200000000000000000 <= (ZaS u least).1 /\ (ZaS u least).1 <= 200000000000000000 := by
 unfold ZaS
 split
 ·exact ⟨by dsimp only; omega, by dsimp only; omega⟩
 ·rename_i h
  have h0 : ZaR u least = 0 := Decidable.not_not.1 h
  have hb := Zmk u.year u.month u.day
  unfold ZaR at h0
  dsimp only at h0 ⊢
  repeat' split at h0
  all_goals first | (exfalso; omega) | (split <;> omega)
theorem Zzr {u : ZaY} {least : Int} (h : ZaR u least = 0) : (ZaS u least).2 = 0 := by
 unfold ZaS
 rw [if_neg (fun hh => hh h)]
theorem Zvu {w : World} {ad : Addr} {e : DEra} (h : Zam w ad e.enc) : Zam w (ad.add 5) (ZaY.enc e.til) := fun j v hj => by
 rw [Zbf]
 refine h (5 + j) v ?_
 rw [show DEra.enc e = [.int .i64 e.off, .int .i64 e.kind, .int .i64 e.save, .string e.set, .string e.format] ++ ZaY.enc e.til from rfl, List.getElem?_append_right (by simp)]
 simpa using hj
theorem Zlr.rs {s : Zac} (h : Zlr s) (e : DEra) : RsOk (ZaD s.rules e) := fun r hr => h r (Zf3 hr)
theorem Zen {G : Prop} (h : G := by (first | exact PuI | (apply Pu_loadON; rfl; exact hcu; rfl) | (apply Zpc; rfl; rfl; exact hln; omega) | (apply Zpc; rfl; rfl; exact hkj; omega) | (apply ZbD; rfl; rfl; exact hdl))) : G := h
theorem Zo8 {G : Prop} (h : G := by first | (apply Qy_y; rfl; exact Zen) | exact QyA) : G := h
theorem ZdF {G : Prop} (h : G := by repeat (first | exact QF.nil | (apply QF.mk; rfl; rfl; decide +kernel; exact Zo8))) : G := h
theorem ZnK {G G' : Prop} (k : G') (h : Hold G' -> G := by intro k9; (first | refine und ?_ | (apply RL_pu; rfl; exact Zen) | (apply RD_Q; rfl; rfl; decide +kernel; rfl; rfl; exact Zo8) | refine walk1 ?_ | (refine jn ?_; (try intro F); (first | (refine stA ?_) | (apply Zah; first | exact Zen | exact PuA)); first | refine ⟨_, EndsA, ZdF, ?_⟩ | refine fin ?_)); exact k9.out) : G := h ⟨k⟩
theorem Zr9 {G G' : Prop} (k : G') (h : Hold G' -> G := by intro k9; (first | refine und ?_ | (apply RL_pu; rfl; exact Zen) | (apply RD_Q; rfl; rfl; decide +kernel; rfl; rfl; exact Zo8) | refine walk1 ?_ | (refine jg ?_; (try intro F); (first | (refine ZaM (fun w' hw hO => hle A3 c3 w' (Zba Zab.len (hO.of (A := .row (.slice A3 R.length c3) 56 11 R.length (R.flatMap Zab.enc)) (by repeat' constructor)))) ?_) | (refine Zae huc ?_) | (refine Zae hno ?_) | (refine ZaM (fun w' hw hO => hfa A3 c3 w' hw (Zba Zab.len (hO.of (A := .row (.slice A3 R.length c3) 56 11 R.length (R.flatMap Zab.enc)) (by repeat' constructor)))) ?_) | (refine stA ?_)); first | refine ⟨_, EndsA, ZdF, ?_⟩ | refine fin ?_) | (refine jn ?_; (try intro F); (first | (refine stA ?_) | (apply Zah; first | exact Zen | exact PuA)); first | refine ⟨_, EndsA, ZdF, ?_⟩ | refine fin ?_)); exact k9.out) : G := h ⟨k⟩
theorem Zps {G : Prop} (h : G := by (first | exact Zen | (apply ZaF; rfl; rfl; exact bk2))) : G := h
theorem ZuA {G : Prop} (h : G := by first | (apply Qy_y; rfl; exact Zps) | exact QyA) : G := h
theorem ZuF {G : Prop} (h : G := by repeat (first | exact QF.nil | (apply QF.mk; rfl; rfl; decide +kernel; exact ZuA))) : G := h
theorem ZlG {G : Prop} (h : G := by (first | exact Zen | (apply Za5; rfl; rfl; exact bj) | (apply Zpc; rfl; rfl; exact hdf; omega) | (apply ZbD; rfl; rfl; exact b3))) : G := h
theorem Zuz {G : Prop} (h : G := by first | (apply Qy_y; rfl; exact ZlG) | exact QyA) : G := h
theorem ZeZ {G : Prop} (h : G := by repeat (first | exact QF.nil | (apply QF.mk; rfl; rfl; decide +kernel; exact Zuz))) : G := h
theorem ZnJ {G G' : Prop} (k : G') (h : Hold G' -> G := by intro k9; (first | refine und ?_ | (apply RL_pu; rfl; exact ZlG) | (apply RD_Q; rfl; rfl; decide +kernel; rfl; rfl; exact Zuz) | refine walk1 ?_ | (refine jg ?_; (try intro F); (first | (refine ZaM (fun w' hw hO => hle A3 c3 w' (Zba Zab.len (hO.of (A := .row (.slice A3 R.length c3) 56 11 R.length (R.flatMap Zab.enc)) (by repeat' constructor)))) ?_) | (refine Zae huc ?_) | (refine Zae hno ?_) | (refine ZaM (fun w' hw hO => hfa A3 c3 w' hw (Zba Zab.len (hO.of (A := .row (.slice A3 R.length c3) 56 11 R.length (R.flatMap Zab.enc)) (by repeat' constructor)))) ?_) | (refine ZaM (fun w' hw hO => hle2 A4 c4 w' (Zba Zab.len (hO.of (A := .row (.slice A4 R2.length c4) 56 11 R2.length (R2.flatMap Zab.enc)) (by repeat' constructor)))) ?_) | (refine Zae hno2 ?_) | (refine stA ?_)); first | refine ⟨_, EndsA, ZeZ, ?_⟩ | refine fin ?_) | (refine jn ?_; (try intro F); (first | (refine stA ?_) | (apply Zah; first | exact ZlG | exact PuA)); first | refine ⟨_, EndsA, ZeZ, ?_⟩ | refine fin ?_)); exact k9.out) : G := h ⟨k⟩
theorem Zpr {G : Prop} (h : G := by (first | exact ZlG | (apply ZaF; rfl; rfl; exact bk2))) : G := h
theorem Zuy {G : Prop} (h : G := by first | (apply Qy_y; rfl; exact Zpr) | exact QyA) : G := h
theorem ZuE {G : Prop} (h : G := by repeat (first | exact QF.nil | (apply QF.mk; rfl; rfl; decide +kernel; exact Zuy))) : G := h
theorem Zpq {G : Prop} (h : G := by (first | exact Zen | (apply Za5; rfl; rfl; exact bj) | (apply ZaT; rfl; rfl; exact b2))) : G := h
theorem Zux {G : Prop} (h : G := by first | (apply Qy_y; rfl; exact Zpq) | exact QyA) : G := h
theorem ZuD {G : Prop} (h : G := by repeat (first | exact QF.nil | (apply QF.mk; rfl; rfl; decide +kernel; exact Zux))) : G := h
theorem Zpp {G : Prop} (h : G := by (first | exact Zen | (apply ZaT; rfl; rfl; exact bu))) : G := h
theorem Zuw {G : Prop} (h : G := by first | (apply Qy_y; rfl; exact Zpp) | exact QyA) : G := h
theorem ZuC {G : Prop} (h : G := by repeat (first | exact QF.nil | (apply QF.mk; rfl; rfl; decide +kernel; exact Zuw))) : G := h
set_option maxHeartbeats 2000000 in
theorem Zth (Ar Az Al As : Option Addr) (cr cz cl cs : Nat) (a : Zac) (Ae : Option Addr) (ce : Nat) (eras : List DEra) (k : Nat) (w : World) (hG : Glob w) (hA : Zan w Ar Az Al As cr cz cl cs a) (hS : Zg4 a) (hV : Zlr a)
  (hE : RdSl w Ae ce DEra.enc 13 eras) (hel : eras.length <= 1000000) (hk : k < eras.length) :
  Does Tryz.prog 96 [srcV Ar Az Al As cr cz cl cs a, .slice Ae eras.length ce, .int .i64 k] w (fun v O => v = .int .i64 (Zft a.rules eras k) /\ O = []) := by
 have hn := hS.nr
 obtain ⟨hna, hca⟩ := hE.rd k _ (List.getElem?_eq_getElem hk)
 have hgd : eras.getD k dE0 = eras[k] := by rw [List.getD_eq_getElem?_getD, List.getElem?_eq_getElem hk]; rfl
 unfold Zft
 rw [hgd]
 dsimp only
 generalize eras[k] = e at *
 have hst := fun w' (hw : Bel w.heap.size w w') => Zge Ar Az Al As cr cz cl cs a e w' (hA.up hw) hn
 have hle := fun A3 c3 w' h => Zcu A3 c3 (ZaD a.rules e) w' h
 have hRl := Zib a.rules e
 have hRs := hV.rs e
 have huc := fun w' (hw : Bel w.heap.size w w') => ZhW e.til (Zaj (ZaD a.rules e)) w' (hG.up hw)
 have hno := fun w' (hw : Bel w.heap.size w w') => Zhg e.til (Zaj (ZaD a.rules e)) w' (hG.up hw)
 have hnb := ZsZ e.til (Zaj (ZaD a.rules e))
 have hn0 := @Zzr e.til (Zaj (ZaD a.rules e))
 have hfa := fun A3 c3 w' (hw : Bel w.heap.size w w') h => Zwq A3 c3 (ZaD a.rules e) (ZaS e.til (Zaj (ZaD a.rules e))).1 w' (hG.up hw) h (by omega) hRs (by omega)
 generalize ZaD a.rules e = R at *
 generalize hLT : Zaj R = least at *
 generalize ZaR e.til least = uc at *
 generalize farD R (ZaS e.til least).1 = fr at *
 generalize ZaS e.til least = nm at *
 obtain ⟨n, ne⟩ := nm
 dsimp only at hno hnb hn0 hfa ⊢
 obtain ⟨off, kind, save, set, format, til⟩ := e
 dsimp only at huc hno hst ⊢
 simp only [DEra.enc] at hst hca
 obtain ⟨is, year, month, ⟨dk, dw, dd⟩, ⟨us, ub⟩⟩ := til
 dsimp only at hst hca ⊢
 simp only [ZaY.enc] at huc hno
 obtain ⟨ln, hln⟩ : ∃ ln : Int, (eras.length : Int) - 1 = ln := ⟨_, rfl⟩
 have hdl : decide ((k : Int) < ln) = decide (k + 1 < eras.length) := by rw [decide_eq_decide]; omega
 generalize hlt : decide (k + 1 < eras.length) = lt at *
 refine Zaa Tryz.func96 rfl rfl rfl rfl ?_
 have hcb := hca
 have hcu := hca
 have hkj : (k : Int) - 0 = k := by omega
 cases is with
 | false =>
  cases lt with
  | true =>
   rw [if_pos (by decide)]
   repeat (first | refine ZnK ?_ | (refine jn ?_; (try intro F); (refine bx ?_; intro bk); first | refine ⟨_, EndsA, ZdF, ?_⟩ | refine fin ?_) | (apply RD_W; rfl; intro bk))
   exact rtA
  | false =>
   rw [if_neg (by decide), if_pos rfl]
   repeat (first | refine ZnK ?_ | (refine jn ?_; (try intro F); (refine bx ?_; intro bk); first | refine ⟨_, EndsA, ZdF, ?_⟩ | refine fin ?_) | (apply RD_W; rfl; intro bk))
   exact rtA
 | true =>
 cases lt with
 | false =>
  rw [if_pos (by decide)]
  repeat (first | refine ZnK ?_ | (refine jn ?_; (try intro F); (refine bx ?_; intro bk); first | refine ⟨_, EndsA, ZdF, ?_⟩ | refine fin ?_) | (apply RD_W; rfl; intro bk))
  exact rtA
 | true =>
 rw [if_neg (by decide), if_neg (by decide)]
 by_cases hu : uc = 0
 ·rw [if_neg (fun h => h hu)]
  have hne : ne = 0 := hn0 hu
  subst hu hne
  cases k with
  | zero =>
   rw [if_neg (by rintro ⟨h, _⟩; omega)]
   clear hcb hcu
   by_cases hk2 : kind = 2
   ·subst hk2
    cases fr with
    | false =>
     rw [if_pos ⟨rfl, rfl⟩]
     repeat (first | refine Zr9 ?_ | (refine jg ?_; (try intro F); (first | (apply Zad (h := fun w' hw _ => hst w' hw); rfl; rintro v O' ⟨A3, c3, rfl, rfl⟩) | (refine bx ?_; intro bk)); first | refine ⟨_, EndsA, ZdF, ?_⟩ | refine fin ?_) | (refine jn ?_; (try intro F); (refine bx ?_; intro bk); first | refine ⟨_, EndsA, ZdF, ?_⟩ | refine fin ?_) | (apply RD_W; rfl; intro bk))
     exact rtA
    | true =>
     rw [if_neg (by rintro ⟨_, h⟩; cases h)]
     repeat (first | refine Zr9 ?_ | (refine jg ?_; (try intro F); (first | (apply Zad (h := fun w' hw _ => hst w' hw); rfl; rintro v O' ⟨A3, c3, rfl, rfl⟩) | (refine bx ?_; intro bk)); first | refine ⟨_, EndsA, ZdF, ?_⟩ | refine fin ?_) | (refine jn ?_; (try intro F); (refine bx ?_; intro bk); first | refine ⟨_, EndsA, ZdF, ?_⟩ | refine fin ?_) | (apply RD_W; rfl; intro bk))
     exact rtA
   ·have bk2 : decide (kind = 2) = false := decide_eq_false hk2
    rw [if_neg (fun h => hk2 h.1)]
    repeat (first | refine und ?_ | (apply RL_pu; rfl; exact Zps) | (apply RD_Q; rfl; rfl; decide +kernel; rfl; rfl; exact ZuA) | refine walk1 ?_ | (refine jg ?_; (try intro F); (first | (apply Zad (h := fun w' hw _ => hst w' hw); rfl; rintro v O' ⟨A3, c3, rfl, rfl⟩) | (refine ZaM (fun w' hw hO => hle A3 c3 w' (Zba Zab.len (hO.of (A := .row (.slice A3 R.length c3) 56 11 R.length (R.flatMap Zab.enc)) (by repeat' constructor)))) ?_) | (refine Zae huc ?_) | (refine Zae hno ?_) | (refine ZaM (fun w' hw hO => hfa A3 c3 w' hw (Zba Zab.len (hO.of (A := .row (.slice A3 R.length c3) 56 11 R.length (R.flatMap Zab.enc)) (by repeat' constructor)))) ?_) | (refine bx ?_; intro bk) | (refine stA ?_)); first | refine ⟨_, EndsA, ZuF, ?_⟩ | refine fin ?_) | (refine jn ?_; (try intro F); (first | (refine bx ?_; intro bk) | (refine stA ?_) | (apply Zah; first | exact Zps | exact PuA)); first | refine ⟨_, EndsA, ZuF, ?_⟩ | refine fin ?_) | (apply RD_W; rfl; intro bk))
    exact rtA
  | succ j =>
   have bj : decide ((0 : Int) < ((j + 1 : Nat) : Int)) = true := decide_eq_true (by omega)
   clear hcb hcu hkj
   have hj : j < eras.length := by omega
   obtain ⟨hnb', hcb⟩ := hE.rd j _ (List.getElem?_eq_getElem hj)
   have hgj : eras.getD (j + 1 - 1) dE0 = eras[j] := by rw [Nat.add_sub_cancel, List.getD_eq_getElem?_getD, List.getElem?_eq_getElem hj]; rfl
   rw [hgj]
   generalize eras[j] = b at *
   have hcu := Zvu hcb
   have hkj : ((j + 1 : Nat) : Int) - 1 = (j : Int) := by omega
   have hst2 := fun w' (hw : Bel w.heap.size w w') => Zge Ar Az Al As cr cz cl cs a b w' (hA.up hw) hn
   have hle2 := fun A3 c3 w' h => Zcu A3 c3 (ZaD a.rules b) w' h
   have hno2 := fun w' (hw : Bel w.heap.size w w') => Zhg b.til (Zaj (ZaD a.rules b)) w' (hG.up hw)
   have hnb2 := ZsZ b.til (Zaj (ZaD a.rules b))
   generalize ZaD a.rules b = R2 at *
   generalize Zaj R2 = least2 at *
   generalize ZaS b.til least2 = nm2 at *
   obtain ⟨n2, ne2⟩ := nm2
   obtain ⟨off2, Zzv, save2, set2, format2, ⟨is2, year2, month2, ⟨dk2, dw2, dd2⟩, ⟨us2, ub2⟩⟩⟩ := b
   dsimp only at hno2 hnb2 hst2 hcu ⊢
   simp only [DEra.enc] at hst2 hcb
   simp only [ZaY.enc] at hno2 hcu
   by_cases h2 : ne2 = 0
   ·subst h2
    obtain ⟨df, hdf⟩ : ∃ df, n - n2 = df := ⟨_, rfl⟩
    rw [hdf]
    by_cases h3 : df < 259200
    ·have b3 : decide (df < 259200) = true := decide_eq_true h3
     rw [if_pos ⟨by omega, .inr h3⟩]
     repeat (first | refine ZnJ ?_ | (refine jg ?_; (try intro F); (first | (apply Zad (h := fun w' hw _ => hst w' hw); rfl; rintro v O' ⟨A3, c3, rfl, rfl⟩) | (apply Zad (h := fun w' hw _ => hst2 w' hw); rfl; rintro v O' ⟨A4, c4, rfl, rfl⟩) | (refine bx ?_; intro bk)); first | refine ⟨_, EndsA, ZeZ, ?_⟩ | refine fin ?_) | (refine jn ?_; (try intro F); (refine bx ?_; intro bk); first | refine ⟨_, EndsA, ZeZ, ?_⟩ | refine fin ?_) | (apply RD_W; rfl; intro bk))
     exact rtA
    ·have b3 : decide (df < 259200) = false := decide_eq_false h3
     rw [if_neg (by rintro ⟨_, h | h⟩; exact h rfl; exact h3 h)]
     by_cases hk2 : kind = 2
     ·subst hk2
      cases fr with
      | false =>
       rw [if_pos ⟨rfl, rfl⟩]
       repeat (first | refine ZnJ ?_ | (refine jg ?_; (try intro F); (first | (apply Zad (h := fun w' hw _ => hst w' hw); rfl; rintro v O' ⟨A3, c3, rfl, rfl⟩) | (apply Zad (h := fun w' hw _ => hst2 w' hw); rfl; rintro v O' ⟨A4, c4, rfl, rfl⟩) | (refine bx ?_; intro bk)); first | refine ⟨_, EndsA, ZeZ, ?_⟩ | refine fin ?_) | (refine jn ?_; (try intro F); (refine bx ?_; intro bk); first | refine ⟨_, EndsA, ZeZ, ?_⟩ | refine fin ?_) | (apply RD_W; rfl; intro bk))
       exact rtA
      | true =>
       rw [if_neg (by rintro ⟨_, h⟩; cases h)]
       repeat (first | refine ZnJ ?_ | (refine jg ?_; (try intro F); (first | (apply Zad (h := fun w' hw _ => hst w' hw); rfl; rintro v O' ⟨A3, c3, rfl, rfl⟩) | (apply Zad (h := fun w' hw _ => hst2 w' hw); rfl; rintro v O' ⟨A4, c4, rfl, rfl⟩) | (refine bx ?_; intro bk)); first | refine ⟨_, EndsA, ZeZ, ?_⟩ | refine fin ?_) | (refine jn ?_; (try intro F); (refine bx ?_; intro bk); first | refine ⟨_, EndsA, ZeZ, ?_⟩ | refine fin ?_) | (apply RD_W; rfl; intro bk))
       exact rtA
     ·have bk2 : decide (kind = 2) = false := decide_eq_false hk2
      rw [if_neg (fun h => hk2 h.1)]
      repeat (first | refine und ?_ | (apply RL_pu; rfl; exact Zpr) | (apply RD_Q; rfl; rfl; decide +kernel; rfl; rfl; exact Zuy) | refine walk1 ?_ | (refine jg ?_; (try intro F); (first | (apply Zad (h := fun w' hw _ => hst w' hw); rfl; rintro v O' ⟨A3, c3, rfl, rfl⟩) | (refine ZaM (fun w' hw hO => hle A3 c3 w' (Zba Zab.len (hO.of (A := .row (.slice A3 R.length c3) 56 11 R.length (R.flatMap Zab.enc)) (by repeat' constructor)))) ?_) | (refine Zae huc ?_) | (refine Zae hno ?_) | (refine ZaM (fun w' hw hO => hfa A3 c3 w' hw (Zba Zab.len (hO.of (A := .row (.slice A3 R.length c3) 56 11 R.length (R.flatMap Zab.enc)) (by repeat' constructor)))) ?_) | (apply Zad (h := fun w' hw _ => hst2 w' hw); rfl; rintro v O' ⟨A4, c4, rfl, rfl⟩) | (refine ZaM (fun w' hw hO => hle2 A4 c4 w' (Zba Zab.len (hO.of (A := .row (.slice A4 R2.length c4) 56 11 R2.length (R2.flatMap Zab.enc)) (by repeat' constructor)))) ?_) | (refine Zae hno2 ?_) | (refine bx ?_; intro bk) | (refine stA ?_)); first | refine ⟨_, EndsA, ZuE, ?_⟩ | refine fin ?_) | (refine jn ?_; (try intro F); (first | (refine bx ?_; intro bk) | (refine stA ?_) | (apply Zah; first | exact Zpr | exact PuA)); first | refine ⟨_, EndsA, ZuE, ?_⟩ | refine fin ?_) | (apply RD_W; rfl; intro bk))
      exact rtA
   ·have b2 : (!decide (ne2 = 0)) = true := by rw [decide_eq_false h2]; rfl
    rw [if_pos ⟨by omega, .inl h2⟩]
    repeat (first | refine und ?_ | (apply RL_pu; rfl; exact Zpq) | (apply RD_Q; rfl; rfl; decide +kernel; rfl; rfl; exact Zux) | refine walk1 ?_ | (refine jg ?_; (try intro F); (first | (apply Zad (h := fun w' hw _ => hst w' hw); rfl; rintro v O' ⟨A3, c3, rfl, rfl⟩) | (refine ZaM (fun w' hw hO => hle A3 c3 w' (Zba Zab.len (hO.of (A := .row (.slice A3 R.length c3) 56 11 R.length (R.flatMap Zab.enc)) (by repeat' constructor)))) ?_) | (refine Zae huc ?_) | (refine Zae hno ?_) | (refine ZaM (fun w' hw hO => hfa A3 c3 w' hw (Zba Zab.len (hO.of (A := .row (.slice A3 R.length c3) 56 11 R.length (R.flatMap Zab.enc)) (by repeat' constructor)))) ?_) | (apply Zad (h := fun w' hw _ => hst2 w' hw); rfl; rintro v O' ⟨A4, c4, rfl, rfl⟩) | (refine ZaM (fun w' hw hO => hle2 A4 c4 w' (Zba Zab.len (hO.of (A := .row (.slice A4 R2.length c4) 56 11 R2.length (R2.flatMap Zab.enc)) (by repeat' constructor)))) ?_) | (refine Zae hno2 ?_) | (refine bx ?_; intro bk) | (refine stA ?_)); first | refine ⟨_, EndsA, ZuD, ?_⟩ | refine fin ?_) | (refine jn ?_; (try intro F); (first | (refine bx ?_; intro bk) | (refine stA ?_) | (apply Zah; first | exact Zpq | exact PuA)); first | refine ⟨_, EndsA, ZuD, ?_⟩ | refine fin ?_) | (apply RD_W; rfl; intro bk))
    exact rtA
 ·rw [if_pos hu]
  have bu : (!decide (uc = 0)) = true := by rw [decide_eq_false hu]; rfl
  repeat (first | refine und ?_ | (apply RL_pu; rfl; exact Zpp) | (apply RD_Q; rfl; rfl; decide +kernel; rfl; rfl; exact Zuw) | refine walk1 ?_ | (refine jg ?_; (try intro F); (first | (apply Zad (h := fun w' hw _ => hst w' hw); rfl; rintro v O' ⟨A3, c3, rfl, rfl⟩) | (refine ZaM (fun w' hw hO => hle A3 c3 w' (Zba Zab.len (hO.of (A := .row (.slice A3 R.length c3) 56 11 R.length (R.flatMap Zab.enc)) (by repeat' constructor)))) ?_) | (refine Zae huc ?_) | (refine bx ?_; intro bk) | (refine stA ?_)); first | refine ⟨_, EndsA, ZuC, ?_⟩ | refine fin ?_) | (refine jn ?_; (try intro F); (first | (refine bx ?_; intro bk) | (refine stA ?_) | (apply Zah; first | exact Zpp | exact PuA)); first | refine ⟨_, EndsA, ZuC, ?_⟩ | refine fin ?_) | (apply RD_W; rfl; intro bk))
  exact rtA
end Go.Proofs.YtbjomhdhkpgbaaaGreatDoor
