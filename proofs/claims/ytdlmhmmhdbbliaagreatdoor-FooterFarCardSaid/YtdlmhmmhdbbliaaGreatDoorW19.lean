/- Parts of the proof. -/
import Derived.Test.YtdlmhmmhdbbliaaGreatDoorW15
import Derived.Test.YtdlmhmmhdbbliaaGreatDoorW18
import Derived.Test.YtdlmhmmhdbbliaaGreatDoorW05
import Derived.Test.YtdlmhmmhdbbliaaGreatDoorW09
import Derived.Test.YtdlmhmmhdbbliaaGreatDoorW10
import Derived.Test.YtdlmhmmhdbbliaaGreatDoorW07
import Derived.Test.YtdlmhmmhdbbliaaGreatDoorW08
set_option maxHeartbeats 4000000
set_option linter.unusedVariables false
set_option linter.unusedSimpArgs false
namespace Go.Proofs.YtdlmhmmhdbbliaaGreatDoor
open Go Go.RowKit Go.Wk
def bz (l : List UInt8) : ByteArray := ⟨l.toArray⟩
theorem Zwf {a b : List UInt8} (h : bz a = bz b) : a = b := by
 have := congrArg (fun x : ByteArray => x.data.toList) h
 simpa [bz] using this
theorem ZxI (l : List UInt8) : (bz l).size = l.length := by simp [bz, ByteArray.size]
def pz (x : Int × List UInt8) : Int × ByteArray := (x.1, bz x.2)
theorem Zyt {a b : Int × List UInt8} (h : pz a = pz b) : a = b := by
 obtain ⟨a1, a2⟩ := a
 obtain ⟨b1, b2⟩ := b
 simp only [pz, Prod.mk.injEq] at h
 rw [h.1, Zwf h.2]
theorem Zso {α β : Type} {f : α -> β} (hf : ∀ {a b}, f a = f b -> a = b) {x : α} {l : List α} : f x ∈ l.map f ↔ x ∈ l :=
 ⟨fun h => by obtain ⟨y, hy, e⟩ := List.mem_map.1 h; exact hf e ▸ hy, fun h => List.mem_map.2 ⟨x, h, rfl⟩⟩
theorem Zgi {l : List UInt8} (h : ZcH l = true) : l.length <= 6 := by
 unfold ZcH ZcU at h
 simp only [Bool.and_eq_true, decide_eq_true_eq] at h
 exact h.1.2
theorem ZeP {l : List UInt8} (h : (ZbF l).isSome = true) : l.length <= 7 := by
 unfold ZbF at h
 cases hg : Zfz l [3600, 60, 1] 0 0 with
 | none => rw [hg] at h; cases h
 | some o =>
  rw [hg] at h
  dsimp only at h
  by_cases hh : (l.isEmpty = true \/ ZbJ (if l.head? = some 45 then -o else o) ≠ l)
  ·rw [if_pos hh] at h; cases h
  ·have : ZbJ (if l.head? = some 45 then -o else o) = l := Decidable.of_not_not fun hn => hh (.inr hn)
   rw [<- this]
   exact ZhK _
theorem Zzs {f : List UInt8} (h : ZbH f = 1) : ZcH f = true := by
 unfold ZbH at h
 dsimp only at h
 split at h
 ·assumption
 ·repeat' split at h
  all_goals cases h
theorem ZyF {f a b : List UInt8} (h : ZbH f = 2) (hc : Zdj [47] f [] = some (a, b)) : a.length <= 6 /\ b.length <= 6 := by
 unfold ZbH at h
 dsimp only at h
 rw [hc] at h
 dsimp only at h
 split at h
 ·cases h
 ·split at h
  ·rename_i h2
   rw [Bool.and_eq_true] at h2
   exact ⟨Zgi h2.1, Zgi h2.2⟩
  ·repeat' split at h
   all_goals cases h
theorem ZyE {f : List UInt8} (h : ZbH f = 5) : ((ZbF f).isSome || (match Zdj [47] f [] with | some (a, b) => (ZbF a).isSome && (ZbF b).isSome | none => false)) = true := by
 unfold ZbH at h
 dsimp only at h
 by_cases c1 : ZcH f = true
 ·rw [if_pos c1] at h; omega
 rw [if_neg c1] at h
 cases hc : Zdj [47] f [] with
 | none =>
  rw [hc] at h
  dsimp only at h ⊢
  rw [if_neg (by decide)] at h
  by_cases c3 : (ZbX f).isSome = true
  ·rw [if_pos c3] at h; omega
  rw [if_neg c3] at h
  by_cases c4 : f = [37, 122]
  ·rw [if_pos c4] at h; omega
  rw [if_neg c4] at h
  by_cases c5 : ((ZbF f).isSome || false) = true
  ·exact c5
  ·rw [if_neg c5] at h; omega
 | some x =>
  obtain ⟨a, b⟩ := x
  rw [hc] at h
  dsimp only at h ⊢
  by_cases c2 : (ZcH a && ZcH b) = true
  ·rw [if_pos c2] at h; omega
  rw [if_neg c2] at h
  by_cases c3 : (ZbX f).isSome = true
  ·rw [if_pos c3] at h; omega
  rw [if_neg c3] at h
  by_cases c4 : f = [37, 122]
  ·rw [if_pos c4] at h; omega
  rw [if_neg c4] at h
  by_cases c5 : ((ZbF f).isSome || (ZbF a).isSome && (ZbF b).isSome) = true
  ·exact c5
  ·rw [if_neg c5] at h; omega
theorem Zqm {f a b : List UInt8} (h : Zcn f = some (a, b)) : a.length <= 7 /\ b.length <= 7 := by
 unfold Zcn at h
 cases hc : Zdj [47] f [] with
 | none => rw [hc] at h; cases h
 | some x =>
  obtain ⟨a', b'⟩ := x
  rw [hc] at h
  dsimp only at h
  split at h
  ·rename_i hk
   simp only [Option.some.injEq, Prod.mk.injEq] at h
   obtain ⟨rfl, rfl⟩ := h
   have hl := Zmz hc
   simp only [List.length_nil] at hl
   rcases hk with hk | hk
   ·have := ZyF hk hc; omega
   ·have h5 := ZyE hk
    rw [hc] at h5
    dsimp only at h5
    rw [Bool.or_eq_true, Bool.and_eq_true] at h5
    rcases h5 with h5 | ⟨h5, h6⟩
    ·have := ZeP h5; omega
    ·have := ZeP h5
     have := ZeP h6
     omega
  ·cases h
theorem Ztt (f : List UInt8) (off save : Int) (letter : List UInt8) : (ZbI f off save letter).1.length <= 7 := by
 unfold ZbI
 cases hp : Zcn f with
 | some x =>
  obtain ⟨a, b⟩ := x
  have := Zqm hp
  dsimp only
  split
  ·exact this.1
  ·exact this.2
 | none =>
  dsimp only
  split
  ·split
   ·split
    ·rename_i hl; have := Zgi hl; dsimp only; omega
    ·simp
   ·simp
  ·split
   ·split
    ·exact ZhK _
    ·simp
   ·split
    ·rename_i hk
     dsimp only
     rcases hk with hk | hk
     ·have := Zgi (Zzs hk); omega
     ·have h5 := ZyE hk
      cases hc : Zdj [47] f [] with
      | none =>
       rw [hc, Bool.or_false] at h5
       exact ZeP h5
      | some x =>
       obtain ⟨a, b⟩ := x
       unfold Zcn at hp
       rw [hc] at hp
       dsimp only at hp
       rw [if_pos (.inr hk)] at hp
       cases hp
    ·simp
theorem ZlA (x : List UInt8) : ∀ l : List (List UInt8), ZcO (l ++ [x]) = ZcO l + (x.length + 1)
 | [] => by simp [ZcO]
 | y :: l => by rw [List.cons_append, ZcO, ZcO, ZlA x l]; omega
theorem ZoR : ∀ l : List (List UInt8), (∀ x ∈ l, x.length <= 7) -> ZcO l <= 8 * l.length
 | [], _ => Nat.le_refl _
 | y :: l, h => by
  have h1 := h y List.mem_cons_self
  have h2 := ZoR l fun x hx => h x (List.mem_cons_of_mem _ hx)
  rw [ZcO, List.length_cons]
  omega
structure FewI (lp : List ((Int × ByteArray) × Int)) (la : List (ByteArray × Int)) (sz : Int) (acc : List (Int × List UInt8) × List (List UInt8)) (t : Nat) : Prop where
 kp : lp.map (·.1) = acc.1.map pz
 ka : la.map (·.1) = acc.2.map bz
 cp : Zg0 lp t
 ca : Zg0 la t
 le : acc.2.length <= t
 ls : ∀ x ∈ acc.2, x.length <= 7
 sz : sz = ZcO acc.2
theorem FewI.nil : FewI [] [] 0 ([], []) 0 := ⟨rfl, rfl, Zg0.nil _, Zg0.nil _, Nat.le_refl _, (fun _ h => by cases h), rfl⟩
theorem FewI.lim {lp : List ((Int × ByteArray) × Int)} {la : List (ByteArray × Int)} {sz : Int} {acc : List (Int × List UInt8) × List (List UInt8)} {t : Nat} (h : FewI lp la sz acc t) : 0 <= sz /\ sz <= 8 * (t : Int) := by
 have h1 := ZoR _ h.ls
 have h2 := h.le
 rw [h.sz]
 omega
theorem FewI.step {lp : List ((Int × ByteArray) × Int)} {la : List (ByteArray × Int)} {sz : Int} {acc : List (Int × List UInt8) × List (List UInt8)} {t : Nat} (h : FewI lp la sz acc t) (o : Int) (x : List UInt8) (hx : x.length <= 7) :
  FewI (cinc (o, bz x) lp) (cinc (bz x) la) (if cget (bz x) la + 1 = 1 then sz + (x.length + 1) else sz) (addP (o, x) acc.1, addA x acc.2) (t + 1) := by
 have hm : bz x ∈ la.map (·.1) ↔ x ∈ acc.2 := by rw [h.ka]; exact Zso Zwf
 have hp : (o, bz x) ∈ lp.map (·.1) ↔ (o, x) ∈ acc.1 := by rw [h.kp]; show pz (o, x) ∈ List.map pz acc.1 ↔ _; exact Zso Zyt
 refine ⟨?_, ?_, h.cp.inc _, h.ca.inc _, ?_, ?_, ?_⟩
 ·rw [ZmB, h.kp]
  unfold addP
  rw [h.kp] at hp
  by_cases hh : (o, x) ∈ acc.1
  ·rw [if_pos (hp.2 hh), if_pos hh]
  ·rw [if_neg (fun e => hh (hp.1 e)), if_neg hh, List.map_append]; rfl
 ·rw [ZmB, h.ka]
  unfold addA
  rw [h.ka] at hm
  by_cases hh : x ∈ acc.2
  ·rw [if_pos (hm.2 hh), if_pos hh]
  ·rw [if_neg (fun e => hh (hm.1 e)), if_neg hh, List.map_append]; rfl
 ·unfold addA
  have := h.le
  split
  ·dsimp only; omega
  ·simp; omega
 ·unfold addA
  intro y hy
  dsimp only at hy
  split at hy
  ·exact h.ls y hy
  ·rcases List.mem_append.1 hy with hy | hy
   ·exact h.ls y hy
   ·rw [List.mem_singleton.1 hy]; exact hx
 ·have hn := h.ca.new (bz x)
  unfold addA
  dsimp only
  by_cases hh : x ∈ acc.2
  ·rw [if_pos hh, if_neg (fun e => hn.1 e (hm.2 hh))]; exact h.sz
  ·rw [if_neg hh, if_pos (hn.2 fun e => hh (hm.1 e)), ZlA, h.sz]; omega
theorem FewI.few {lp : List ((Int × ByteArray) × Int)} {la : List (ByteArray × Int)} {sz : Int} {acc : List (Int × List UInt8) × List (List UInt8)} {t : Nat} (h : FewI lp la sz acc t) :
  (decide ((lp.length : Int) <= 120) && decide (sz <= 250)) = (decide (acc.1.length <= 120) && decide (ZcO acc.2 <= 250)) := by
 have h1 := congrArg List.length h.kp
 simp only [List.length_map] at h1
 rw [h1, h.sz]
 congr 1
 ·rw [decide_eq_decide]; omega
 ·rw [decide_eq_decide]; omega
theorem Zmr {rs : List Zaa} {e : DEra} {b : Bool} (h : Zez rs e b = 0) : ∀ x ∈ ZaN rs e, Zb7 e.off x.1 = true := by
 intro x hx
 unfold Zez at h
 split at h
 ·cases h
 ·split at h
  ·cases h
  ·split at h
   ·cases h
   ·split at h
    ·cases h
    ·split at h
     ·cases h
     ·rename_i hn
      cases hh : Zb7 e.off x.1 with
      | true => rfl
      | false => exact absurd (.inr (List.any_eq_true.2 ⟨x, hx, by rw [hh]; rfl⟩)) hn
theorem Ziu {rs : List Zaa} {l : List DEra} {i : Nat} : ∀ (f k : Nat), Zdy rs l i f k = none -> ∀ j, k <= j -> j < k + f -> Zez rs (l.getD j dE0) (decide (j = 0)) = 0
 | 0, k, _, j, h1, h2 => by omega
 | f + 1, k, h, j, h1, h2 => by
  rw [Zdy] at h
  split at h
  ·cases h
  ·rename_i h0
   split at h
   ·cases h
   ·by_cases hj : j = k
    ·rw [hj]; exact Decidable.of_not_not h0
    ·exact Ziu f (k + 1) h j (by omega) (by omega)
theorem ZqQ {rs : List Zaa} {l : List DEra} {i : Nat} (h : Zdy rs l i l.length 0 = none) : ∀ e ∈ l, ∀ x ∈ ZaN rs e, Zb7 e.off x.1 = true := by
 intro e he
 obtain ⟨j, hj, rfl⟩ := List.mem_iff_getElem.1 he
 have := Ziu l.length 0 h j (Nat.zero_le _) (by omega)
 rw [List.getD_eq_getElem?_getD, List.getElem?_eq_getElem hj] at this
 exact Zmr this
attribute [local irreducible] W RL Does Zau Zaj retQ Calls Pu Stp RD Qy Ay Zak
def pEnc (x : Int × ByteArray) : List Value := [.int .i64 x.1, .string x.2]
def pkV (x : Int × ByteArray) : Value := .agg (pEnc x).toArray
instance : EqE Tryz.prog 280 (Int × ByteArray) pEnc where
 h r s w := by
  unfold pEnc
  simp [go_sem, Zdm]
  rcases r with ⟨_, _⟩
  rcases s with ⟨_, _⟩
  simp only [ZlM, Result.ok.injEq, and_true]
  rw [Bool.eq_iff_iff]
  simp
 g := by kernel_rfl
theorem ZlJ (k : Int × ByteArray) (w : World) : ∀ (l : List ((Int × ByteArray) × Int)) (i j : Nat), (Instr.findAsking 280 (pkV k) (cent pkV j l) i).run Tryz.prog w = .ok (Zn1 k l i) w
 | [], _, _ => rfl
 | x :: l, i, j => by
  have h := EqE.h (P := Tryz.prog) (t := 280) (enc := pEnc) k x.1 w
  rw [cent, Instr.findAsking, Zn1]
  simp only [pkV, Op.equal, Op.maxDepth] at h ⊢
  simp only [Sem.run_bind, h, Result.andThen_ok]
  by_cases hk : k = x.1
  ·rw [decide_eq_true hk, if_pos hk]; rfl
  ·rw [decide_eq_false hk, if_neg hk]
   have ih := ZlJ k w l (i + 1) (j + 1)
   simp only [pkV] at ih
   simpa using ih
theorem Zr2 (b : Bool) (k : Int × ByteArray) (d : Nat) (w : World) : (Instr.checkKey b (d + 1 + 1) 280 (.agg (pEnc k).toArray)).run Tryz.prog w = .ok () w := by
 simp [Instr.checkKey, go_sem, pEnc]
instance : KeyT Tryz.prog 280 (Int × ByteArray) pkV where
 ask k l w := by
  cases l with
  | nil => simp [Instr.findKey, go_sem, cent, Instr.findNow, Zn1]
  | cons x l =>
   have h := ZlJ k w (x :: l) 0 0
   simp only [cent] at h ⊢
   simp [Instr.findKey, go_sem, Instr.findNow, Instr.sameNow, pkV]
   exact h
 chk b k w := Zr2 b k 9998 w
 stay k w := by simp [Instr.keyThatStays, Instr.sameBits, pkV, pEnc, ZiF]
def toM (l : List (ByteArray × Int)) : List (ByteArray × Value) := l.map fun x => (x.1, Value.int .i64 x.2)
theorem Znh (k : ByteArray) : ∀ l : List (ByteArray × Int), (mget (toM l) k).getD (.int .i64 0) = .int .i64 (cget k l)
 | [] => rfl
 | x :: l => by
  have ih := Znh k l
  unfold toM at ih ⊢
  rw [List.map_cons, mget, cget]
  by_cases h : k = x.1
  ·rw [if_pos h, if_pos h]; rfl
  ·rw [if_neg h, if_neg h]; exact ih
theorem ZhI (k : ByteArray) (v : Int) : ∀ l : List (ByteArray × Int), mset (toM l) k (.int .i64 v) = toM (cput k v (cins k l))
 | [] => by simp [toM, mset, cins, cput]
 | x :: l => by
  have ih := ZhI k v l
  unfold toM at ih ⊢
  rw [List.map_cons, mset, cins]
  by_cases h : k = x.1
  ·rw [if_pos h, if_pos h, cput, if_pos h]; rfl
  ·rw [if_neg h, if_neg h, cput, if_neg h, ih]; rfl
theorem Zci {P : Program} {n : Nat} {wr : World} {fr : Fr} {O : List It} {ty : TypeId} {pos : String} {af : Array Edge} {dst : Option Tmp} {g : Option (Nat × Bool)} {Kp : Value -> List It -> Prop}
  {t kt et b : Nat} {x ix y : Operand} {m m' : List (ByteArray × Value)} {k : ByteArray} {v : Value} {O' : List It} [hM : MapT P t kt et] [StringT P kt] (hx : ev fr x = some (.map (some b))) (hi : ev fr ix = some (.string k)) (hy : ev fr y = some v) (hm : mset m k v = m')
  (hu : Upd O (.mp b m) (.mp b m') O') (kk : Kp undef O') : Stp P n wr fr O ⟨dst, .mapUpdate t x ix y, ty, pos, af, g⟩ Kp := Stp_mapUpdate hx hi hy (hm ▸ hu) kk
theorem Zlu (rs : List Zaa) (e : DEra) : (ZaN rs e).length <= rs.length + 1 := by
 unfold ZaN
 have := ZhT rs e
 split
 ·simp
 ·split
  ·rw [List.length_map]; omega
  ·simp
theorem Zlt {rs : List Zaa} {e : DEra} (hr : ∀ r ∈ rs, r.letter.size <= 1000000000) : ∀ x ∈ ZaN rs e, x.2.size <= 1000000000 := by
 intro x hx
 unfold ZaN at hx
 split at hx
 ·simp only [List.mem_singleton] at hx; subst hx; exact Nat.zero_le _
 ·split at hx
  ·obtain ⟨r, h, rfl⟩ := List.mem_map.1 hx
   exact hr r (ZfN h)
  ·simp only [List.mem_singleton] at hx; subst hx; exact Nat.zero_le _
structure FwG where
 k : Nat
 lp : List ((Int × ByteArray) × Int)
 la : List (ByteArray × Int)
 sz : Int
 acc : List (Int × List UInt8) × List (List UInt8)
 t : Nat
theorem Zi5 {G : Prop} (h : G := by (first | (apply ZaF; rfl; rfl; omega; omega; (intro w' _ hO; exact (ZaU (hO.of (A := .row (.slice A5 S.length c5) 151 2 S.length (S.flatMap Zb4)) (by repeat' constructor)) hg1).1)) | (apply Za3; rfl; (focus repeat' constructor); exact hgn; rfl) | (apply ZvS (kv := pkV) (k := (e.off + x.1, bz ab)); rfl; rfl; (focus repeat' constructor); first | exact rfl | exact ZmE _ _) | (apply ZgX; rfl; rfl; (focus repeat' constructor); first | exact Znh _ la | exact hl2) | (apply ZaC; rfl; rfl; exact hb))) : G := h
theorem Zoi {G : Prop} (h : G := by first | (apply Qy_y; rfl; exact Zi5) | exact QyA) : G := h
theorem ZtK {G : Prop} (h : G := by repeat (first | exact QF.nil | (apply QF.mk; rfl; rfl; decide +kernel; exact Zoi))) : G := h
theorem Zlf {G : Prop} (h : G := by (first | (apply Zyc (kv := pkV); rfl; (focus repeat' constructor)) | (apply ZcA; rfl; rfl; exact b1))) : G := h
set_option maxHeartbeats 2000000 in
theorem Zto (Ar Az Al As : Option Addr) (cr cz cl cs : Nat) (a : Zai) (z : ZaY) (Ae : Option Addr) (ce : Nat) (w : World) (hL : LibW w) (hA : Zat w Ar Az Al As cr cz cl cs a) (hE : RdSl w Ae ce DEra.enc 13 z.eras) (hS : Zhr a) (hV : Zk2 a) (hel : z.eras.length <= 1000000)
  (hZ : ∀ e ∈ z.eras, Zri e) (hH : ∀ e ∈ z.eras, ∀ x ∈ ZaN a.rules e, Zb7 e.off x.1 = true) :
  Does Tryz.prog 142 [srcV Ar Az Al As cr cz cl cs a, .agg #[.string z.name, .slice Ae z.eras.length ce]] w (fun v O => v = .bool (Zir a.rules z) /\ O = []) := by
 have hn := hS.nr
 unfold Zir
 obtain ⟨R, hR⟩ : ∃ R, erGo a.rules z.eras ([], []) = R := ⟨_, rfl⟩
 rw [hR]
 refine Zab Tryz.func142 rfl rfl rfl rfl ?_
 repeat (first | refine walk ?_ | (refine jn ?_; (try intro F); (first | (apply Ztx (t := 278) pkV; intro bk) | (refine bx ?_; intro bk) | (refine stA ?_) | (apply Zae; exact PuA)); refine fin ?_) | (apply RD_W; rfl; intro bk))
 rename_i b1 b2 bp
 generalize bk = ba
 refine Zao [(2, .pointer (some ⟨b1, 0, none⟩)), (5, .map (some bp)), (6, .map (some ba)), (17, .slice Ae z.eras.length ce), (18, .int .i64 z.eras.length)] [.blk b1 [.slice Ar a.rules.length cr, .slice Az a.zones.length cz, .slice Al a.links.length cl, .slice As a.shifts.length cs] 173]
  (fun g : FwG => [(7, .int .i64 g.sz), (19, .int .i64 g.k)]) (fun g => [cmIt pkV bp g.lp, .mp ba (toM g.la)]) (fun g => g.k <= z.eras.length /\ FewI g.lp g.la g.sz g.acc g.t /\ g.t <= g.k * 2000000 /\ erGo a.rules (z.eras.drop g.k) g.acc = R)
  (fun g => z.eras.length - g.k) ⟨0, [], [], 0, ([], []), 0⟩ SFA SOA ⟨Nat.zero_le _, FewI.nil, Nat.le_refl _, hR⟩ ?_
 clear hR
 rintro ⟨k, lp, la, sz, acc, t⟩ ⟨hk, hI, ht, hi⟩
 dsimp only at hk hI ht hi ⊢
 repeat (first | refine walk ?_ | (refine jn ?_; (try intro F); (first | (refine bx ?_; intro bk) | (refine stA ?_) | (apply Zae; exact PuA)); refine fin ?_) | (apply RD_W; rfl; intro bk))
 refine Zaf rfl (fun hc => ?_) (fun hc => ?_)
 ·simp only [decide_eq_true_eq, Int.ofNat_lt] at hc
  obtain ⟨hna, hca⟩ := hE.rd k _ (List.getElem?_eq_getElem hc)
  have hem := List.getElem_mem hc
  rw [Zan hc, erGo] at hi
  generalize z.eras[k] = e at *
  have hSl := Zlu a.rules e
  have hlet := Zlt (e := e) fun r hr => (hS.rs r hr).2
  have h64 := ZhO (e := e) (fun r h => hV.i64 r h) (hZ e hem).save
  have hss := fun w' (hw : Bel w.heap.size w w') => ZhN Ar Az Al As cr cz cl cs a e w' (hA.up hw) hn
  have hZe := hZ e hem
  have hHe := hH e hem
  generalize ZaN a.rules e = S at *
  obtain ⟨R2, hR2⟩ : ∃ R2, stGo e S acc = R2 := ⟨_, rfl⟩
  rw [hR2] at hi
  simp only [DEra.enc] at hss hca
  repeat (first | (apply RL_pu; rfl; exact PuI) | (apply RD_Q; rfl; rfl; decide +kernel; rfl; rfl; exact QyI) | refine walk1 ?_ | (refine jg ?_; (try intro F); (first | (apply Zag (h := fun w' hw _ => hss w' hw); rfl; rintro v O' ⟨A5, c5, rfl, rfl⟩) | (refine bx ?_; intro bk) | (refine stA ?_)); first | refine ⟨_, EndsA, QFI, ?_⟩ | refine fin ?_) | (refine jn ?_; (try intro F); (first | (refine bx ?_; intro bk) | (refine stA ?_) | (apply Zae; first | exact PuI | exact PuA)); first | refine ⟨_, EndsA, QFI, ?_⟩ | refine fin ?_) | (apply RD_W; rfl; intro bk))
  generalize bk = b9
  refine Zao [(2, .pointer (some ⟨b1, 0, none⟩)), (5, .map (some bp)), (6, .map (some ba)), (9, .pointer (some ⟨b9, 0, none⟩)), (17, .slice Ae z.eras.length ce), (18, .int .i64 z.eras.length), (19, .int .i64 k), (25, .slice A5 S.length c5), (26, .int .i64 S.length)]
   [.blk b1 [.slice Ar a.rules.length cr, .slice Az a.zones.length cz, .slice Al a.links.length cl, .slice As a.shifts.length cs] 173, .blk b9 [.int .i64 e.off, .int .i64 e.kind, .int .i64 e.save, .string e.set, .string e.format, .bool e.til.is, .int .i64 e.til.year, .int .i64 e.til.month, .int .i64 e.til.day.kind, .int .i64 e.til.day.week, .int .i64 e.til.day.day, .int .i64 e.til.at_.sec, .int .i64 e.til.at_.base] 75, .row (.slice A5 S.length c5) 151 2 S.length (S.flatMap Zb4)]
   (fun g : FwG => [(7, .int .i64 g.sz), (27, .int .i64 g.k)]) (fun g => [cmIt pkV bp g.lp, .mp ba (toM g.la)]) (fun g => g.k <= S.length /\ FewI g.lp g.la g.sz g.acc g.t /\ g.t <= k * 2000000 + g.k /\ stGo e (S.drop g.k) g.acc = R2)
   (fun g => S.length - g.k) ⟨0, lp, la, sz, acc, t⟩ SFA SOA ⟨Nat.zero_le _, hI, Nat.le_trans ht (Nat.le_add_right _ _), hR2⟩ ?_
  clear hR2 hI ht lp la sz acc t
  rintro ⟨j, lp, la, sz, acc, t⟩ ⟨hj, hI, ht, hi2⟩
  dsimp only at hj hI ht hi2 ⊢
  repeat (first | refine walk ?_ | (refine jn ?_; (try intro F); (first | (refine bx ?_; intro bk) | (refine stA ?_) | (apply Zae; exact PuA)); refine fin ?_) | (apply RD_W; rfl; intro bk))
  refine Zaf rfl (fun hc2 => ?_) (fun hc2 => ?_)
  ·simp only [decide_eq_true_eq, Int.ofNat_lt] at hc2
   have hg1 := ZaB Zb4.len S j _ 0 _ (List.getElem?_eq_getElem hc2) rfl
   have hgn : ∀ i v, (Zb4 S[j])[i]? = some v -> (S.flatMap Zb4)[j * 2 + i]? = some v := fun i v hv => ZaB Zb4.len S j _ i v (List.getElem?_eq_getElem hc2) hv
   have hxm := List.getElem_mem hc2
   rw [Zan hc2, stGo] at hi2
   generalize S[j] = x at *
   have hfa := fun w' (hw : Bel w.heap.size w w') => ZeU e.format x.2 e.off x.1 w' (hL.up hw) hZe.fmt (hlet x hxm) hZe.off (h64 x hxm)
   have hal := Ztt e.format.data.toList e.off x.1 x.2.data.toList
   have hho := hHe x hxm
   unfold Zb7 at hho
   simp only [Bool.and_eq_true, decide_eq_true_eq] at hho
   obtain ⟨hh1, hh2⟩ := hho
   generalize ZbI e.format.data.toList e.off x.1 x.2.data.toList = abr at *
   obtain ⟨ab, er⟩ := abr
   dsimp only at hi2 hal
   replace hfa : ∀ w', Bel w.heap.size w w' -> Does Tryz.prog 67 [.string e.format, .int .i64 e.off, .agg #[.int .i64 x.1, .string x.2]] w' (fun v O => v = .tuple #[.string (bz ab), .int .i64 er] /\ O = []) := hfa
   simp only [Zb4] at hgn hg1
   have hcp := hI.cp.get (e.off + x.1, bz ab)
   have hcq := hI.ca.get (bz ab)
   have hsz := ZxI ab
   have hlim := hI.lim
   have hst := hI.step (e.off + x.1) ab hal
   have hl2 : (mget (toM (cput (bz ab) (cget (bz ab) la + 1) (cins (bz ab) la))) (bz ab)).getD (.int .i64 0) = .int .i64 (cget (bz ab) la + 1) := (Znh _ _).trans (by rw [ZmD _ _ _ (ZkT _ _)])
   by_cases hnew : cget (bz ab) la + 1 = 1
   ·rw [if_pos hnew] at hst
    have hb : decide (cget (bz ab) la + 1 = 1) = true := decide_eq_true hnew
    repeat (first | (apply RL_pu; rfl; exact Zi5) | (refine js ?_; (first | (refine Zac hfa ?_) | (apply Ze4 (kv := pkV) (k := (e.off + x.1, bz ab)) (l := lp); rfl; rfl; (focus repeat' constructor)) | (apply Ze3 (kv := pkV) (k := (e.off + x.1, bz ab)) (l := lp); rfl; rfl; rfl; (focus repeat' constructor)) | (apply Zci; rfl; rfl; rfl; exact ZhI _ _ la; (focus repeat' constructor)) | (refine bx ?_; intro bk))) | (apply RD_Q; rfl; rfl; decide +kernel; rfl; rfl; exact Zoi) | refine walk1 ?_ | (refine ZeF ?_; intro F; (refine Zac hfa ?_); refine ⟨_, EndsA, SubO.right _ _, ?_⟩) | (refine RD_Lw ?_; intro F; (first | (refine Zac hfa ?_) | (apply Ze4 (kv := pkV) (k := (e.off + x.1, bz ab)) (l := lp); rfl; rfl; (focus repeat' constructor)) | (apply Ze3 (kv := pkV) (k := (e.off + x.1, bz ab)) (l := lp); rfl; rfl; rfl; (focus repeat' constructor)) | (apply Zci; rfl; rfl; rfl; exact ZhI _ _ la; (focus repeat' constructor)) | (refine bx ?_; intro bk) | (refine stA ?_) | (apply Zae; first | exact Zi5 | exact PuA)); refine ⟨_, EndsA, ZtK, ?_⟩) | (apply RD_W; rfl; intro bk))
    exact ⟨⟨j + 1, cinc (e.off + x.1, bz ab) lp, cinc (bz ab) la, sz + (((bz ab).size : Int) + 1), _, t + 1⟩, OA, ⟨OA, by dsimp only; rw [hsz]; exact hst, OA, hi2⟩, SFA, SOA⟩
   ·rw [if_neg hnew] at hst
    have hb : decide (cget (bz ab) la + 1 = 1) = false := decide_eq_false hnew
    repeat (first | (apply RL_pu; rfl; exact Zi5) | (refine js ?_; (first | (refine Zac hfa ?_) | (apply Ze4 (kv := pkV) (k := (e.off + x.1, bz ab)) (l := lp); rfl; rfl; (focus repeat' constructor)) | (apply Ze3 (kv := pkV) (k := (e.off + x.1, bz ab)) (l := lp); rfl; rfl; rfl; (focus repeat' constructor)) | (apply Zci; rfl; rfl; rfl; exact ZhI _ _ la; (focus repeat' constructor)) | (refine bx ?_; intro bk))) | (apply RD_Q; rfl; rfl; decide +kernel; rfl; rfl; exact Zoi) | refine walk1 ?_ | (refine ZeF ?_; intro F; (refine Zac hfa ?_); refine ⟨_, EndsA, SubO.right _ _, ?_⟩) | (refine RD_Lw ?_; intro F; (first | (refine Zac hfa ?_) | (apply Ze4 (kv := pkV) (k := (e.off + x.1, bz ab)) (l := lp); rfl; rfl; (focus repeat' constructor)) | (apply Ze3 (kv := pkV) (k := (e.off + x.1, bz ab)) (l := lp); rfl; rfl; rfl; (focus repeat' constructor)) | (apply Zci; rfl; rfl; rfl; exact ZhI _ _ la; (focus repeat' constructor)) | (refine bx ?_; intro bk) | (refine stA ?_) | (apply Zae; first | exact Zi5 | exact PuA)); refine ⟨_, EndsA, ZtK, ?_⟩) | (apply RD_W; rfl; intro bk))
    exact ⟨⟨j + 1, cinc (e.off + x.1, bz ab) lp, cinc (bz ab) la, sz, _, t + 1⟩, OA, ⟨OA, hst, OA, hi2⟩, SFA, SOA⟩
  ·simp only [decide_eq_false_iff_not, Int.ofNat_lt] at hc2
   rw [List.drop_eq_nil_of_le (by omega), stGo] at hi2
   subst hi2
   repeat (first | refine walk ?_ | (refine jn ?_; (try intro F); (first | (refine bx ?_; intro bk) | (refine stA ?_) | (apply Zae; exact PuA)); refine fin ?_) | (apply RD_W; rfl; intro bk))
   exact ⟨⟨k + 1, lp, la, sz, acc, t⟩, OA, ⟨OA, hI, OA, hi⟩, SFA, SOA⟩
 ·simp only [decide_eq_false_iff_not, Int.ofNat_lt] at hc
  rw [List.drop_eq_nil_of_le (by omega), erGo] at hi
  subst hi
  rw [<- hI.few]
  by_cases h120 : (lp.length : Int) <= 120
  ·have b1 : decide ((lp.length : Int) <= 120) = true := decide_eq_true h120
   rw [b1]
   repeat (first | (apply RL_pu; rfl; exact Zlf) | (apply RD_Q; rfl; rfl; decide +kernel; rfl; rfl; exact QyFewB1) | refine walk1 ?_ | (refine jn ?_; (try intro F); (first | (refine bx ?_; intro bk) | (refine stA ?_) | (apply Zae; first | exact Zlf | exact PuA)); first | refine ⟨_, EndsA, QFFewB1, ?_⟩ | refine fin ?_) | (apply RD_W; rfl; intro bk))
   exact rtA
  ·have b1 : decide ((lp.length : Int) <= 120) = false := decide_eq_false h120
   rw [b1]
   repeat (first | refine und ?_ | (apply RL_pu; rfl; exact Zlf) | (apply RD_Q; rfl; rfl; decide +kernel; rfl; rfl; exact QyFewB1) | refine walk1 ?_ | (refine jn ?_; (try intro F); (first | (refine bx ?_; intro bk) | (refine stA ?_) | (apply Zae; first | exact Zlf | exact PuA)); first | refine ⟨_, EndsA, QFFewB1, ?_⟩ | refine fin ?_) | (apply RD_W; rfl; intro bk))
   exact rtA
structure ZnG where
 k : Nat
 p : Int
theorem Zus {G : Prop} (h : G := by (first | exact PuI | (apply ZaC; rfl; rfl; exact hb))) : G := h
theorem Zur {G : Prop} (h : G := by (first | exact PuI | (apply ZaC; rfl; rfl; exact hbk))) : G := h
theorem Zuq {G : Prop} (h : G := by (first | exact Zur | (apply ZaD; rfl; rfl; exact hb2))) : G := h
set_option maxHeartbeats 2000000 in
theorem Zn9 (Ar Az Al As : Option Addr) (cr cz cl cs : Nat) (a : Zai) (w : World) (hL : LibW w) (hG : Glob w) (hA : Zat w Ar Az Al As cr cz cl cs a) (hS : Zhr a) (hV : Zk2 a) (hZ : ∀ z ∈ a.zones, ∀ e ∈ z.eras, Zri e) :
  Does Tryz.prog 91 [srcV Ar Az Al As cr cz cl cs a] w (fun v O => v = ptV (ZbT a.rules a.zones 0) /\ O = []) := by
 have hnz := hS.nz
 obtain ⟨res, hres⟩ : ∃ res, ZbT a.rules a.zones 0 = res := ⟨_, rfl⟩
 rw [hres]
 refine Zab Tryz.func91 rfl rfl rfl rfl ?_
 repeat (first | (refine js ?_; (refine bx ?_; intro bk)) | refine walk ?_)
 rename_i b1
 obtain ⟨b2, hb2⟩ : ∃ b2, bk = b2 := ⟨_, rfl⟩
 rw [hb2]
 clear hb2 bk
 refine Zao [(1, .pointer (some ⟨b1, 0, none⟩)), (2, .pointer (some ⟨b2, 0, none⟩)), (13, .slice Az a.zones.length cz), (14, .int .i64 a.zones.length)] [.blk b2 [.int .i64 0, .int .i64 0, .int .i64 0] 131, .blk b1 [.slice Ar a.rules.length cr, .slice Az a.zones.length cz, .slice Al a.links.length cl, .slice As a.shifts.length cs] 173]
  (fun k : Nat => [(15, .int .i64 k)]) (fun _ => []) (fun k => k <= a.zones.length /\ ZbT a.rules (a.zones.drop k) k = res) (fun k => a.zones.length - k) 0 SFA SOA ⟨Nat.zero_le _, hres⟩ ?_
 clear hres
 rintro i ⟨hil, hi⟩
 repeat (first | (refine js ?_; (refine bx ?_; intro bk)) | refine walk ?_)
 refine Zaf rfl (fun hc => ?_) (fun hc => ?_)
 ·simp only [decide_eq_true_eq, Int.ofNat_lt] at hc
  obtain ⟨hna, cs1, ⟨Ae, ce, hEz, rfl⟩, hca⟩ := hA.z i _ (List.getElem?_eq_getElem hc)
  have hmem := List.getElem_mem hc
  rw [Zan hc, ZbT] at hi
  generalize a.zones[i] = z at *
  have hel := (hS.zs z hmem).2.1
  by_cases hz0 : z.eras = []
  ·rw [if_pos hz0] at hi
   subst hi
   have hb : decide ((z.eras.length : Int) = 0) = true := by rw [hz0]; rfl
   simp only [ptV, plV, Zay.enc]
   repeat (first | (apply RL_pu; rfl; exact Zus) | (refine js ?_; (refine bx ?_; intro bk)) | refine walk1 ?_)
   exact rtC
  have hb : decide ((z.eras.length : Int) = 0) = false := decide_eq_false (fun h => hz0 (List.eq_nil_of_length_eq_zero (by omega)))
  rw [if_neg hz0] at hi
  obtain ⟨r2, hr2⟩ : ∃ r2, Zdy a.rules z.eras i z.eras.length 0 = r2 := ⟨_, rfl⟩
  rw [hr2] at hi
  have hfw : r2 = none -> ∀ w', Bel w.heap.size w w' -> Does Tryz.prog 142 [srcV Ar Az Al As cr cz cl cs a, .agg #[.string z.name, .slice Ae z.eras.length ce]] w' (fun v O => v = .bool (Zir a.rules z) /\ O = []) := fun hn w' hw =>
   Zto Ar Az Al As cr cz cl cs a z Ae ce w' (hL.up hw) (hA.up hw) (hEz.up hw) hS hV hel (fun e he => hZ z hmem e he) (ZqQ (hr2.trans hn))
  generalize Zir a.rules z = fw at *
  repeat (first | (apply RL_pu; rfl; exact Zus) | (refine js ?_; (refine bx ?_; intro bk)) | refine walk1 ?_)
  rename_i b5
  obtain ⟨b6, hb6⟩ : ∃ b6, bk = b6 := ⟨_, rfl⟩
  rw [hb6]
  clear hb6 bk
  refine Zao [(1, .pointer (some ⟨b1, 0, none⟩)), (2, .pointer (some ⟨b2, 0, none⟩)), (4, .int .i64 i), (5, .pointer (some ⟨b5, 0, none⟩)), (6, .pointer (some ⟨b6, 0, none⟩)), (13, .slice Az a.zones.length cz), (14, .int .i64 a.zones.length), (15, .int .i64 i), (28, .slice Ae z.eras.length ce), (29, .int .i64 z.eras.length)] [.blk b5 [.string z.name, .slice Ae z.eras.length ce] 50, .blk b2 [.int .i64 0, .int .i64 0, .int .i64 0] 131, .blk b1 [.slice Ar a.rules.length cr, .slice Az a.zones.length cz, .slice Al a.links.length cl, .slice As a.shifts.length cs] 173]
   (fun g : ZnG => [(30, .int .i64 g.k)]) (fun g => [.blk b6 [.int .i64 2, .int .i64 i, .int .i64 g.p] 131]) (fun g => g.k <= z.eras.length /\ Zdy a.rules z.eras i (z.eras.length - g.k) g.k = r2) (fun g => z.eras.length - g.k) ⟨0, 0⟩ SFA SOA ⟨Nat.zero_le _, hr2⟩ ?_
  clear hr2
  rintro ⟨k, p⟩ ⟨hkl, hi2⟩
  dsimp only at hkl hi2 ⊢
  repeat (first | (refine js ?_; (refine bx ?_; intro bk)) | refine walk ?_)
  refine Zaf rfl (fun hc2 => ?_) (fun hc2 => ?_)
  ·simp only [decide_eq_true_eq, Int.ofNat_lt] at hc2
   clear hna hca
   obtain ⟨hna, hca⟩ := hEz.rd k _ (List.getElem?_eq_getElem hc2)
   have hem := List.getElem_mem hc2
   have hgd : z.eras.getD k dE0 = z.eras[k] := by rw [List.getD_eq_getElem?_getD, List.getElem?_eq_getElem hc2]; rfl
   obtain ⟨f, hf⟩ : ∃ f, z.eras.length - k = f + 1 := ⟨z.eras.length - k - 1, by omega⟩
   rw [hf, Zdy, hgd] at hi2
   generalize z.eras[k] = e at *
   have hbk : decide ((k : Int) = 0) = decide (k = 0) := by rw [decide_eq_decide]; omega
   generalize decide (k = 0) = fst at *
   have her := fun w' (hw : Bel w.heap.size w w') => Zsv Ar Az Al As cr cz cl cs a e fst w' (hL.up hw) (hA.up hw) hS hV (hZ z hmem e hem)
   have hen := fun w' (hw : Bel w.heap.size w w') => Zsw Ar Az Al As cr cz cl cs a Ae ce z.eras k w' (hG.up hw) (hA.up hw) hS hV (hEz.up hw) hel hc2
   generalize Zez a.rules e fst = ec at *
   generalize Zix a.rules z.eras k = nc at *
   obtain ⟨off, kind, save, set, format, ⟨is, year, month, ⟨dk, dw, dd⟩, ⟨us, ub⟩⟩⟩ := e
   simp only [DEra.enc] at her hca
   by_cases h1 : ec = 0
   ·rw [if_neg (fun h => h h1)] at hi2
    subst h1
    by_cases h2 : nc = 0
    ·rw [if_neg (fun h => h h2)] at hi2
     subst h2
     repeat (first | (apply RL_pu; rfl; exact Zur) | (refine js ?_; (first | (refine Zac her ?_) | (refine Zac hen ?_) | (refine bx ?_; intro bk))) | refine walk1 ?_)
     exact ⟨⟨k + 1, k⟩, OA, ⟨OA, by dsimp only; rw [show z.eras.length - (k + 1) = f by omega]; exact hi2⟩, SFA, SOA⟩
    ·rw [if_pos h2] at hi2
     subst hi2
     dsimp only at hi
     subst hi
     have hb2 : (!decide (nc = 0)) = true := by rw [decide_eq_false h2]; rfl
     simp only [ptV, plV, Zay.enc]
     repeat (first | (apply RL_pu; rfl; exact Zuq) | (refine js ?_; (first | (refine Zac her ?_) | (refine Zac hen ?_) | (refine bx ?_; intro bk))) | refine walk1 ?_)
     exact rtC
   ·rw [if_pos h1] at hi2
    subst hi2
    dsimp only at hi
    subst hi
    have hb2 : (!decide (ec = 0)) = true := by rw [decide_eq_false h1]; rfl
    simp only [ptV, plV, Zay.enc]
    repeat (first | (apply RL_pu; rfl; exact Zuq) | (refine js ?_; (first | (refine Zac her ?_) | (refine bx ?_; intro bk))) | refine walk1 ?_)
    exact rtC
  ·simp only [decide_eq_false_iff_not, Int.ofNat_lt] at hc2
   rw [show z.eras.length - k = 0 by omega, Zdy] at hi2
   subst hi2
   replace hfw := hfw rfl
   dsimp only at hi
   cases fw with
   | false =>
    rw [if_pos rfl] at hi
    subst hi
    simp only [ptV, plV, Zay.enc]
    repeat (first | (refine js ?_; (first | (refine Zac hfw ?_) | (refine bx ?_; intro bk))) | refine walk ?_)
    exact rtC
   | true =>
    rw [if_neg (by decide)] at hi
    repeat (first | (refine js ?_; (first | (refine Zac hfw ?_) | (refine bx ?_; intro bk))) | refine walk ?_)
    exact ⟨i + 1, OA, ⟨OA, hi⟩, SFA, SOA⟩
 ·simp only [decide_eq_false_iff_not, Int.ofNat_lt] at hc
  rw [List.drop_eq_nil_of_le (by omega), ZbT] at hi
  subst hi
  repeat (first | (refine js ?_; (refine bx ?_; intro bk)) | refine walk ?_)
  exact rtC
attribute [local irreducible] RW
theorem Zlz {s : Zai} {p : Zay} {e : Int} (h : Zfg s = some (p, e)) : e ≠ 0 := by
 unfold Zfg at h
 repeat' split at h
 all_goals first | (simp only [Option.some.injEq, Prod.mk.injEq] at h; omega) | cases h
theorem Znq {rs : List Zaa} {x : ByteArray} {i : Nat} {e : Int} (h : ZcE rs x = some (i, e)) : e ≠ 0 := by
 unfold ZcE at h
 split at h
 ·simp only [Option.some.injEq, Prod.mk.injEq] at h; omega
 ·split at h
  ·rename_i h2
   simp only [Option.some.injEq] at h
   rw [h] at h2
   exact h2
  ·split at h
   ·simp only [Option.some.injEq, Prod.mk.injEq] at h; omega
   ·cases h
theorem ZhS (rs : List Zaa) : ∀ (l : List ByteArray) {p : Zay} {e : Int}, Zdn rs l = some (p, e) -> e ≠ 0
 | [], _, _, h => by cases h
 | x :: l, p, e, h => by
  rw [Zdn] at h
  split at h
  ·rename_i i e2 h2
   simp only [Option.some.injEq, Prod.mk.injEq] at h
   rw [<- h.2]
   exact Znq h2
  ·exact ZhS rs l h
theorem Zfw (s : Zai) : ∀ (l seen : List ByteArray) (i : Nat) {p : Zay} {e : Int}, ZbC s l seen i = some (p, e) -> e ≠ 0
 | [], _, _, _, _, h => by cases h
 | x :: l, seen, i, p, e, h => by
  rw [ZbC] at h
  split at h
  ·simp only [Option.some.injEq, Prod.mk.injEq] at h; omega
  ·split at h
   ·simp only [Option.some.injEq, Prod.mk.injEq] at h; omega
   ·split at h
    ·simp only [Option.some.injEq, Prod.mk.injEq] at h; omega
    ·exact Zfw s l _ _ h
theorem Zhb (s : Zai) : ∀ (l : List Zb5) (i : Nat) {p : Zay} {e : Int}, Zbe s l i = some (p, e) -> e ≠ 0
 | [], _, _, _, h => by cases h
 | x :: l, i, p, e, h => by
  rw [Zbe] at h
  repeat' split at h
  all_goals first | (simp only [Option.some.injEq, Prod.mk.injEq] at h; omega) | exact Zhb s l _ h
theorem Zg9 (s : Zai) : ∀ (l : List Zb5) (i : Nat) {p : Zay} {e : Int}, Zbd s l i = some (p, e) -> e ≠ 0
 | [], _, _, _, h => by cases h
 | x :: l, i, p, e, h => by
  rw [Zbd] at h
  split at h
  ·simp only [Option.some.injEq, Prod.mk.injEq] at h; omega
  ·exact Zg9 s l _ h
theorem Zl3 {s : Zai} {p : Zay} {e : Int} (h : Zcp s = some (p, e)) : e ≠ 0 := by
 unfold Zcp at h
 cases h1 : ZaO s s.zones 0 with
 | some x => rw [h1] at h; simp only [Option.some_or, Option.some.injEq] at h; subst h; exact Zef s _ _ _ _ h1
 | none =>
  rw [h1, Option.none_or] at h
  cases h2 : Zbe s s.links 0 with
  | some x => rw [h2] at h; simp only [Option.some_or, Option.some.injEq] at h; subst h; exact Zhb s _ _ h2
  | none =>
   rw [h2, Option.none_or] at h
   exact Zg9 s _ _ h
theorem Zmq (rs : List Zaa) (l : List DEra) (i : Nat) : ∀ (f k : Nat) {p : Zay} {e : Int}, Zdy rs l i f k = some (p, e) -> e ≠ 0
 | 0, _, _, _, h => by cases h
 | f + 1, k, p, e, h => by
  rw [Zdy] at h
  split at h
  ·rename_i h2; simp only [Option.some.injEq, Prod.mk.injEq] at h; rw [<- h.2]; exact h2
  ·split at h
   ·rename_i h2; simp only [Option.some.injEq, Prod.mk.injEq] at h; rw [<- h.2]; exact h2
   ·exact Zmq rs l i f _ h
theorem Zgs (rs : List Zaa) : ∀ (l : List ZaY) (i : Nat) {p : Zay} {e : Int}, ZbT rs l i = some (p, e) -> e ≠ 0
 | [], _, _, _, h => by cases h
 | z :: l, i, p, e, h => by
  rw [ZbT] at h
  split at h
  ·simp only [Option.some.injEq, Prod.mk.injEq] at h; omega
  ·split at h
   ·rename_i x h2
    simp only [Option.some.injEq] at h
    subst h
    exact Zmq rs _ _ _ _ h2
   ·split at h
    ·simp only [Option.some.injEq, Prod.mk.injEq] at h; omega
    ·exact Zgs rs l _ h
instance : ZeroT Tryz.prog 174 [.nilFunc] := ⟨by kernel_rfl⟩
theorem Zi7 {G : Prop} (h : G := by (first | (apply ZiX; rfl; (focus repeat' constructor); rfl) | (apply ZaD; rfl; rfl; exact hb))) : G := h
theorem Zi6 {G : Prop} (h : G := by (apply ZiX; rfl; (focus repeat' constructor); rfl)) : G := h
set_option maxHeartbeats 2000000 in
theorem Zpz (Ar Az Al As : Option Addr) (cr cz cl cs : Nat) (a : Zai) (w : World) (hL : LibW w) (hG : Glob w) (hA : Zat w Ar Az Al As cr cz cl cs a) (hS : Zhr a) (hV : SavI a) (hZ : ∀ z ∈ a.zones, ∀ e ∈ z.eras, Zri e) :
  Does Tryz.prog 54 [srcV Ar Az Al As cr cz cl cs a] w (fun v O => v = ptV (accD a) /\ O = []) := by
 have h1 : ∀ w', Bel w.heap.size w w' -> Does Tryz.prog 87 ([srcV Ar Az Al As cr cz cl cs a] ++ [] ++ []) w' (fun v O => v = ptV (Zfg a) /\ O = []) := fun w' hw => Zp9 Ar Az Al As cr cz cl cs a w' (hA.up hw) hS.nz
 have h2 : ∀ w', Bel w.heap.size w w' -> Does Tryz.prog 88 ([srcV Ar Az Al As cr cz cl cs a] ++ [] ++ []) w' (fun v O => v = ptV (Zjb a) /\ O = []) := fun w' hw => Zqw Ar Az Al As cr cz cl cs a w' (hG.up hw) (hA.up hw) hS hV
 have h3 : ∀ w', Bel w.heap.size w w' -> Does Tryz.prog 89 ([srcV Ar Az Al As cr cz cl cs a] ++ [] ++ []) w' (fun v O => v = ptV (ZbC a a.shifts [] 0) /\ O = []) := fun w' hw => Zl1 Ar Az Al As cr cz cl cs a w' (hA.up hw) hS
 have h4 : ∀ w', Bel w.heap.size w w' -> Does Tryz.prog 90 ([srcV Ar Az Al As cr cz cl cs a] ++ [] ++ []) w' (fun v O => v = ptV (Zcp a) /\ O = []) := fun w' hw => ZnF Ar Az Al As cr cz cl cs a w' (hA.up hw) hS
 have h5 : Zjb a = none -> ∀ w', Bel w.heap.size w w' -> Does Tryz.prog 91 ([srcV Ar Az Al As cr cz cl cs a] ++ [] ++ []) w' (fun v O => v = ptV (ZbT a.rules a.zones 0) /\ O = []) := fun hs w' hw => Zn9 Ar Az Al As cr cz cl cs a w' (hL.up hw) (hG.up hw) (hA.up hw) hS (ZrN hs) hZ
 have n1 := fun {p e} => @Zlz a p e
 have n2 : ∀ {p e}, Zjb a = some (p, e) -> e ≠ 0 := fun h => ZhS a.rules _ h
 have n3 : ∀ {p e}, ZbC a a.shifts [] 0 = some (p, e) -> e ≠ 0 := fun h => Zfw a _ _ _ h
 have n4 := fun {p e} => @Zl3 a p e
 have n5 : ∀ {p e}, ZbT a.rules a.zones 0 = some (p, e) -> e ≠ 0 := fun h => Zgs a.rules _ _ h
 unfold accD
 generalize Zfg a = o1 at *
 generalize Zjb a = o2 at *
 generalize ZbC a a.shifts [] 0 = o3 at *
 generalize Zcp a = o4 at *
 generalize ZbT a.rules a.zones 0 = o5 at *
 refine Zab Tryz.func54 rfl rfl rfl rfl ?_
 repeat (first | (refine js ?_; (refine bx ?_; intro bk)) | refine Zkq ?_)
 refine W_block (ZpA 6 (Zd3 ?_))
 cases o1 with
 | some x =>
  obtain ⟨⟨p1, p2, p3⟩, e⟩ := x
  have hb : (!decide (e = 0)) = true := by rw [decide_eq_false (n1 rfl)]; rfl
  simp only [Option.some_or, ptV, plV, Zay.enc] at h1 ⊢
  repeat (first | (apply RL_pu; rfl; exact Zi7) | (refine js ?_; (first | (refine Zgd (fun w' hw _ => h1 w' hw) ?_) | (refine bx ?_; intro bk))) | refine walk1 ?_)
  exact rtC
 | none =>
 simp only [ptV, plV, Zay.enc] at h1
 rw [Option.none_or]
 repeat (first | (apply RL_pu; rfl; exact Zi6) | (refine js ?_; (first | (refine Zgd (fun w' hw _ => h1 w' hw) ?_) | (refine bx ?_; intro bk))) | refine walk1 ?_)
 refine Zd3 ?_
 cases o2 with
 | some x =>
  obtain ⟨⟨p1, p2, p3⟩, e⟩ := x
  have hb : (!decide (e = 0)) = true := by rw [decide_eq_false (n2 rfl)]; rfl
  simp only [Option.some_or, ptV, plV, Zay.enc] at h2 ⊢
  repeat (first | (apply RL_pu; rfl; exact Zi7) | (refine js ?_; (first | (refine Zgd (fun w' hw _ => h2 w' hw) ?_) | (refine bx ?_; intro bk))) | refine walk1 ?_)
  exact rtC
 | none =>
 replace h5 := h5 rfl
 simp only [ptV, plV, Zay.enc] at h2
 rw [Option.none_or]
 repeat (first | (apply RL_pu; rfl; exact Zi6) | (refine js ?_; (first | (refine Zgd (fun w' hw _ => h2 w' hw) ?_) | (refine bx ?_; intro bk))) | refine walk1 ?_)
 refine Zd3 ?_
 cases o3 with
 | some x =>
  obtain ⟨⟨p1, p2, p3⟩, e⟩ := x
  have hb : (!decide (e = 0)) = true := by rw [decide_eq_false (n3 rfl)]; rfl
  simp only [Option.some_or, ptV, plV, Zay.enc] at h3 ⊢
  repeat (first | (apply RL_pu; rfl; exact Zi7) | (refine js ?_; (first | (refine Zgd (fun w' hw _ => h3 w' hw) ?_) | (refine bx ?_; intro bk))) | refine walk1 ?_)
  exact rtC
 | none =>
 simp only [ptV, plV, Zay.enc] at h3
 rw [Option.none_or]
 repeat (first | (apply RL_pu; rfl; exact Zi6) | (refine js ?_; (first | (refine Zgd (fun w' hw _ => h3 w' hw) ?_) | (refine bx ?_; intro bk))) | refine walk1 ?_)
 refine Zd3 ?_
 cases o4 with
 | some x =>
  obtain ⟨⟨p1, p2, p3⟩, e⟩ := x
  have hb : (!decide (e = 0)) = true := by rw [decide_eq_false (n4 rfl)]; rfl
  simp only [Option.some_or, ptV, plV, Zay.enc] at h4 ⊢
  repeat (first | (apply RL_pu; rfl; exact Zi7) | (refine js ?_; (first | (refine Zgd (fun w' hw _ => h4 w' hw) ?_) | (refine bx ?_; intro bk))) | refine walk1 ?_)
  exact rtC
 | none =>
 simp only [ptV, plV, Zay.enc] at h4
 rw [Option.none_or]
 repeat (first | (apply RL_pu; rfl; exact Zi6) | (refine js ?_; (first | (refine Zgd (fun w' hw _ => h4 w' hw) ?_) | (refine bx ?_; intro bk))) | refine walk1 ?_)
 refine Zd3 ?_
 cases o5 with
 | some x =>
  obtain ⟨⟨p1, p2, p3⟩, e⟩ := x
  have hb : (!decide (e = 0)) = true := by rw [decide_eq_false (n5 rfl)]; rfl
  simp only [ptV, plV, Zay.enc] at h5 ⊢
  repeat (first | (apply RL_pu; rfl; exact Zi7) | (refine js ?_; (first | (refine Zgd (fun w' hw _ => h5 w' hw) ?_) | (refine bx ?_; intro bk))) | refine walk1 ?_)
  exact rtC
 | none =>
 simp only [ptV, plV, Zay.enc] at h5 ⊢
 repeat (first | (apply RL_pu; rfl; exact Zi6) | (refine js ?_; (first | (refine Zgd (fun w' hw _ => h5 w' hw) ?_) | (refine bx ?_; intro bk))) | refine walk1 ?_)
 refine Zd3 ?_
 repeat (first | (refine js ?_; (refine bx ?_; intro bk)) | refine walk ?_)
 exact rtC
end Go.Proofs.YtdlmhmmhdbbliaaGreatDoor
namespace Go.Proofs.YtdlmhmmhdbbliaaGreatDoor
open Go Go.RowKit Go.Wk
attribute [local irreducible] W RL Does Zau Zaj retQ Calls Pu Stp RD Qy Ay Zak
theorem ZxU {s : Zai} {p : Zay} {e : Int} (h : accD s = some (p, e)) : e ≠ 0 := by
 unfold accD at h
 cases h1 : Zfg s with
 | some x => rw [h1] at h; simp only [Option.some_or, Option.some.injEq] at h; subst h; exact Zlz h1
 | none =>
  rw [h1, Option.none_or] at h
  cases h2 : Zjb s with
  | some x => rw [h2] at h; simp only [Option.some_or, Option.some.injEq] at h; subst h; exact ZhS _ _ h2
  | none =>
   rw [h2, Option.none_or] at h
   cases h3 : ZbC s s.shifts [] 0 with
   | some x => rw [h3] at h; simp only [Option.some_or, Option.some.injEq] at h; subst h; exact Zfw _ _ _ _ h3
   | none =>
    rw [h3, Option.none_or] at h
    cases h4 : Zcp s with
    | some x => rw [h4] at h; simp only [Option.some_or, Option.some.injEq] at h; subst h; exact Zl3 h4
    | none =>
     rw [h4, Option.none_or] at h
     exact Zgs _ _ _ h
structure Zdl (w : World) (Ar Az Al As : Option Addr) (cr cz cl cs : Nat) (a : Zai) : Prop where
 L : LibW w
 G : Glob w
 A : Zat w Ar Az Al As cr cz cl cs a
 S : Zhr a
 V : SavI a
 Z : ∀ z ∈ a.zones, ∀ e ∈ z.eras, Zri e
theorem Zdl.up {w w' : World} {Ar Az Al As : Option Addr} {cr cz cl cs : Nat} {a : Zai} (h : Zdl w Ar Az Al As cr cz cl cs a) (hb : Bel w.heap.size w w') : Zdl w' Ar Az Al As cr cz cl cs a :=
 ⟨h.L.up hb, h.G.up hb, h.A.up hb, h.S, h.V, h.Z⟩
end Go.Proofs.YtdlmhmmhdbbliaaGreatDoor
namespace Go.Proofs.YtdlmhmmhdbbliaaGreatDoor
open Go Go.RowKit Go.Wk
structure SmE (e : DEra) : Prop where
 set : e.set.size <= 100
 fmt : e.format.size <= 100
 off : -1000000 <= e.off /\ e.off <= 1000000
 save : -1000000 <= e.save /\ e.save <= 1000000
 kind : -1000000 <= e.kind /\ e.kind <= 1000000
structure Sml (s : Zai) : Prop where
 nr : s.rules.length <= 100
 nz : s.zones.length <= 100
 nl : s.links.length <= 100
 ns : s.shifts.length <= 100
 rs : ∀ r ∈ s.rules, r.name.size <= 100 /\ r.letter.size <= 100 /\ -1000000 <= r.save /\ r.save <= 1000000
 zs : ∀ z ∈ s.zones, z.name.size <= 100 /\ z.eras.length <= 100 /\ ∀ e ∈ z.eras, SmE e
 ls : ∀ l ∈ s.links, l.target.size <= 100 /\ l.name.size <= 100
theorem Sml.acc {w : World} {Ar Az Al As : Option Addr} {cr cz cl cs : Nat} {a : Zai} (h : Sml a) (hL : LibW w) (hG : Glob w) (hA : Zat w Ar Az Al As cr cz cl cs a) : Zdl w Ar Az Al As cr cz cl cs a where
 L := hL
 G := hG
 A := hA
 S := ⟨by have := h.nr; omega, by have := h.nz; omega, by have := h.nl; omega, by have := h.ns; omega, fun r hr => by obtain ⟨h1, h2, _⟩ := h.rs r hr; omega, fun z hz => by
  obtain ⟨h1, h2, h3⟩ := h.zs z hz
  exact ⟨by omega, by omega, fun e he => by have h4 := (h3 e he).set; have h5 := (h3 e he).fmt; omega⟩, fun l hl => by obtain ⟨h1, h2⟩ := h.ls l hl; omega⟩
 V := fun r hr => by obtain ⟨_, _, h1, h2⟩ := h.rs r hr; omega
 Z := fun z hz e he => by
  have h1 := (h.zs z hz).2.2 e he
  have h2 := h1.off
  have h3 := h1.save
  have h4 := h1.kind
  have h5 := h1.fmt
  exact ⟨by unfold I64; omega, by unfold I64; omega, by unfold I64; omega, by omega⟩
theorem Zvd {x : ByteArray} (h : x ∈ [ByteArray.empty, (⟨#[83]⟩ : ByteArray), ⟨#[68]⟩, ⟨#[68, 84]⟩]) : x.size <= 100 := by
 have : ∀ x ∈ [ByteArray.empty, (⟨#[83]⟩ : ByteArray), ⟨#[68]⟩, ⟨#[68, 84]⟩], x.size <= 100 := by decide
 exact this x h
theorem Zvw {f : ByteArray} (h : f ∈ fmtU) : f.size <= 100 := by
 have h1 : ∀ f ∈ fmtU, f.size <= 100 := by decide
 exact h1 f h
theorem Zbi.sm {rs : List Zaa} {e : DEra} {first : Bool} (h : Zbi rs e first) (hn : ∀ r ∈ rs, r.name.size <= 100) : SmE e := by
 refine ⟨?_, Zvw h.fmt, ?_, ?_, ?_⟩
 ·rcases h with ⟨_, _, h, _⟩ | ⟨_, _, h, _⟩ | ⟨_, _, _, _, _, _, h, _⟩
  ·rw [h]; exact Nat.zero_le _
  ·rw [h]; exact Nat.zero_le _
  ·obtain ⟨_, _, _, ⟨r, hr, _⟩, _⟩ := h.saves
   obtain ⟨h1, h2⟩ := List.mem_filter.1 hr
   have h3 : r.name = e.set := by simpa using h2
   rw [<- h3]
   exact hn r h1
 ·rcases h with ⟨_, _, _, h1, h2, _⟩ | ⟨_, _, _, h1, h2, _⟩ | ⟨_, _, _, h1, h2, _⟩ <;> omega
 ·rcases h with ⟨_, h1, _⟩ | ⟨_, h1, _⟩ | ⟨_, _, h1, _⟩ <;> omega
 ·rcases h with ⟨h1, _⟩ | ⟨h1, _⟩ | ⟨h1, _⟩ <;> omega
theorem Zxe : ∀ i : Fin 3, (sN i.val).size <= 100 := by decide +kernel
theorem Zg2 (j : Nat) : (Zki.getD j ByteArray.empty).size <= 100 := by
 rcases j with _ | _ | _ | j
 ·decide
 ·decide
 ·decide
 ·exact Nat.zero_le _
theorem Zha (j : Nat) : (Zh7.getD j ByteArray.empty).size <= 100 := by
 rcases j with _ | _ | _ | _ | j
 ·decide
 ·decide
 ·decide
 ·decide
 ·exact Nat.zero_le _
theorem ZlZ (d : DD23) : ∀ r ∈ (Zbx d).rules, DrRule r /\ r.name.size <= 100 := fun r hr => by
 obtain ⟨j, h1, h2⟩ := ZdL d.sets d.ns r hr
 have hS := (Zfx d.sets d.ns (ns23 d).2 j h1).1
 have h3 := (ns23 d).2
 exact ⟨hS.rule r (List.mem_filter.2 ⟨hr, decide_eq_true h2⟩), h2 ▸ Zxe ⟨j, by omega⟩⟩
theorem ZjI (nz : Nat) (c : Nat -> Nat) : ∀ n, ∀ l ∈ Zje nz c n, l.target.size <= 100 /\ l.name.size <= 100
 | 0, l, h => by cases h
 | n + 1, l, h => by
  rw [Zje, List.mem_append, List.mem_singleton] at h
  rcases h with h | rfl
  ·exact ZjI nz c n l h
  ·refine ⟨?_, Zha n⟩
   show (Zqy nz (c n)).size <= 100
   unfold Zqy
   split
   ·exact Zg2 _
   ·exact Zha _
theorem Zjl : ∀ n, ∀ z ∈ ZpZ n, z.name.size <= 100
 | 0, z, h => by cases h
 | n + 1, z, h => by
  rw [ZpZ, List.mem_append, List.mem_singleton] at h
  rcases h with h | rfl
  ·exact Zjl n z h
  ·exact Zg2 n
theorem Zh4 (d : DD23) : (Zbx d).zones.length = (zl23 d.zones).length := ZcL _ _ _
theorem ZlX (d : DD23) : (Zbx d).links.length <= 4 := by
 show (Zby (zl23 d.zones).length (d.links.take 4) (d.links.take 4).length).length <= 4
 rw [ZdP, List.length_take]; omega
theorem Zqt (d : DD23) : Sml (Zbx d) := by
 have h1 := ZcR d.sets d.ns
 have hm := (ns23 d).2
 obtain ⟨z1, z3⟩ := ZeL d.zones
 have hb := Zee d.ns (zl23 d.zones) _ z3
 refine ⟨?_, ?_, ?_, ?_, ?_, ?_, ?_⟩
 ·show (ZaP d.sets d.ns).length <= 100
  omega
 ·rw [Zh4]; omega
 ·have := ZlX d; omega
 ·exact Nat.zero_le _
 ·intro r hr
  obtain ⟨q1, q2⟩ := ZlZ d r hr
  have := q1.save
  exact ⟨q2, Zvd q1.letter, by omega, by omega⟩
 ·intro z hz
  obtain ⟨Y, hY⟩ := Zco d z hz
  have hl := hY.len
  refine ⟨?_, by omega, fun e he => ?_⟩
  ·refine Zjl (zl23 d.zones).length (ZkY z) ?_
   rw [<- hb]
   exact List.mem_map_of_mem hz
  ·obtain ⟨k, hk⟩ := List.getElem?_of_mem he
   exact (hY.era k e hk).sm fun r hr => (ZlZ d r hr).2
 ·obtain ⟨c, q1, q2⟩ := ZfD (zl23 d.zones).length z1 z3 (d.links.take 4) (d.links.take 4).length (by rw [List.length_take]; omega)
  intro l hl
  refine ZjI (zl23 d.zones).length c (d.links.take 4).length l ?_
  rw [<- q2]
  exact hl
def ZxD : ByteArray := ⟨#[69, 105, 114, 101]⟩
def ZlC (m : Int) (d : DDay) (sec save : Int) : Zaa := ⟨ZxD, 1972, 1048576, m, d, ⟨sec, 2⟩, save, ByteArray.empty⟩
def sunD (n : Int) : DDay := ⟨3, 0, n⟩
def yrR : List Zaa -> Int -> Int
 | [], y => y
 | r :: l, y => yrR l (if r.to = 1048576 then max y r.from_ else max (max y r.from_) r.to)
def yr0 (l : List DEra) : Int := if 1 < l.length then (l.getD (l.length - 2) dE0).til.year else 1849
def Zdv (l : List DEra) : DEra := l.getD (l.length - 1) dE0
def Za2 (s : Zai) (l : List DEra) : List Zaa := if (Zdv l).kind = 2 then ofB s.rules (Zdv l).set else []
def Zb3 (s : Zai) (l : List DEra) : Int := yrR (Za2 s l) (yr0 l) + 1
theorem ZvX : ∀ (l : List Zaa) (y : Int), y <= yrR l y /\ ∀ r ∈ l, r.from_ <= yrR l y /\ (r.to = 1048576 \/ r.to <= yrR l y)
 | [], y => ⟨Int.le_refl _, fun r h => by cases h⟩
 | a :: l, y => by
  obtain ⟨h1, h2⟩ := ZvX l (if a.to = 1048576 then max y a.from_ else max (max y a.from_) a.to)
  rw [yrR]
  generalize yrR l _ = z at *
  refine ⟨by split at h1 <;> omega, fun r hr => ?_⟩
  rcases List.mem_cons.1 hr with rfl | hr
  ·split at h1 <;> omega
  ·exact h2 r hr
theorem ZvW {M : Int} : ∀ (l : List Zaa) (y : Int), y <= M -> (∀ r ∈ l, r.from_ <= M /\ (r.to = 1048576 \/ r.to <= M)) -> yrR l y <= M
 | [], _, h, _ => h
 | a :: l, y, h, hr => by
  rw [yrR]
  have ha := hr a List.mem_cons_self
  refine ZvW l _ ?_ fun r h2 => hr r (List.mem_cons_of_mem _ h2)
  split <;> omega
theorem Zkm {s : Zai} {l : List DEra} {Y : Nat -> Int} (h : Zbo s.rules l Y) :
  1850 <= Zb3 s l /\ Zb3 s l <= 2150 /\ (∀ i e, i + 1 < l.length -> l[i]? = some e -> e.til.year < Zb3 s l) /\
  (∀ r ∈ Za2 s l, DrRule r /\ r.from_ < Zb3 s l /\ (r.to = 1048576 \/ r.to < Zb3 s l)) := by
 have hlen := h.len
 have hty : ∀ k e, k + 1 < l.length -> l[k]? = some e -> (e.til.year = Y k \/ e.til.year = Y k + 1) /\ 1850 <= Y k /\ Y k <= 2148 := fun k e hk he => by
  have h1 := h.til k e he
  have h2 := h.yr k hk
  rw [if_pos hk] at h1
  rcases h1 with ⟨_, _, _, q, _⟩ | ⟨_, _, _, q, _⟩ <;> rw [q] <;> dsimp only <;> omega
 have hinc : ∀ d k, k + d + 1 < l.length -> Y k + d <= Y (k + d) := fun d => by
  induction d with
  | zero => intro k _; simp
  | succ d ih =>
   intro k hk
   have h1 := ih k (by omega)
   have h2 := h.inc (k + d) (by omega)
   rw [show k + (d + 1) = k + d + 1 by omega]
   omega
 have hr : ∀ r ∈ Za2 s l, DrRule r := fun r hr => by
  unfold Za2 Zdv at hr
  split at hr
  ·rename_i hk
   obtain ⟨e, he, e2⟩ := Zdi (l := l) (k := l.length - 1) (d := dE0) (by omega)
   rw [e2] at hk hr
   rcases h.era _ e he with ⟨q, _⟩ | ⟨q, _⟩ | ⟨_, _, _, _, _, _, q, _⟩
   ·omega
   ·omega
   ·exact q.rule r hr
  ·cases hr
 obtain ⟨g1, g2⟩ := ZvX (Za2 s l) (yr0 l)
 have h0 : 1849 <= yr0 l /\ yr0 l <= 2149 := by
  unfold yr0
  split
  ·obtain ⟨e, he, e2⟩ := Zdi (l := l) (k := l.length - 2) (d := dE0) (by omega)
   rw [e2]
   have := hty (l.length - 2) e (by omega) he
   omega
  ·omega
 have hle : yrR (Za2 s l) (yr0 l) <= 2149 := ZvW _ _ h0.2 fun r hm => by
  have q1 := (hr r hm).f1
  have q2 := (hr r hm).t1
  omega
 unfold Zb3
 refine ⟨by omega, by omega, fun i e hi he => ?_, fun r hm => ⟨hr r hm, ?_⟩⟩
 ·have q1 := hty i e hi he
  obtain ⟨f, hf, e2⟩ := Zdi (l := l) (k := l.length - 2) (d := dE0) (by omega)
  have q2 := hty (l.length - 2) f (by omega) hf
  have q3 : e.til.year <= yr0 l := by
   unfold yr0
   rw [if_pos (by omega), e2]
   by_cases hc : i = l.length - 2
   ·subst hc
    rw [he] at hf
    rw [Option.some.inj hf]
    exact Int.le_refl _
   ·have := hinc (l.length - 2 - i) i (by omega)
    rw [show i + (l.length - 2 - i) = l.length - 2 by omega] at this
    omega
  omega
 ·have := g2 r hm
  omega
end Go.Proofs.YtdlmhmmhdbbliaaGreatDoor
