/- Parts of the proof. -/
import Derived.Test.YtbjomhdhkpgbaaaGreatDoorY09
import Derived.Test.YtbjomhdhkpgbaaaGreatDoorY07
import Derived.Test.YtbjomhdhkpgbaaaGreatDoorY13
import Derived.Test.YtbjomhdhkpgbaaaGreatDoorY08
import Derived.Test.YtbjomhdhkpgbaaaGreatDoorY10
set_option maxHeartbeats 4000000
set_option linter.unusedVariables false
set_option linter.unusedSimpArgs false
namespace Go.Proofs.YtbjomhdhkpgbaaaGreatDoor
open Go Go.RowKit Go.Wk
attribute [local irreducible] W RL Does Zap Zak retQ Calls Pu Stp RD Qy Ay Zal
theorem ZiI (x : ByteArray) (z : ZaX) : ∀ (l : List ZaX) (k : Nat), ZbM x (l ++ [z]) k = (ZbM x l k).or (if z.name = x then some (k + l.length) else none)
 | [], k => by simp [ZbM]
 | y :: l, k => by
  simp only [List.cons_append, ZbM, ZiI x z l]
  split
  ·rfl
  ·rw [List.length_cons, show k + 1 + l.length = k + (l.length + 1) by omega]
theorem ZiJ (x : ByteArray) (z : DLink) : ∀ (l : List DLink) (k : Nat), Zcl x (l ++ [z]) k = (Zcl x l k).or (if z.name = x then some (k + l.length) else none)
 | [], k => by simp [Zcl]
 | y :: l, k => by
  simp only [List.cons_append, Zcl, ZiJ x z l]
  split
  ·rfl
  ·rw [List.length_cons, show k + 1 + l.length = k + (l.length + 1) by omega]
theorem ZmQ (x : ByteArray) : ∀ (l : List DLink) (k i : Nat), Zcl x l k = some i -> k <= i /\ i < k + l.length
 | [], _, _, h => by cases h
 | z :: l, k, i, h => by
  simp only [Zcl] at h
  split at h
  ·simp only [Option.some.injEq] at h; subst h; simp
  ·have := ZmQ x l (k + 1) i h; simp only [List.length_cons]; omega
theorem Zj9 {z : ZaX} : ∀ {l : List ZaX} (k : Nat), z ∈ l -> ∃ j, ZbM z.name l k = some j
 | y :: l, k, h => by
  simp only [ZbM]
  split
  ·exact ⟨_, rfl⟩
  ·rename_i hn
   rcases List.mem_cons.1 h with rfl | h
   ·exact absurd rfl hn
   ·exact Zj9 (k + 1) h
theorem Zka {z : DLink} : ∀ {l : List DLink} (k : Nat), z ∈ l -> ∃ j, Zcl z.name l k = some j
 | y :: l, k, h => by
  simp only [Zcl]
  split
  ·exact ⟨_, rfl⟩
  ·rename_i hn
   rcases List.mem_cons.1 h with rfl | h
   ·exact absurd rfl hn
   ·exact Zka (k + 1) h
def IxM (m : List (ByteArray × Value)) (f : ByteArray -> Option Nat) : Prop := ∀ x, mget m x = (f x).map fun i : Nat => Value.int .i64 (i : Int)
theorem IxM.some {m : List (ByteArray × Value)} {f : ByteArray -> Option Nat} (h : IxM m f) {x : ByteArray} {i : Nat} (hf : f x = some i) : (mget m x).getD (.int .i64 0) = .int .i64 i /\ (mget m x).isSome = true := by
 rw [h x, hf]; exact ⟨rfl, rfl⟩
theorem IxM.none {m : List (ByteArray × Value)} {f : ByteArray -> Option Nat} (h : IxM m f) {x : ByteArray} (hf : f x = none) : (mget m x).getD (.int .i64 0) = .int .i64 0 /\ (mget m x).isSome = false := by
 rw [h x, hf]; exact ⟨rfl, rfl⟩
theorem IxM.set {m : List (ByteArray × Value)} {f f' : ByteArray -> Option Nat} (h : IxM m f) {k : ByteArray} {i : Nat} (hf : ∀ x, f' x = if x = k then Option.some i else f x) : IxM (mset m k (.int .i64 i)) f' := fun x => by
 rw [Zge, hf x]
 split
 ·rfl
 ·exact h x
def ZAR (f : ByteArray -> Option Nat) (N : Nat) (v : Value) (O : List It) : Prop := ∃ b m, v = .map (some b) /\ O = [.mp b m] /\ IxM m f /\ Nd m /\ m.length <= N
structure LG where
 k : Nat
 mp : List (ByteArray × Value)
theorem Zq5 {G : Prop} (h : G := by (first | exact PuI | (apply ZcL; rfl; rfl; (focus repeat' constructor); exact hv0; exact hc0))) : G := h
theorem Zoo (Ar Az Al As : Option Addr) (cr cz cl cs : Nat) (a : Zab) (w : World) (hA : Zaj w Ar Az Al As cr cz cl cs a) (hn : a.zones.length <= 1000000) :
  Does Tryz.prog 35 [srcV Ar Az Al As cr cz cl cs a] w (ZAR (fun x => ZbM x a.zones 0) a.zones.length) := by
 refine Zaa Tryz.func35 rfl rfl rfl rfl ?_
 repeat (first | (refine js ?_; (first | (apply Zhw; rfl; intro bk) | (refine bx ?_; intro bk))) | refine walk ?_)
 refine Zaq [(3, .map (some bk)), (13, .slice Az a.zones.length cz), (14, .int .i64 a.zones.length)] [] (fun g : LG => [(15, .int .i64 g.k)]) (fun g => [.mp bk g.mp]) (fun g => g.k <= a.zones.length /\ IxM g.mp (fun x => ZbM x (a.zones.take g.k) 0) /\ Nd g.mp /\ g.mp.length <= g.k) (fun g => a.zones.length - g.k) ⟨0, []⟩ SFA SOA ⟨Nat.zero_le _, fun x => rfl, List.nodup_nil, Nat.le_refl _⟩ ?_
 obtain ⟨bm, hbm⟩ : ∃ bm, bk = bm := ⟨_, rfl⟩
 rw [hbm]
 clear hbm bk
 rintro ⟨k, mp⟩ ⟨hk, hm, hd, hl⟩
 dsimp only at hk hm hd hl ⊢
 repeat (first | (refine js ?_; (refine bx ?_; intro bk)) | refine walk ?_)
 refine Zah rfl (fun hc => ?_) (fun hc => ?_)
 ·simp only [decide_eq_true_eq, Int.ofNat_lt] at hc
  obtain ⟨hna, cs1, ⟨Ae, ce, _, rfl⟩, hca⟩ := hA.z k _ (List.getElem?_eq_getElem hc)
  have ht := List.take_append_getElem hc
  have hlen : (a.zones.take k).length = k := by rw [List.length_take]; omega
  generalize a.zones[k] = z at *
  have hsn := fun x => ZiI x z (a.zones.take k) 0
  rw [ht, hlen] at hsn
  cases hf : ZbM z.name (a.zones.take k) 0 with
  | none =>
   obtain ⟨hv0, hc0⟩ := hm.none hf
   repeat (first | (apply RL_pu; rfl; exact Zq5) | (refine js ?_; (refine bx ?_; intro bk)) | refine walk1 ?_)
   refine ⟨⟨k + 1, mset mp z.name (.int .i64 k)⟩, OA, ⟨OA, hm.set (k := z.name) (i := k) (fun x => ?_), hd.set _ _, ?_⟩, SFA, SOA⟩
   ·dsimp only
    rw [hsn x]
    by_cases e : x = z.name
    ·subst e; simp [hf]
    ·rw [if_neg e, if_neg (fun h => e h.symm), Option.or_none]
   ·have := ZkV z.name (.int .i64 (k : Int)) mp
    dsimp only
    omega
  | some j =>
   obtain ⟨hv0, hc0⟩ := hm.some hf
   repeat (first | (apply RL_pu; rfl; exact Zq5) | (refine js ?_; (refine bx ?_; intro bk)) | refine walk1 ?_)
   refine ⟨⟨k + 1, mp⟩, OA, ⟨OA, fun x => ?_, hd, OA⟩, SFA, SOA⟩
   dsimp only
   rw [hm x, hsn x]
   dsimp only
   by_cases e : z.name = x
   ·subst e; rw [hf]; rfl
   ·rw [if_neg e, Option.or_none]
 ·simp only [decide_eq_false_iff_not, Int.ofNat_lt] at hc
  rw [List.take_of_length_le (by omega)] at hm
  repeat (first | (refine js ?_; (refine bx ?_; intro bk)) | refine walk ?_)
  exact ret_1 _ [.mp bm mp] (.tmp rfl) SOA ⟨bm, mp, rfl, rfl, hm, hd, by omega⟩
theorem ZkZ (Ar Az Al As : Option Addr) (cr cz cl cs : Nat) (a : Zab) (w : World) (hA : Zaj w Ar Az Al As cr cz cl cs a) (hn : a.links.length <= 1000000) :
  Does Tryz.prog 37 [srcV Ar Az Al As cr cz cl cs a] w (ZAR (fun x => Zcl x a.links 0) a.links.length) := by
 refine Zaa Tryz.func37 rfl rfl rfl rfl ?_
 repeat (first | (refine js ?_; (first | (apply Zhw; rfl; intro bk) | (refine bx ?_; intro bk))) | refine walk ?_)
 refine Zaq [(3, .map (some bk)), (13, .slice Al a.links.length cl), (14, .int .i64 a.links.length)] [] (fun g : LG => [(15, .int .i64 g.k)]) (fun g => [.mp bk g.mp]) (fun g => g.k <= a.links.length /\ IxM g.mp (fun x => Zcl x (a.links.take g.k) 0) /\ Nd g.mp /\ g.mp.length <= g.k) (fun g => a.links.length - g.k) ⟨0, []⟩ SFA SOA ⟨Nat.zero_le _, fun x => rfl, List.nodup_nil, Nat.le_refl _⟩ ?_
 obtain ⟨bm, hbm⟩ : ∃ bm, bk = bm := ⟨_, rfl⟩
 rw [hbm]
 clear hbm bk
 rintro ⟨k, mp⟩ ⟨hk, hm, hd, hl⟩
 dsimp only at hk hm hd hl ⊢
 repeat (first | (refine js ?_; (refine bx ?_; intro bk)) | refine walk ?_)
 refine Zah rfl (fun hc => ?_) (fun hc => ?_)
 ·simp only [decide_eq_true_eq, Int.ofNat_lt] at hc
  obtain ⟨hna, hca⟩ := hA.l.rd k _ (List.getElem?_eq_getElem hc)
  have ht := List.take_append_getElem hc
  have hlen : (a.links.take k).length = k := by rw [List.length_take]; omega
  generalize a.links[k] = z at *
  have hsn := fun x => ZiJ x z (a.links.take k) 0
  rw [ht, hlen] at hsn
  cases hf : Zcl z.name (a.links.take k) 0 with
  | none =>
   obtain ⟨hv0, hc0⟩ := hm.none hf
   repeat (first | (apply RL_pu; rfl; exact Zq5) | (refine js ?_; (refine bx ?_; intro bk)) | refine walk1 ?_)
   refine ⟨⟨k + 1, mset mp z.name (.int .i64 k)⟩, OA, ⟨OA, hm.set (k := z.name) (i := k) (fun x => ?_), hd.set _ _, ?_⟩, SFA, SOA⟩
   ·dsimp only
    rw [hsn x]
    by_cases e : x = z.name
    ·subst e; simp [hf]
    ·rw [if_neg e, if_neg (fun h => e h.symm), Option.or_none]
   ·have := ZkV z.name (.int .i64 (k : Int)) mp
    dsimp only
    omega
  | some j =>
   obtain ⟨hv0, hc0⟩ := hm.some hf
   repeat (first | (apply RL_pu; rfl; exact Zq5) | (refine js ?_; (refine bx ?_; intro bk)) | refine walk1 ?_)
   refine ⟨⟨k + 1, mp⟩, OA, ⟨OA, fun x => ?_, hd, OA⟩, SFA, SOA⟩
   dsimp only
   rw [hm x, hsn x]
   dsimp only
   by_cases e : z.name = x
   ·subst e; rw [hf]; rfl
   ·rw [if_neg e, Option.or_none]
 ·simp only [decide_eq_false_iff_not, Int.ofNat_lt] at hc
  rw [List.take_of_length_le (by omega)] at hm
  repeat (first | (refine js ?_; (refine bx ?_; intro bk)) | refine walk ?_)
  exact ret_1 _ [.mp bm mp] (.tmp rfl) SOA ⟨bm, mp, rfl, rfl, hm, hd, by omega⟩
theorem Zxi : ZtU Tryz.prog 109 := fun args w => by
 rw [run_callFunc_extern Tryz.func109 (by kernel_rfl) (by kernel_rfl) (by kernel_rfl) (e := Extern.MapsClone.clone) (by kernel_rfl)]
theorem Zoj (b : Nat) (m : List (ByteArray × Value)) (w : World) (h : MpAt w b m) :
  Does Tryz.prog 76 [.map (some b)] w (fun v O => ∃ b2, v = .map (some b2) /\ O = [.mp b2 m]) := by
 refine Zaa Tryz.func76 rfl rfl rfl rfl ?_
 repeat (first | (apply RL_pu; rfl; (first | (apply Zpl; rfl) | (apply Zpk; rfl) | (apply Zny; rfl))) | (refine js ?_; (apply Zlt; exact Zxi; rfl; (intro w' hw _; exact h.up hw (Nat.le_refl _)); intro bk)) | refine walk1 ?_)
 exact ret_1 _ _ (.tmp rfl) (.refl _) ⟨_, rfl, rfl⟩
structure FG where
 seen : List ByteArray
 x : ByteArray
 mp : List (ByteArray × Value)
 f : Nat
theorem Ztz (x y : ByteArray) (l : List ByteArray) : memB x (y :: l) = (decide (y = x) || memB x l) := rfl
theorem Zys {G : Prop} (h : G := by (apply ZfE; rfl; rfl; exact h1; exact hv0; exact hc0)) : G := h
theorem Zvy {G : Prop} (h : G := by (first | exact Zys | (apply ZfE; rfl; rfl; exact h2; exact hv1; exact hc1) | (apply ZcL; rfl; rfl; (focus repeat' constructor); exact hv2; exact hc2))) : G := h
theorem Zoz (Ar Az Al As : Option Addr) (cr cz cl cs : Nat) (a : Zab) (b1 b2 : Nat) (mk ml : List (ByteArray × Value)) (name : ByteArray) (w : World) (hA : Zaj w Ar Az Al As cr cz cl cs a) (h1 : MpAt w b1 mk) (h2 : MpAt w b2 ml)
  (hk : IxM mk fun x => ZbM x a.zones 0) (hl : IxM ml fun x => Zcl x a.links 0) (hd : Nd ml) (hlen : ml.length <= a.links.length) :
  Does Tryz.prog 40 [srcV Ar Az Al As cr cz cl cs a, .map (some b1), .map (some b2), .string name] w (fun v O => v = .tuple #[.int .i64 (ZcS a (a.links.length + 1) [] name).1, .int .i64 (ZcS a (a.links.length + 1) [] name).2] /\ O = []) := by
 obtain ⟨res, hres⟩ : ∃ res, ZcS a (a.links.length + 1) [] name = res := ⟨_, rfl⟩
 rw [hres]
 refine Zaa Tryz.func40 rfl rfl rfl rfl ?_
 repeat (first | (refine js ?_; (first | (apply Zac (h := fun w' hw _ => Zoj b2 ml w' (h2.up hw (Nat.le_refl _))); rfl; rintro v O' ⟨bc, rfl, rfl⟩) | (refine bx ?_; intro bk))) | refine walk ?_)
 refine Zaq [(1, .map (some b1)), (2, .map (some b2)), (4, .pointer (some ⟨bk, 0, none⟩)), (10, .map (some bc))] [.blk bk [.slice Ar a.rules.length cr, .slice Az a.zones.length cz, .slice Al a.links.length cl, .slice As a.shifts.length cs] 32] (fun g : FG => [(3, .string g.x)]) (fun g => [.mp bc g.mp])
  (fun g => Nd g.mp /\ (∀ x, mget g.mp x = if memB x g.seen then none else mget ml x) /\ ZcS a g.f g.seen g.x = res /\ g.mp.length < g.f) (fun g => g.mp.length) ⟨[], name, ml, a.links.length + 1⟩ SFA SOA ⟨hd, fun x => rfl, hres, by dsimp only; omega⟩ ?_
 rintro ⟨seen, x, mp, f⟩ ⟨hd2, hm, hi, hf⟩
 dsimp only at hd2 hm hi hf ⊢
 obtain ⟨f, rfl⟩ : ∃ f', f = f' + 1 := ⟨f - 1, by omega⟩
 rw [ZcS] at hi
 cases hz : ZbM x a.zones 0 with
 | some i =>
  rw [hz] at hi
  obtain ⟨hv0, hc0⟩ := hk.some hz
  repeat (first | (apply RL_pu; rfl; exact Zys) | (refine js ?_; (refine bx ?_; intro bk)) | refine walk1 ?_)
  exact ret_2 _ _ [] (.tmp rfl) (.tmp rfl) .nil ⟨by rw [<- hi] <;> rfl, rfl⟩
 | none =>
  rw [hz] at hi
  obtain ⟨hv0, hc0⟩ := hk.none hz
  cases hy : Zcl x a.links 0 with
  | none =>
   rw [hy] at hi
   obtain ⟨hv1, hc1⟩ := hl.none hy
   have hg : mget mp x = none := by
    rw [hm x, hl x]
    dsimp only
    rw [hy]
    split <;> rfl
   have hv2 : (mget mp x).getD (.int .i64 0) = .int .i64 0 := by rw [hg]; rfl
   have hc2 : (mget mp x).isSome = false := by rw [hg]; rfl
   repeat (first | (apply RL_pu; rfl; exact Zvy) | (refine js ?_; (refine bx ?_; intro bk)) | refine walk1 ?_)
   exact ret_2 _ _ [] (.tmp rfl) (.tmp rfl) .nil ⟨by rw [<- hi] <;> rfl, rfl⟩
  | some i =>
   rw [hy] at hi
   dsimp only at hi
   obtain ⟨hv1, hc1⟩ := hl.some hy
   cases hs : memB x seen with
   | true =>
    rw [hs, if_pos rfl] at hi
    have hg : mget mp x = none := by rw [hm x, hs]; rfl
    have hv2 : (mget mp x).getD (.int .i64 0) = .int .i64 0 := by rw [hg]; rfl
    have hc2 : (mget mp x).isSome = false := by rw [hg]; rfl
    repeat (first | (apply RL_pu; rfl; exact Zvy) | (refine js ?_; (refine bx ?_; intro bk)) | refine walk1 ?_)
    exact ret_2 _ _ [] (.tmp rfl) (.tmp rfl) .nil ⟨by rw [<- hi] <;> rfl, rfl⟩
   | false =>
    rw [hs, if_neg (by decide)] at hi
    have hg : mget mp x = some (.int .i64 i) := by rw [hm x, hs, hl x]; dsimp only; rw [hy]; rfl
    have hv2 : (mget mp x).getD (.int .i64 0) = .int .i64 i := by rw [hg]; rfl
    have hc2 : (mget mp x).isSome = true := by rw [hg]; rfl
    have hdl := Zqe x hc2
    have hlt : i < a.links.length := by have := ZmQ x a.links 0 i hy; omega
    obtain ⟨hna, hca⟩ := hA.l.rd i _ (List.getElem?_eq_getElem hlt)
    rw [List.getElem?_eq_getElem hlt] at hi
    generalize a.links[i] = lk at *
    simp only [Option.map_some, Option.getD_some] at hi
    repeat (first | (apply RL_pu; rfl; (first | exact Zvy | exact PuI)) | (refine js ?_; (first | (apply Zse; rfl; rfl; (focus repeat' constructor)) | (refine bx ?_; intro bk))) | refine walk1 ?_)
    refine ⟨⟨x :: seen, lk.target, mdel mp x, f⟩, OA, ⟨hd2.del _, fun y => ?_, hi, OA⟩, SFA, SOA⟩
    dsimp only
    rw [Zmq x y hd2, hm y, Ztz]
    by_cases e : x = y
    ·subst e; simp
    ·rw [if_neg (fun h => e h.symm), show decide (x = y) = false from decide_eq_false e, Bool.false_or]
end Go.Proofs.YtbjomhdhkpgbaaaGreatDoor
namespace Go.Wk
open Go Go.RowKit
def cutI (l : List UInt8) : Option Nat := l.findIdx? (· == 47)
theorem Zi2 : ∀ (l acc : List UInt8), Zgp l acc = match cutI l with | none => [acc ++ l] | some i => (acc ++ l.take i) :: Zgp (l.drop (i + 1)) []
 | [], acc => by simp [Zgp, cutI]
 | c :: l, acc => by
  rw [Zgp]
  by_cases h : c = 47
  ·subst h
   simp [cutI, List.findIdx?_cons]
  ·rw [if_neg h, Zi2 l]
   have hb : (c == 47) = false := by simpa using h
   simp only [cutI, List.findIdx?_cons, hb]
   cases h2 : l.findIdx? (· == 47) with
   | none => simp
   | some i => simp
theorem Zzq {l : List UInt8} {i : Nat} (h : cutI l = some i) : i < l.length := (List.findIdx?_eq_some_iff_findIdx_eq.1 h).1
theorem ZmS (s : ByteArray) : firstIdx s 47 = match cutI s.data.toList with | none => -1 | some i => (i : Int) := by
 unfold firstIdx cutI
 have hsz : s.size = s.data.toList.length := rfl
 have key : ∀ (l : List UInt8) (f : Nat -> UInt8), (∀ i, i < l.length -> f i = l.getD i 0) -> (List.range l.length).find? (fun i => f i == 47) = l.findIdx? (· == 47) := by
  intro l
  induction l with
  | nil => intro f _; rfl
  | cons c l ih =>
   intro f hf
   rw [List.length_cons, List.range_succ_eq_map, List.find?_cons, List.findIdx?_cons]
   have h0 : f 0 = c := by rw [hf 0 (by simp)]; rfl
   rw [h0]
   cases hc : c == 47 with
   | true => rfl
   | false =>
    rw [List.find?_map]
    have := ih (fun i => f (i + 1)) (fun i hi => by rw [hf (i + 1) (by simp; omega)]; rfl)
    simp only [Function.comp_def] at this ⊢
    rw [show (fun x : Nat => f (Nat.succ x) == 47) = fun i => f (i + 1) == 47 from rfl, this]
    cases l.findIdx? (· == 47) <;> rfl
 have hk := key s.data.toList (fun i => s[i]!) (fun i hi => by
  have : i < s.size := hi
  rw [List.getD_eq_getElem?_getD, List.getElem?_eq_getElem hi]
  simp [getElem!_def, this]
  rfl)
 rw [hsz]
 rw [hk]
 cases s.data.toList.findIdx? (· == 47) <;> rfl
end Go.Wk
namespace Go.Proofs.YtbjomhdhkpgbaaaGreatDoor
open Go Go.RowKit Go.Wk
attribute [local irreducible] W RL Does Zap Zak retQ Calls Pu Stp RD Qy Ay Zal
theorem Zzc (args : Array Value) (w : World) : (callFunc 251 args).run Tryz.prog w = ((Extern.BytealgIndexByte.indexByte args).run Tryz.prog w).andThen fun v w' => .ok (.value v) w' := by
 rw [run_callFunc_extern Tryz.func251 (by kernel_rfl) (by kernel_rfl) (by kernel_rfl) (e := Extern.BytealgIndexByte.indexByte) (by kernel_rfl)]
section
variable {n : Nat} {wr : World} {fr : Fr} {O : List It} {ty : TypeId} {pos : String} {af : Array Edge} {dst : Option Tmp} {g : Option (Nat × Bool)} {Kp : Value -> List It -> Prop}
theorem ZzF {x y : Operand} {ts : Array TypeId} {s : ByteArray} {c : Int} (hx : ev fr x = some (.string s)) (hy : ev fr y = some (.int .u8 c)) (kk : Kp (.int .i64 (firstIdx s c.toNat.toUInt8)) O) :
  Stp Tryz.prog n wr fr O ⟨dst, .call ⟨.value (.func 251), #[x, y], ts⟩, ty, pos, af, g⟩ Kp :=
 Zce fun a w hs => by
  refine ⟨_, w, O, ?_, hs.old, hs.own, kk⟩
  have h1 := hs.sim.ev hx
  have h2 := hs.sim.ev hy
  have he : a.eval (.func 251) = .func (.func 251) #[] #[] := rfl
  have hc := Zzc #[.string s, .int .u8 c] w
  rw [run_indexByte_string, Result.andThen_ok] at hc
  simp [execOp, resolve, he, Deferred.ofValue, invoke, hc, h1, h2]
end
theorem ZwT (s : ByteArray) (c : Int) (w : World) : Does Tryz.prog 213 [.string s, .int .u8 c] w (fun v O => v = .int .i64 (firstIdx s c.toNat.toUInt8) /\ O = []) := by
 refine Zaa Tryz.func213 rfl rfl rfl rfl ?_
 repeat (first | (refine js ?_; (apply ZzF; rfl; rfl)) | refine walk ?_)
 exact rtA
theorem ZmR (s : ByteArray) (c : UInt8) (h : (⟨#[c]⟩ : ByteArray) = s) : firstIdx s c = 0 := by
 subst h
 have hs : (⟨#[c]⟩ : ByteArray).size = 1 := rfl
 unfold firstIdx
 rw [hs]
 have : (⟨#[c]⟩ : ByteArray)[0]! = c := rfl
 simp [List.range_succ, this]
theorem Zvh {G : Prop} (h : G := by (apply Zen; rfl; rfl; exact hb)) : G := h
theorem ZwU (s : ByteArray) (c : UInt8) (w : World) : Does Tryz.prog 181 [.string s, .string ⟨#[c]⟩] w (fun v O => v = .int .i64 (firstIdx s c) /\ O = []) := by
 have hu : ((c.toNat : Int)).toNat.toUInt8 = c := by simp
 have hi := fun w' => ZwT s (c.toNat : Int) w'
 rw [hu] at hi
 have hsz : (0 : Int) < ((⟨#[c]⟩ : ByteArray).size : Int) := show (0 : Int) < 1 by decide
 by_cases he : (⟨#[c]⟩ : ByteArray) = s
 ·have hb : decide ((⟨#[c]⟩ : ByteArray) = s) = true := decide_eq_true he
  have h0 := ZmR s c he
  refine Zaa Tryz.func181 rfl rfl rfl rfl ?_
  repeat (first | (apply RL_pu; rfl; exact Zvh) | refine walk1 ?_)
  exact ret_1 _ [] (.tmp rfl) .nil ⟨by rw [h0], rfl⟩
 ·have hb : decide ((⟨#[c]⟩ : ByteArray) = s) = false := decide_eq_false he
  refine Zaa Tryz.func181 rfl rfl rfl rfl ?_
  repeat (first | (apply RL_pu; rfl; (first | exact Zvh | (apply Znv; rfl; rfl; decide; exact hsz))) | (refine js ?_; (refine Zad (fun w' _ => hi w') ?_)) | refine walk1 ?_)
  exact rtA
theorem Zou (s : ByteArray) (c : UInt8) (w : World) : Does Tryz.prog 244 [.string s, .string ⟨#[c]⟩] w (fun v O => v = .int .i64 (firstIdx s c) /\ O = []) := by
 have hi := fun w' => ZwU s c w'
 refine Zaa Tryz.func244 rfl rfl rfl rfl ?_
 repeat (first | (refine js ?_; (refine Zad (fun w' _ => hi w') ?_)) | refine walk ?_)
 exact rtA
def itO (b1 b2 b3 : Nat) (s p : ByteArray) : List It := [.blk b1 [.string s] 9, .blk b2 [.string p] 9, .blk b3 [.int .i64 0] 3]
def itV (b1 b2 b3 : Nat) : Value := .func (.func 242) #[] #[.pointer (some ⟨b2, 0, none⟩), .pointer (some ⟨b1, 0, none⟩), .pointer (some ⟨b3, 0, none⟩)]
theorem ZkJ (s p : ByteArray) (w : World) : Does Tryz.prog 205 [.string s, .string p, .int .i64 0] w (fun v O => ∃ b1 b2 b3, v = itV b1 b2 b3 /\ O = itO b1 b2 b3 s p) := by
 refine Zaa Tryz.func205 rfl rfl rfl rfl ?_
 apply W_seq
 apply W_region
 apply RL_st; rfl; (apply Stp_boxNf; rfl; (focus repeat (first | exact Nf.nil | apply Nf.cons)); intro b1)
 apply RL_st; rfl; (apply Stp_boxNf; rfl; (focus repeat (first | exact Nf.nil | apply Nf.cons)); intro b2)
 apply RL_st; rfl; (apply Stp_boxNf; rfl; (focus repeat (first | exact Nf.nil | apply Nf.cons)); intro b3)
 repeat (first | (refine js ?_; (refine bx ?_; intro bk)) | refine walk ?_)
 exact ret_1 _ (itO b1 b2 b3 s p) (.tmp rfl) SOA ⟨b1, b2, b3, rfl, rfl⟩
theorem Zlu (s p : ByteArray) (w : World) : Does Tryz.prog 175 [.string s, .string p] w (fun v O => ∃ b1 b2 b3, v = itV b1 b2 b3 /\ O = itO b1 b2 b3 s p) := by
 have hi := fun w' => ZkJ s p w'
 refine Zaa Tryz.func175 rfl rfl rfl rfl ?_
 repeat (first | (refine js ?_; (apply Zac (h := fun w' _ _ => hi w'); rfl; rintro v O' ⟨b1, b2, b3, rfl, rfl⟩)) | refine walk ?_)
 exact ret_1 _ (itO b1 b2 b3 s p) (.tmp rfl) SOA ⟨b1, b2, b3, rfl, rfl⟩
end Go.Proofs.YtbjomhdhkpgbaaaGreatDoor
namespace Go.Wk
open Go Go.RowKit
theorem ZkQ {P : Program} {n : Nat} {wr : World} {x y : Code} {Q2 : Exit -> Act -> World -> Prop} {fr : Fr} {O : List It} (I : Fr -> List It -> Prop) (h : W P n wr x (fun e fr O => e = .normal /\ I fr O) fr O) (k : ∀ a w fr' O', St n wr fr' O' a w -> I fr' O' -> y.wp P Q2 a w) :
  ∀ a w, St n wr fr O a w -> (Code.seq x y).wp P Q2 a w := by
 intro a w hs
 refine wp_seq (wp_mono (h a w hs) ?_)
 rintro e a' w' ⟨fr', O', hs', rfl, hi⟩
 exact k a' w' fr' O' hs' hi
theorem St.sub {n : Nat} {wr : World} {fr fr' : Fr} {O O' : List It} {a : Act} {w : World} (h : St n wr fr O a w) (hf : Sub fr' fr) (hO : SubO O' O) : St n wr fr' O' a w := ⟨h.sim.sub hf, h.old, h.own.sub hO⟩
end Go.Wk
namespace Go.Proofs.YtbjomhdhkpgbaaaGreatDoor
open Go Go.RowKit Go.Wk
attribute [local irreducible] W RL Does Zap Zak retQ Calls Pu Stp RD Qy Ay Zal RLI WI
def Asks (l b1 b2 b3 : Nat) (ok : List UInt8 -> Bool) (OC OF : List It) (wr : World) : Prop :=
 ∀ x rest : ByteArray, (x.size : Int) <= 9223372036854775807 -> Zc0 Tryz.prog l (.string x) wr (itO b1 b2 b3 rest ⟨#[47]⟩ ++ OC) fun b O' => b = ok x.data.toList /\ (b = true -> SubO (itO b1 b2 b3 rest ⟨#[47]⟩ ++ OC) O') /\ (b = false -> SubO OF O')
theorem Zq1 {G : Prop} (h : G := by (apply Pu_loadB1; rfl; (focus repeat' constructor); rfl)) : G := h
theorem Zl6 (l b1 b2 b3 : Nat) (ok : List UInt8 -> Bool) (OC OF : List It) (wr : World) (hY : Asks l b1 b2 b3 ok OC OF wr) (s : ByteArray) (hs : (s.size : Int) <= 9223372036854775807) :
  Zal Tryz.prog 242 [.func (.yield l) #[] #[], .pointer (some ⟨b2, 0, none⟩), .pointer (some ⟨b1, 0, none⟩), .pointer (some ⟨b3, 0, none⟩)] wr (itO b1 b2 b3 s ⟨#[47]⟩ ++ OC)
   (fun v O' => v = .tuple #[] /\ ((Zgp s.data.toList []).all ok = true -> SubO OC O') /\ ((Zgp s.data.toList []).all ok = false -> SubO OF O')) := by
 obtain ⟨res, hres⟩ : ∃ res, (Zgp s.data.toList []).all ok = res := ⟨_, rfl⟩
 rw [hres]
 have hix := fun (t : ByteArray) w' => Zou t 47 w'
 unfold itO at *
 simp only [List.cons_append, List.nil_append] at *
 refine Zbj Tryz.func242 rfl rfl rfl rfl ?_
 repeat (first | refine walk ?_)
 refine Zaq [(0, .func (.yield l) #[] #[]), (1, .pointer (some ⟨b2, 0, none⟩)), (2, .pointer (some ⟨b1, 0, none⟩)), (3, .pointer (some ⟨b3, 0, none⟩))] [] (fun _ : ByteArray => []) (fun g => .blk b1 [.string g] 9 :: .blk b2 [.string ⟨#[47]⟩] 9 :: .blk b3 [.int .i64 0] 3 :: OC)
  (fun g => (g.size : Int) <= 9223372036854775807 /\ (Zgp g.data.toList []).all ok = res) (fun g => g.size) s SFA ?_ ⟨hs, hres⟩ ?_
 ·rw [List.append_nil]; exact .refl _
 rintro g ⟨hg, hi⟩
 rw [List.append_nil]
 have hfi := ZmS g
 rw [Zi2] at hi
 cases hc : cutI g.data.toList with
 | none =>
  rw [hc] at hfi hi
  dsimp only at hfi hi
  have hix2 := hix g
  rw [hfi] at hix2
  have hsY := hg
  repeat (first | (apply Zni; rfl; rfl; rfl; (intro c h; cases h); rfl; (first | (apply Pu_loadB1; rfl; (focus repeat' constructor); rfl) | (apply Pu_move; rfl)); rfl; rfl; exact hY _ _ hsY; rintro b O' ⟨rfl, hb2, hb3⟩) | (apply RL_pu; rfl; exact Zq1) | (refine js ?_; (refine Zad (fun w' _ => hix2 w') ?_)) | refine walk1 ?_)
  refine ZbB ?_
  rw [List.nil_append, List.all_cons, List.all_nil, Bool.and_true] at hi
  refine Zmh O' (.refl _) ⟨rfl, fun h => ?_, fun h => hb3 (by rw [hi]; exact h)⟩
  exact (SubO.trans (SubO.right (itO b1 b2 b3 g ⟨#[47]⟩) OC) (hb2 (by rw [hi]; exact h)))
 | some i =>
  rw [hc] at hfi hi
  dsimp only at hfi hi
  have hix2 := hix g
  rw [hfi] at hix2
  have hlt := Zzq hc
  have hsz : g.size = g.data.toList.length := rfl
  have hx0 : (g.extract 0 i).data.toList = g.data.toList.take i := by rw [ByteArray.data_extract]; simp
  have hx1 : (g.extract (i + 1) g.size).data.toList = g.data.toList.drop (i + 1) := by
   rw [ByteArray.data_extract]
   simp only [Array.toList_extract, List.extract_eq_take_drop]
   exact List.take_of_length_le (by rw [List.length_drop]; omega)
  have hi0 : (0 : Int) <= (i : Int) := Int.natCast_nonneg i
  have hi1 : (i : Int) < (g.data.toList.length : Int) := Int.ofNat_lt.2 hlt
  have hsY : ((g.extract 0 i).size : Int) <= 9223372036854775807 := by rw [ByteArray.size_extract]; omega
  repeat (first | (apply Zni; rfl; rfl; rfl; (intro c h; cases h); rfl; (first | (apply Pu_loadB1; rfl; (focus repeat' constructor); rfl) | (apply Pu_move; rfl)); rfl; rfl; exact hY _ _ hsY; rintro b O' ⟨rfl, hb2, hb3⟩) | (apply RL_pu; rfl; (apply Zkw; rfl; rfl; omega; omega)) | (refine js ?_; (refine Zad (fun w' _ => hix2 w') ?_)) | refine walk1 ?_)
  rw [List.nil_append, List.all_cons] at hi
  have hx2 : (g.extract 0 (Int.toNat ((i : Int) + 0))).data.toList = g.data.toList.take i := by rw [Int.add_zero]; exact hx0
  rw [hx2] at hb2 hb3
  apply ZbF (.inl rfl); rfl; (intro c h; cases h); (apply Pu_not; rfl)
  refine ZbB ?_
  apply thenQ_n
  rw [hx2]
  refine Zah rfl (fun h => ?_) (fun h => ?_)
  ·simp only [Bool.not_eq_true'] at h
   rw [h, Bool.false_and] at hi
   subst hi
   repeat (first | refine walk ?_)
   exact ZxQ O' (.refl _) ⟨rfl, fun h2 => (by cases h2), fun _ => hb3 h⟩
  ·simp only [Bool.not_eq_false'] at h
   rw [h, Bool.true_and] at hi
   have hlen : (((⟨#[47]⟩ : ByteArray).size : Nat) : Int) = 1 := rfl
   have htn : ((i : Int) + (((⟨#[47]⟩ : ByteArray).size : Nat) : Int)).toNat = i + 1 := by rw [hlen]; omega
   refine Zcu (fr' := [(7, .int .i64 i), (0, .func (.yield l) #[] #[]), (1, .pointer (some ⟨b2, 0, none⟩)), (2, .pointer (some ⟨b1, 0, none⟩)), (3, .pointer (some ⟨b3, 0, none⟩))]) (O' := .blk b1 [.string g] 9 :: .blk b2 [.string ⟨#[47]⟩] 9 :: .blk b3 [.int .i64 0] 3 :: OC) SFA (hb2 h) ?_
   repeat (first | (apply RL_pu; rfl; (apply Zsh; rfl; rfl; omega; omega)) | refine walk1 ?_)
   refine ⟨g.extract ((i : Int) + (((⟨#[47]⟩ : ByteArray).size : Nat) : Int)).toNat g.size, ?_, ⟨?_, ?_⟩, SFA, ?_⟩
   ·rw [htn, ByteArray.size_extract]; omega
   ·rw [htn, ByteArray.size_extract]; omega
   ·rw [htn, hx1]; exact hi
   ·rw [List.append_nil]; exact .refl _
def okP (s : ByteArray) (l : List UInt8) : Bool := decide (s.size <= 60) && Zwu l
theorem Zy1 (s : ByteArray) : (Zgp s.data.toList []).all (okP s) = Zhz s := by
 have hne : Zgp s.data.toList [] ≠ [] := by
  rw [Zi2]; split <;> simp
 unfold Zhz okP
 by_cases h : s.size <= 60
 ·simp [h]
 ·cases hc : Zgp s.data.toList [] with
  | nil => exact absurd hc hne
  | cons x l => simp [h]
theorem Zwt (l : List UInt8) : Zwu l = (Zdc 1 14 31 l && !(match l with | c :: _ => decide (c = 46) || decide (c = 45) | [] => false)) := rfl
def ZAW (s : ByteArray) (w : World) : Ending -> World -> Prop := fun e w' => ∃ v O, e = .returned v /\ Bel w.heap.size w w' /\ Zat w.heap.size O w' /\ v = .bool (Zhz s) /\ O = []
theorem ZpM {n : Nat} {wr : World} {fr : Fr} {O : List It} {a : Act} {w : World} {D : Nat} (hs : St n wr fr (Zci D :: O) a w) : St n wr fr O a (w.putObj D (.deferred none)) := by
 have hin := hs.own.inb _ List.mem_cons_self D rfl
 refine ⟨hs.sim, hs.old.trans ⟨⟨rfl, rfl, rfl, by rw [Zd1]; exact Nat.le_refl _, fun i hi => World.putObj_heap_other (by omega)⟩⟩, hs.own.tail.congr (by rw [Zd1]; exact Nat.le_refl _) fun b ⟨i, hi, hb⟩ => World.putObj_heap_other fun e => ?_⟩
 exact (List.pairwise_cons.1 hs.own.sep).1 i hi D rfl (e ▸ hb)
theorem ZjE (s : ByteArray) (w : World) {fr : Fr} {O R : List It} {a : Act} {w' : World} {D br : Nat} {b : Bool} (hs : St 28 w fr (Zci D :: O) a w') (h2 : Wk.look fr 2 = some (.pointer (some ⟨br, 0, none⟩))) (hp : Pick (.blk br [.bool b] 4) O R) (hb : b = Zhz s) :
  bodyPostM Fence.wide 0 Tryz.prog Tryz.f129 (ZAW s w) .ret (actD (ZgR D) a) w' := by
 have hK := Zci.at (hs.own.sat _ List.mem_cons_self)
 have hs2 := ZpM hs
 refine ⟨by simp, .inl ⟨_, _, rfl, run_takeDeferred hK, ?_⟩⟩
 refine ⟨.bool b, ?_, _, [], rfl, hs2.old, Zat.nil _ _, by rw [hb], rfl⟩
 have hc : (w'.putObj D (.deferred none)).cell? ⟨br, 0, none⟩ = some (.bool b) := by
  rw [ZcB (hs2.own.of hp)]; rfl
 have hres : Tryz.f129.results = [ResultVar.cell 2 4].toArray := rfl
 show (results Tryz.f129 a.tmps).run Tryz.prog _ = _
 unfold results
 rw [hres, List.mapM_toArray]
 simp only [Sem.run_bind, Sem.run_map]
 rw [Zcp (P := Tryz.prog) hs2 _ (fun _ => rfl) (fun _ _ => rfl) [ResultVar.cell 2 4] [.bool b] ⟨_, [], rfl, ⟨_, h2, fun w3 hB hH => ?_⟩, rfl⟩]
 ·simp only [Result.andThen_ok, Sem.run_pure]
  rfl
 ·rw [Zc7]
  rw [ZcB (hH.of hp)]; rfl
instance : ZeroT Tryz.prog 146 [.nilFunc] := ⟨by kernel_rfl⟩
theorem ZlQ (s : ByteArray) (hs : (s.size : Int) <= 9223372036854775807) (w : World) : Does Tryz.prog 129 [.string s] w (fun v O => v = .bool (Zhz s) /\ O = []) := by
 unfold Does
 refine Zkz Tryz.func129 rfl rfl rfl ?_
 intro a0 hst
 -- Zaa Tryz.func129
 refine ZkQ (fun fr' O' => ∃ bs br, Sub [(1, .pointer (some ⟨bs, 0, none⟩)), (2, .pointer (some ⟨br, 0, none⟩))] fr' /\ SubO [.blk bs [.string s] 9, .blk br [.bool false] 4] O') ?_ ?_ a0 w hst
 ·apply W_region
  apply RL_st; rfl; (apply Stp_boxNf; rfl; (focus repeat' constructor); intro bs)
  apply RL_st; rfl; (apply Stp_alloc; intro br)
  apply RL_nil
  exact ⟨rfl, bs, br, SFA, SOA⟩
 rintro a1 w1 fr1 O1 hs0 ⟨bs, br, hf1, hO1⟩
 have hs1 := hs0.sub hf1 hO1
 clear hf1 hO1 hs0 hst a0 fr1 O1
 refine ZkQ (fun fr' O' => ∃ bf b1 b2 b3 b4, Sub [(1, .pointer (some ⟨bs, 0, none⟩)), (2, .pointer (some ⟨br, 0, none⟩)), (3, .pointer (some ⟨bf, 0, none⟩))] fr' /\ SubO (.blk bs [.string s] 9 :: .blk br [.bool false] 4 :: .blk bf [ofV b1 b2 b3 b4] 146 :: ofO 1 14 31 b1 b2 b3 b4) O') ?_ ?_ a1 w1 hs1
 ·repeat (first | (refine js ?_; (first | (apply Zac (h := fun w' _ _ => Zf9 1 14 31 w'); rfl; rintro v O' ⟨b1, b2, b3, b4, rfl, rfl⟩) | (refine bx ?_; intro bk))) | refine walk ?_)
  exact ⟨rfl, _, b1, b2, b3, b4, SFA, SOA⟩
 rintro a2 w2 fr2 O2 hs0 ⟨bf, b1, b2, b3, b4, hf2, hO2⟩
 have hs2 := hs0.sub hf2 hO2
 clear hf2 hO2 hs0 hs1 a1 w1 fr2 O2
 refine wp_seq ?_
 refine ZkQ (fun fr' O' => ∃ c1 c2 c3, Sub [(1, .pointer (some ⟨bs, 0, none⟩)), (2, .pointer (some ⟨br, 0, none⟩)), (3, .pointer (some ⟨bf, 0, none⟩)), (7, itV c1 c2 c3)] fr' /\ SubO (itO c1 c2 c3 s ⟨#[47]⟩ ++ (.blk bs [.string s] 9 :: .blk br [.bool false] 4 :: .blk bf [ofV b1 b2 b3 b4] 146 :: ofO 1 14 31 b1 b2 b3 b4)) O') ?_ ?_ a2 w2 hs2
 ·repeat (first | (apply RL_pu; rfl; exact Zq1) | (refine js ?_; (first | (apply Zac (h := fun w' _ _ => Zlu s ⟨#[47]⟩ w'); rfl; rintro v O' ⟨c1, c2, c3, rfl, rfl⟩) | (refine bx ?_; intro bk))) | refine walk1 ?_)
  exact ⟨rfl, c1, c2, c3, SFA, .refl _⟩
 rintro a3 w3 fr3 O3 hs0 ⟨c1, c2, c3, hf3, hO3⟩
 have hs3 := hs0.sub hf3 hO3
 clear hf3 hO3 hs0 hs2 a2 w2 fr3 O3
 refine wp_block ?_
 refine ZpY (gf := 242) (lb := [.pointer (some ⟨c2, 0, none⟩), .pointer (some ⟨c1, 0, none⟩), .pointer (some ⟨c3, 0, none⟩)]) (fun jump O2 => SubO [.blk br [.bool false] 4] O2 /\ ((jump = none /\ Zhz s = true) \/ (jump = some .ret /\ Zhz s = false))) hs3 rfl ?_ ?_
 ·intro fn l D
  generalize hr : ZhA fn a3.tmps 8 _ _ D = r
  have hit := Zl6 l c1 c2 c3 (okP s) (Zbm l r :: Zci D :: .blk bs [.string s] 9 :: .blk br [.bool false] 4 :: .blk bf [ofV b1 b2 b3 b4] 146 :: ofO 1 14 31 b1 b2 b3 b4) (Zbm l { r with state := .done, pending := some .ret } :: Zci D :: [.blk br [.bool false] 4]) w ?_ s hs
  ·refine hit.sub (by unfold itO ofO; exact SOA) fun v O' ⟨_, h1, h2⟩ => ?_
   rw [Zy1] at h1 h2
   cases hz : Zhz s with
   | true => exact ⟨none, _, .ready, SubO.trans (by rw [<- hr]; exact .refl _) (h1 hz), by decide, SOA, .inl ⟨rfl, rfl⟩⟩
   | false => exact ⟨some .ret, _, .done, h2 hz, by decide, .refl _, .inr ⟨rfl, rfl⟩⟩
  ·intro x rest hx
   refine Zhg (r := r) (p := 8) (fr := [(1, .pointer (some ⟨bs, 0, none⟩)), (2, .pointer (some ⟨br, 0, none⟩)), (3, .pointer (some ⟨bf, 0, none⟩)), (7, itV c1 c2 c3)]) (a0 := a3) (O1 := itO c1 c2 c3 rest ⟨#[47]⟩ ++ (Zbm l { r with state := .busy } :: Zci D :: .blk bs [.string s] 9 :: .blk br [.bool false] 4 :: .blk bf [ofV b1 b2 b3 b4] 146 :: ofO 1 14 31 b1 b2 b3 b4)) (by rw [<- hr]; rfl) (by rw [<- hr]; rfl) (by rw [<- hr]; rfl) hs3.sim rfl (by unfold itO; exact (by repeat' constructor)) (by rw [<- hr]; rfl) ?_
   apply ZbF (Or.inr ⟨_, rfl⟩); rfl; (intro c h; cases h); (apply Pu_assign; rfl)
   refine ZbB ⟨rfl, ?_⟩
   have hbody : ∀ Q fr O, (∀ b : Code, b = r.body -> WI (Fence.wide.inRound l) [] Tryz.prog 28 w b Q fr O) -> WI (Fence.wide.inRound l) [] Tryz.prog 28 w r.body Q fr O := fun Q fr O h => h _ rfl
   refine hbody _ _ _ fun b hb => ?_
   rw [<- hr] at hb
   dsimp only [ZhA] at hb
   subst hb
   unfold itO ofO
   simp only [List.cons_append, List.nil_append]
   refine Zek (ZbW (ZbX ?_))
   have hsx : (s.size : Int) <= 9223372036854775807 := hs
   by_cases hlong : (60 : Int) < (s.size : Int)
   ·have h60 : decide ((60 : Int) < (s.size : Int)) = true := decide_eq_true hlong
    have hbad : false = okP s x.data.toList := by
     unfold okP; rw [decide_eq_false (by omega), Bool.false_and]
    repeat (first | (apply ZbF (Or.inr ⟨_, rfl⟩); rfl; (intro c h; cases h); (first | (apply Pu_loadB1; rfl; (focus repeat' constructor); rfl) | (apply Pu_lenS; rfl) | (apply Za0; rfl; rfl; exact h60) | (apply Pu_move; rfl) | (apply Pu_not; rfl) | (apply Pu_pickT; rfl; rfl) | (apply Pu_pickF; rfl; rfl))) | (refine Zji rfl rfl rfl ?_) | (refine Zno (Or.inr ⟨_, rfl⟩) rfl rfl rfl rfl rfl ?_) | (refine ZbB ?_))
    refine thenQ_n ?_
    refine Zej rfl (fun _ => ?_) (fun h => by cases h)
    refine ZbW (ZbX ?_)
    apply ZdU (Or.inr ⟨_, rfl⟩); (intro d hd; cases hd); (intro c h; cases h); (intro a w hs; exact ZdS a w)
    (apply Stp_storeNf; rfl; rfl; (focus repeat' constructor); (focus repeat (first | exact Nf.nil | apply Nf.cons)); rfl; rfl; rfl; (focus repeat' constructor))
    refine ZbB ?_
    refine thenQ_n ?_
    refine Zjh ?_
    refine blockQ_r ?_
    exact ⟨_, (by repeat' constructor), hbad, fun h => (by cases h), fun _ => SOA⟩
   have h60 : decide ((60 : Int) < (s.size : Int)) = false := decide_eq_false hlong
   have hok : okP s x.data.toList = Zwu x.data.toList := by
    unfold okP; rw [decide_eq_true (by omega), Bool.true_and]
   have hoc := fun {base : Nat} {O : List It} {w' : World} (hH : Zat base O w') (hO : SubO (ofO 1 14 31 b1 b2 b3 b4) O) => ZkT (a := 1) (b := 14) (m := 31) hx (by decide) hH hO
   rw [hok, Zwt]
   cases hn : Zdc 1 14 31 x.data.toList with
   | false =>
    rw [hn] at hoc
    have hbad : false = (false && !(match x.data.toList with | c :: _ => decide (c = 46) || decide (c = 45) | [] => false)) := rfl
    repeat (first | (apply ZbF (Or.inr ⟨_, rfl⟩); rfl; (intro c h; cases h); (first | (apply Pu_loadB1; rfl; (focus repeat' constructor); rfl) | (apply Pu_lenS; rfl) | (apply Za0; rfl; rfl; exact h60) | (apply Pu_move; rfl) | (apply Pu_not; rfl) | (apply Pu_pickT; rfl; rfl) | (apply Pu_pickF; rfl; rfl))) | (refine Zji rfl rfl rfl ?_) | (refine Zno (Or.inr ⟨_, rfl⟩) rfl rfl rfl rfl rfl ?_) | (apply ZdU (Or.inr ⟨_, rfl⟩); (intro d hd; cases hd; rfl); (intro c h; cases h); (intro a w hs; exact Zb6 (f := 168) (us := []) (cs := [.pointer (some ⟨b1, 0, none⟩), .pointer (some ⟨b2, 0, none⟩), .pointer (some ⟨b3, 0, none⟩), .pointer (some ⟨b4, 0, none⟩)]) hs rfl); (apply Zar (f := 168) (us := []) (vs := [.string x]) (cs := [.pointer (some ⟨b1, 0, none⟩), .pointer (some ⟨b2, 0, none⟩), .pointer (some ⟨b3, 0, none⟩), .pointer (some ⟨b4, 0, none⟩)]) (h := fun w' _ hH => hoc hH (by unfold ofO; exact SOA)); rfl; rfl; rintro v O' ⟨rfl, rfl⟩)) | (refine ZbB ?_))
    refine thenQ_n ?_
    refine Zej rfl (fun _ => ?_) (fun h => by cases h)
    refine ZbW (ZbX ?_)
    apply ZdU (Or.inr ⟨_, rfl⟩); (intro d hd; cases hd); (intro c h; cases h); (intro a w hs; exact ZdS a w)
    (apply Stp_storeNf; rfl; rfl; (focus repeat' constructor); (focus repeat (first | exact Nf.nil | apply Nf.cons)); rfl; rfl; rfl; (focus repeat' constructor))
    refine ZbB ?_
    refine thenQ_n ?_
    refine Zjh ?_
    refine blockQ_r ?_
    exact ⟨_, (by repeat' constructor), hbad, fun h => (by cases h), fun _ => SOA⟩
   | true =>
    rw [hn] at hoc
    have hsz := (ZjW hn).1
    have hxz : (0 : Int) < (x.size : Int) := by omega
    cases hxl : x.data.toList with
    | nil =>
     exfalso
     have h0 : x.size = 0 := by
      have : x.size = x.data.toList.length := rfl
      rw [this, hxl]; rfl
     omega
    | cons c tl =>
    have hxc : x.data.toList.getD (Int.toNat 0) 0 = c := by rw [hxl]; rfl
    dsimp only
    by_cases h46 : c = 46
    ·subst h46
     have e46 : decide (((46 : UInt8).toNat : Int) = 46) = true := by decide
     have e45 := e46
     have hbad : false = (true && !(decide ((46 : UInt8) = 46) || decide ((46 : UInt8) = 45))) := by decide
     repeat (first | (apply ZbF (Or.inr ⟨_, rfl⟩); rfl; (intro c h; cases h); (first | (apply Pu_loadB1; rfl; (focus repeat' constructor); rfl) | (apply Pu_lenS; rfl) | (apply Za0; rfl; rfl; exact h60) | (apply Pu_move; rfl) | (apply Pu_not; rfl) | (apply Pu_pickT; rfl; rfl) | (apply Pu_pickF; rfl; rfl) | (apply ZgA; rfl; rfl; decide; exact hxz; exact hxc) | (apply ZaH; rfl; rfl; first | exact e46 | exact e45))) | (refine Zji rfl rfl rfl ?_) | (refine Zno (Or.inr ⟨_, rfl⟩) rfl rfl rfl rfl rfl ?_) | (apply ZdU (Or.inr ⟨_, rfl⟩); (intro d hd; cases hd; rfl); (intro c h; cases h); (intro a w hs; exact Zb6 (f := 168) (us := []) (cs := [.pointer (some ⟨b1, 0, none⟩), .pointer (some ⟨b2, 0, none⟩), .pointer (some ⟨b3, 0, none⟩), .pointer (some ⟨b4, 0, none⟩)]) hs rfl); (apply Zar (f := 168) (us := []) (vs := [.string x]) (cs := [.pointer (some ⟨b1, 0, none⟩), .pointer (some ⟨b2, 0, none⟩), .pointer (some ⟨b3, 0, none⟩), .pointer (some ⟨b4, 0, none⟩)]) (h := fun w' _ hH => hoc hH (by unfold ofO; exact SOA)); rfl; rfl; rintro v O' ⟨rfl, rfl⟩)) | (refine ZbB ?_))
     refine thenQ_n ?_
     refine Zej rfl (fun _ => ?_) (fun h => by cases h)
     refine ZbW (ZbX ?_)
     apply ZdU (Or.inr ⟨_, rfl⟩); (intro d hd; cases hd); (intro c h; cases h); (intro a w hs; exact ZdS a w)
     (apply Stp_storeNf; rfl; rfl; (focus repeat' constructor); (focus repeat (first | exact Nf.nil | apply Nf.cons)); rfl; rfl; rfl; (focus repeat' constructor))
     refine ZbB ?_
     refine thenQ_n ?_
     refine Zjh ?_
     refine blockQ_r ?_
     exact ⟨_, (by repeat' constructor), hbad, fun h => (by cases h), fun _ => SOA⟩
    have hne46 : (c.toNat : Int) ≠ 46 := fun e => h46 (UInt8.toNat_inj.1 (by show c.toNat = 46; omega))
    by_cases h45 : c = 45
    ·subst h45
     have e46 : decide (((45 : UInt8).toNat : Int) = 46) = false := by decide
     have e45 : decide (((45 : UInt8).toNat : Int) = 45) = true := by decide
     have hbad : false = (true && !(decide ((45 : UInt8) = 46) || decide ((45 : UInt8) = 45))) := by decide
     repeat (first | (apply ZbF (Or.inr ⟨_, rfl⟩); rfl; (intro c h; cases h); (first | (apply Pu_loadB1; rfl; (focus repeat' constructor); rfl) | (apply Pu_lenS; rfl) | (apply Za0; rfl; rfl; exact h60) | (apply Pu_move; rfl) | (apply Pu_not; rfl) | (apply Pu_pickT; rfl; rfl) | (apply Pu_pickF; rfl; rfl) | (apply ZgA; rfl; rfl; decide; exact hxz; exact hxc) | (apply ZaH; rfl; rfl; first | exact e46 | exact e45))) | (refine Zji rfl rfl rfl ?_) | (refine Zno (Or.inr ⟨_, rfl⟩) rfl rfl rfl rfl rfl ?_) | (apply ZdU (Or.inr ⟨_, rfl⟩); (intro d hd; cases hd; rfl); (intro c h; cases h); (intro a w hs; exact Zb6 (f := 168) (us := []) (cs := [.pointer (some ⟨b1, 0, none⟩), .pointer (some ⟨b2, 0, none⟩), .pointer (some ⟨b3, 0, none⟩), .pointer (some ⟨b4, 0, none⟩)]) hs rfl); (apply Zar (f := 168) (us := []) (vs := [.string x]) (cs := [.pointer (some ⟨b1, 0, none⟩), .pointer (some ⟨b2, 0, none⟩), .pointer (some ⟨b3, 0, none⟩), .pointer (some ⟨b4, 0, none⟩)]) (h := fun w' _ hH => hoc hH (by unfold ofO; exact SOA)); rfl; rfl; rintro v O' ⟨rfl, rfl⟩)) | (refine ZbB ?_))
     refine thenQ_n ?_
     refine Zej rfl (fun _ => ?_) (fun h => by cases h)
     refine ZbW (ZbX ?_)
     apply ZdU (Or.inr ⟨_, rfl⟩); (intro d hd; cases hd); (intro c h; cases h); (intro a w hs; exact ZdS a w)
     (apply Stp_storeNf; rfl; rfl; (focus repeat' constructor); (focus repeat (first | exact Nf.nil | apply Nf.cons)); rfl; rfl; rfl; (focus repeat' constructor))
     refine ZbB ?_
     refine thenQ_n ?_
     refine Zjh ?_
     refine blockQ_r ?_
     exact ⟨_, (by repeat' constructor), hbad, fun h => (by cases h), fun _ => SOA⟩
    have hne45 : (c.toNat : Int) ≠ 45 := fun e => h45 (UInt8.toNat_inj.1 (by show c.toNat = 45; omega))
    have e46 : decide ((c.toNat : Int) = 46) = false := decide_eq_false hne46
    have e45 : decide ((c.toNat : Int) = 45) = false := decide_eq_false hne45
    have hgood : true = (true && !(decide (c = 46) || decide (c = 45))) := by rw [decide_eq_false h46, decide_eq_false h45]; rfl
    repeat (first | (apply ZbF (Or.inr ⟨_, rfl⟩); rfl; (intro c h; cases h); (first | (apply Pu_loadB1; rfl; (focus repeat' constructor); rfl) | (apply Pu_lenS; rfl) | (apply Za0; rfl; rfl; exact h60) | (apply Pu_move; rfl) | (apply Pu_not; rfl) | (apply Pu_pickT; rfl; rfl) | (apply Pu_pickF; rfl; rfl) | (apply ZgA; rfl; rfl; decide; exact hxz; exact hxc) | (apply ZaH; rfl; rfl; first | exact e46 | exact e45))) | (refine Zji rfl rfl rfl ?_) | (refine Zno (Or.inr ⟨_, rfl⟩) rfl rfl rfl rfl rfl ?_) | (apply ZdU (Or.inr ⟨_, rfl⟩); (intro d hd; cases hd; rfl); (intro c h; cases h); (intro a w hs; exact Zb6 (f := 168) (us := []) (cs := [.pointer (some ⟨b1, 0, none⟩), .pointer (some ⟨b2, 0, none⟩), .pointer (some ⟨b3, 0, none⟩), .pointer (some ⟨b4, 0, none⟩)]) hs rfl); (apply Zar (f := 168) (us := []) (vs := [.string x]) (cs := [.pointer (some ⟨b1, 0, none⟩), .pointer (some ⟨b2, 0, none⟩), .pointer (some ⟨b3, 0, none⟩), .pointer (some ⟨b4, 0, none⟩)]) (h := fun w' _ hH => hoc hH (by unfold ofO; exact SOA)); rfl; rfl; rintro v O' ⟨rfl, rfl⟩)) | (refine ZbB ?_))
    refine thenQ_n ?_
    refine Zej rfl (fun h => by cases h) (fun _ => ?_)
    refine Zls ?_
    refine blockQ_n ?_
    exact ⟨_, (by repeat' constructor), hgood, fun _ => SubO.trans (by rw [<- hr]; exact .refl _) (.refl _), fun h => (by cases h)⟩
 ·rintro jump O2 D w4 ⟨hsub, ⟨rfl, hz⟩ | ⟨rfl, hz⟩⟩ hs4
  ·have hs5 : St 28 w [(2, .pointer (some ⟨br, 0, none⟩))] [Zci D, .blk br [.bool false] 4] a3 w4 := hs4.sub SFA (.cons .here hsub)
   show (Code.seq _ _).wp _ _ _ _
   have key : ∀ c Q' Q3, WI Fence.wide (ZgR D) Tryz.prog 28 w c Q' [(2, .pointer (some ⟨br, 0, none⟩))] [Zci D, .blk br [.bool false] 4] -> (∀ e a' w', ZtH (ZgR D) 28 w Q' e a' w' -> Q3 e a' w') -> c.wp Tryz.prog Q3 (actD (ZgR D) a3) w4 := fun c Q' Q3 h hq => (wpIn_wide (n := 0)).1 (wpIn_mono (h.at hs5) hq)
   refine key _ (fun e fr O => e = .ret /\ Sub [(2, .pointer (some ⟨br, 0, none⟩))] fr /\ SubO [Zci D, .blk br [.bool true] 4] O) _ (ZbW (ZbX ?_)) ?_
   ·apply ZdU (.inl rfl); (intro d hd; cases hd); (intro c h; cases h); (intro a w hs; exact ZdS a w)
    (apply Stp_storeNf; rfl; rfl; (focus repeat' constructor); (focus repeat (first | exact Nf.nil | apply Nf.cons)); rfl; rfl; rfl; (focus repeat' constructor))
    refine ZbB ?_
    refine thenQ_n ?_
    refine Zjh ?_
    exact ⟨rfl, SFA, .refl _⟩
   ·rintro e a' w' ⟨hd, fr', O', hs', rfl, hf, hO⟩
    have h := ZjE s w (hs'.sub hf hO) rfl (.here) hz.symm
    rw [Ze1 hd] at h
    exact h
  ·have hs5 : St 28 w [(2, .pointer (some ⟨br, 0, none⟩))] [Zci D, .blk br [.bool false] 4] a3 w4 := hs4.sub SFA (.cons .here hsub)
   refine wp_ret ?_
   exact ZjE s w hs5 rfl .here hz.symm
end Go.Proofs.YtbjomhdhkpgbaaaGreatDoor
set_option maxHeartbeats 2000000
namespace Go.Wk
open Go Go.RowKit
theorem ZoQ {P : Program} {dst : Option Tmp} {x y : Operand} {ts : Array TypeId} {ty : TypeId} {pos : String} {af : Array Edge} {g : Option (Nat × Bool)} (a : Act) (w : World) : calm ((execOp a.eval ⟨dst, .call ⟨.builtin .append, #[x, y], ts⟩, ty, pos, af, g⟩).run P w) := by
 simp only [execOp, resolve, invoke, builtin, Sem.run_bind, Sem.run_pure, Result.andThen_ok]
 generalize Sem.run P _ w = r
 cases r <;> simp [calm, Result.andThen]
end Go.Wk
namespace Go.Proofs.YtbjomhdhkpgbaaaGreatDoor
open Go Go.RowKit Go.Wk
attribute [local irreducible] W RL Does Zap Zak retQ Calls Pu Stp RD Qy Ay Zal RLI WI
end Go.Proofs.YtbjomhdhkpgbaaaGreatDoor
set_option maxHeartbeats 4000000
namespace Go.Proofs.YtbjomhdhkpgbaaaGreatDoor
open Go Go.RowKit Go.Wk
attribute [local irreducible] W RL Does Zap Zak retQ Calls Pu Stp RD Qy Ay Zal RLI WI
theorem Zsa (a b : List UInt8) : (⟨b.toArray⟩ : ByteArray) ++ (⟨#[47]⟩ : ByteArray) ++ (⟨a.toArray⟩ : ByteArray) = ⟨(b ++ 47 :: a).toArray⟩ := by
 apply ByteArray.ext
 simp
theorem ZqC (p : List UInt8) : ∀ (l acc : List UInt8) {a b : List UInt8}, ZcT p l acc = some (a, b) -> a.length + b.length <= acc.length + l.length
 | [], acc, a, b, h => by
  rw [ZcT] at h
  split at h
  ·cases h; simp
  ·cases h
 | c :: l, acc, a, b, h => by
  rw [ZcT] at h
  split at h
  ·cases h
   have := List.length_drop (i := p.length) (l := c :: l)
   omega
  ·have := ZqC p l (acc ++ [c]) h
   rw [List.length_append] at this
   simp only [List.length_cons, List.length_nil] at this ⊢
   omega
theorem Zws {f a b : List UInt8} (h : Zbk f = some (a, b)) : a.length + b.length <= f.length := by
 unfold Zbk at h
 cases hc : ZcT [47] f [] with
 | none => rw [hc] at h; cases h
 | some x =>
  obtain ⟨c, d⟩ := x
  rw [hc] at h
  dsimp only at h
  split at h
  ·cases h
   have := ZqC [47] f [] hc
   simpa using this
  ·cases h
theorem Zl1 (f : ByteArray) (w : World) (hL : LibW w) (hs : f.size <= 1000) : Does Tryz.prog 227 [.string f] w (fun v O => v = .string (Zb8 f) /\ O = []) := by
 have hp := fun w' (hw : Bel w.heap.size w w') => ZjS f w' (hL.up hw) (by omega)
 unfold Zb8
 cases hq : Zbk f.data.toList with
 | none =>
  rw [hq] at hp
  unfold ptsV at hp
  dsimp only at hp
  refine Zaa Tryz.func227 rfl rfl rfl rfl ?_
  repeat (first | (refine js ?_; (refine Zad hp ?_)) | refine walk ?_)
  exact rtA
 | some ab =>
  obtain ⟨a, b⟩ := ab
  rw [hq] at hp
  unfold ptsV at hp
  dsimp only at hp ⊢
  rw [<- Zsa]
  have hle := Zws hq
  have hfl : f.data.toList.length = f.size := Array.length_toList
  have s1 : (⟨b.toArray⟩ : ByteArray).size = b.length := List.size_toArray
  have s2 : (⟨a.toArray⟩ : ByteArray).size = a.length := List.size_toArray
  have s3 : (⟨#[47]⟩ : ByteArray).size = 1 := rfl
  have s4 : ((⟨b.toArray⟩ : ByteArray) ++ (⟨#[47]⟩ : ByteArray)).size = b.length + 1 := by rw [ByteArray.size_append, s1, s3]
  refine Zaa Tryz.func227 rfl rfl rfl rfl ?_
  repeat (first | (apply RL_pu; rfl; (apply Ze4; rfl; rfl; first | (rw [s1, s3]; omega) | (rw [s4, s2]; omega))) | (refine js ?_; (refine Zad hp ?_)) | refine walk1 ?_)
  exact rtA
structure TgG (σ : Type) where
 k : Nat
 s : σ
theorem ZoF {σ : Type} (l bS : Nat) (Ar A Al As : Option Addr) (nr cr c nl cl ns cs : Nat) (Zs : List ZE) (OC : σ -> List It) (Inv : Nat -> Nat -> σ -> Prop) (wr : World) (s0 : σ) (hzl : Zs.length <= 1000000) (hel : ∀ q ∈ Zs, q.z.eras.length <= 1000000) (hA : ∀ q ∈ Zs, 0 < q.z.eras.length -> q.A ≠ none) (h0 : Inv 0 0 s0)
  (hY : ∀ i k q s (X Y V : It), Zs[i]? = some q -> k < q.z.eras.length -> Inv i k s -> Zc0 Tryz.prog l (.pointer (some ((adr q.A).add ((k : Int).toNat * 13)))) wr (X :: Y :: V :: OC s) fun bb O' => bb = true /\ ∃ s', Inv i (k + 1) s' /\ SubO (X :: Y :: V :: OC s') O')
  (hN : ∀ i q s, Zs[i]? = some q -> Inv i q.z.eras.length s -> Inv (i + 1) 0 s) :
  Zal Tryz.prog 266 [.func (.yield l) #[] #[], .pointer (some ⟨bS, 0, none⟩)] wr (.blk bS [.slice Ar nr cr, .slice A Zs.length c, .slice Al nl cl, .slice As ns cs] 32 :: rowZ A c Zs :: OC s0)
   (fun v O' => v = .tuple #[] /\ ∃ s', Inv Zs.length 0 s' /\ SubO (.blk bS [.slice Ar nr cr, .slice A Zs.length c, .slice Al nl cl, .slice As ns cs] 32 :: rowZ A c Zs :: OC s') O') := by
 refine Zbj Tryz.func266 rfl rfl rfl rfl ?_
 repeat (first | (refine js ?_; (refine bx ?_; intro bk)) | refine walk ?_)
 refine Zaq [(0, .func (.yield l) #[] #[]), (1, .pointer (some ⟨bS, 0, none⟩)), (7, .slice A Zs.length c), (8, .int .i64 Zs.length)] [] (fun g : TgG σ => [(9, .int .i64 g.k)]) (fun g => .blk bS [.slice Ar nr cr, .slice A Zs.length c, .slice Al nl cl, .slice As ns cs] 32 :: rowZ A c Zs :: OC g.s) (fun g => g.k <= Zs.length /\ Inv g.k 0 g.s) (fun g => Zs.length - g.k) ⟨0, s0⟩ SFA ?_ ⟨Nat.zero_le _, h0⟩ ?_
 ·rw [List.append_nil]; exact .refl _
 rintro ⟨i, s⟩ ⟨hi, hI⟩
 dsimp only at hi hI ⊢
 rw [List.append_nil]
 generalize hT : OC s = T
 repeat (first | (refine js ?_; (refine bx ?_; intro bk)) | refine walk ?_)
 refine Zah rfl (fun hc => ?_) (fun hc => ?_)
 ·have hil : i < Zs.length := by
   have := of_decide_eq_true hc
   omega
  obtain ⟨q, hq⟩ : ∃ q, Zs[i]? = some q := ⟨_, List.getElem?_eq_getElem hil⟩
  have hqm := List.mem_of_getElem? hq
  have hle := hel q hqm
  have hqA := hA q hqm
  have hYq := fun k s X Y V => hY i k q s X Y V hq
  have hNq := fun s => hN i q s hq
  have hqg : ∀ (j : Nat) (v : Value), (ZE.enc q)[j]? = some v -> (Zs.flatMap ZE.enc)[(i : Int).toNat * 2 + j]? = some v := fun j v hj => by
   have := ZaF ZE.len Zs i q j v hq hj
   simpa using this
  obtain ⟨⟨qn, qe⟩, qA, qc⟩ := q
  dsimp only at hle hqA hYq hNq
  repeat (first | (apply RL_pu; rfl; (first | (apply Zav; rfl; rfl; omega; omega; (intro w' _ hO; exact Za6 (hO.of (A := rowZ A c Zs) (by repeat' constructor)) (by omega))) | (apply Za2 (vs := [.string qn, .slice qA qe.length qc]); rfl; (focus repeat' constructor); exact hqg; rfl))) | (refine js ?_; (refine bx ?_; intro bk)) | refine walk1 ?_)
  subst hT
  generalize bk = bz
  refine Zaq [(0, .func (.yield l) #[] #[]), (1, .pointer (some ⟨bS, 0, none⟩)), (7, .slice A Zs.length c), (8, .int .i64 Zs.length), (9, .int .i64 i), (4, .pointer (some ⟨bz, 0, none⟩)), (14, .slice qA qe.length qc), (15, .int .i64 qe.length)] [] (fun h : TgG σ => [(16, .int .i64 h.k)]) (fun h => .blk bz [.string qn, .slice qA qe.length qc] 46 :: .blk bS [.slice Ar nr cr, .slice A Zs.length c, .slice Al nl cl, .slice As ns cs] 32 :: rowZ A c Zs :: OC h.s) (fun h => h.k <= qe.length /\ Inv i h.k h.s) (fun h => qe.length - h.k) ⟨0, s⟩ SFA ?_ ⟨Nat.zero_le _, hI⟩ ?_
  ·rw [List.append_nil]; exact .refl _
  rintro ⟨k, s1⟩ ⟨hk, hI1⟩
  dsimp only at hk hI1 ⊢
  rw [List.append_nil]
  repeat (first | (refine js ?_; (refine bx ?_; intro bk)) | refine walk ?_)
  refine Zah rfl (fun hd => ?_) (fun hd => ?_)
  ·have hkl : k < qe.length := by
    have := of_decide_eq_true hd
    omega
   repeat (first | (refine Znj ?_; apply ZbF (.inl rfl); rfl; (intro c h; cases h); (apply Pu_move; rfl); apply ZbF (.inl rfl); rfl; (intro c h; cases h); (apply Pu_fieldAddr; rfl)) | (apply RL_pu; rfl; (apply Zav; rfl; rfl; omega; omega; (intro w' _ hO; exact Za6 (hO.of (A := rowZ A c Zs) (by repeat' constructor)) (by omega)))) | (refine js ?_; (refine bx ?_; intro bk)) | refine walk1 ?_)
   apply ZbF (.inl rfl); rfl; (intro c h; cases h); (apply Pu_loadB1; rfl; (focus repeat' constructor); rfl)
   apply ZbF (.inl rfl); rfl; (intro c h; cases h); (apply Pu_move; rfl)
   apply ZbF (.inl rfl); rfl; (intro c h; cases h); (apply Pu_indexAddr; rfl; rfl; omega; omega; exact hqA (by omega))
   apply Znn; rfl; rfl; rfl
   ·exact hYq k s1 _ _ _ hkl hI1
   rintro bb O' ⟨rfl, s', hi', hO'⟩
   apply ZbF (.inl rfl); rfl; (intro c h; cases h); (apply Pu_not; rfl)
   refine ZbB ?_
   apply thenQ_n
   refine Zah rfl (fun h => (by cases h)) (fun h => ?_)
   refine Zcu (fr' := [(0, .func (.yield l) #[] #[]), (1, .pointer (some ⟨bS, 0, none⟩)), (7, .slice A Zs.length c), (8, .int .i64 Zs.length), (9, .int .i64 i), (4, .pointer (some ⟨bz, 0, none⟩)), (14, .slice qA qe.length qc), (15, .int .i64 qe.length), (16, .int .i64 k)]) (O' := .blk bz [.string qn, .slice qA qe.length qc] 46 :: .blk bS [.slice Ar nr cr, .slice A Zs.length c, .slice Al nl cl, .slice As ns cs] 32 :: rowZ A c Zs :: OC s') SFA hO' ?_
   repeat (first | (refine js ?_; (refine bx ?_; intro bk)) | refine walk ?_)
   exact ⟨⟨k + 1, s'⟩, OA, ⟨hkl, hi'⟩, SFA, by rw [List.append_nil]; exact .refl _⟩
  ·obtain rfl : k = qe.length := by
    have := of_decide_eq_false hd
    omega
   have hI2 := hNq s1 hI1
   repeat (first | (refine js ?_; (refine bx ?_; intro bk)) | refine walk ?_)
   exact ⟨⟨i + 1, s1⟩, OA, ⟨hil, hI2⟩, SFA, by rw [List.append_nil]; exact .drop (.refl _)⟩
 ·obtain rfl : i = Zs.length := by
   have := of_decide_eq_false hc
   omega
  subst hT
  repeat (first | (refine js ?_; (refine bx ?_; intro bk)) | refine walk ?_)
  exact Zmh _ (.refl _) ⟨rfl, s, hI, .refl _⟩
end Go.Proofs.YtbjomhdhkpgbaaaGreatDoor
