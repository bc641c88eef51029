/- Parts of the proof. -/
import Derived.Test.YtdlmhmmhdbbliaaGreatDoorW25
import Derived.Test.YtdlmhmmhdbbliaaGreatDoorW07
import Derived.Lib.ParseIntB
import Derived.Lib.Atoi
import Derived.Lib.ItoaNum
import Derived.Lib.Strings
import Derived.Shelf.Lay
import Derived.Shelf.Strings.SlTrimAscii
import Derived.Shelf.Strings.Runes
import Derived.Test.YtdlmhmmhdbbliaaGreatDoorW05
import Derived.Lib.TrimUEq
import Derived.Shelf.GgClosure.StringsIndexFunc
import Derived.Test.YtdlmhmmhdbbliaaGreatDoorW15
import Derived.Test.YtdlmhmmhdbbliaaGreatDoorW20
import Derived.Test.YtdlmhmmhdbbliaaGreatDoorW19
set_option maxHeartbeats 4000000
set_option linter.unusedVariables false
set_option linter.unusedSimpArgs false
namespace Go.Proofs.YtdlmhmmhdbbliaaGreatDoor
open Go Go.RowKit Go.Wk
def Zeq (b : UInt8) : Bool := (decide (65 <= b.toNat) && decide (b.toNat <= 90)) || (decide (97 <= b.toNat) && decide (b.toNat <= 122)) || (decide (48 <= b.toNat) && decide (b.toNat <= 57)) || decide (b.toNat = 43) || decide (b.toNat = 45)
def namL (l : List UInt8) : Bool := decide (3 <= l.length) && decide (l.length <= 7) && l.all Zeq
def namP (s : ByteArray) : Bool := namL s.data.toList
def datP (d : Zb2) : Bool := Zbp d.sec && ((decide (d.kind = 1) && decide (1 <= d.day) && decide (d.day <= 365) && decide (d.month = 0) && decide (d.week = 0)) || (decide (d.kind = 2) && decide (0 <= d.day) && decide (d.day <= 365) && decide (d.month = 0) && decide (d.week = 0)) ||
 (decide (d.kind = 3) && decide (1 <= d.month) && decide (d.month <= 12) && decide (1 <= d.week) && decide (d.week <= 5) && decide (0 <= d.day) && decide (d.day <= 6)))
def offP (x : Int) : Bool := decide (-89999 <= x) && decide (x <= 89999)
structure PxOk (p : Za4) : Prop where
 std : namP p.std = true
 so : offP p.stdOff = true
 dst : p = ⟨p.std, p.stdOff, ByteArray.empty, 0, dt0, dt0⟩ \/ (namP p.dst = true /\ offP p.dstOff = true /\ datP p.start = true /\ datP p.fin = true)
theorem Zs2 (n : Int) (h0 : 0 <= n) (h1 : n <= 99) : (dig2 n).all Zeq = true /\ (dig2 n).length = 2 := by
 have key : ∀ k : Int, 0 <= k -> k <= 9 -> Zeq (UInt8.ofNat (48 + k.toNat)) = true := fun k a b => by
  have hc : k = 0 \/ k = 1 \/ k = 2 \/ k = 3 \/ k = 4 \/ k = 5 \/ k = 6 \/ k = 7 \/ k = 8 \/ k = 9 := by omega
  rcases hc with rfl | rfl | rfl | rfl | rfl | rfl | rfl | rfl | rfl | rfl <;> decide
 unfold dig2
 refine ⟨?_, rfl⟩
 simp only [List.all_cons, List.all_nil, Bool.and_true, Bool.and_eq_true]
 exact ⟨key _ (by omega) (by omega), key _ (by omega) (by omega)⟩
theorem Zp5 (x : Int) (h : -86400 < x /\ x < 86400) : namL (ZbJ x) = true := by
 unfold ZbJ
 rw [if_neg (by omega)]
 obtain ⟨y, hy⟩ : ∃ y, (if x < 0 then -x else x) = y := ⟨_, rfl⟩
 have hy0 : 0 <= y /\ y < 86400 := by split at hy <;> omega
 dsimp only
 rw [hy]
 obtain ⟨a1, a2⟩ := Zs2 (y / 3600) (by omega) (by omega)
 obtain ⟨b1, b2⟩ := Zs2 (y / 60 % 60) (by omega) (by omega)
 obtain ⟨c1, c2⟩ := Zs2 (y % 60) (by omega) (by omega)
 generalize dig2 (y / 3600) = A at *
 generalize dig2 (y / 60 % 60) = B at *
 generalize dig2 (y % 60) = C at *
 have hs : Zeq (if x < 0 then 45 else 43) = true := by split <;> decide
 generalize (if x < 0 then (45 : UInt8) else 43) = S at *
 unfold namL
 split <;> split <;> simp only [List.append_nil, List.all_cons, List.all_append, List.length_cons, List.length_append, hs, a1, b1, c1, a2, b2, c2, Bool.true_and, Bool.and_true] <;> decide
def pN (f : List UInt8) : Bool := match Zcn f with
 | some (a, b) => namL a && namL b
 | none => namL f && decide (ZbH f = 1)
theorem ZqM : ∀ f ∈ ZqO, pN f = true := by decide +kernel
theorem ZqJ : ∀ f ∈ ZqL, ∀ x ∈ ZjK, namL (ZbI f 0 0 x).1 = true := by decide +kernel
theorem ZiP {e : DEra} (hf : e.format ∈ fmtU) {x : Int × ByteArray} (hx : DrSt e x) : namP (Zc2 e x.1 x.2) = true := by
 obtain ⟨⟨h1, h2⟩, _, h3⟩ := hx
 unfold namP Zc2
 show namL (ZbI e.format.data.toList e.off x.1 x.2.data.toList).1.toArray.toList = true
 rw [List.toList_toArray]
 rcases Zf2 hf with h | h | h
 ·have := ZqM _ h
  unfold pN at this
  unfold ZbI
  cases hp : Zcn e.format.data.toList with
  | none =>
   rw [hp] at this
   simp only [Bool.and_eq_true, decide_eq_true_eq] at this
   dsimp only
   rw [this.2, if_neg (by decide), if_neg (by decide), if_pos (.inl rfl)]
   exact this.1
  | some ab =>
   obtain ⟨a, b⟩ := ab
   rw [hp] at this
   simp only [Bool.and_eq_true] at this
   dsimp only
   split
   ·exact this.1
   ·exact this.2
 ·have h4 := ZqJ _ h _ (ZkC h3)
  have h5 := Zca.1 _ h
  have h6 := (ZbW.2.1 _ h).1
  unfold ZbI at h4 ⊢
  rw [h5] at h4 ⊢
  dsimp only at h4 ⊢
  rw [if_pos h6] at h4 ⊢
  exact h4
 ·rw [h]
  unfold ZbI
  rw [Zca.2]
  dsimp only
  have ht := ZhJ (e.off + x.1) (by omega)
  rw [ZbW.2.2, if_neg (by decide), if_pos rfl, if_pos ⟨by unfold Zc7; simp; omega, ht⟩]
  exact Zp5 _ (by omega)
theorem ZyH : ∀ m : Fin 13, 1 <= m.val -> 0 <= Zam 2001 m.val 1 - Zam 2001 1 1 /\ Zam 2001 m.val 1 - Zam 2001 1 1 <= 334 := by decide +kernel
theorem ZjX {r : Zaa} (hr : DrRule r) (hto : r.to = 1048576) {n b : Int} (hn : -50000 <= n /\ n <= 50000) (hbe : -20000 <= b /\ b <= 20000) : datP (Zdz r n b).1 = true := by
 have hm := hr.mon12
 have hc := hr.clk
 have hck := ZjT hr
 have hnd : Zen r = false := by
  unfold Zen
  rw [decide_eq_true hto, decide_eq_false (show ¬ r.month < 1 by omega), decide_eq_false (show ¬ 12 < r.month by omega), hr.day.chk, hck]
  rfl
 have hsc : Zbp (secD r n b) = true := by
  refine ZdQ ?_
  unfold secD
  split <;> split <;> omega
 have hi1 : Zbp n = true := ZdQ (by omega)
 have hi2 : Zbp b = true := ZdQ (by omega)
 have h2000 : inY 2000 = true := by decide
 obtain ⟨d0, _⟩ := ZkA hr.day h2000 hm.1 hm.2
 unfold Zdz
 rw [hnd, if_neg (by decide), d0, if_neg (by decide), hi1, hi2, if_neg (by decide), hsc, if_pos rfl]
 dsimp only
 unfold datP
 dsimp only
 rw [hsc, Bool.true_and]
 have hd := hr.day
 generalize r.day = d at hd ⊢
 generalize r.month = m at hm ⊢
 obtain ⟨k, w, q⟩ := d
 simp only [Zd6] at hd
 rcases hd with ⟨rfl, a1, a2, rfl⟩ | ⟨rfl, a1, a2, a3, a4, a5⟩ | ⟨rfl, rfl, a3, a4⟩
 ·rw [show Zcx m ⟨2, w, 0⟩ = (⟨3, w, m, 5, 0⟩, true) from rfl]
  simp
  omega
 ·rw [show (Zcx m ⟨3, w, q⟩).1 = ⟨3, w, m, q / 7 + 1, 0⟩ from rfl]
  simp
  omega
 ·have hl := ZfE 2001 m hm.1 hm.2
  have hok : ZaH 2001 m q = true := by
   unfold ZaH
   rw [show inY 2001 = true from by decide, decide_eq_true (show (1 : Int) <= q by omega), decide_eq_true (show q <= lenM 2001 m by omega)]
   rfl
  rw [show (Zcx m ⟨1, 0, q⟩).1 = ⟨1, (if ZaH 2001 m q then Zam 2001 m q else 0) - Zam 2001 1 1 + 1, 0, 0, 0⟩ from rfl, hok, if_pos rfl]
  have hb := ZyH ⟨m.toNat, by omega⟩ (show 1 <= m.toNat by omega)
  dsimp only at hb
  rw [show ((m.toNat : Nat) : Int) = m by omega] at hb
  rw [Zs4 2001 m q]
  simp
  omega
theorem ZeD {e : DEra} {x : Int × ByteArray} (hf : e.format ∈ fmtU) (ho : -46800 <= e.off /\ e.off <= 46800) (hx : DrSt e x) : PxOk (Zbq e x.1 x.2) := by
 have hn := ZiP hf hx
 obtain ⟨h1, h2, _⟩ := hx
 have hof : ∀ y, -86400 <= y /\ y <= 86400 -> offP y = true := fun y hy => by unfold offP; simp; omega
 have ha := hof e.off (by omega)
 have hb := hof (e.off + x.1) (by omega)
 have hd : datP ⟨1, 365, 0, 0, 86400 + x.1⟩ = true := by
  unfold datP
  dsimp only
  rw [ZdQ (n := 86400 + x.1) (by omega)]
  rfl
 unfold Zbq
 by_cases h0 : x.1 = 0
 ·rw [if_pos h0]
  exact ⟨hn, ha, .inl rfl⟩
 ·rw [if_neg h0]
  exact ⟨(by decide : namP xxxB = true), ha, .inr ⟨hn, hb, (by decide : datP ⟨2, 0, 0, 0, 0⟩ = true), hd⟩⟩
theorem Zu4 {s : Zai} {l : List DEra} {Y : Nat -> Int} (h : Zbo s.rules l Y) : PxOk (ofF s l) := by
 have hlen := h.len
 obtain ⟨e, he, e2⟩ := Zdi (l := l) (k := l.length - 1) (d := dE0) (by omega)
 have hE := h.era _ e he
 have hle : Zdv l = e := e2
 have ho := hE.off_bd
 unfold ofF
 rw [hle]
 by_cases h2 : e.kind = 2
 ·rw [if_pos h2]
  obtain ⟨_, ho2, hS, _⟩ := hE.set2 h2
  generalize hR : ofB s.rules e.set = R at *
  have hst := hE.st2 (by omega) (by omega)
  rw [hR] at hst
  rcases ZgH hS.last with ⟨c1, c2⟩ | ⟨i, j, a, b, c1, c2, c3, c4, c5, c6, c7, c8, c9⟩
  ·rw [c1]
   dsimp only
   cases hx : befD R 1152921504606846976 with
   | none => exact ZeD (x := (0, ByteArray.empty)) hE.fmt ho hE.st0
   | some x =>
    dsimp only
    obtain ⟨⟨k, r, z, hk, hz⟩, _⟩ := ZiI hx
    have hru : ruE R x = r := by
     unfold ruE
     rw [(Zbr hz).2.1, List.getD_eq_getElem?_getD, Int.toNat_natCast, hk]
     rfl
    rw [hru]
    exact ZeD (x := (r.save, r.letter)) hE.fmt ho (hst r (List.mem_of_getElem? hk))
  ·rw [c8]
   dsimp only
   rw [List.getD_eq_getElem?_getD, List.getD_eq_getElem?_getD, c2, c3]
   simp only [Option.getD_some]
   have hma := List.mem_of_getElem? c2
   have hmb := List.mem_of_getElem? c3
   have hra := hS.rule a hma
   have hrb := hS.rule b hmb
   have hva := hS.save0 a hma
   have hof : ∀ y, -86400 <= y /\ y <= 86400 -> offP y = true := fun y hy => by unfold offP; simp; omega
   have q1 := hof e.off (by omega)
   have q2 := hof (e.off + a.save) (by omega)
   exact ⟨ZiP hE.fmt (hst b hmb), q1, .inr ⟨ZiP hE.fmt (hst a hma), q2, ZjX hra c4 (by omega) (by omega), ZjX hrb c5 (by omega) (by omega)⟩⟩
 ·rw [if_neg h2]
  have := hE.state 0
  rw [hE.st_flat h2] at this
  exact ZeD (x := (e.save, ByteArray.empty)) hE.fmt ho this
attribute [local irreducible] W RL Does Zau Zaj retQ Calls Pu Stp RD Qy Ay Zak
theorem ZsG (x a b : Int) (w : World) : Does Tryz.prog 27 [.int .i64 x, .int .i64 a, .int .i64 b] w (fun v O => v = .bool (decide (a <= x) && decide (x <= b)) /\ O = []) := by
 refine Zab Tryz.func27 rfl rfl rfl rfl ?_
 repeat' (first | refine walk ?_ | refine und ?_ | (refine Zas rfl rfl rfl (fun hc => ?_) (fun hc => ?_)) | (refine Zar rfl rfl rfl (fun hc => ?_) (fun hc => ?_)) | (refine Zaf rfl (fun hc => ?_) (fun hc => ?_)))
 all_goals exact clo1
theorem Zvp (x a b : Int) (w : World) : Does Tryz.prog 76 [.int .i64 x, .int .i64 a, .int .i64 b] w (fun v O => v = .bool (decide (a <= x) && decide (x <= b)) /\ O = []) := by
 refine Zab Tryz.func76 rfl rfl rfl rfl ?_
 repeat' (first | refine walk ?_ | refine und ?_ | (refine Zas rfl rfl rfl (fun hc => ?_) (fun hc => ?_)) | (refine Zar rfl rfl rfl (fun hc => ?_) (fun hc => ?_)) | (refine Zaf rfl (fun hc => ?_) (fun hc => ?_)))
 all_goals exact clo1
theorem ZkH (x a b : Int) (h : a <= x /\ x <= b) (w : World) : Does Tryz.prog 27 [.int .i64 x, .int .i64 a, .int .i64 b] w (fun v O => v = .bool true /\ O = []) := by
 have := ZsG x a b w
 rwa [decide_eq_true h.1, decide_eq_true h.2] at this
theorem Zmf (x a b : Int) (h : a <= x /\ x <= b) (w : World) : Does Tryz.prog 76 [.int .i64 x, .int .i64 a, .int .i64 b] w (fun v O => v = .bool true /\ O = []) := by
 have := Zvp x a b w
 rwa [decide_eq_true h.1, decide_eq_true h.2] at this
theorem ZjL (t u : Int) (a b : Bool) (w : World) : Does Tryz.prog 30 [.agg #[.int .i64 t, .bool a], .agg #[.int .i64 u, .bool b]] w (fun v O => v = .bool (Zdg (t, a) (u, b)) /\ O = []) := by
 unfold Zdg
 refine Zab Tryz.func30 rfl rfl rfl rfl ?_
 repeat' (first | (refine js ?_; (refine bx ?_; intro bk)) | refine walk ?_ | refine und ?_ | (refine Zas rfl rfl rfl (fun hc => ?_) (fun hc => ?_)) | (refine Zar rfl rfl rfl (fun hc => ?_) (fun hc => ?_)) | (refine Zaf rfl (fun hc => ?_) (fun hc => ?_)))
 all_goals exact clo1
theorem ZdA {d : Zb2} (h : datP d = true) : (-604799 <= d.sec /\ d.sec <= 604799) /\ ((d.kind = 1 /\ 1 <= d.day /\ d.day <= 365 /\ d.month = 0 /\ d.week = 0) \/ (d.kind = 2 /\ 0 <= d.day /\ d.day <= 365 /\ d.month = 0 /\ d.week = 0) \/ (d.kind = 3 /\ (1 <= d.month /\ d.month <= 12) /\ (1 <= d.week /\ d.week <= 5) /\ 0 <= d.day /\ d.day <= 6)) := by
 unfold datP Zbp at h
 simp only [Bool.and_eq_true, Bool.or_eq_true, decide_eq_true_eq] at h
 omega
theorem ZhW (d : Zb2) (h : datP d = true) (w : World) : Does Tryz.prog 39 [.agg d.enc.toArray] w (fun v O => v = .bool true /\ O = []) := by
 obtain ⟨h1, h2⟩ := ZdA h
 clear h
 obtain ⟨k, dd, m, wk, s⟩ := d
 dsimp only at h1 h2
 have c1 := fun w' => ZkH s (-604799) 604799 h1 w'
 show Does _ _ [.agg #[.int .i64 k, .int .i64 dd, .int .i64 m, .int .i64 wk, .int .i64 s]] w _
 refine Zab Tryz.func39 rfl rfl rfl rfl ?_
 rcases h2 with ⟨rfl, a1, a2, rfl, rfl⟩ | ⟨rfl, a1, a2, rfl, rfl⟩ | ⟨rfl, a1, a2, a3⟩
 ·have c2 := fun w' => Zmf dd 1 365 ⟨a1, a2⟩ w'
  repeat (first | (refine js ?_; (first | (refine Zac (fun w' _ => c1 w') ?_) | (refine Zac (fun w' _ => c2 w') ?_) | (refine bx ?_; intro bk))) | refine walk ?_)
  exact rtA
 ·have c2 := fun w' => Zmf dd 0 365 ⟨a1, a2⟩ w'
  repeat (first | (refine js ?_; (first | (refine Zac (fun w' _ => c1 w') ?_) | (refine Zac (fun w' _ => c2 w') ?_) | (refine bx ?_; intro bk))) | refine walk ?_)
  exact rtA
 ·have c2 := fun w' => Zmf m 1 12 a1 w'
  have c3 := fun w' => Zmf wk 1 5 a2 w'
  have c4 := fun w' => Zmf dd 0 6 a3 w'
  repeat (first | (refine js ?_; (first | (refine Zac (fun w' _ => c1 w') ?_) | (refine Zac (fun w' _ => c2 w') ?_) | (refine Zac (fun w' _ => c3 w') ?_) | (refine Zac (fun w' _ => c4 w') ?_) | (refine bx ?_; intro bk))) | refine walk ?_)
  exact rtA
theorem ZqV (y : Int) (hy : inY y = true) (w : World) (hG : Glob w) : Does Tryz.prog 7 [.int .i64 y, .int .i64 1, .int .i64 1] w (fun v O => v = .tuple #[.int .i64 (Zam y 1 1), .int .i64 0] /\ O = []) := by
 have hok : ZaH y 1 1 = true := by
  unfold ZaH
  rw [hy]
  rfl
 have := ZcZ y 1 1 w hG
 rwa [if_pos hok, if_pos hok] at this
theorem Zt0 {G : Prop} (h : G := by (apply ZaM; rfl; rfl; exact b1)) : G := h
theorem ZwR {G : Prop} (h : G := by (apply Zdd; rfl; rfl; (constructor <;> omega))) : G := h
theorem Zju (d : Zb2) (y : Int) (h : datP d = true) (hy : inY y = true) (w : World) (hG : Glob w) : Does Tryz.prog 29 [.agg d.enc.toArray, .int .i64 y] w (fun v O => v = .int .i64 (Zbt d y) /\ O = []) := by
 obtain ⟨_, h2⟩ := ZdA h
 clear h
 obtain ⟨k, dd, m, wk, s⟩ := d
 dsimp only at h2
 have c1 := fun w' (hw : Bel w.heap.size w w') => ZqV y hy w' (hG.up hw)
 have hb : -1000000000000 <= Zam y 1 1 /\ Zam y 1 1 <= 1000000000000 := ZeW (by unfold ZaH; rw [hy]; rfl)
 show Does _ _ [.agg #[.int .i64 k, .int .i64 dd, .int .i64 m, .int .i64 wk, .int .i64 s], .int .i64 y] w _
 rcases h2 with ⟨rfl, a1, a2, rfl, rfl⟩ | ⟨rfl, a1, a2, rfl, rfl⟩ | ⟨rfl, a1, a2, a3⟩
 ·have e : Zbt ⟨1, dd, 0, 0, s⟩ y = if Zeb y = true /\ 59 < dd then Zam y 1 1 + dd - 1 + 1 else Zam y 1 1 + dd - 1 := rfl
  have c2 := fun w' => Zl5 y w'
  rw [e]
  generalize Zam y 1 1 = n at *
  generalize Zeb y = lp at *
  refine Zab Tryz.func29 rfl rfl rfl rfl ?_
  by_cases hd : 59 < dd
  ·have b1 : decide (59 < dd) = true := decide_eq_true hd
   cases lp with
   | true =>
    rw [if_pos ⟨rfl, hd⟩]
    repeat (first | (apply RL_pu; rfl; exact Zt0) | (refine js ?_; (first | (refine Zac c1 ?_) | (refine Zac (fun w' _ => c2 w') ?_) | (refine bx ?_; intro bk))) | refine walk1 ?_)
    exact ret_1 _ [] (.tmp rfl) .nil ⟨congrArg (Value.int .i64) (by omega), rfl⟩
   | false =>
    rw [if_neg (by rintro ⟨h, _⟩; cases h)]
    repeat (first | (apply RL_pu; rfl; exact Zt0) | (refine js ?_; (first | (refine Zac c1 ?_) | (refine Zac (fun w' _ => c2 w') ?_) | (refine bx ?_; intro bk))) | refine walk1 ?_)
    exact ret_1 _ [] (.tmp rfl) .nil ⟨congrArg (Value.int .i64) (by omega), rfl⟩
  ·have b1 : decide (59 < dd) = false := decide_eq_false hd
   rw [if_neg (by rintro ⟨_, h⟩; exact hd h)]
   repeat (first | refine und ?_ | (apply RL_pu; rfl; exact Zt0) | (refine js ?_; (first | (refine Zac c1 ?_) | (refine Zac (fun w' _ => c2 w') ?_) | (refine bx ?_; intro bk))) | refine walk1 ?_)
   exact ret_1 _ [] (.tmp rfl) .nil ⟨congrArg (Value.int .i64) (by omega), rfl⟩
 ·have e : Zbt ⟨2, dd, 0, 0, s⟩ y = Zam y 1 1 + dd := rfl
  rw [e]
  generalize Zam y 1 1 = n at *
  refine Zab Tryz.func29 rfl rfl rfl rfl ?_
  repeat (first | (refine js ?_; (first | (refine Zac c1 ?_) | (refine bx ?_; intro bk))) | refine walk ?_)
  exact rtA
 ·by_cases h5 : wk = 5
  ·subst h5
   have e : Zbt ⟨3, dd, m, 5, s⟩ y = (onD y m ⟨2, dd, 0⟩).1 := rfl
   have c2 := fun w' (hw : Bel w.heap.size w w') => Zh0 y m ⟨2, dd, 0⟩ w' (hG.up hw)
   rw [e]
   generalize onD y m ⟨2, dd, 0⟩ = r at *
   generalize Zam y 1 1 = n at *
   refine Zab Tryz.func29 rfl rfl rfl rfl ?_
   repeat (first | (apply RL_pu; rfl; exact ZwR) | (refine js ?_; (first | (refine Zac c1 ?_) | (refine Zac c2 ?_) | (refine bx ?_; intro bk))) | refine walk1 ?_)
   exact rtA
  ·have b1 : decide (wk = 5) = false := decide_eq_false h5
   have e : Zbt ⟨3, dd, m, wk, s⟩ y = (onD y m ⟨3, dd, 7 * wk - 6⟩).1 := by
    show (onD y m (if wk = 5 then ⟨2, dd, 0⟩ else ⟨3, dd, 7 * wk - 6⟩)).1 = _
    rw [if_neg h5]
   have c2 := fun w' (hw : Bel w.heap.size w w') => Zh0 y m ⟨3, dd, 7 * wk - 6⟩ w' (hG.up hw)
   rw [e]
   generalize onD y m ⟨3, dd, 7 * wk - 6⟩ = r at *
   generalize Zam y 1 1 = n at *
   refine Zab Tryz.func29 rfl rfl rfl rfl ?_
   repeat (first | (apply RL_pu; rfl; (first | exact ZwR | (apply ZaC; rfl; rfl; exact b1))) | (refine js ?_; (first | (refine Zac c1 ?_) | (refine Zac c2 ?_) | (refine bx ?_; intro bk))) | refine walk1 ?_)
   exact rtA
theorem ZoY (d : Zb2) (y : Int) (h : datP d = true) (hy : inY y = true) : -2000000000000 <= Zbt d y /\ Zbt d y <= 2000000000000 := by
 obtain ⟨_, h2⟩ := ZdA h
 have hb : -1000000000000 <= Zam y 1 1 /\ Zam y 1 1 <= 1000000000000 := ZeW (by unfold ZaH; rw [hy]; rfl)
 unfold Zbt Zg8
 rcases h2 with ⟨k, a1, a2, _⟩ | ⟨k, a1, a2, _⟩ | ⟨k, _⟩
 ·rw [if_neg (by omega), if_pos k]
  dsimp only
  split <;> omega
 ·rw [if_pos k]
  omega
 ·rw [if_neg (by omega), if_neg (by omega)]
  have := Zg6 y d.month (if d.week = 5 then ⟨2, d.day, 0⟩ else ⟨3, d.day, 7 * d.week - 6⟩)
  dsimp only
  omega
end Go.Proofs.YtdlmhmmhdbbliaaGreatDoor
namespace Go.Proofs.YtdlmhmmhdbbliaaGreatDoor
open Go Go.RowKit Go.Wk
def cz : List UInt8 := [58, 48, 48]
def hdNo (f : UInt8 -> Bool) (R : List UInt8) : Prop := ∀ b, R.head? = some b -> f b = false
theorem hdNo.nil (f : UInt8 -> Bool) : hdNo f [] := fun b h => by cases h
theorem hdNo.cons {f : UInt8 -> Bool} {b : UInt8} (h : f b = false) (R : List UInt8) : hdNo f (b :: R) := fun c hc => by cases hc; exact h
theorem ZvZ {f : UInt8 -> Bool} {R : List UInt8} (hR : hdNo f R) : ∀ {A : List UInt8}, A.all f = true -> (A ++ R).takeWhile f = A /\ (A ++ R).dropWhile f = R
 | [], _ => by
  cases R with
  | nil => exact ⟨rfl, rfl⟩
  | cons b R => have := hR b rfl; simp [this]
 | a :: A, h => by
  rw [List.all_cons, Bool.and_eq_true] at h
  obtain ⟨h1, h2⟩ := ZvZ hR h.2
  simp only [List.cons_append, List.takeWhile_cons, List.dropWhile_cons, h.1, if_true, h1, h2, and_self]
def ZfZ : List UInt8 := [65, 66, 67, 68, 69, 70, 71, 72, 73, 74, 75, 76, 77, 78, 79, 80, 81, 82, 83, 84, 85, 86, 87, 88, 89, 90, 97, 98, 99, 100, 101, 102] ++ [103, 104, 105, 106, 107, 108, 109, 110, 111, 112, 113, 114, 115, 116, 117, 118, 119, 120, 121, 122]
def Ziy : List UInt8 := [48, 49, 50, 51, 52, 53, 54, 55, 56, 57]
theorem ZrO (f g : UInt8 -> Bool) (h : ∀ b : Fin 256, f (UInt8.ofNat b.val) = g (UInt8.ofNat b.val)) (b : UInt8) : f b = g b := by
 have := h ⟨b.toNat, b.toNat_lt⟩
 simpa using this
theorem ZuR (b : UInt8) : (ZfZ ++ Ziy ++ [43, 45]).contains b = Zeq b := ZrO (fun b => (ZfZ ++ Ziy ++ [43, 45]).contains b) Zeq (by decide +kernel) b
open Go.Shelf Go.RowKit Go.Lib
def Znf : Ren where
 f := fun | 160 => 73 | 232 => 109 | 231 => 108 | 227 => 110 | 234 => 112 | 233 => 111 | 236 => 114 | 235 => 113 | 228 => 157 | 271 => 159 | 151 => 116 | 197 => 158 | 120 => 197 | 152 => 161 | 260 => 196 | 137 => 198 | 119 => 199 | 224 => 200 | 225 => 201 | 217 => 224 | 266 => 236 | n => n
 t := fun | 9 => 9 | 4 => 4 | 3 => 3 | 5 => 5 | 117 => 199 | 116 => 198 | 0 => 0 | 124 => 202 | 21 => 21 | 105 => 246 | 46 => 255 | 119 => 283 | 139 => 307 | 138 => 306 | n => n
 g := fun | 3 => 7 | 4 => 8 | n => n
theorem Zw9 : Lays.n160 Tryz.prog Znf where
 mixed := by kernel_rfl
 f119 := Tryz.func199.trans (congrArg some (by kernel_rfl))
 f120 := Tryz.func197.trans (congrArg some (by kernel_rfl))
 f137 := Tryz.func198.trans (congrArg some (by kernel_rfl))
 f151 := Tryz.func116.trans (congrArg some (by kernel_rfl))
 f152 := Tryz.func161.trans (congrArg some (by kernel_rfl))
 f160 := Tryz.func73.trans (congrArg some (by kernel_rfl))
 f197 := Tryz.func158.trans (congrArg some (by kernel_rfl))
 f217 := Tryz.func224.trans (congrArg some (by kernel_rfl))
 f224 := Tryz.func200.trans (congrArg some (by kernel_rfl))
 f225 := Tryz.func201.trans (congrArg some (by kernel_rfl))
 f227 := Tryz.func110.trans (congrArg some (by kernel_rfl))
 f228 := Tryz.func157.trans (congrArg some (by kernel_rfl))
 f231 := Tryz.func108.trans (congrArg some (by kernel_rfl))
 f232 := Tryz.func109.trans (congrArg some (by kernel_rfl))
 f233 := Tryz.func111.trans (congrArg some (by kernel_rfl))
 f234 := Tryz.func112.trans (congrArg some (by kernel_rfl))
 f235 := Tryz.func113.trans (congrArg some (by kernel_rfl))
 f236 := Tryz.func114.trans (congrArg some (by kernel_rfl))
 f260 := Tryz.func196.trans (congrArg some (by kernel_rfl))
 f266 := Tryz.func236.trans (congrArg some (by kernel_rfl))
 f271 := Tryz.func159.trans (congrArg some (by kernel_rfl))
 t0 := Tryz.underlying0
 a0 := Tryz.isAgg0
 z0 := Tryz.sizeOf0
 v0 := Tryz.zeroValue0
 t3 := Tryz.underlying3
 a3 := Tryz.isAgg3
 z3 := Tryz.sizeOf3
 v3 := Tryz.zeroValue3
 t4 := Tryz.underlying4
 a4 := Tryz.isAgg4
 z4 := Tryz.sizeOf4
 v4 := Tryz.zeroValue4
 t5 := Tryz.underlying5
 a5 := Tryz.isAgg5
 z5 := Tryz.sizeOf5
 v5 := Tryz.zeroValue5
 t9 := Tryz.underlying9
 a9 := Tryz.isAgg9
 z9 := Tryz.sizeOf9
 v9 := Tryz.zeroValue9
 t21 := Tryz.underlying21
 a21 := Tryz.isAgg21
 z21 := Tryz.sizeOf21
 v21 := Tryz.zeroValue21
 t46 := Tryz.underlying255
 a46 := Tryz.isAgg255
 z46 := Tryz.sizeOf255
 v46 := Tryz.zeroValue255
 t105 := Tryz.underlying246
 a105 := Tryz.isAgg246
 z105 := Tryz.sizeOf246
 v105 := Tryz.zeroValue246
 t116 := Tryz.underlying198
 a116 := Tryz.isAgg198
 z116 := Tryz.sizeOf198
 t117 := Tryz.underlying199
 a117 := Tryz.isAgg199
 z117 := Tryz.sizeOf199
 v117 := Tryz.zeroValue199
 t119 := Tryz.underlying283
 a119 := Tryz.isAgg283
 z119 := Tryz.sizeOf283
 t124 := Tryz.underlying202
 a124 := Tryz.isAgg202
 z124 := Tryz.sizeOf202
 v124 := Tryz.zeroValue202
 t138 := Tryz.underlying306
 a138 := Tryz.isAgg306
 z138 := Tryz.sizeOf306
 v138 := Tryz.zeroValue306
 t139 := Tryz.underlying307
 a139 := Tryz.isAgg307
 z139 := Tryz.sizeOf307
 v139 := Tryz.zeroValue307
 g3 := by kernel_rfl
 g4 := by kernel_rfl
def Zs7 : Ren where
 f := fun | 151 => 116 | 152 => 161 | 137 => 198 | 119 => 199 | 224 => 200 | 225 => 201 | 217 => 224 | 266 => 236 | n => n
 t := fun | 9 => 9 | 21 => 21 | 4 => 4 | 3 => 3 | 5 => 5 | 0 => 0 | 46 => 255 | n => n
 g := fun n => n
theorem Zzw : Lays.n151 Tryz.prog Zs7 where
 mixed := by kernel_rfl
 f119 := Tryz.func199.trans (congrArg some (by kernel_rfl))
 f137 := Tryz.func198.trans (congrArg some (by kernel_rfl))
 f151 := Tryz.func116.trans (congrArg some (by kernel_rfl))
 f152 := Tryz.func161.trans (congrArg some (by kernel_rfl))
 f217 := Tryz.func224.trans (congrArg some (by kernel_rfl))
 f224 := Tryz.func200.trans (congrArg some (by kernel_rfl))
 f225 := Tryz.func201.trans (congrArg some (by kernel_rfl))
 f266 := Tryz.func236.trans (congrArg some (by kernel_rfl))
 t0 := Tryz.underlying0
 a0 := Tryz.isAgg0
 z0 := Tryz.sizeOf0
 v0 := Tryz.zeroValue0
 t3 := Tryz.underlying3
 a3 := Tryz.isAgg3
 z3 := Tryz.sizeOf3
 v3 := Tryz.zeroValue3
 t4 := Tryz.underlying4
 a4 := Tryz.isAgg4
 z4 := Tryz.sizeOf4
 v4 := Tryz.zeroValue4
 t5 := Tryz.underlying5
 a5 := Tryz.isAgg5
 z5 := Tryz.sizeOf5
 v5 := Tryz.zeroValue5
 t9 := Tryz.underlying9
 a9 := Tryz.isAgg9
 z9 := Tryz.sizeOf9
 v9 := Tryz.zeroValue9
 t21 := Tryz.underlying21
 a21 := Tryz.isAgg21
 z21 := Tryz.sizeOf21
 v21 := Tryz.zeroValue21
 t46 := Tryz.underlying255
 a46 := Tryz.isAgg255
 z46 := Tryz.sizeOf255
 v46 := Tryz.zeroValue255
open Go Go.RowKit Go.Wk Go.Lib
attribute [local irreducible] W RL Does Zau Zaj retQ Calls Pu Stp RD Qy Ay Zak
def Zep : ByteArray := ⟨(ZfZ ++ Ziy ++ [43, 45]).toArray⟩
theorem Zsj : Zep.data.toList = ZfZ ++ Ziy ++ [43, 45] := rfl
theorem Zne (s : ByteArray) (h : namP s = true) (w : World) : Does Tryz.prog 73 [.string s, .string Zep] w (fun v O => v = .string ByteArray.empty /\ O = []) := by
 have hall : s.data.toList.all Zeq = true := by
  unfold namP namL at h
  simp only [Bool.and_eq_true] at h
  exact h.2
 have hsz : s.size <= 7 := by
  unfold namP namL at h
  simp only [Bool.and_eq_true, decide_eq_true_eq] at h
  simpa using h.1.2
 have he : trimS s.data.toList Zep.data.toList = [] := by
  unfold trimS trimRightS
  rw [Zsj]
  have : s.data.toList.reverse.dropWhile ((ZfZ ++ Ziy ++ [43, 45]).contains ·) = [] := by
   have h2 : s.data.toList.reverse.all Zeq = true := by rw [List.all_reverse]; exact hall
   have h3 := (ZvZ (hdNo.nil Zeq) h2).2
   rw [List.append_nil] at h3
   refine Eq.trans ?_ h3
   exact congrArg (fun f => s.data.toList.reverse.dropWhile f) (funext ZuR)
  rw [this]
  rfl
 have := ZeA (Any.strings_Trim_laid Zw9 (by kernel_rfl) s Zep w (by omega) (by decide) (ascii_of_all (by decide)))
 rw [he] at this
 exact this
theorem Zo6 (b : UInt8) (h : Zeq b = true) : b.toNat < 128 /\ decide (0 <= indexByte Zep.data.toList b.toNat.toUInt8) = true := by
 have h1 := ZrO (fun b => !Zeq b || (decide (b.toNat < 128) && decide (0 <= indexByte Zep.data.toList b.toNat.toUInt8))) (fun _ => true) (by decide +kernel) b
 rw [h, Bool.not_true, Bool.false_or, Bool.and_eq_true, decide_eq_true_eq] at h1
 exact h1
theorem Zu7 (c : Nat) (b : UInt8) (hb : b.toNat = c) (h : Zeq b = true) (w : World) : Does Tryz.prog 75 [.int .i32 c] w (fun v O => v = .bool false /\ O = []) := by
 obtain ⟨hc, hi⟩ := Zo6 b h
 rw [hb] at hc hi
 have c1 : ∀ w', Does Tryz.prog 116 [.string Zep, .int .i32 c] w' (fun v O => v = .bool true /\ O = []) := fun w' => by
  have := ZeA ((Any.strings_ContainsRune_ascii Zzw Zep c w' (by omega) (by omega)).mono fun e w2 ⟨he, hw⟩ => ⟨he, hw ▸ Below.refl _ _⟩)
  rw [show ((c : Int)).toNat.toUInt8 = c.toUInt8 from rfl, hi] at this
  exact this
 refine Zab Tryz.func75 rfl rfl rfl rfl ?_
 repeat (first | (refine js ?_; (refine Zac (fun w' _ => c1 w') ?_)) | refine walk ?_)
 exact rtA
theorem Zse (b : UInt8) (h : Zeq b = true) (w : World) : Calls Tryz.prog 75 #[.int .i32 (b.toNat : Int)] w fun e w' => e = .returned (.bool false) /\ Below w.heap.size w w' := by
 have := Zu7 b.toNat b rfl h w
 unfold Does at this
 exact this.mono fun e w' ⟨v, O, he, hb, _, hv, _⟩ => ⟨by rw [he, hv], hb.toBelow⟩
theorem Zsk {s : ByteArray} (hs : s.data.toList.all Zeq = true) {pos : Nat} (hp : pos < s.size) : ∃ b : UInt8, Zeq b = true /\ Utf8.decode s pos = (b.toNat, 1) := by
 have hp' : pos < s.data.toList.length := by simpa using hp
 have hg : s.get! pos = s.data.toList[pos] := by
  rw [Array.getElem_toList]
  show s.data[pos]! = _
  rw [getElem!_pos s.data pos (by simpa using hp')]
 have hn := List.all_eq_true.1 hs _ (List.getElem_mem hp')
 generalize s.data.toList[pos] = b at *
 refine ⟨b, hn, ?_⟩
 have hc := (Zo6 b hn).1
 unfold Utf8.decode
 simp only [Nat.add_zero, hg]
 rw [if_pos hc]
set_option maxHeartbeats 2000000 in
set_option maxRecDepth 1000000 in
theorem Zxs (s : ByteArray) (hs : s.data.toList.all Zeq = true) (w : World) :
  Calls Tryz.prog 160 #[.string s, .func (.func 75) #[] #[], .bool true] w fun e w' => e = .returned (.int .i64 (-1)) /\ Below w.heap.size w w' := by
 go_enter Tryz.func160, Tryz.ntmps160
 go_wp2
 go_loopg [] s.size (fun gf wx => ∃ pos : Nat, wx.heap[w.heap.size]? = some (.stringIter s pos) /\ Below w.heap.size w wx /\ s.size <= pos + gf)
 case atStart => exact ⟨0, World.iter_heap w s 0, (Below.refl _ w).alloc (Nat.le_refl _) _, by omega⟩
 case round =>
  obtain ⟨pos, hit, hbw, hfu⟩ := hrel
  by_cases hps : pos < s.size
  ·obtain ⟨g', rfl⟩ : ∃ g', gk = g' + 1 := ⟨gk - 1, by omega⟩
   have hnx : ∀ ty, (Instr.next (.pointer (some ⟨w.heap.size, 0, none⟩)) true ty).run Tryz.prog wr = _ := fun ty => Lib.run_next_any_at wr w.heap.size s pos ty hit hps
   obtain ⟨b, hb, hd⟩ := Zsk hs hps
   rw [hd] at hnx
   dsimp only at hnx
   have hit2 := Lib.iterAt_heap wr w.heap.size s pos (pos + 1) hit
   have hbw2 := Lib.below_iterAt hbw (k := w.heap.size) (Nat.le_refl _) s (pos + 1)
   obtain ⟨W1, hW1⟩ : ∃ W1, wr.iterAt w.heap.size s (pos + 1) = W1 := ⟨_, rfl⟩
   rw [hW1] at hnx hit2 hbw2
   have hlt1 : w.heap.size < W1.heap.size := (Array.getElem?_eq_some_iff.1 hit2).1
   have cS := Zse b hb W1
   go_wp2_with (go_at_call 75; refine cS.mono ?_; rintro e W' ⟨rfl, hbc⟩)
   go_roundg g'
   case measure => omega
   case rel => exact ⟨pos + 1, (hbc.block _ hlt1).trans hit2, hbw2.trans (hbc.mono hbw2.size), by omega⟩
  ·have hnx : ∀ ty, (Instr.next (.pointer (some ⟨w.heap.size, 0, none⟩)) true ty).run Tryz.prog wr = _ := fun ty => Lib.run_next_end_at wr w.heap.size s pos ty hit hps
   go_wp2
   go_ret
   exact ⟨rfl, hbw⟩
theorem Zqp (s : ByteArray) (hs : s.data.toList.all Zeq = true) (w : World) : Does Tryz.prog 74 [.string s, .func (.func 75) #[] #[]] w (fun v O => v = .bool false /\ O = []) := by
 have c1 := fun w' => ZeA (Zxs s hs w')
 have c2 : ∀ w', Does Tryz.prog 115 [.string s, .func (.func 75) #[] #[]] w' (fun v O => v = .int .i64 (-1) /\ O = []) := fun w' => by
  refine Zab Tryz.func115 rfl rfl rfl rfl ?_
  repeat (first | (refine js ?_; (refine Zac (fun w' _ => c1 w') ?_)) | refine walk ?_)
  exact rtA
 refine Zab Tryz.func74 rfl rfl rfl rfl ?_
 repeat (first | (refine js ?_; (refine Zac (fun w' _ => c2 w') ?_)) | refine walk ?_)
 exact rtA
theorem ZhV (s : ByteArray) (h : namP s = true) (w : World) : Does Tryz.prog 38 [.string s] w (fun v O => v = .bool true /\ O = []) := by
 have c1 := fun w' => Zne s h w'
 unfold namP namL at h
 simp only [Bool.and_eq_true, decide_eq_true_eq] at h
 obtain ⟨⟨h1, h2⟩, h3⟩ := h
 have c2 := fun w' => Zqp s h3 w'
 have hs : s.size = s.data.toList.length := by simp
 have b1 : decide ((3 : Int) <= s.size) = true := decide_eq_true (by omega)
 have b2 : decide ((s.size : Int) <= 7) = true := decide_eq_true (by omega)
 refine Zab Tryz.func38 rfl rfl rfl rfl ?_
 repeat (first | (apply RL_pu; rfl; (first | (apply Zc3; rfl; rfl; exact b1) | (apply ZcA; rfl; rfl; exact b2))) | (refine js ?_; (first | (refine Zac (fun w' _ => c1 w') ?_) | (refine Zac (fun w' _ => c2 w') ?_))) | refine walk1 ?_)
 exact rtA
theorem Zkw {x : Int} (h : offP x = true) : -89999 <= x /\ x <= 89999 := by
 unfold offP at h
 simpa using h
theorem ZlH (w : World) : Does Tryz.prog 38 [.string ByteArray.empty] w (fun v O => v = .bool false /\ O = []) := by
 refine Zab Tryz.func38 rfl rfl rfl rfl ?_
 repeat (first | refine und ?_ | (apply RL_pu; rfl; (apply Zc3; rfl; rfl; rfl)) | refine walk1 ?_)
 exact rtA
theorem Zqg (p : Za4) (hp : PxOk p) (w : World) : Does Tryz.prog 12 [.agg p.enc.toArray] w (fun v O => v = .int .i64 0 /\ O = []) := by
 obtain ⟨h1, h2, h3⟩ := hp
 have c1 := fun w' => ZhV p.std h1 w'
 have c2 := fun w' => ZkH p.stdOff (-89999) 89999 (Zkw h2) w'
 by_cases hn : p = ⟨p.std, p.stdOff, ByteArray.empty, 0, dt0, dt0⟩
 ·have c3 := fun w' => ZlH w'
  generalize p.std = s at *
  generalize p.stdOff = o at *
  subst hn
  clear h1 h2 h3
  show Does _ _ [.agg #[.string s, .int .i64 o, .string ByteArray.empty, .int .i64 0, .int .i64 0, .int .i64 0, .int .i64 0, .int .i64 0, .int .i64 0, .int .i64 0, .int .i64 0, .int .i64 0, .int .i64 0, .int .i64 0]] w _
  refine Zab Tryz.func12 rfl rfl rfl rfl ?_
  repeat (first | refine und ?_ | (apply RL_pu; rfl; (apply ZiZ (i := (⟨s, o, ByteArray.empty, 0, dt0, dt0⟩ : Za4)) (j := ⟨s, o, ByteArray.empty, 0, dt0, dt0⟩) (enc := Za4.enc); rfl; rfl; exact decide_eq_true rfl)) | (refine js ?_; (first | (refine Zac (fun w' _ => c1 w') ?_) | (refine Zac (fun w' _ => c2 w') ?_) | (refine Zac (fun w' _ => c3 w') ?_) | (refine bx ?_; intro bk))) | refine walk1 ?_)
  exact rtA
 ·obtain ⟨a1, a2, a3, a4⟩ := h3.resolve_left hn
  have c3 := fun w' => ZhV p.dst a1 w'
  have c4 := fun w' => ZkH p.dstOff (-89999) 89999 (Zkw a2) w'
  have c5 := fun w' => ZhW p.start a3 w'
  have c6 := fun w' => ZhW p.fin a4 w'
  have hb : decide (p = ⟨p.std, p.stdOff, ByteArray.empty, 0, dt0, dt0⟩) = false := decide_eq_false hn
  clear h1 h2 h3 hn a1 a2 a3 a4
  obtain ⟨p1, p2, p3, p4, ⟨p5, p6, p7, p8, p9⟩, ⟨q1, q2, q3, q4, q5⟩⟩ := p
  dsimp only at *
  show Does _ _ [.agg #[.string p1, .int .i64 p2, .string p3, .int .i64 p4, .int .i64 p5, .int .i64 p6, .int .i64 p7, .int .i64 p8, .int .i64 p9, .int .i64 q1, .int .i64 q2, .int .i64 q3, .int .i64 q4, .int .i64 q5]] w _
  refine Zab Tryz.func12 rfl rfl rfl rfl ?_
  repeat (first | refine und ?_ | (apply RL_pu; rfl; (apply ZiZ (i := (⟨p1, p2, p3, p4, ⟨p5, p6, p7, p8, p9⟩, ⟨q1, q2, q3, q4, q5⟩⟩ : Za4)) (j := ⟨p1, p2, ByteArray.empty, 0, dt0, dt0⟩) (enc := Za4.enc); rfl; rfl; exact hb)) | (refine js ?_; (first | (refine Zac (fun w' _ => c1 w') ?_) | (refine Zac (fun w' _ => c2 w') ?_) | (refine Zac (fun w' _ => c3 w') ?_) | (refine Zac (fun w' _ => c4 w') ?_) | (refine Zac (fun w' _ => c5 w') ?_) | (refine Zac (fun w' _ => c6 w') ?_) | (refine bx ?_; intro bk))) | refine walk1 ?_)
  exact rtA
theorem Zw7 {t : Int} (ht : -36028797018963968 <= t /\ t <= 36028797018963968) : -1900000000 <= Zax t /\ Zax t <= 1900000000 := by
 obtain ⟨a, b⟩ := Zgv (t := t) (by omega) (by omega)
 unfold jan1 at a b
 omega
structure PxG where
 k : Nat
 y : Int
 a : Int
 b : Bool
structure PxI where
 j : Nat
 a : Int
 b : Bool
theorem Zi1 {G : Prop} (h : G := by (apply Zdd; rfl; rfl; (constructor <;> omega))) : G := h
theorem Zm1 {G : Prop} (h : G := by (first | exact Zi1 | (apply ZcA; rfl; rfl; exact n1) | (apply Ze7; rfl; rfl; exact n2))) : G := h
theorem ZtB {G : Prop} (h : G := by first | (apply Qy_y; rfl; exact Zm1) | exact QyA) : G := h
theorem ZtJ {G : Prop} (h : G := by repeat (first | exact QF.nil | (apply QF.mk; rfl; rfl; decide +kernel; exact ZtB))) : G := h
theorem ZwQ {G : Prop} (h : G := by (first | exact Zi1 | (apply ZcA; rfl; rfl; exact n1))) : G := h
theorem Zru {G G' : Prop} (k : G') (h : Hold G' -> G := by intro k9; (first | refine und ?_ | (apply RL_pu; rfl; exact ZwQ) | (apply RD_Q; rfl; rfl; decide +kernel; rfl; rfl; exact QyPxC2) | refine walk1 ?_ | (refine jn ?_; (try intro F); (first | (refine stA ?_) | (apply Zae; first | exact ZwQ | exact PuA)); first | refine ⟨_, EndsA, QFPxC2, ?_⟩ | refine fin ?_)); exact k9.out) : G := h ⟨k⟩
theorem Zkf {G : Prop} (h : G := by (first | exact Zi1 | (apply Pu_indexAddrK; rfl; rfl; rfl; decide; decide; decide) | (apply ZiY; rfl; (focus repeat' constructor); rfl; rfl) | (apply ZcA; rfl; rfl; exact n3))) : G := h
theorem ZoK {G G' : Prop} (k : G') (h : Hold G' -> G := by intro k9; (first | refine und ?_ | (apply RL_pu; rfl; exact Zkf) | (apply RD_Q; rfl; rfl; decide +kernel; rfl; rfl; exact QyPxC3) | refine walk1 ?_ | (refine jg ?_; (try intro F); (first | (refine Zac (fun w' _ => cl w') ?_) | (refine stA ?_)); first | refine ⟨_, EndsA, QFPxC3, ?_⟩ | refine fin ?_) | (refine jn ?_; (try intro F); (first | (refine stA ?_) | (apply Zae; first | exact Zkf | exact PuA)); first | refine ⟨_, EndsA, QFPxC3, ?_⟩ | refine fin ?_)); exact k9.out) : G := h ⟨k⟩
set_option maxHeartbeats 8000000 in
theorem ZrW (p : Za4) (t : Int) (hp : PxOk p) (ht : tOk t = true) (w : World) (hL : LibW w) (hG : Glob w) :
  Does Tryz.prog 10 [.agg p.enc.toArray, .int .i64 t] w (fun v O => v = .tuple #[.agg (pxAt p t).enc.toArray, .int .i64 0] /\ O = []) := by
 have htb := ZhL.1 ht
 have c1 := fun w' (hw : Bel w.heap.size w w') => Zqg p hp w'
 have c2 := fun w' => ZkH t (-36028797018963968) 36028797018963968 htb w'
 have c3 := fun w' (hw : Bel w.heap.size w w') => ZhD t (by omega) w' (hG.up hw)
 have hyb := Zw7 htb
 obtain ⟨res, hres⟩ : ∃ res, (!decide (p.dst = ByteArray.empty) && (ZcB p t).2) = res := ⟨_, rfl⟩
 have e : pxAt p t = if res then ⟨p.dstOff, true, p.dst⟩ else ⟨p.stdOff, false, p.std⟩ := by
  rw [<- hres]
  unfold pxAt
  by_cases h : p.dst = ByteArray.empty
  ·rw [decide_eq_true h, if_neg (fun hh => hh.1 h)]
   rfl
  ·rw [decide_eq_false h]
   cases (ZcB p t).2 with
   | true => rw [if_pos ⟨h, rfl⟩]; rfl
   | false => rw [if_neg (by rintro ⟨_, hh⟩; cases hh)]; rfl
 rw [e]
 have hin : ∀ y, -2000000000 <= y -> y <= 2000000000 -> inY y = true := fun y a b => by unfold inY; rw [decide_eq_true a, decide_eq_true b]; rfl
 -- the beginnings
 obtain ⟨L, hLs⟩ : ∃ L : Int × Bool, ZcB p t = L := ⟨_, rfl⟩
 have hfold : (ZfR p (Zax t - 2) 5).foldl (ZaS t) (-4611686018427387904, false) = L := hLs
 rw [hLs] at hres
 have hdst : p.dst ≠ ByteArray.empty -> (offP p.stdOff = true /\ offP p.dstOff = true) /\ datP p.start = true /\ datP p.fin = true := fun h => by
  rcases hp.dst with h2 | ⟨_, h3, h4, h5⟩
  ·rw [h2] at h
   exact absurd rfl h
  ·exact ⟨⟨hp.so, h3⟩, h4, h5⟩
 have hbg : ∀ y, Zqi p y = [(86400 * Zbt p.start y + p.start.sec - p.stdOff, true), (86400 * Zbt p.fin y + p.fin.sec - p.dstOff, false)] := fun y => rfl
 have hds : ∀ y, datP p.start = true -> inY y = true -> ∀ w', Bel w.heap.size w w' -> Does Tryz.prog 29 [.agg p.start.enc.toArray, .int .i64 y] w' (fun v O => v = .int .i64 (Zbt p.start y) /\ O = []) := fun y h hy w' hw => Zju p.start y h hy w' (hG.up hw)
 have hdf : ∀ y, datP p.fin = true -> inY y = true -> ∀ w', Bel w.heap.size w w' -> Does Tryz.prog 29 [.agg p.fin.enc.toArray, .int .i64 y] w' (fun v O => v = .int .i64 (Zbt p.fin y) /\ O = []) := fun y h hy w' hw => Zju p.fin y h hy w' (hG.up hw)
 have hbs := fun y (h : datP p.start = true) hy => ZoY p.start y h hy
 have hbf := fun y (h : datP p.fin = true) hy => ZoY p.fin y h hy
 obtain ⟨Y, hY⟩ : ∃ Y, Zax t = Y := ⟨_, rfl⟩
 rw [hY] at c3 hyb hfold
 clear hL hG hp e hLs
 obtain ⟨p1, p2, p3, p4, ⟨p5, p6, p7, p8, p9⟩, ⟨q1, q2, q3, q4, q5⟩⟩ := p
 dsimp only at *
 show Does _ _ [.agg #[.string p1, .int .i64 p2, .string p3, .int .i64 p4, .int .i64 p5, .int .i64 p6, .int .i64 p7, .int .i64 p8, .int .i64 p9, .int .i64 q1, .int .i64 q2, .int .i64 q3, .int .i64 q4, .int .i64 q5], .int .i64 t] w _
 refine Zab Tryz.func10 rfl rfl rfl rfl ?_
 repeat (first | (apply RL_pu; rfl; exact Zi1) | (apply RD_Q; rfl; rfl; decide +kernel; rfl; rfl; exact QyPxC0) | refine walk1 ?_ | (refine jg ?_; (try intro F); (first | (refine Zac c1 ?_) | (refine Zac (fun w' _ => c2 w') ?_) | (refine Zac c3 ?_) | (refine bx ?_; intro bk) | (refine stA ?_)); first | refine ⟨_, EndsA, QFPxC0, ?_⟩ | refine fin ?_) | (refine jn ?_; (try intro F); (first | (refine bx ?_; intro bk) | (refine stA ?_) | (apply Zae; first | exact Zi1 | exact PuA)); first | refine ⟨_, EndsA, QFPxC0, ?_⟩ | refine fin ?_) | (apply RD_W; rfl; intro bk))
 rename_i b2 b4
 generalize bk = b6
 refine Zao [(1, .int .i64 t), (2, .pointer (some ⟨b2, 0, none⟩)), (4, .pointer (some ⟨b4, 0, none⟩)), (6, .pointer (some ⟨b6, 0, none⟩)), (7, .int .i64 Y)] [.blk b2 [.string p1, .int .i64 p2, .string p3, .int .i64 p4, .int .i64 p5, .int .i64 p6, .int .i64 p7, .int .i64 p8, .int .i64 p9, .int .i64 q1, .int .i64 q2, .int .i64 q3, .int .i64 q4, .int .i64 q5] 41, .blk b4 [.int .i64 0, .bool false, .string ByteArray.empty] 45]
  (fun g : PxG => [(8, .int .i64 g.y)]) (fun g => [.blk b6 [.int .i64 g.a, .bool g.b] 100]) (fun g => g.k <= 5 /\ g.y = Y - 2 + (g.k : Nat) /\ (p3 = ByteArray.empty -> g.b = false) /\ (p3 ≠ ByteArray.empty -> (ZfR ⟨p1, p2, p3, p4, ⟨p5, p6, p7, p8, p9⟩, ⟨q1, q2, q3, q4, q5⟩⟩ g.y (5 - g.k)).foldl (ZaS t) (g.a, g.b) = L)) (fun g => 5 - g.k) ⟨0, Y - 2, -4611686018427387904, false⟩ SFA SOA ⟨Nat.zero_le _, by dsimp only; omega, fun _ => rfl, fun _ => hfold⟩ ?_
 clear hfold
 rintro ⟨k, y, a, b⟩ ⟨hk, hy, hi1, hi2⟩
 dsimp only at hk hy hi1 hi2 ⊢
 by_cases hd : p3 = ByteArray.empty
 ·obtain rfl := hi1 hd
  have hr0 : res = false := by rw [<- hres, decide_eq_true hd]; rfl
  subst hr0
  have n2 : (!decide (p3 = ByteArray.empty)) = false := by rw [decide_eq_true hd]; rfl
  by_cases h5 : y <= Y + 2
  ·have n1 : decide (y <= Y + 2) = true := decide_eq_true h5
   repeat (first | refine und ?_ | (apply RL_pu; rfl; exact Zm1) | (apply RD_Q; rfl; rfl; decide +kernel; rfl; rfl; exact ZtB) | refine walk1 ?_ | (refine jn ?_; (try intro F); (first | (refine bx ?_; intro bk) | (refine stA ?_) | (apply Zae; first | exact Zm1 | exact PuA)); first | refine ⟨_, EndsA, ZtJ, ?_⟩ | refine fin ?_) | (apply RD_W; rfl; intro bk))
   exact rtC
  ·have n1 : decide (y <= Y + 2) = false := decide_eq_false h5
   repeat (first | refine Zru ?_ | (refine jn ?_; (try intro F); (refine bx ?_; intro bk); first | refine ⟨_, EndsA, QFPxC2, ?_⟩ | refine fin ?_) | (apply RD_W; rfl; intro bk))
   exact rtC
 have hi2 := hi2 hd
 have n2 : (!decide (p3 = ByteArray.empty)) = true := by rw [decide_eq_false hd]; rfl
 by_cases h5 : Y + 2 < y
 ·obtain rfl : k = 5 := by omega
  rw [Nat.sub_self, ZfR, List.foldl_nil] at hi2
  have hr0 : res = b := by rw [<- hres, decide_eq_false hd, <- hi2]; rfl
  subst hr0
  have n1 : decide (y <= Y + 2) = false := decide_eq_false (by omega)
  cases res with
  | false =>
   repeat (first | refine Zru ?_ | (refine jn ?_; (try intro F); (refine bx ?_; intro bk); first | refine ⟨_, EndsA, QFPxC2, ?_⟩ | refine fin ?_) | (apply RD_W; rfl; intro bk))
   exact rtC
  | true =>
   repeat (first | refine Zru ?_ | (refine jn ?_; (try intro F); (refine bx ?_; intro bk); first | refine ⟨_, EndsA, QFPxC2, ?_⟩ | refine fin ?_) | (apply RD_W; rfl; intro bk))
   exact rtC
 have n1 : decide (y <= Y + 2) = true := decide_eq_true (by omega)
 obtain ⟨⟨o1, o2⟩, o3, o4⟩ := hdst hd
 have o1 := Zkw o1
 have o2 := Zkw o2
 have hyi := hin y (by omega) (by omega)
 have c5 := hds y o3 hyi
 have c6 := hdf y o4 hyi
 have s1 := (ZdA o3).1
 have s2 := (ZdA o4).1
 have d1 := hbs y o3 hyi
 have d2 := hbf y o4 hyi
 rw [show 5 - k = (4 - k) + 1 by omega, ZfR, List.foldl_append, hbg] at hi2
 dsimp only at o1 o2 s1 s2
 simp only [Zb2.enc] at c5 c6
 clear hds hdf hbs hbf hdst hres c1 c2 c3 hi1 o3 o4
 generalize Zbt ⟨p5, p6, p7, p8, p9⟩ y = m1 at *
 generalize Zbt ⟨q1, q2, q3, q4, q5⟩ y = m2 at *
 repeat (first | refine und ?_ | (apply RL_pu; rfl; exact Zm1) | (apply RD_Q; rfl; rfl; decide +kernel; rfl; rfl; exact ZtB) | refine walk1 ?_ | (refine jg ?_; (try intro F); (first | (refine Zac c5 ?_) | (refine Zac c6 ?_) | (refine bx ?_; intro bk) | (refine stA ?_)); first | refine ⟨_, EndsA, ZtJ, ?_⟩ | refine fin ?_) | (refine jn ?_; (try intro F); (first | (refine bx ?_; intro bk) | (refine stA ?_) | (apply Zae; first | exact Zm1 | exact PuA)); first | refine ⟨_, EndsA, ZtJ, ?_⟩ | refine fin ?_) | (apply RD_W; rfl; intro bk))
 generalize 86400 * m1 + p9 - p2 = A1 at *
 generalize 86400 * m2 + q5 - p4 = A2 at *
 generalize bk = bl
 obtain ⟨r2, hr2⟩ : ∃ r2, List.foldl (ZaS t) (a, b) [(A1, true), (A2, false)] = r2 := ⟨_, rfl⟩
 rw [hr2] at hi2
 refine Zao [(1, .int .i64 t), (2, .pointer (some ⟨b2, 0, none⟩)), (4, .pointer (some ⟨b4, 0, none⟩)), (6, .pointer (some ⟨b6, 0, none⟩)), (7, .int .i64 Y), (8, .int .i64 y), (63, .slice (some ⟨bl, 0, none⟩) 2 2), (64, .int .i64 2)] [.blk b2 [.string p1, .int .i64 p2, .string p3, .int .i64 p4, .int .i64 p5, .int .i64 p6, .int .i64 p7, .int .i64 p8, .int .i64 p9, .int .i64 q1, .int .i64 q2, .int .i64 q3, .int .i64 q4, .int .i64 q5] 41, .blk b4 [.int .i64 0, .bool false, .string ByteArray.empty] 45, .blk bl [.int .i64 A1, .bool true, .int .i64 A2, .bool false] 100]
  (fun g : PxI => [(65, .int .i64 g.j)]) (fun g => [.blk b6 [.int .i64 g.a, .bool g.b] 100]) (fun g => g.j <= 2 /\ List.foldl (ZaS t) (g.a, g.b) ([(A1, true), (A2, false)].drop g.j) = r2) (fun g => 2 - g.j) ⟨0, a, b⟩ SFA SOA ⟨by dsimp only; omega, hr2⟩ ?_
 clear hr2 c5 c6
 rintro ⟨j, a, b⟩ ⟨hj, hij⟩
 dsimp only at hj hij ⊢
 have hj3 : j = 0 \/ j = 1 \/ j = 2 := by omega
 rcases hj3 with rfl | rfl | rfl
 ·change List.foldl (ZaS t) (ZaS t (a, b) (A1, true)) [(A2, false)] = r2 at hij
  by_cases h6 : A1 <= t
  ·have n3 : decide (A1 <= t) = true := decide_eq_true h6
   have cl := fun w' => ZjL A1 a true b w'
   cases hl : Zdg (A1, true) (a, b) with
   | true =>
    rw [hl] at cl
    rw [show ZaS t (a, b) (A1, true) = (A1, true) from if_pos ⟨h6, hl⟩] at hij
    repeat (first | refine ZoK ?_ | (refine jg ?_; (try intro F); (refine bx ?_; intro bk); first | refine ⟨_, EndsA, QFPxC3, ?_⟩ | refine fin ?_) | (refine jn ?_; (try intro F); (refine bx ?_; intro bk); first | refine ⟨_, EndsA, QFPxC3, ?_⟩ | refine fin ?_) | (apply RD_W; rfl; intro bk))
    exact ⟨⟨1, A1, true⟩, by dsimp only; omega, ⟨by dsimp only; omega, hij⟩, SFA, SOA⟩
   | false =>
    rw [hl] at cl
    rw [show ZaS t (a, b) (A1, true) = (a, b) from if_neg (fun hh => by rw [hl] at hh; cases hh.2)] at hij
    repeat (first | refine ZoK ?_ | (refine jg ?_; (try intro F); (refine bx ?_; intro bk); first | refine ⟨_, EndsA, QFPxC3, ?_⟩ | refine fin ?_) | (refine jn ?_; (try intro F); (refine bx ?_; intro bk); first | refine ⟨_, EndsA, QFPxC3, ?_⟩ | refine fin ?_) | (apply RD_W; rfl; intro bk))
    exact ⟨⟨1, a, b⟩, by dsimp only; omega, ⟨by dsimp only; omega, hij⟩, SFA, SOA⟩
  ·have n3 : decide (A1 <= t) = false := decide_eq_false h6
   rw [show ZaS t (a, b) (A1, true) = (a, b) from if_neg (fun hh => h6 hh.1)] at hij
   repeat (first | refine und ?_ | (apply RL_pu; rfl; exact Zkf) | (apply RD_Q; rfl; rfl; decide +kernel; rfl; rfl; exact QyPxC3) | refine walk1 ?_ | (refine jn ?_; (try intro F); (first | (refine bx ?_; intro bk) | (refine stA ?_) | (apply Zae; first | exact Zkf | exact PuA)); first | refine ⟨_, EndsA, QFPxC3, ?_⟩ | refine fin ?_) | (apply RD_W; rfl; intro bk))
   exact ⟨⟨1, a, b⟩, by dsimp only; omega, ⟨by dsimp only; omega, hij⟩, SFA, SOA⟩
 ·change List.foldl (ZaS t) (ZaS t (a, b) (A2, false)) [] = r2 at hij
  by_cases h6 : A2 <= t
  ·have n3 : decide (A2 <= t) = true := decide_eq_true h6
   have cl := fun w' => ZjL A2 a false b w'
   cases hl : Zdg (A2, false) (a, b) with
   | true =>
    rw [hl] at cl
    rw [show ZaS t (a, b) (A2, false) = (A2, false) from if_pos ⟨h6, hl⟩] at hij
    repeat (first | refine ZoK ?_ | (refine jg ?_; (try intro F); (refine bx ?_; intro bk); first | refine ⟨_, EndsA, QFPxC3, ?_⟩ | refine fin ?_) | (refine jn ?_; (try intro F); (refine bx ?_; intro bk); first | refine ⟨_, EndsA, QFPxC3, ?_⟩ | refine fin ?_) | (apply RD_W; rfl; intro bk))
    exact ⟨⟨2, A2, false⟩, by dsimp only; omega, ⟨by dsimp only; omega, hij⟩, SFA, SOA⟩
   | false =>
    rw [hl] at cl
    rw [show ZaS t (a, b) (A2, false) = (a, b) from if_neg (fun hh => by rw [hl] at hh; cases hh.2)] at hij
    repeat (first | refine ZoK ?_ | (refine jg ?_; (try intro F); (refine bx ?_; intro bk); first | refine ⟨_, EndsA, QFPxC3, ?_⟩ | refine fin ?_) | (refine jn ?_; (try intro F); (refine bx ?_; intro bk); first | refine ⟨_, EndsA, QFPxC3, ?_⟩ | refine fin ?_) | (apply RD_W; rfl; intro bk))
    exact ⟨⟨2, a, b⟩, by dsimp only; omega, ⟨by dsimp only; omega, hij⟩, SFA, SOA⟩
  ·have n3 : decide (A2 <= t) = false := decide_eq_false h6
   rw [show ZaS t (a, b) (A2, false) = (a, b) from if_neg (fun hh => h6 hh.1)] at hij
   repeat (first | refine und ?_ | (apply RL_pu; rfl; exact Zkf) | (apply RD_Q; rfl; rfl; decide +kernel; rfl; rfl; exact QyPxC3) | refine walk1 ?_ | (refine jn ?_; (try intro F); (first | (refine bx ?_; intro bk) | (refine stA ?_) | (apply Zae; first | exact Zkf | exact PuA)); first | refine ⟨_, EndsA, QFPxC3, ?_⟩ | refine fin ?_) | (apply RD_W; rfl; intro bk))
   exact ⟨⟨2, a, b⟩, by dsimp only; omega, ⟨by dsimp only; omega, hij⟩, SFA, SOA⟩
 ·change (a, b) = r2 at hij
  subst hij
  repeat (first | refine und ?_ | (apply RL_pu; rfl; exact Zi1) | (apply RD_Q; rfl; rfl; decide +kernel; rfl; rfl; exact QyPxC0) | refine walk1 ?_ | (refine jn ?_; (try intro F); (first | (refine bx ?_; intro bk) | (refine stA ?_) | (apply Zae; first | exact Zi1 | exact PuA)); first | refine ⟨_, EndsA, QFPxC0, ?_⟩ | refine fin ?_) | (apply RD_W; rfl; intro bk))
  exact ⟨⟨k + 1, y + 1, a, b⟩, by dsimp only; omega, ⟨by dsimp only; omega, by dsimp only; omega, fun hh => absurd hh hd, fun _ => by rw [show 5 - (k + 1) = 4 - k by omega]; exact hi2⟩, SFA, SOA⟩
end Go.Proofs.YtdlmhmmhdbbliaaGreatDoor
namespace Go.Proofs.YtdlmhmmhdbbliaaGreatDoor
open Go Go.RowKit Go.Wk
instance : EqE Tryz.prog 45 Zde Zde.enc where
 h r s w := by
  unfold Zde.enc
  simp [go_sem, Zdm]
  rcases r with ⟨_, _, _⟩
  rcases s with ⟨_, _, _⟩
  simp only [ZlM, Result.ok.injEq, and_true]
  rw [Bool.eq_iff_iff]
  simp [and_assoc]
 g := by kernel_rfl
theorem Zq8 {a : Zai} (h : accD a = none) : Zcp a = none := by
 unfold accD at h
 simp only [Option.or_eq_none_iff] at h
 exact h.2.2.2.1
theorem Zfd {s : Zai} : ∀ (l : List ZaY) (i : Nat), ZaO s l i = none -> ∀ (j : Nat) (z : ZaY), l[j]? = some z -> Zbn z.name s.zones 0 = some (i + j)
 | [], _, _, j, z, h => by simp at h
 | x :: l, i, h, j, z, hz => by
  rw [ZaO] at h
  by_cases h1 : Zgt x.name = false
  ·rw [if_pos h1] at h; cases h
  rw [if_neg h1] at h
  by_cases h2 : Zbn x.name s.zones 0 ≠ some i
  ·rw [if_pos h2] at h; cases h
  rw [if_neg h2] at h
  rcases j with _ | j
  ·simp only [List.getElem?_cons_zero, Option.some.injEq] at hz
   subst hz
   exact Decidable.not_not.1 h2
  ·simp only [List.getElem?_cons_succ] at hz
   rw [Zfd l (i + 1) h j z hz, Option.some.injEq]
   omega
theorem ZpX {a : Zai} (h : accD a = none) {i : Nat} {z : ZaY} (hi : a.zones[i]? = some z) : Zkj a z.name = (((i : Nat) : Int), 0) := by
 have hl := Zq8 h
 unfold Zcp at hl
 rw [Option.or_eq_none_iff] at hl
 have hf := Zfd _ _ hl.1 i z hi
 unfold Zkj
 rw [h]
 dsimp only
 rw [Za7, hf]
 dsimp only
 rw [Nat.zero_add]
theorem mn23 (d : DD23) : MnOk (Zbx d) := Zxt (ZjG d) (Zco d)
theorem Zyz (d : DD23) : (Zbx d).zones.length + (Zbx d).links.length <= 12 := by
 have h1 := Zh4 d
 have h2 := ZlX d
 obtain ⟨z1, z3⟩ := ZeL d.zones
 omega
end Go.Proofs.YtdlmhmmhdbbliaaGreatDoor
