/- Parts of the proof. -/
import Derived.Test.YtbjomhdhkpgbaaaGreatDoorY23
import Derived.Test.YtbjomhdhkpgbaaaGreatDoorY21
import Derived.Test.YtbjomhdhkpgbaaaGreatDoorY16
import Derived.Test.YtbjomhdhkpgbaaaGreatDoorY22
import Derived.Test.YtbjomhdhkpgbaaaGreatDoorY15
import Derived.Test.YtbjomhdhkpgbaaaGreatDoorY13
set_option maxHeartbeats 4000000
set_option linter.unusedVariables false
set_option linter.unusedSimpArgs false
namespace Go.Proofs.YtbjomhdhkpgbaaaGreatDoor
open Go Go.RowKit Go.Wk
attribute [local irreducible] W RL Does Zap Zak retQ Calls Pu Stp RD Qy Ay Zal dig ZgV
def sR : ByteArray := ⟨#[82]⟩
def Zdy (e : E23) (first : Bool) : Int := if first = true /\ e.kind % 3 = 2 then 0 else e.kind % 3
def ZeI (e : E23) (first : Bool) : Int := if Zdy e first = 1 then 1800 * (1 + e.set % 4) else 0
def Zif (e : E23) (first : Bool) (sets : Int) : ByteArray := if Zdy e first = 2 then sR ++ dig (e.set % sets) else ByteArray.empty
def Zuj (e : E23) : DDay := if e.day >= 200 then ⟨3, e.day % 7, 8⟩ else ⟨1, 0, 1 + e.day % 20⟩
def Zl0 (e : E23) (year : Int) (fen : Bool) : DUntil := if fen = true then ⟨true, year, 1, Zuj e, ⟨900 * (24 + e.at_.tmod 24), e.base % 3⟩⟩ else ⟨false, 0, 0, ⟨0, 0, 0⟩, ⟨0, 0⟩⟩
def Zk8 (e : E23) (first : Bool) (sets year : Int) (fen : Bool) : DEra := ⟨900 * e.off.tmod 48, Zdy e first, ZeI e first, Zif e first sets, ZgV e.format, Zl0 e year fen⟩
theorem Zf0 (a b : Int) (hb : 0 < b) : -b < a.tmod b /\ a.tmod b < b := ⟨Int.lt_tmod_of_pos a hb, Int.tmod_lt_of_pos a hb⟩
theorem ZhO (i : Int) (h0 : 0 <= i) (h1 : i < 10) : (dig i).size = 1 := by
 unfold dig
 rw [ByteArray.size_extract]
 have : Zm1.size = 36 := rfl
 omega
theorem ZbO {G G' : Prop} (k : G') (h : Hold G' -> G := by intro k9; (first | refine walk ?_ | (refine jn ?_; (try intro F); (first | (refine stA ?_) | (apply Zag; exact PuA)); refine fin ?_)); exact k9.out) : G := h ⟨k⟩
theorem Zcv {G : Prop} (h : G := by (first | (apply Zeu; rfl; rfl; omega) | (apply Pu_rem (kk := .i8); rfl; rfl; decide))) : G := h
theorem Zfm {G : Prop} (h : G := by first | (apply Qy_y; rfl; exact Zcv) | exact QyA) : G := h
theorem Zfn {G : Prop} (h : G := by repeat (first | exact QF.nil | (apply QF.mk; rfl; rfl; decide +kernel; exact Zfm))) : G := h
theorem Zky {G : Prop} (h : G := by (first | (apply Zeu; rfl; rfl; omega) | (apply Zvg; rfl; rfl; omega))) : G := h
theorem Zkx {G : Prop} (h : G := by (apply Ze4; rfl; rfl; (rw [ZhO _ (by omega) (by omega)]; decide))) : G := h
set_option maxHeartbeats 8000000 in
theorem ZrX (e : E23) (he : e.ok) (first : Bool) (sets year : Int) (fen : Bool) (hs0 : 0 < sets) (hs1 : sets <= 10) (w : World) :
  Does Tryz.prog 26 [.agg e.enc.toArray, .bool first, .int .i64 sets, .int .i64 year, .bool fen] w (fun v O => v = .agg (Zk8 e first sets year fen).enc.toArray /\ O = []) := by
 obtain ⟨k1, k2, k3, k4, k5, k6, k7, k8⟩ := he
 rw [Zj4] at k1 k2 k3 k4 k5 k6
 rw [Zx1] at k7 k8
 have t1 := Zf0 e.off 48 (by decide)
 have t2 := Zf0 e.at_ 24 (by decide)
 have m1 := Int.emod_nonneg e.set (b := sets) (by omega)
 have m2 := Int.emod_lt_of_pos e.set (b := sets) hs0
 show Does _ _ [.agg #[.int .u8 e.kind, .int .u8 e.set, .int .u8 e.format, .int .u8 e.years, .int .u8 e.day, .int .u8 e.base, .int .i8 e.off, .int .i8 e.at_], .bool first, .int .i64 sets, .int .i64 year, .bool fen] w _
 refine Zaa Tryz.func26 rfl rfl rfl rfl ?_
 repeat (first | (apply RL_pu; rfl; exact Zcv) | (apply RD_Q; rfl; rfl; decide +kernel; rfl; rfl; exact Zfm) | refine walk1 ?_ | (refine jg ?_; (try intro F); (first | (refine Zad (fun w' _ => Zk6 e.format k3.1 w') ?_) | (refine bx ?_; intro bk) | (refine stA ?_)); first | refine ⟨_, EndsA, Zfn, ?_⟩ | refine fin ?_) | (refine jn ?_; (try intro F); (first | (refine bx ?_; intro bk) | (refine stA ?_) | (apply Zag; first | exact Zcv | exact PuA)); first | refine ⟨_, EndsA, Zfn, ?_⟩ | refine fin ?_) | (apply RD_W; rfl; intro bk))
 rename_i b5 b10 _
 generalize bk = b11
 refine Zo9 (fun fr' O' => Sub [(30, .bool (decide (first = true /\ e.kind % 3 = 2))), (2, .int .i64 sets), (3, .int .i64 year), (4, .bool fen), (5, .pointer (some ⟨b5, 0, none⟩)), (10, .pointer (some ⟨b10, 0, none⟩)), (11, .pointer (some ⟨b11, 0, none⟩))] fr' /\ SubO [.blk b11 [.int .i64 (900 * e.off.tmod 48), .int .i64 (e.kind % 3), .int .i64 0, .string ByteArray.empty, .string (ZgV e.format), .bool false, .int .i64 0, .int .i64 0, .int .i64 0, .int .i64 0, .int .i64 0, .int .i64 0, .int .i64 0] 54, .blk b10 [.int .i64 0, .int .i64 0, .int .i64 0, .string ByteArray.empty, .string ByteArray.empty, .bool false, .int .i64 0, .int .i64 0, .int .i64 0, .int .i64 0, .int .i64 0, .int .i64 0, .int .i64 0] 54, .blk b5 [.int .u8 e.kind, .int .u8 e.set, .int .u8 e.format, .int .u8 e.years, .int .u8 e.day, .int .u8 e.base, .int .i8 e.off, .int .i8 e.at_] 89] O') ?_ ?_
 ·refine Zcf 26 rfl (fun h => ?_) (fun h => ?_)
  ·repeat (first | refine ZbO ?_ | (refine jn ?_; (try intro F); (refine bx ?_; intro bk); refine fin ?_) | (apply RD_W; rfl; intro bk))
   rw [show decide (first = true /\ e.kind % 3 = 2) = decide (e.kind % 3 = 2) from decide_eq_decide.2 (by simp [h])]
   exact ⟨SFA, SOA⟩
  ·repeat (first | refine ZbO ?_ | (refine jn ?_; (try intro F); (refine bx ?_; intro bk); refine fin ?_) | (apply RD_W; rfl; intro bk))
   rw [decide_eq_false (by simp [h])]
   exact ⟨SFA, SOA⟩
 rintro fr' O' ⟨hf, hO⟩
 apply thenQ_n
 refine Zcu hf hO ?_
 clear hf hO fr' O'
 refine Zcm (fun fr' O' => Sub [(2, .int .i64 sets), (3, .int .i64 year), (4, .bool fen), (5, .pointer (some ⟨b5, 0, none⟩)), (10, .pointer (some ⟨b10, 0, none⟩)), (11, .pointer (some ⟨b11, 0, none⟩))] fr' /\ SubO [.blk b11 [.int .i64 (900 * e.off.tmod 48), .int .i64 (Zdy e first), .int .i64 0, .string ByteArray.empty, .string (ZgV e.format), .bool false, .int .i64 0, .int .i64 0, .int .i64 0, .int .i64 0, .int .i64 0, .int .i64 0, .int .i64 0] 54, .blk b10 [.int .i64 0, .int .i64 0, .int .i64 0, .string ByteArray.empty, .string ByteArray.empty, .bool false, .int .i64 0, .int .i64 0, .int .i64 0, .int .i64 0, .int .i64 0, .int .i64 0, .int .i64 0] 54, .blk b5 [.int .u8 e.kind, .int .u8 e.set, .int .u8 e.format, .int .u8 e.years, .int .u8 e.day, .int .u8 e.base, .int .i8 e.off, .int .i8 e.at_] 89] O') ?_ ?_
 ·refine Zah rfl (fun h => ?_) (fun h => ?_)
  ·rw [show Zdy e first = 0 from if_pos (of_decide_eq_true h)]
   repeat (first | refine ZbO ?_ | (refine jn ?_; (try intro F); (refine bx ?_; intro bk); refine fin ?_) | (apply RD_W; rfl; intro bk))
   exact ⟨rfl, SFA, SOA⟩
  ·rw [show Zdy e first = e.kind % 3 from if_neg (of_decide_eq_false h)]
   repeat (first | refine ZbO ?_ | (refine jn ?_; (try intro F); (refine bx ?_; intro bk); refine fin ?_) | (apply RD_W; rfl; intro bk))
   exact ⟨rfl, SFA, SOA⟩
 rintro fr' O' ⟨hf, hO⟩
 apply thenQ_n
 refine Zcu hf hO ?_
 clear hf hO fr' O'
 repeat (first | refine ZlS ?_ | (refine jn ?_; (try intro F); (first | (refine bx ?_; intro bk) | (refine stA ?_) | (apply Zag; exact PuA)); refine fin ?_) | (apply RD_W; rfl; intro bk))
 refine Zcm (fun fr' O' => Sub [(2, .int .i64 sets), (3, .int .i64 year), (4, .bool fen), (5, .pointer (some ⟨b5, 0, none⟩)), (10, .pointer (some ⟨b10, 0, none⟩)), (11, .pointer (some ⟨b11, 0, none⟩))] fr' /\ SubO [.blk b11 [.int .i64 (900 * e.off.tmod 48), .int .i64 (Zdy e first), .int .i64 (ZeI e first), .string (Zif e first sets), .string (ZgV e.format), .bool false, .int .i64 0, .int .i64 0, .int .i64 0, .int .i64 0, .int .i64 0, .int .i64 0, .int .i64 0] 54, .blk b10 [.int .i64 0, .int .i64 0, .int .i64 0, .string ByteArray.empty, .string ByteArray.empty, .bool false, .int .i64 0, .int .i64 0, .int .i64 0, .int .i64 0, .int .i64 0, .int .i64 0, .int .i64 0] 54, .blk b5 [.int .u8 e.kind, .int .u8 e.set, .int .u8 e.format, .int .u8 e.years, .int .u8 e.day, .int .u8 e.base, .int .i8 e.off, .int .i8 e.at_] 89] O') ?_ ?_
 ·repeat (first | refine ZbO ?_ | (refine jn ?_; (try intro F); (refine bx ?_; intro bk); refine fin ?_) | (apply RD_W; rfl; intro bk))
  refine Zah rfl (fun h => ?_) (fun h => ?_)
  ·have hk := of_decide_eq_true h
   rw [show ZeI e first = 1800 * (1 + e.set % 4) from if_pos hk, show Zif e first sets = ByteArray.empty from if_neg (by rw [hk]; decide)]
   repeat (first | (apply RL_pu; rfl; exact Zky) | (apply RD_Q; rfl; rfl; decide +kernel; rfl; rfl; exact QyMadeE231) | refine walk1 ?_ | (refine jn ?_; (try intro F); (first | (refine bx ?_; intro bk) | (refine stA ?_) | (apply Zag; first | exact Zky | exact PuA)); first | refine ⟨_, EndsA, QFMadeE231, ?_⟩ | refine fin ?_) | (apply RD_W; rfl; intro bk))
   exact ⟨rfl, SFA, SOA⟩
  ·have hk := of_decide_eq_false h
   rw [show ZeI e first = 0 from if_neg hk]
   repeat (first | refine ZbO ?_ | (refine jn ?_; (try intro F); (refine bx ?_; intro bk); refine fin ?_) | (apply RD_W; rfl; intro bk))
   refine Zah rfl (fun h2 => ?_) (fun h2 => ?_)
   ·rw [show Zif e first sets = sR ++ dig (e.set % sets) from if_pos (of_decide_eq_true h2)]
    repeat (first | (apply RL_pu; rfl; exact Zkx) | (apply RD_Q; rfl; rfl; decide +kernel; rfl; rfl; exact QyMadeE232) | refine walk1 ?_ | (refine jg ?_; (try intro F); (first | (refine Zad (fun w' _ => Zdh (e.set % sets) m1 (by omega) w') ?_) | (refine bx ?_; intro bk) | (refine stA ?_)); first | refine ⟨_, EndsA, QFMadeE232, ?_⟩ | refine fin ?_) | (refine jn ?_; (try intro F); (first | (refine bx ?_; intro bk) | (refine stA ?_) | (apply Zag; first | exact Zkx | exact PuA)); first | refine ⟨_, EndsA, QFMadeE232, ?_⟩ | refine fin ?_) | (apply RD_W; rfl; intro bk))
    exact ⟨rfl, SFA, SOA⟩
   ·rw [show Zif e first sets = ByteArray.empty from if_neg (of_decide_eq_false h2)]
    repeat (first | refine ZbO ?_ | (refine jn ?_; (try intro F); (refine bx ?_; intro bk); refine fin ?_) | (apply RD_W; rfl; intro bk))
    exact ⟨rfl, SFA, SOA⟩
 rintro fr' O' ⟨hf, hO⟩
 apply thenQ_n
 refine Zcu hf hO ?_
 clear hf hO fr' O'
 have hE : ∀ u : DUntil, Zl0 e year fen = u -> (Zk8 e first sets year fen).enc = [.int .i64 (900 * e.off.tmod 48), .int .i64 (Zdy e first), .int .i64 (ZeI e first), .string (Zif e first sets), .string (ZgV e.format), .bool u.is, .int .i64 u.year, .int .i64 u.month, .int .i64 u.day.kind, .int .i64 u.day.week, .int .i64 u.day.day, .int .i64 u.at_.sec, .int .i64 u.at_.base] := fun u hu => by rw [<- hu]; rfl
 generalize Zdy e first = K at *
 generalize ZeI e first = SV at *
 generalize Zif e first sets = ST at *
 repeat (first | refine ZbO ?_ | (refine jn ?_; (try intro F); (refine bx ?_; intro bk); refine fin ?_) | (apply RD_W; rfl; intro bk))
 refine Zah rfl (fun h => ?_) (fun h => ?_)
 ·repeat (first | refine walk ?_ | (refine jg ?_; (try intro F); (first | (refine Zad (fun w' _ => ZlV year 1 (1 + e.day % 20) w') ?_) | (refine bx ?_; intro bk) | (refine stA ?_)); refine fin ?_) | (refine jn ?_; (try intro F); (first | (refine bx ?_; intro bk) | (refine stA ?_) | (apply Zag; exact PuA)); refine fin ?_) | (apply RD_W; rfl; intro bk))
  refine Zah rfl (fun h2 => ?_) (fun h2 => ?_)
  ·rw [hE ⟨true, year, 1, ⟨3, e.day % 7, 8⟩, ⟨900 * (24 + e.at_.tmod 24), e.base % 3⟩⟩ (by rw [Zl0, if_pos h, Zuj, if_pos (of_decide_eq_true h2)])]
   repeat (first | (apply RL_pu; rfl; exact Zcv) | (apply RD_Q; rfl; rfl; decide +kernel; rfl; rfl; exact Zfm) | refine walk1 ?_ | (refine jn ?_; (try intro F); (first | (refine bx ?_; intro bk) | (refine stA ?_) | (apply Zag; first | exact Zcv | exact PuA)); first | refine ⟨_, EndsA, Zfn, ?_⟩ | refine fin ?_) | (apply RD_W; rfl; intro bk))
   exact ret_1 _ [] (.cellB rfl (by repeat' constructor) rfl rfl) .nil ⟨rfl, rfl⟩
  ·rw [hE ⟨true, year, 1, ⟨1, 0, 1 + e.day % 20⟩, ⟨900 * (24 + e.at_.tmod 24), e.base % 3⟩⟩ (by rw [Zl0, if_pos h, Zuj, if_neg (of_decide_eq_false h2)])]
   repeat (first | (apply RL_pu; rfl; exact Zcv) | (apply RD_Q; rfl; rfl; decide +kernel; rfl; rfl; exact Zfm) | refine walk1 ?_ | (refine jn ?_; (try intro F); (first | (refine bx ?_; intro bk) | (refine stA ?_) | (apply Zag; first | exact Zcv | exact PuA)); first | refine ⟨_, EndsA, Zfn, ?_⟩ | refine fin ?_) | (apply RD_W; rfl; intro bk))
   exact ret_1 _ [] (.cellB rfl (by repeat' constructor) rfl rfl) .nil ⟨rfl, rfl⟩
 ·rw [hE ⟨false, 0, 0, ⟨0, 0, 0⟩, ⟨0, 0⟩⟩ (by rw [Zl0, if_neg (by rw [h]; decide)])]
  repeat (first | refine ZbO ?_ | (refine jn ?_; (try intro F); (refine bx ?_; intro bk); refine fin ?_) | (apply RD_W; rfl; intro bk))
  exact ret_1 _ [] (.cellB rfl (by repeat' constructor) rfl rfl) .nil ⟨rfl, rfl⟩
end Go.Proofs.YtbjomhdhkpgbaaaGreatDoor
namespace Go.Wk
open Go Go.RowKit
theorem ZzQ {P : Program} {n : Nat} {wr : World} {fr : Fr} {O : List It} {ty : TypeId} {x y : Operand} {ts : Array TypeId} {k : IntKind} {i j : Int} (hx : ev fr x = some (.int k i)) (hy : ev fr y = some (.int k j)) : Pu P n wr fr O (.call ⟨.builtin .max, #[x, y], ts⟩) ty (.int k (if i < j then j else i)) :=
 fun a w hs _ _ _ _ => by simp [execOp, resolve, invoke, builtin, Builtin.max_, Builtin.max2, hs.sim.ev hx, hs.sim.ev hy]
theorem RdSl.take {α : Type} {w : World} {A : Option Addr} {c : Nat} {enc : α -> List Value} {sz : Nat} {xs : List α} (h : RdSl w A c enc sz xs) (k : Nat) : RdSl w A c enc sz (xs.take k) :=
 ⟨by rw [List.length_take]; exact Nat.le_trans (Nat.min_le_right _ _) h.le, h.cap, fun j x hj => h.rd j x (by
  rw [List.getElem?_take] at hj
  split at hj
  ·exact hj
  ·cases hj)⟩
theorem E23.len (x : E23) : x.enc.length = 8 := rfl
end Go.Wk
namespace Go.Proofs.YtbjomhdhkpgbaaaGreatDoor
open Go Go.RowKit Go.Wk
structure DD23 where
 sets : List (List Int)
 zones : List (List E23)
 links : List Int
structure RdLL {α : Type} (w : World) (A : Option Addr) (c : Nat) (enc : α -> List Value) (sz : Nat) (ll : List (List α)) : Prop where
 le : ll.length <= c
 cap : c <= maxLen
 rd : ∀ k l, ll[k]? = some l -> A ≠ none /\ ∃ B cb, RdSl w B cb enc sz l /\ Zam w ((adr A).add (k * 1)) [.slice B l.length cb]
theorem RdLL.up {α : Type} {w w' : World} {A : Option Addr} {c : Nat} {enc : α -> List Value} {sz : Nat} {ll : List (List α)} (h : RdLL w A c enc sz ll) (hb : Bel w.heap.size w w') : RdLL w' A c enc sz ll :=
 ⟨h.le, h.cap, fun k l hk => by
  obtain ⟨h1, B, cb, h2, h3⟩ := h.rd k l hk
  exact ⟨h1, B, cb, h2.up hb, h3.up hb (Nat.le_refl _)⟩⟩
theorem RdLL.take {α : Type} {w : World} {A : Option Addr} {c : Nat} {enc : α -> List Value} {sz : Nat} {ll : List (List α)} (h : RdLL w A c enc sz ll) (k : Nat) : RdLL w A c enc sz (ll.take k) :=
 ⟨by rw [List.length_take]; exact Nat.le_trans (Nat.min_le_right _ _) h.le, h.cap, fun j x hj => h.rd j x (by
  rw [List.getElem?_take] at hj
  split at hj
  ·exact hj
  ·cases hj)⟩
def d23V (As Az Al : Option Addr) (cs cz cl : Nat) (d : DD23) : Value := .agg #[.slice As d.sets.length cs, .slice Az d.zones.length cz, .slice Al d.links.length cl]
def e23Z : E23 := ⟨0, 0, 0, 0, 0, 0, 0, 0⟩
def sZ : ByteArray := ⟨#[65, 114, 101, 97, 47, 90]⟩
def sL : ByteArray := ⟨#[79, 108, 100, 47, 76]⟩
def DD23.ns (d : DD23) : Nat := max 1 (min d.sets.length 3)
def ZaZ (sets : List (List Int)) : Nat -> List DRule
 | 0 => []
 | k + 1 => ZaZ sets k ++ ZbR (sets.getD k []) (sR ++ dig k)
def zl23 (zones : List (List E23)) : List (List E23) := if zones.length = 0 then [[]] else zones.take 3
def el23 (l : List E23) : List E23 := if l.length = 0 then [e23Z] else l.take 4
def ZaM (sets : Int) (l : List E23) : Nat -> List DEra × Int
 | 0 => ([], 1904)
 | k + 1 => ((ZaM sets l k).1 ++ [Zk8 (l.getD k e23Z) (decide ((k : Int) = 0)) sets ((ZaM sets l k).2 + (1 + (l.getD k e23Z).years % 30)) (decide ((k : Int) < (l.length : Int) - 1))], (ZaM sets l k).2 + (1 + (l.getD k e23Z).years % 30))
def ZhU (sets : Int) (i : Nat) (l : List E23) : ZaX := ⟨sZ ++ dig i, (ZaM sets (el23 l) (el23 l).length).1⟩
def ZaY (sets : Int) (zs : List (List E23)) : Nat -> List ZaX
 | 0 => []
 | i + 1 => ZaY sets zs i ++ [ZhU sets i (zs.getD i [])]
def Zhq (nz : Nat) (n : Int) (i : Nat) : DLink := ⟨if n % ((nz : Int) + i) >= nz then sL ++ dig (n % ((nz : Int) + i) - nz) else sZ ++ dig (n % (nz : Int)), sL ++ dig i⟩
def ZbK (nz : Nat) (links : List Int) : Nat -> List DLink
 | 0 => []
 | i + 1 => ZbK nz links i ++ [Zhq nz (links.getD i 0) i]
def Zae (d : DD23) : Zab := ⟨ZaZ d.sets d.ns, ZaY d.ns (zl23 d.zones) (zl23 d.zones).length, ZbK (zl23 d.zones).length (d.links.take 4) (d.links.take 4).length, []⟩
theorem ZjZ (l : List Int) (x : ByteArray) : (ZbR l x).length <= 5 := by
 obtain ⟨q1, q2, q3⟩ := Zis l
 obtain ⟨q4, q5, q6⟩ := ZmB l (m1 l).1 (m1 l).2 q1 q2 q3
 rw [ZbR, List.length_map, m3, List.length_append, Zdb]
 omega
theorem Zda (sets : List (List Int)) : ∀ k, (ZaZ sets k).length <= 5 * k
 | 0 => Nat.le_refl _
 | k + 1 => by
  have := Zda sets k
  have h2 := ZjZ (sets.getD k []) (sR ++ dig k)
  rw [ZaZ, List.length_append]
  omega
theorem Ze6 (zs : List (List E23)) : 1 <= (zl23 zs).length /\ (zl23 zs).length <= 3 := by
 unfold zl23
 split
 ·simp
 ·rw [List.length_take]; omega
theorem Zqx (l : List E23) : 1 <= (el23 l).length /\ (el23 l).length <= 4 := by
 unfold el23
 split
 ·simp
 ·rw [List.length_take]; omega
theorem Zfg (sets : Int) (l : List E23) : ∀ k, (ZaM sets l k).1.length = k
 | 0 => rfl
 | k + 1 => by simp [ZaM, Zfg sets l k]
theorem ZiU (sets : Int) (l : List E23) (hl : ∀ e ∈ l, e.ok) : ∀ k : Nat, 1904 <= (ZaM sets l k).2 /\ (ZaM sets l k).2 <= 1904 + 30 * k
 | 0 => by simp [ZaM]
 | k + 1 => by
  obtain ⟨h1, h2⟩ := ZiU sets l hl k
  have h3 := Int.emod_nonneg (l.getD k e23Z).years (b := 30) (by decide)
  have h4 := Int.emod_lt_of_pos (l.getD k e23Z).years (b := 30) (by decide)
  simp only [ZaM]
  omega
theorem Zcn (sets : Int) (zs : List (List E23)) : ∀ k, (ZaY sets zs k).length = k
 | 0 => rfl
 | k + 1 => by simp [ZaY, Zcn sets zs k]
theorem Zd6 (nz : Nat) (links : List Int) : ∀ k, (ZbK nz links k).length = k
 | 0 => rfl
 | k + 1 => by simp [ZbK, Zd6 nz links k]
def sN (j : Nat) : ByteArray := sR ++ dig (j : Int)
theorem ZA0 : ∀ i j : Fin 3, i ≠ j -> sN i.val ≠ sN j.val := by decide +kernel
theorem ZAa : ∀ i : Fin 3, setB (sN i.val) = true := by decide +kernel
theorem ZcW (sets : List (List Int)) : ∀ m, ∀ r ∈ ZaZ sets m, ∃ j, j < m /\ r.name = sN j
 | 0, r, h => by cases h
 | m + 1, r, h => by
  rw [ZaZ, List.mem_append] at h
  rcases h with h | h
  ·obtain ⟨j, h1, h2⟩ := ZcW sets m r h
   exact ⟨j, by omega, h2⟩
  ·exact ⟨m, by omega, ZeQ _ _ r h⟩
theorem ZgL (sets : List (List Int)) : ∀ m, m <= 3 -> ∀ j, j < 3 -> ofB (ZaZ sets m) (sN j) = if j < m then ZbR (sets.getD j []) (sN j) else []
 | 0, _, j, _ => rfl
 | m + 1, hm, j, hj => by
  rw [ZaZ, Zy2, ZgL sets m (by omega) j hj]
  by_cases h : j = m
  ·subst h
   rw [if_neg (by omega), if_pos (by omega), List.nil_append]
   exact Zy3 (ZeQ _ _)
  ·have hno : ofB (ZbR (sets.getD m []) (sR ++ dig (m : Int))) (sN j) = [] := ZAm (y := sN m) (ZeQ _ _) (ZA0 ⟨m, by omega⟩ ⟨j, hj⟩ fun e => h (Fin.mk.inj e).symm)
   rw [hno, List.append_nil]
   by_cases h2 : j < m
   ·rw [if_pos h2, if_pos (by omega)]
   ·rw [if_neg h2, if_neg (by omega)]
theorem Zc9 (sets : List (List Int)) (m : Nat) (hm : m <= 3) (j : Nat) (hj : j < m) : Zcg (ofB (ZaZ sets m) (sN j)) /\ (ofB (ZaZ sets m) (sN j)).length <= 5 := by
 rw [ZgL sets m hm j (by omega), if_pos hj]
 exact ⟨ZrC _ _, ZrD _ _⟩
theorem Zmd (sets : List (List Int)) (m : Nat) (hm : m <= 3) : Zdv (ZaZ sets m) (ZaP (ZaZ sets m) []) = none := by
 refine ZeH _ fun x hx => ?_
 rcases Zd3 _ _ x hx with h | ⟨r, h1, h2⟩
 ·cases h
 ·obtain ⟨j, h3, h4⟩ := ZcW sets m r h1
  rw [<- h2, h4]
  exact (Zc9 sets m hm j h3).1.fault (ZAa ⟨j, by omega⟩)
theorem Zt5 (n : Int) : ZgV n ∈ fmtU := by
 have h0 := Int.emod_nonneg n (b := 6) (by decide)
 have h1 := Int.emod_lt_of_pos n (b := 6) (by decide)
 unfold ZgV
 generalize n % 6 = x at *
 have hc : x = 0 \/ x = 1 \/ x = 2 \/ x = 3 \/ x = 4 \/ x = 5 := by omega
 rcases hc with rfl | rfl | rfl | rfl | rfl | rfl
 ·exact .head _
 ·exact .tail _ (.head _)
 ·exact .tail _ (.tail _ (.tail _ (.tail _ (.tail _ (.tail _ (.head _))))))
 ·exact .tail _ (.tail _ (.tail _ (.head _)))
 ·exact .tail _ (.tail _ (.tail _ (.tail _ (.head _))))
 ·exact .tail _ (.tail _ (.tail _ (.tail _ (.tail _ (.tail _ (.tail _ (.head _)))))))
theorem Zxd (rs : List DRule) (ns : Nat) (hns : 1 <= ns) (e : E23) (k : Nat) (year : Int) (fin_ : Bool) (hs : ∀ j, j < ns -> Zcg (ofB rs (sN j)) /\ (ofB rs (sN j)).length <= 5) :
  ZbH rs (Zk8 e (decide ((k : Int) = 0)) ns year fin_) (decide (k = 0)) := by
 have o := Zf0 e.off 48 (by decide)
 have hf := Zt5 e.format
 have hk0 := Int.emod_nonneg e.kind (b := 3) (by decide)
 have hk1 := Int.emod_lt_of_pos e.kind (b := 3) (by decide)
 have hs0 := Int.emod_nonneg e.set (b := 4) (by decide)
 have hs1 := Int.emod_lt_of_pos e.set (b := 4) (by decide)
 have ht0 := Int.emod_nonneg e.set (b := (ns : Int)) (by omega)
 have ht1 := Int.emod_lt_of_pos e.set (b := (ns : Int)) (by omega)
 have hkd : Zdy e (decide ((k : Int) = 0)) = 0 \/ Zdy e (decide ((k : Int) = 0)) = 1 \/ (Zdy e (decide ((k : Int) = 0)) = 2 /\ k ≠ 0) := by
  unfold Zdy
  split
  ·exact .inl rfl
  ·rename_i hh
   have hc : e.kind % 3 = 0 \/ e.kind % 3 = 1 \/ e.kind % 3 = 2 := by omega
   rcases hc with hc | hc | hc
   ·exact .inl hc
   ·exact .inr (.inl hc)
   ·refine .inr (.inr ⟨hc, fun hk => hh ⟨?_, hc⟩⟩)
    subst hk
    rfl
 unfold ZbH Zk8
 dsimp only
 rcases hkd with h | h | ⟨h, hk⟩
 ·refine .inl ⟨h, ?_, ?_, by omega, by omega, hf⟩
  ·unfold ZeI; rw [if_neg (by omega)]
  ·unfold Zif; rw [if_neg (by omega)]
 ·refine .inr (.inl ⟨h, ?_, ?_, by omega, by omega, hf⟩)
  ·unfold ZeI; rw [if_pos h]; omega
  ·unfold Zif; rw [if_neg (by omega)]
 ·have he : Zif e (decide ((k : Int) = 0)) ns = sN (e.set % (ns : Int)).toNat := by
   unfold Zif sN
   rw [if_pos h, Int.toNat_of_nonneg ht0]
  obtain ⟨h1, h2⟩ := hs (e.set % (ns : Int)).toNat (by omega)
  refine .inr (.inr ⟨h, decide_eq_false hk, ?_, by omega, by omega, hf, ?_, ?_⟩)
  ·unfold ZeI; rw [if_neg (by omega)]
  ·rw [he]; exact h1
  ·rw [he]; exact h2
theorem Zfh (ns : Int) (l : List E23) : ∀ (c k : Nat) (e : DEra), (ZaM ns l c).1[k]? = some e -> k < c /\ e = Zk8 (l.getD k e23Z) (decide ((k : Int) = 0)) ns (ZaM ns l (k + 1)).2 (decide ((k : Int) < (l.length : Int) - 1))
 | 0, k, e, h => by simp [ZaM] at h
 | c + 1, k, e, h => by
  have hl := Zfg ns l c
  simp only [ZaM] at h
  rcases Nat.lt_trichotomy k c with hk | hk | hk
  ·rw [List.getElem?_append_left (by omega)] at h
   obtain ⟨h1, h2⟩ := Zfh ns l c k e h
   exact ⟨by omega, h2⟩
  ·rw [List.getElem?_append_right (by omega), hl, hk, Nat.sub_self] at h
   simp only [List.getElem?_cons_zero, Option.some.injEq] at h
   subst h hk
   exact ⟨by omega, rfl⟩
  ·rw [List.getElem?_eq_none (by simp; omega)] at h
   cases h
theorem ZiT (ns : Int) (l : List E23) : ∀ k : Nat, 1904 + k <= (ZaM ns l k).2 /\ (ZaM ns l k).2 <= 1904 + 30 * k /\ (ZaM ns l k).2 < (ZaM ns l (k + 1)).2
 | 0 => by
  have h3 := Int.emod_nonneg (l.getD 0 e23Z).years (b := 30) (by decide)
  simp only [ZaM]
  omega
 | k + 1 => by
  obtain ⟨h1, h2, _⟩ := ZiT ns l k
  have h3 := Int.emod_nonneg (l.getD k e23Z).years (b := 30) (by decide)
  have h4 := Int.emod_lt_of_pos (l.getD k e23Z).years (b := 30) (by decide)
  have h5 := Int.emod_nonneg (l.getD (k + 1) e23Z).years (b := 30) (by decide)
  simp only [ZaM] at h1 h2 ⊢
  omega
theorem Zsm (rs : List DRule) (ns : Nat) (hns : 1 <= ns) (i : Nat) (l : List E23) (hs : ∀ j, j < ns -> Zcg (ofB rs (sN j)) /\ (ofB rs (sN j)).length <= 5) : ∃ Y, ZcN rs (ZhU ns i l).eras Y := by
 have hl := Zqx l
 show ∃ Y, ZcN rs (ZaM ns (el23 l) (el23 l).length).1 Y
 generalize el23 l = m at *
 have hlen := Zfg ns m m.length
 refine ⟨fun k => (ZaM ns m (k + 1)).2 - 1, by omega, fun k e he => ?_, fun k hk => ?_, fun k hk => ?_, fun k e he => ?_⟩
 ·obtain ⟨h1, rfl⟩ := Zfh ns m m.length k e he
  exact Zxd rs ns hns _ k _ _ hs
 ·have := ZiT ns m (k + 1)
  omega
 ·have := ZiT ns m (k + 1)
  show (ZaM ns m (k + 1)).2 - 1 < (ZaM ns m (k + 1 + 1)).2 - 1
  omega
 ·obtain ⟨h1, rfl⟩ := Zfh ns m m.length k e he
  generalize m.getD k e23Z = x at *
  have o := Zf0 x.at_ 24 (by decide)
  have b0 := Int.emod_nonneg x.base (b := 3) (by decide)
  have b1 := Int.emod_lt_of_pos x.base (b := 3) (by decide)
  have d0 := Int.emod_nonneg x.day (b := 20) (by decide)
  have d1 := Int.emod_lt_of_pos x.day (b := 20) (by decide)
  have w0 := Int.emod_nonneg x.day (b := 7) (by decide)
  have w1 := Int.emod_lt_of_pos x.day (b := 7) (by decide)
  show if k + 1 < _ then Zv0 (Zl0 x (ZaM ns m (k + 1)).2 (decide ((k : Int) < (m.length : Int) - 1))) ((ZaM ns m (k + 1)).2 - 1) else Zl0 x (ZaM ns m (k + 1)).2 (decide ((k : Int) < (m.length : Int) - 1)) = Zy6
  rw [hlen]
  by_cases hk : k + 1 < m.length
  ·rw [if_pos hk, decide_eq_true (by omega)]
   unfold Zl0
   rw [if_pos rfl]
   refine .inr ⟨Zuj x, _, _, by rw [show (ZaM ns m (k + 1)).2 - 1 + 1 = (ZaM ns m (k + 1)).2 by omega], ?_, by omega, by omega, by omega, by omega⟩
   unfold Zuj
   split
   ·exact .inr ⟨rfl, ⟨w0, by dsimp only; omega⟩, rfl⟩
   ·exact .inl ⟨rfl, rfl, by dsimp only; omega, by dsimp only; omega⟩
  ·rw [if_neg hk, decide_eq_false (by omega)]
   rfl
theorem ZjD (rs : List DRule) (ns : Nat) (hns : 1 <= ns) (zs : List (List E23)) (hs : ∀ j, j < ns -> Zcg (ofB rs (sN j)) /\ (ofB rs (sN j)).length <= 5) : ∀ i, ∀ z ∈ ZaY ns zs i, ∃ Y, ZcN rs z.eras Y
 | 0, z, h => by cases h
 | i + 1, z, h => by
  rw [ZaY, List.mem_append, List.mem_singleton] at h
  rcases h with h | rfl
  ·exact ZjD rs ns hns zs hs i z h
  ·exact Zsm rs ns hns i _ hs
theorem ns23 (d : DD23) : 1 <= d.ns /\ d.ns <= 3 := by unfold DD23.ns; omega
theorem Zbw (d : DD23) : ∀ z ∈ (Zae d).zones, ∃ Y, ZcN (Zae d).rules z.eras Y :=
 ZjD (ZaZ d.sets d.ns) d.ns (ns23 d).1 (zl23 d.zones) (fun j hj => Zc9 d.sets d.ns (ns23 d).2 j hj) (zl23 d.zones).length
theorem Zol (d : DD23) : ZfL (Zae d) = none := Zmd d.sets d.ns (ns23 d).2
def ZkA : List ByteArray := [⟨#[65, 114, 101, 97, 47, 90, 48]⟩, ⟨#[65, 114, 101, 97, 47, 90, 49]⟩, ⟨#[65, 114, 101, 97, 47, 90, 50]⟩]
def Ziu : List ByteArray := [⟨#[79, 108, 100, 47, 76, 48]⟩, ⟨#[79, 108, 100, 47, 76, 49]⟩, ⟨#[79, 108, 100, 47, 76, 50]⟩, ⟨#[79, 108, 100, 47, 76, 51]⟩]
theorem ZjF : ∀ i : Fin 3, sZ ++ dig ((i.val : Nat) : Int) = ZkA.getD i.val ByteArray.empty := by decide +kernel
theorem Zj1 : ∀ i : Fin 4, sL ++ dig ((i.val : Nat) : Int) = Ziu.getD i.val ByteArray.empty := by decide +kernel
def ZrF (nz c : Nat) : ByteArray := if c < nz then ZkA.getD c ByteArray.empty else Ziu.getD (c - nz) ByteArray.empty
def Zjz (nz : Nat) (c : Nat -> Nat) : Nat -> List DLink
 | 0 => []
 | i + 1 => Zjz nz c i ++ [⟨ZrF nz (c i), Ziu.getD i ByteArray.empty⟩]
def Zrb : Nat -> List ZaX
 | 0 => []
 | i + 1 => Zrb i ++ [⟨ZkA.getD i ByteArray.empty, []⟩]
def ch4 (a b c d : Nat) (i : Nat) : Nat := match i with | 0 => a | 1 => b | 2 => c | _ => d
theorem Zoq : ∀ nz : Fin 4, ∀ nl : Fin 5, ∀ a : Fin 3, ∀ b : Fin 4, ∀ c : Fin 5, ∀ d : Fin 6, a.val < nz.val -> b.val < nz.val + 1 -> c.val < nz.val + 2 -> d.val < nz.val + 3 ->
  ZcI ⟨[], Zrb nz.val, Zjz nz.val (ch4 a.val b.val c.val d.val) nl.val, []⟩ = none := by decide +kernel
theorem Zex (sets : Int) (zs : List (List E23)) : ∀ i, i <= 3 -> (ZaY sets zs i).map Zlp = Zrb i
 | 0, _ => rfl
 | i + 1, h => by
  rw [ZaY, List.map_append, Zex sets zs i (by omega), Zrb, <- ZjF ⟨i, by omega⟩]
  rfl
theorem ZtG (nz : Nat) (h1 : 1 <= nz) (h3 : nz <= 3) (n : Int) (i : Nat) (hi : i < 4) : ∃ c, c < nz + i /\ Zhq nz n i = ⟨ZrF nz c, Ziu.getD i ByteArray.empty⟩ := by
 have a0 := Int.emod_nonneg n (b := (nz : Int) + i) (by omega)
 have a1 := Int.emod_lt_of_pos n (b := (nz : Int) + i) (by omega)
 have b0 := Int.emod_nonneg n (b := (nz : Int)) (by omega)
 have b1 := Int.emod_lt_of_pos n (b := (nz : Int)) (by omega)
 unfold Zhq
 rw [Zj1 ⟨i, hi⟩]
 by_cases h : n % ((nz : Int) + i) >= nz
 ·refine ⟨(n % ((nz : Int) + i)).toNat, by omega, ?_⟩
  rw [if_pos h]
  unfold ZrF
  rw [if_neg (by omega), <- Zj1 ⟨(n % ((nz : Int) + i)).toNat - nz, by omega⟩]
  dsimp only
  rw [show (((n % ((nz : Int) + i)).toNat - nz : Nat) : Int) = n % ((nz : Int) + i) - nz by omega]
 ·refine ⟨(n % (nz : Int)).toNat, by omega, ?_⟩
  rw [if_neg h]
  unfold ZrF
  rw [if_pos (by omega), <- ZjF ⟨(n % (nz : Int)).toNat, by omega⟩]
  dsimp only
  rw [Int.toNat_of_nonneg b0]
theorem ZfO (nz : Nat) (c c' : Nat -> Nat) : ∀ n, (∀ i, i < n -> c i = c' i) -> Zjz nz c n = Zjz nz c' n
 | 0, _ => rfl
 | n + 1, h => by rw [Zjz, Zjz, ZfO nz c c' n fun i hi => h i (by omega), h n (by omega)]
theorem ZfP (nz : Nat) (h1 : 1 <= nz) (h3 : nz <= 3) (L : List Int) : ∀ i : Nat, i <= 4 -> ∃ c : Nat -> Nat, (∀ k, c k < nz + k) /\ ZbK nz L i = Zjz nz c i
 | 0, _ => ⟨fun _ => 0, fun k => by dsimp only; omega, rfl⟩
 | i + 1, h => by
  obtain ⟨c, q1, q2⟩ := ZfP nz h1 h3 L i (by omega)
  obtain ⟨x, q3, q4⟩ := ZtG nz h1 h3 (L.getD i 0) i (by omega)
  refine ⟨fun k => if k = i then x else c k, fun k => ?_, ?_⟩
  ·dsimp only
   split
   ·rename_i e; rw [e]; exact q3
   ·exact q1 k
  ·rw [ZbK, q2, q4, Zjz, ZfO nz (fun k => if k = i then x else c k) c i fun k hk => if_neg (by omega), if_pos rfl]
theorem Zhm (d : DD23) : ZcI (Zae d) = none := by
 obtain ⟨z1, z3⟩ := Ze6 d.zones
 have hl : (d.links.take 4).length <= 4 := by rw [List.length_take]; omega
 obtain ⟨c, q1, q2⟩ := ZfP (zl23 d.zones).length z1 z3 (d.links.take 4) (d.links.take 4).length hl
 rw [Zdf]
 unfold Zae ZeY
 dsimp only
 rw [Zex _ _ _ z3, q2, ZfO _ c (ch4 (c 0) (c 1) (c 2) (c 3)) _ fun i hi => by
  have hc : i = 0 \/ i = 1 \/ i = 2 \/ i = 3 := by omega
  rcases hc with rfl | rfl | rfl | rfl <;> rfl]
 have r0 := q1 0
 have r1 := q1 1
 have r2 := q1 2
 have r3 := q1 3
 exact Zoq ⟨_, by omega⟩ ⟨_, by omega⟩ ⟨c 0, by omega⟩ ⟨c 1, by omega⟩ ⟨c 2, by omega⟩ ⟨c 3, by omega⟩ (by dsimp only; omega) (by dsimp only; omega) (by dsimp only; omega) (by dsimp only; omega)
theorem ZeP (d : DD23) : ZcU (Zae d) = none := by
 have h1 := Zda d.sets d.ns
 have hm := (ns23 d).2
 obtain ⟨z1, z3⟩ := Ze6 d.zones
 have hr : (Zae d).rules.length <= 15 := by
  show (ZaZ d.sets d.ns).length <= 15
  omega
 have hz : (Zae d).zones.length <= 3 := by
  show (ZaY d.ns (zl23 d.zones) (zl23 d.zones).length).length <= 3
  rw [Zcn]; exact z3
 have hk : (Zae d).links.length <= 4 := by
  show (ZbK (zl23 d.zones).length (d.links.take 4) (d.links.take 4).length).length <= 4
  rw [Zd6, List.length_take]; omega
 have hf : (Zae d).zones.findIdx? (fun z => decide (60 < z.eras.length)) = none := by
  rw [List.findIdx?_eq_none_iff]
  intro z hz
  obtain ⟨Y, h⟩ := Zbw d z hz
  have := h.len
  exact decide_eq_false (by omega)
 unfold ZcU
 rw [if_neg (by omega), if_neg (by omega), hf]
 dsimp only
 rw [if_neg (by omega), if_neg (by show ¬ 2000 < ([] : List ByteArray).length; decide)]
theorem ZgT (d : DD23) : accD (Zae d) = none := by
 unfold accD
 rw [ZeP d, Zol d, Zhm d, Zew _ 0 (Zbw d)]
 rfl
structure SmE (e : DEra) : Prop where
 set : e.set.size <= 100
 fmt : e.format.size <= 100
 off : -1000000 <= e.off /\ e.off <= 1000000
 save : -1000000 <= e.save /\ e.save <= 1000000
 kind : -1000000 <= e.kind /\ e.kind <= 1000000
structure Sml (s : Zab) : Prop where
 nr : s.rules.length <= 100
 nz : s.zones.length <= 100
 nl : s.links.length <= 100
 ns : s.shifts.length <= 100
 rs : ∀ r ∈ s.rules, r.name.size <= 100 /\ r.letter.size <= 100 /\ -1000000 <= r.save /\ r.save <= 1000000
 zs : ∀ z ∈ s.zones, z.name.size <= 100 /\ z.eras.length <= 100 /\ ∀ e ∈ z.eras, SmE e
 ls : ∀ l ∈ s.links, l.target.size <= 100 /\ l.name.size <= 100
theorem Sml.acc {w : World} {Ar Az Al As : Option Addr} {cr cz cl cs : Nat} {a : Zab} (h : Sml a) (hL : LibW w) (hG : Glob w) (hA : Zaj w Ar Az Al As cr cz cl cs a) : Zjv w Ar Az Al As cr cz cl cs a where
 L := hL
 G := hG
 A := hA
 S := ⟨by have := h.nr; omega, by have := h.nz; omega, by have := h.nl; omega, by have := h.ns; omega, fun r hr => by obtain ⟨h1, h2, _⟩ := h.rs r hr; omega, fun z hz => by
  obtain ⟨h1, h2, h3⟩ := h.zs z hz
  exact ⟨by omega, by omega, fun e he => by have h4 := (h3 e he).set; have h5 := (h3 e he).fmt; omega⟩, fun l hl => by obtain ⟨h1, h2⟩ := h.ls l hl; omega⟩
 V := fun r hr => by obtain ⟨_, _, h1, h2⟩ := h.rs r hr; omega
 Z := fun z hz e he => by
  have h1 := (h.zs z hz).2.2 e he
  have h2 := h1.off
  have h3 := h1.save
  have h4 := h1.kind
  have h5 := h1.fmt
  exact ⟨by unfold I64; omega, by unfold I64; omega, by unfold I64; omega, by omega⟩
theorem Zqg {x : ByteArray} (h : x ∈ [ByteArray.empty, (⟨#[83]⟩ : ByteArray), ⟨#[68]⟩, ⟨#[68, 84]⟩]) : x.size <= 100 := by
 have : ∀ x ∈ [ByteArray.empty, (⟨#[83]⟩ : ByteArray), ⟨#[68]⟩, ⟨#[68, 84]⟩], x.size <= 100 := by decide
 exact this x h
theorem Zqq {f : ByteArray} (h : f ∈ fmtU) : f.size <= 100 := by
 have h1 : ∀ f ∈ fmtU, f.size <= 100 := by decide
 exact h1 f h
theorem ZbH.sm {rs : List DRule} {e : DEra} {first : Bool} (h : ZbH rs e first) (hn : ∀ r ∈ rs, r.name.size <= 100) : SmE e := by
 refine ⟨?_, Zqq h.fmt, ?_, ?_, ?_⟩
 ·rcases h with ⟨_, _, h, _⟩ | ⟨_, _, h, _⟩ | ⟨_, _, _, _, _, _, h, _⟩
  ·rw [h]; exact Nat.zero_le _
  ·rw [h]; exact Nat.zero_le _
  ·obtain ⟨_, _, _, ⟨r, hr, _⟩, _⟩ := h.saves
   obtain ⟨h1, h2⟩ := List.mem_filter.1 hr
   have h3 : r.name = e.set := by simpa using h2
   rw [<- h3]
   exact hn r h1
 ·rcases h with ⟨_, _, _, h1, h2, _⟩ | ⟨_, _, _, h1, h2, _⟩ | ⟨_, _, _, h1, h2, _⟩ <;> omega
 ·rcases h with ⟨_, h1, _⟩ | ⟨_, h1, _⟩ | ⟨_, _, h1, _⟩ <;> omega
 ·rcases h with ⟨h1, _⟩ | ⟨h1, _⟩ | ⟨h1, _⟩ <;> omega
theorem ZyT : ∀ i : Fin 3, (sN i.val).size <= 100 := by decide +kernel
theorem Zhf (j : Nat) : (ZkA.getD j ByteArray.empty).size <= 100 := by
 rcases j with _ | _ | _ | j
 ·decide
 ·decide
 ·decide
 ·exact Nat.zero_le _
theorem Zho (j : Nat) : (Ziu.getD j ByteArray.empty).size <= 100 := by
 rcases j with _ | _ | _ | _ | j
 ·decide
 ·decide
 ·decide
 ·decide
 ·exact Nat.zero_le _
theorem Zdd (d : DD23) : ∀ r ∈ (Zae d).rules, DrRule r /\ r.name.size <= 100 := fun r hr => by
 obtain ⟨j, h1, h2⟩ := ZcW d.sets d.ns r hr
 have hS := (Zc9 d.sets d.ns (ns23 d).2 j h1).1
 have h3 := (ns23 d).2
 exact ⟨hS.rule r (List.mem_filter.2 ⟨hr, decide_eq_true h2⟩), h2 ▸ ZyT ⟨j, by omega⟩⟩
theorem Zj0 (nz : Nat) (c : Nat -> Nat) : ∀ n, ∀ l ∈ Zjz nz c n, l.target.size <= 100 /\ l.name.size <= 100
 | 0, l, h => by cases h
 | n + 1, l, h => by
  rw [Zjz, List.mem_append, List.mem_singleton] at h
  rcases h with h | rfl
  ·exact Zj0 nz c n l h
  ·refine ⟨?_, Zho n⟩
   show (ZrF nz (c n)).size <= 100
   unfold ZrF
   split
   ·exact Zhf _
   ·exact Zho _
theorem ZjG : ∀ n, ∀ z ∈ Zrb n, z.name.size <= 100
 | 0, z, h => by cases h
 | n + 1, z, h => by
  rw [Zrb, List.mem_append, List.mem_singleton] at h
  rcases h with h | rfl
  ·exact ZjG n z h
  ·exact Zhf n
theorem ZtD (d : DD23) : (Zae d).zones.length = (zl23 d.zones).length := Zcn _ _ _
theorem ZtE (d : DD23) : (Zae d).links.length <= 4 := by
 show (ZbK (zl23 d.zones).length (d.links.take 4) (d.links.take 4).length).length <= 4
 rw [Zd6, List.length_take]; omega
theorem Zb3 (d : DD23) : Sml (Zae d) := by
 have h1 := Zda d.sets d.ns
 have hm := (ns23 d).2
 obtain ⟨z1, z3⟩ := Ze6 d.zones
 have hb := Zex d.ns (zl23 d.zones) _ z3
 refine ⟨?_, ?_, ?_, ?_, ?_, ?_, ?_⟩
 ·show (ZaZ d.sets d.ns).length <= 100
  omega
 ·rw [ZtD]; omega
 ·have := ZtE d; omega
 ·exact Nat.zero_le _
 ·intro r hr
  obtain ⟨q1, q2⟩ := Zdd d r hr
  have := q1.save
  exact ⟨q2, Zqg q1.letter, by omega, by omega⟩
 ·intro z hz
  obtain ⟨Y, hY⟩ := Zbw d z hz
  have hl := hY.len
  refine ⟨?_, by omega, fun e he => ?_⟩
  ·refine ZjG (zl23 d.zones).length (Zlp z) ?_
   rw [<- hb]
   exact List.mem_map_of_mem hz
  ·obtain ⟨k, hk⟩ := List.getElem?_of_mem he
   exact (hY.era k e hk).sm fun r hr => (Zdd d r hr).2
 ·obtain ⟨c, q1, q2⟩ := ZfP (zl23 d.zones).length z1 z3 (d.links.take 4) (d.links.take 4).length (by rw [List.length_take]; omega)
  intro l hl
  refine Zj0 (zl23 d.zones).length c (d.links.take 4).length l ?_
  rw [<- q2]
  exact hl
structure ZyA where
 std : ByteArray
 stdOff : Int
 dst : ByteArray
 dstOff : Int
 start : ZxH
 fin : ZxH
deriving DecidableEq
def ZyA.enc (p : ZyA) : List Value := [.string p.std, .int .i64 p.stdOff, .string p.dst, .int .i64 p.dstOff, .int .i64 p.start.kind, .int .i64 p.start.day, .int .i64 p.start.month, .int .i64 p.start.week, .int .i64 p.start.sec, .int .i64 p.fin.kind, .int .i64 p.fin.day, .int .i64 p.fin.month, .int .i64 p.fin.week, .int .i64 p.fin.sec]
attribute [local irreducible] W RL Does Zap Zak retQ Calls Pu Stp RD Qy Ay Zal
def Zer (rs : List DRule) (e : DEra) (t : Int) : Int × ByteArray := if e.kind = 0 then (0, ByteArray.empty) else if e.kind = 1 then (e.save, ByteArray.empty) else atS (ofB rs e.set) e.off t
structure ZyB where
 off : Int
 dst : Bool
 abbr : ByteArray
deriving DecidableEq
def ZyB.enc (x : ZyB) : List Value := [.int .i64 x.off, .bool x.dst, .string x.abbr]
end Go.Proofs.YtbjomhdhkpgbaaaGreatDoor
namespace Go.Proofs.YtbjomhdhkpgbaaaGreatDoor
open Go Go.RowKit Go.Wk
theorem Zl7 (rs : List DRule) : ∀ (l : List DEra) (st : Int) (i : Nat), (∀ e, l[0]? = some e -> 1 < l.length -> st < endT e (ruEr rs e)) ->
  (∀ k e f, l[k]? = some e -> l[k + 1]? = some f -> k + 2 < l.length -> endT e (ruEr rs e) < endT f (ruEr rs f)) -> ∃ r, spGo rs l st i = some r
 | [], _, _, _, _ => ⟨_, rfl⟩
 | [e], _, _, _, _ => ⟨_, rfl⟩
 | e :: f :: l, st, i, h1, h2 => by
  have h3 := h1 e rfl (by simp)
  obtain ⟨r, hr⟩ := Zl7 rs (f :: l) (endT e (ruEr rs e)) (i + 1) (fun g hg hl => by
   cases hg
   exact h2 0 e f rfl rfl (by simp only [List.length_cons] at hl ⊢; omega)) (fun k g u hg hu hl => h2 (k + 1) g u hg hu (by simp only [List.length_cons] at hl ⊢; omega))
  exact ⟨_, by rw [spGo, if_neg (by omega), hr]; rfl⟩
def Zzk (rs : List DRule) (l : List DEra) (t : Int) : Nat := match Zwf rs l with
 | some r => (Zz7 t r 0).toNat
 | none => 0
section
variable {P : Int × ByteArray -> Prop} {l : List DRule}
theorem ZqP (h0 : P (0, ByteArray.empty)) (hr : ∀ r ∈ l, P (r.save, r.letter)) (e : Zaf) : P (behS l e) := by
 unfold behS ruE
 rw [List.getD_eq_getElem?_getD]
 cases hx : l[e.rule.toNat]? with
 | none => exact h0
 | some r => exact hr r (List.mem_of_getElem? hx)
theorem Zx0 (h0 : P (0, ByteArray.empty)) (hr : ∀ r ∈ l, P (r.save, r.letter)) : P (iniS l) := by
 unfold iniS
 cases fstD l true 0 with
 | none => exact h0
 | some e =>
  dsimp only
  cases fstD l false (ruE l e).save with
  | none => exact ZqP h0 hr e
  | some o => exact ZqP h0 hr o
theorem Zx9 (h0 : P (0, ByteArray.empty)) (hr : ∀ r ∈ l, P (r.save, r.letter)) (n : Int) : P (befS l n) := by
 unfold befS
 cases befD l n with
 | none => exact Zx0 h0 hr
 | some e => exact ZqP h0 hr e
theorem Zya (h0 : P (0, ByteArray.empty)) (hr : ∀ r ∈ l, P (r.save, r.letter)) (off t : Int) : ∀ (k : Nat) (n : Int), P (atGo l off t k n)
 | 0, n => Zx9 h0 hr n
 | k + 1, n => by
  rw [atGo]
  cases befD l n with
  | none => exact Zx0 h0 hr
  | some e =>
   dsimp only
   split
   ·exact ZqP h0 hr e
   ·exact Zya h0 hr off t k _
end
theorem Zwd {P : Int × ByteArray -> Prop} {rs : List DRule} {e : DEra} (h0 : P (0, ByteArray.empty)) (h1 : e.kind = 1 -> P (e.save, ByteArray.empty)) (hr : e.kind ≠ 0 -> e.kind ≠ 1 -> ∀ r ∈ ofB rs e.set, P (r.save, r.letter)) (t : Int) : P (Zer rs e t) := by
 unfold Zer
 split
 ·exact h0
 ·split
  ·exact h1 ‹_›
  ·exact Zya h0 (hr ‹_› ‹_›) _ _ _ _
def DrSt (e : DEra) (x : Int × ByteArray) : Prop := (-54000 <= e.off + x.1 /\ e.off + x.1 <= 54000) /\ (-10800 <= x.1 /\ x.1 <= 10800) /\ x.2 ∈ [ByteArray.empty, ⟨#[83]⟩, ⟨#[68]⟩, ⟨#[68, 84]⟩]
theorem ZbH.st0 {rs : List DRule} {e : DEra} {b : Bool} (h : ZbH rs e b) : DrSt e (0, ByteArray.empty) := by
 refine ⟨?_, by decide, .head _⟩
 rcases h with ⟨_, _, _, h1, h2, _⟩ | ⟨_, _, _, h1, h2, _⟩ | ⟨_, _, _, h1, h2, _⟩ <;> dsimp only <;> omega
theorem ZbH.st1 {rs : List DRule} {e : DEra} {b : Bool} (h : ZbH rs e b) (hk : e.kind = 1) : DrSt e (e.save, ByteArray.empty) := by
 rcases h with ⟨h0, _⟩ | ⟨_, ⟨h3, h4⟩, _, h1, h2, _⟩ | ⟨h0, _⟩
 ·omega
 ·exact ⟨by dsimp only; omega, by dsimp only; omega, .head _⟩
 ·omega
theorem ZbH.st2 {rs : List DRule} {e : DEra} {b : Bool} (h : ZbH rs e b) (hk0 : e.kind ≠ 0) (hk1 : e.kind ≠ 1) : ∀ r ∈ ofB rs e.set, DrSt e (r.save, r.letter) := fun r hr => by
 rcases h with ⟨h0, _⟩ | ⟨h0, _⟩ | ⟨_, _, _, h1, h2, _, h3, _⟩
 ·exact absurd h0 hk0
 ·exact absurd h0 hk1
 ·have hd := h3.rule r hr
  have hs := hd.save
  exact ⟨by dsimp only; omega, by dsimp only; omega, hd.letter⟩
theorem ZbH.state {rs : List DRule} {e : DEra} {b : Bool} (h : ZbH rs e b) (t : Int) : DrSt e (Zer rs e t) := Zwd h.st0 h.st1 h.st2 t
theorem ZbH.befS {rs : List DRule} {e : DEra} {b : Bool} (h : ZbH rs e b) (hk : e.kind = 2) (n : Int) : DrSt e (Go.Wk.befS (ofB rs e.set) n) := Zx9 h.st0 (h.st2 (by omega) (by omega)) n
theorem ZyM {u : DUntil} {least n : Int} (h : ZaO u least = (n, 0)) (hc : ZaJ u least = 0) (hl : -3600 <= least /\ least <= 0) : n <= 86400 * (onD u.year u.month u.day).1 + u.at_.sec /\ 86400 * (onD u.year u.month u.day).1 + u.at_.sec <= n + 3600 := by
 unfold ZaO at h
 rw [if_neg (by rw [hc]; decide)] at h
 have h1 : 86400 * (onD u.year u.month u.day).1 + u.at_.sec + (if u.at_.base = 1 then least else 0) = n := congrArg Prod.fst h
 split at h1 <;> omega
theorem ZbH.rs {rs : List DRule} {e : DEra} {b : Bool} (h : ZbH rs e b) : RsSm (ruEr rs e) := by
 have hd : ∀ r ∈ ruEr rs e, DrRule r /\ (ruEr rs e).length <= 5 := by
  rcases h with ⟨h0, _⟩ | ⟨h0, _⟩ | ⟨h0, _, _, h1, h2, _, h3, h4⟩
  ·unfold ruEr; rw [if_neg (by omega)]; exact fun r hr => by cases hr
  ·unfold ruEr; rw [if_neg (by omega)]; exact fun r hr => by cases hr
  ·unfold ruEr; rw [if_pos h0]; exact fun r hr => ⟨h3.rule r hr, h4⟩
 refine ⟨?_, fun r hr => ?_, fun r hr => ?_, fun r hr => ?_⟩
 ·cases hl : ruEr rs e with
  | nil => decide
  | cons r l => have := (hd r (by rw [hl]; exact List.mem_cons_self)).2; rw [hl] at this; omega
 ·have := (hd r hr).1.save; omega
 ·have := (hd r hr).1.f1; omega
 ·have := (hd r hr).1.ft; have := (hd r hr).1.f0; omega
theorem Zgh {n : Int} (h : -604799 <= n /\ n <= 604799) : ZtV n = true := by unfold ZtV; simp; exact h
theorem ZbH.bs {rs : List DRule} {e : DEra} {b : Bool} (h : ZbH rs e b) : -3600 <= Go.Wk.bsE e (ruEr rs e) /\ Go.Wk.bsE e (ruEr rs e) <= 0 := by
 have := h.least
 unfold Zaz at this
 unfold Go.Wk.bsE ruEr
 split
 ·rw [if_pos ‹_›] at this
  omega
 ·decide
theorem ZbH.bf {rs : List DRule} {e : DEra} {b : Bool} (h : ZbH rs e b) (n : Int) : -10800 <= bfE e (ruEr rs e) n /\ bfE e (ruEr rs e) n <= 10800 := by
 unfold bfE
 split
 ·have := (h.st1 ‹_›).2.1
  exact this
 ·split
  ·unfold ruEr
   rw [if_pos ‹_›]
   exact (h.befS ‹_› n).2.1
  ·decide
theorem ZbH.un {rs : List DRule} {e : DEra} {b : Bool} (h : ZbH rs e b) {Y : Int} (hT : Zv0 e.til Y) (hY : 1850 <= Y /\ Y <= 2148) :
  UnOk e (ruEr rs e) /\ 86400 * (mar1 Y + 279) - 70000 <= endT e (ruEr rs e) /\ endT e (ruEr rs e) <= 86400 * (mar1 Y + 327) + 70000 := by
 obtain ⟨t1, t2, n, t3, t4, t5⟩ := hT.nom hY h.bs
 have h0 := h.st0.1
 have hb := h.bf (ZaO e.til (Go.Wk.bsE e (ruEr rs e))).1
 have hsc := ZyM t3 t2 h.bs
 dsimp only at h0
 have hk : 0 <= e.kind /\ e.kind <= 2 := by rcases h with ⟨h0, _⟩ | ⟨h0, _⟩ | ⟨h0, _⟩ <;> omega
 have hs : -10800 <= e.save /\ e.save <= 10800 := by
  rcases h with ⟨_, h0, _⟩ | ⟨_, h0, _⟩ | ⟨_, _, h0, _⟩ <;> omega
 refine ⟨⟨hk, Zgh (by omega), Zgh (by omega), t2, Zgh (by unfold endB; omega)⟩, ?_⟩
 unfold endT
 unfold endB
 split
 ·omega
 ·split <;> omega
theorem ZcN.un {rs : List DRule} {l : List DEra} {Y : Nat -> Int} (h : ZcN rs l Y) (k : Nat) (e : DEra) (he : l[k]? = some e) (hk : k + 1 < l.length) : RsSm (ruEr rs e) /\ UnOk e (ruEr rs e) := by
 have hT := h.til k e he
 rw [if_pos hk] at hT
 exact ⟨(h.era k e he).rs, ((h.era k e he).un hT (h.yr k hk)).1⟩
theorem ZcN.sp {rs : List DRule} {l : List DEra} {Y : Nat -> Int} (h : ZcN rs l Y) : ∃ r, Zwf rs l = some r := by
 refine Zl7 rs l _ 0 (fun e he hl => ?_) (fun k e f he hf hl => ?_)
 ·have hT := h.til 0 e he
  rw [if_pos hl] at hT
  have hy := h.yr 0 hl
  obtain ⟨_, h1, _⟩ := (h.era 0 e he).un hT hy
  have hm : mar1 1850 <= mar1 (Y 0) := ZtB hy.1
  have h5 : -50000 <= mar1 1850 := by decide
  omega
 ·have hT := h.til k e he
  rw [if_pos (by omega)] at hT
  have hT2 := h.til (k + 1) f hf
  rw [if_pos (by omega)] at hT2
  obtain ⟨_, _, h1⟩ := (h.era k e he).un hT (h.yr k (by omega))
  obtain ⟨_, h2, _⟩ := (h.era (k + 1) f hf).un hT2 (h.yr (k + 1) (by omega))
  have := ZgS (h.inc k (by omega))
  omega
theorem Zg5 (least nominal : Int) (r : DRule) (i : Int) : ∀ (k : Nat) (y : Int) (e : Zaf), beIn least nominal r i y k = some e -> ∃ y', onR least r i y' = some e /\ e.nominal < nominal
 | 0, _, _, h => by cases h
 | k + 1, y, e, h => by
  rw [beIn] at h
  cases he : onR least r i y with
  | none => rw [he] at h; exact Zg5 least nominal r i k (y - 1) e h
  | some e' =>
   rw [he] at h
   dsimp only at h
   by_cases hc : e'.nominal < nominal
   ·rw [if_pos hc] at h
    cases h
    exact ⟨y, he, hc⟩
   ·rw [if_neg hc] at h
    exact Zg5 least nominal r i k (y - 1) e h
theorem Zjb (least nominal yr : Int) : ∀ (l : List DRule) (i : Nat) (b : Option Zaf) (e : Zaf), Znd least nominal yr l i b = some e -> b = some e \/ ∃ (j : Nat) (r : DRule), l[j]? = some r /\ beIn least nominal r ((i + j : Nat) : Int) (min (lastY r) (yr + 2)) 20 = some e
 | [], _, _, _, h => .inl h
 | r :: l, i, b, e, h => by
  rw [Znd] at h
  rcases Zjb least nominal yr l (i + 1) _ e h with h1 | ⟨j, r', h1, h2⟩
  ·cases he : beIn least nominal r i (min (lastY r) (yr + 2)) 20 with
   | none => rw [he] at h1; exact .inl h1
   | some e' =>
    rw [he] at h1
    have hr : ∀ x, e' = x -> ∃ (j : Nat) (r' : DRule), (r :: l)[j]? = some r' /\ beIn least nominal r' ((i + j : Nat) : Int) (min (lastY r') (yr + 2)) 20 = some x := fun x hx => ⟨0, r, rfl, by rw [<- hx]; exact he⟩
    cases b with
    | none => cases h1; exact .inr (hr _ rfl)
    | some b =>
     dsimp only at h1
     split at h1
     ·cases h1; exact .inr (hr _ rfl)
     ·exact .inl h1
  ·exact .inr ⟨j + 1, r', by simpa using h1, by rw [show i + (j + 1) = i + 1 + j by omega]; exact h2⟩
def EvOf (l : List DRule) (e : Zaf) : Prop := ∃ (j : Nat) (r : DRule) (y : Int), l[j]? = some r /\ onR (Zai l) r (j : Int) y = some e
theorem _root_.Go.Wk.DrRule.lastYr {r : DRule} (h : DrRule r) : r.from_ <= Go.Wk.lastY r /\ Go.Wk.lastY r <= 2000000000 := by
 have h0 := h.f0
 have h1 := h.f1
 have h2 := h.ft
 unfold Go.Wk.lastY
 split <;> omega
theorem _root_.Go.Wk.DrRule.onY {r : DRule} (h : DrRule r) (least i : Int) {y : Int} (h0 : r.from_ <= y) (h1 : y <= Go.Wk.lastY r) : ∃ e, onR least r i y = some e := by
 have hf0 := h.f0
 have hl := h.lastYr
 have hck : ZaQ r.at_ = true := by
  have := h.clk
  unfold ZaQ
  simp
  omega
 have hin : inY y = true := by
  unfold inY
  simp
  omega
 obtain ⟨m0, m1⟩ := h.mon12
 have ho := (h.day.on hin m0 m1).1
 unfold onR
 rw [if_neg (by rw [hck]; rintro (q | q | q); omega; omega; cases q), if_neg (by rw [ho]; decide)]
 exact ⟨_, rfl⟩
section
variable {l : List DRule} (h : Zcg l)
include h
omit h in
theorem Zlo {n : Int} {e : Zaf} (he : befD l n = some e) : EvOf l e /\ e.nominal < n := by
 rcases Zjb _ _ _ l 0 none e he with h1 | ⟨j, r, h1, h2⟩
 ·cases h1
 ·obtain ⟨y, h3, h4⟩ := Zg5 _ _ _ _ _ _ _ h2
  rw [Nat.zero_add] at h3
  exact ⟨⟨j, r, y, h1, h3⟩, h4⟩
theorem Zcg.uniq {e f : Zaf} (he : EvOf l e) (hf : EvOf l f) (hn : e ≠ f) : 259200 <= e.nominal - f.nominal \/ 259200 <= f.nominal - e.nominal := by
 obtain ⟨j, r, y, h1, h2⟩ := he
 obtain ⟨k, s, z, h3, h4⟩ := hf
 exact h.far2 h1 h3 h2 h4 hn
theorem Zcg.eq {e f : Zaf} (he : EvOf l e) (hf : EvOf l f) (hn : e.nominal - f.nominal < 259200 /\ f.nominal - e.nominal < 259200) : e = f := by
 by_cases hne : e = f
 ·exact hne
 ·have := h.uniq he hf hne
  omega
end
section
variable {l : List DRule} (h : Zcg l) {off t : Int} (ho : -43200 <= off /\ off <= 43200)
include h
end
end Go.Proofs.YtbjomhdhkpgbaaaGreatDoor
