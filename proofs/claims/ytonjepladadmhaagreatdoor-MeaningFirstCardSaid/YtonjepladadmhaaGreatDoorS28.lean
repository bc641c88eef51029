/- Contract: analemmalaw23.Era: made. The source of a draft of layer 23, as plain functions. Plain law: drafts of layer 23 are accepted: no fault of any kind. -/
import Derived.Test.YtonjepladadmhaaGreatDoorS27
import Derived.Test.YtonjepladadmhaaGreatDoorS26
set_option maxHeartbeats 4000000
set_option linter.unusedVariables false
set_option linter.unusedSimpArgs false
namespace Go.Proofs.YtonjepladadmhaaGreatDoor
open Go Go.RowKit Go.Wk
attribute [local irreducible] W RL Does thenQ blockQ retQ Calls Pu Stp RD Qy Ay DoesIn dig fmt23
def sR : ByteArray := ⟨#[82]⟩
def kind23 (e : E23) (first : Bool) : Int := if first = true ∧ e.kind % 3 = 2 then 0 else e.kind % 3
def save23 (e : E23) (first : Bool) : Int := if kind23 e first = 1 then 1800 * (1 + e.set % 4) else 0
def set23 (e : E23) (first : Bool) (sets : Int) : ByteArray := if kind23 e first = 2 then sR ++ dig (e.set % sets) else ByteArray.empty
def day23 (e : E23) : DDay := if e.day ≥ 200 then ⟨3, e.day % 7, 8⟩ else ⟨1, 0, 1 + e.day % 20⟩
def til23 (e : E23) (year : Int) (fen : Bool) : DUntil := if fen = true then ⟨true, year, 1, day23 e, ⟨900 * (24 + e.at_.tmod 24), e.base % 3⟩⟩ else ⟨false, 0, 0, ⟨0, 0, 0⟩, ⟨0, 0⟩⟩
def era23 (e : E23) (first : Bool) (sets year : Int) (fen : Bool) : DEra := ⟨900 * e.off.tmod 48, kind23 e first, save23 e first, set23 e first sets, fmt23 e.format, til23 e year fen⟩
theorem tmod_rng (a b : Int) (hb : 0 < b) : -b < a.tmod b ∧ a.tmod b < b := ⟨Int.lt_tmod_of_pos a hb, Int.tmod_lt_of_pos a hb⟩
theorem dig_size (i : Int) (h0 : 0 ≤ i) (h1 : i < 10) : (dig i).size = 1 := by
 unfold dig
 rw [ByteArray.size_extract]
 have : digits.size = 36 := rfl
 omega
theorem wkMadeE230 {G G' : Prop} (k : G') (h : Hold G' → G := by intro k9; (first | refine walk ?_ | (refine jn ?_; (try intro F); (first | (refine stA ?_) | (apply Stp_pu; exact PuA)); refine fin ?_)); exact k9.out) : G := h ⟨k⟩
theorem PuMadeE230 {G : Prop} (h : G := by (first | (apply Pu_mul; rfl; rfl; omega) | (apply Pu_rem (kk := .i8); rfl; rfl; decide))) : G := h
theorem QyMadeE230 {G : Prop} (h : G := by first | (apply Qy_y; rfl; exact PuMadeE230) | exact QyA) : G := h
theorem QFMadeE230 {G : Prop} (h : G := by repeat (first | exact QF.nil | (apply QF.mk; rfl; rfl; decide +kernel; exact QyMadeE230))) : G := h
theorem PuMadeE231 {G : Prop} (h : G := by (first | (apply Pu_mul; rfl; rfl; omega) | (apply Pu_add8; rfl; rfl; omega))) : G := h
theorem QyMadeE231 {G : Prop} (h : G := by first | (apply Qy_y; rfl; exact PuMadeE231) | exact QyA) : G := h
theorem QFMadeE231 {G : Prop} (h : G := by repeat (first | exact QF.nil | (apply QF.mk; rfl; rfl; decide +kernel; exact QyMadeE231))) : G := h
theorem PuMadeE232 {G : Prop} (h : G := by (apply Pu_addS; rfl; rfl; (rw [dig_size _ (by omega) (by omega)]; decide))) : G := h
theorem QyMadeE232 {G : Prop} (h : G := by first | (apply Qy_y; rfl; exact PuMadeE232) | exact QyA) : G := h
theorem QFMadeE232 {G : Prop} (h : G := by repeat (first | exact QF.nil | (apply QF.mk; rfl; rfl; decide +kernel; exact QyMadeE232))) : G := h
set_option maxHeartbeats 8000000 in
theorem era23_spec (e : E23) (he : e.ok) (first : Bool) (sets year : Int) (fen : Bool) (hs0 : 0 < sets) (hs1 : sets ≤ 10) (w : World) :
  Does Tryz.prog 50 [.agg e.enc.toArray, .bool first, .int .i64 sets, .int .i64 year, .bool fen] w (fun v O => v = .agg (era23 e first sets year fen).enc.toArray ∧ O = []) := by
 obtain ⟨k1, k2, k3, k4, k5, k6, k7, k8⟩ := he
 rw [inR_u8] at k1 k2 k3 k4 k5 k6
 rw [inR_i8] at k7 k8
 have t1 := tmod_rng e.off 48 (by decide)
 have t2 := tmod_rng e.at_ 24 (by decide)
 have m1 := Int.emod_nonneg e.set (b := sets) (by omega)
 have m2 := Int.emod_lt_of_pos e.set (b := sets) hs0
 show Does _ _ [.agg #[.int .u8 e.kind, .int .u8 e.set, .int .u8 e.format, .int .u8 e.years, .int .u8 e.day, .int .u8 e.base, .int .i8 e.off, .int .i8 e.at_], .bool first, .int .i64 sets, .int .i64 year, .bool fen] w _
 refine Does_of_W Tryz.func50 rfl rfl rfl rfl ?_
 repeat (first | (apply RL_pu; rfl; exact PuMadeE230) | (apply RD_Q; rfl; rfl; decide +kernel; rfl; rfl; exact QyMadeE230) | refine walk1 ?_ | (refine jg ?_; (try intro F); (first | (refine callE (fun w' _ => format23_spec e.format k3.1 w') ?_) | (refine bx ?_; intro bk) | (refine stA ?_)); first | refine ⟨_, EndsA, QFMadeE230, ?_⟩ | refine fin ?_) | (refine jn ?_; (try intro F); (first | (refine bx ?_; intro bk) | (refine stA ?_) | (apply Stp_pu; first | exact PuMadeE230 | exact PuA)); first | refine ⟨_, EndsA, QFMadeE230, ?_⟩ | refine fin ?_) | (apply RD_W; rfl; intro bk))
 rename_i b5 b10 _
 generalize bk = b11
 refine RL_post (fun fr' O' => Sub [(30, .bool (decide (first = true ∧ e.kind % 3 = 2))), (2, .int .i64 sets), (3, .int .i64 year), (4, .bool fen), (5, .pointer (some ⟨b5, 0, none⟩)), (10, .pointer (some ⟨b10, 0, none⟩)), (11, .pointer (some ⟨b11, 0, none⟩))] fr' ∧ SubO [.blk b11 [.int .i64 (900 * e.off.tmod 48), .int .i64 (e.kind % 3), .int .i64 0, .string ByteArray.empty, .string (fmt23 e.format), .bool false, .int .i64 0, .int .i64 0, .int .i64 0, .int .i64 0, .int .i64 0, .int .i64 0, .int .i64 0] 55, .blk b10 [.int .i64 0, .int .i64 0, .int .i64 0, .string ByteArray.empty, .string ByteArray.empty, .bool false, .int .i64 0, .int .i64 0, .int .i64 0, .int .i64 0, .int .i64 0, .int .i64 0, .int .i64 0] 55, .blk b5 [.int .u8 e.kind, .int .u8 e.set, .int .u8 e.format, .int .u8 e.years, .int .u8 e.day, .int .u8 e.base, .int .i8 e.off, .int .i8 e.at_] 129] O') ?_ ?_
 ·refine RL_split 26 rfl (fun h => ?_) (fun h => ?_)
  ·repeat (first | refine wkMadeE230 ?_ | (refine jn ?_; (try intro F); (refine bx ?_; intro bk); refine fin ?_) | (apply RD_W; rfl; intro bk))
   rw [show decide (first = true ∧ e.kind % 3 = 2) = decide (e.kind % 3 = 2) from decide_eq_decide.2 (by simp [h])]
   exact ⟨SFA, SOA⟩
  ·repeat (first | refine wkMadeE230 ?_ | (refine jn ?_; (try intro F); (refine bx ?_; intro bk); refine fin ?_) | (apply RD_W; rfl; intro bk))
   rw [decide_eq_false (by simp [h])]
   exact ⟨SFA, SOA⟩
 rintro fr' O' ⟨hf, hO⟩
 apply thenQ_n
 refine W_sub hf hO ?_
 clear hf hO fr' O'
 refine W_post (fun fr' O' => Sub [(2, .int .i64 sets), (3, .int .i64 year), (4, .bool fen), (5, .pointer (some ⟨b5, 0, none⟩)), (10, .pointer (some ⟨b10, 0, none⟩)), (11, .pointer (some ⟨b11, 0, none⟩))] fr' ∧ SubO [.blk b11 [.int .i64 (900 * e.off.tmod 48), .int .i64 (kind23 e first), .int .i64 0, .string ByteArray.empty, .string (fmt23 e.format), .bool false, .int .i64 0, .int .i64 0, .int .i64 0, .int .i64 0, .int .i64 0, .int .i64 0, .int .i64 0] 55, .blk b10 [.int .i64 0, .int .i64 0, .int .i64 0, .string ByteArray.empty, .string ByteArray.empty, .bool false, .int .i64 0, .int .i64 0, .int .i64 0, .int .i64 0, .int .i64 0, .int .i64 0, .int .i64 0] 55, .blk b5 [.int .u8 e.kind, .int .u8 e.set, .int .u8 e.format, .int .u8 e.years, .int .u8 e.day, .int .u8 e.base, .int .i8 e.off, .int .i8 e.at_] 129] O') ?_ ?_
 ·refine W_cond rfl (fun h => ?_) (fun h => ?_)
  ·rw [show kind23 e first = 0 from if_pos (of_decide_eq_true h)]
   repeat (first | refine wkMadeE230 ?_ | (refine jn ?_; (try intro F); (refine bx ?_; intro bk); refine fin ?_) | (apply RD_W; rfl; intro bk))
   exact ⟨rfl, SFA, SOA⟩
  ·rw [show kind23 e first = e.kind % 3 from if_neg (of_decide_eq_false h)]
   repeat (first | refine wkMadeE230 ?_ | (refine jn ?_; (try intro F); (refine bx ?_; intro bk); refine fin ?_) | (apply RD_W; rfl; intro bk))
   exact ⟨rfl, SFA, SOA⟩
 rintro fr' O' ⟨hf, hO⟩
 apply thenQ_n
 refine W_sub hf hO ?_
 clear hf hO fr' O'
 repeat (first | refine walkB ?_ | (refine jn ?_; (try intro F); (first | (refine bx ?_; intro bk) | (refine stA ?_) | (apply Stp_pu; exact PuA)); refine fin ?_) | (apply RD_W; rfl; intro bk))
 refine W_post (fun fr' O' => Sub [(2, .int .i64 sets), (3, .int .i64 year), (4, .bool fen), (5, .pointer (some ⟨b5, 0, none⟩)), (10, .pointer (some ⟨b10, 0, none⟩)), (11, .pointer (some ⟨b11, 0, none⟩))] fr' ∧ SubO [.blk b11 [.int .i64 (900 * e.off.tmod 48), .int .i64 (kind23 e first), .int .i64 (save23 e first), .string (set23 e first sets), .string (fmt23 e.format), .bool false, .int .i64 0, .int .i64 0, .int .i64 0, .int .i64 0, .int .i64 0, .int .i64 0, .int .i64 0] 55, .blk b10 [.int .i64 0, .int .i64 0, .int .i64 0, .string ByteArray.empty, .string ByteArray.empty, .bool false, .int .i64 0, .int .i64 0, .int .i64 0, .int .i64 0, .int .i64 0, .int .i64 0, .int .i64 0] 55, .blk b5 [.int .u8 e.kind, .int .u8 e.set, .int .u8 e.format, .int .u8 e.years, .int .u8 e.day, .int .u8 e.base, .int .i8 e.off, .int .i8 e.at_] 129] O') ?_ ?_
 ·repeat (first | refine wkMadeE230 ?_ | (refine jn ?_; (try intro F); (refine bx ?_; intro bk); refine fin ?_) | (apply RD_W; rfl; intro bk))
  refine W_cond rfl (fun h => ?_) (fun h => ?_)
  ·have hk := of_decide_eq_true h
   rw [show save23 e first = 1800 * (1 + e.set % 4) from if_pos hk, show set23 e first sets = ByteArray.empty from if_neg (by rw [hk]; decide)]
   repeat (first | (apply RL_pu; rfl; exact PuMadeE231) | (apply RD_Q; rfl; rfl; decide +kernel; rfl; rfl; exact QyMadeE231) | refine walk1 ?_ | (refine jn ?_; (try intro F); (first | (refine bx ?_; intro bk) | (refine stA ?_) | (apply Stp_pu; first | exact PuMadeE231 | exact PuA)); first | refine ⟨_, EndsA, QFMadeE231, ?_⟩ | refine fin ?_) | (apply RD_W; rfl; intro bk))
   exact ⟨rfl, SFA, SOA⟩
  ·have hk := of_decide_eq_false h
   rw [show save23 e first = 0 from if_neg hk]
   repeat (first | refine wkMadeE230 ?_ | (refine jn ?_; (try intro F); (refine bx ?_; intro bk); refine fin ?_) | (apply RD_W; rfl; intro bk))
   refine W_cond rfl (fun h2 => ?_) (fun h2 => ?_)
   ·rw [show set23 e first sets = sR ++ dig (e.set % sets) from if_pos (of_decide_eq_true h2)]
    repeat (first | (apply RL_pu; rfl; exact PuMadeE232) | (apply RD_Q; rfl; rfl; decide +kernel; rfl; rfl; exact QyMadeE232) | refine walk1 ?_ | (refine jg ?_; (try intro F); (first | (refine callE (fun w' _ => itoa_spec (e.set % sets) m1 (by omega) w') ?_) | (refine bx ?_; intro bk) | (refine stA ?_)); first | refine ⟨_, EndsA, QFMadeE232, ?_⟩ | refine fin ?_) | (refine jn ?_; (try intro F); (first | (refine bx ?_; intro bk) | (refine stA ?_) | (apply Stp_pu; first | exact PuMadeE232 | exact PuA)); first | refine ⟨_, EndsA, QFMadeE232, ?_⟩ | refine fin ?_) | (apply RD_W; rfl; intro bk))
    exact ⟨rfl, SFA, SOA⟩
   ·rw [show set23 e first sets = ByteArray.empty from if_neg (of_decide_eq_false h2)]
    repeat (first | refine wkMadeE230 ?_ | (refine jn ?_; (try intro F); (refine bx ?_; intro bk); refine fin ?_) | (apply RD_W; rfl; intro bk))
    exact ⟨rfl, SFA, SOA⟩
 rintro fr' O' ⟨hf, hO⟩
 apply thenQ_n
 refine W_sub hf hO ?_
 clear hf hO fr' O'
 have hE : ∀ u : DUntil, til23 e year fen = u → (era23 e first sets year fen).enc = [.int .i64 (900 * e.off.tmod 48), .int .i64 (kind23 e first), .int .i64 (save23 e first), .string (set23 e first sets), .string (fmt23 e.format), .bool u.is, .int .i64 u.year, .int .i64 u.month, .int .i64 u.day.kind, .int .i64 u.day.week, .int .i64 u.day.day, .int .i64 u.at_.sec, .int .i64 u.at_.base] := fun u hu => by rw [← hu]; rfl
 generalize kind23 e first = K at *
 generalize save23 e first = SV at *
 generalize set23 e first sets = ST at *
 repeat (first | refine wkMadeE230 ?_ | (refine jn ?_; (try intro F); (refine bx ?_; intro bk); refine fin ?_) | (apply RD_W; rfl; intro bk))
 refine W_cond rfl (fun h => ?_) (fun h => ?_)
 ·repeat (first | refine walk ?_ | (refine jg ?_; (try intro F); (first | (refine callE (fun w' _ => until23_spec year 1 (1 + e.day % 20) w') ?_) | (refine bx ?_; intro bk) | (refine stA ?_)); refine fin ?_) | (refine jn ?_; (try intro F); (first | (refine bx ?_; intro bk) | (refine stA ?_) | (apply Stp_pu; exact PuA)); refine fin ?_) | (apply RD_W; rfl; intro bk))
  refine W_cond rfl (fun h2 => ?_) (fun h2 => ?_)
  ·rw [hE ⟨true, year, 1, ⟨3, e.day % 7, 8⟩, ⟨900 * (24 + e.at_.tmod 24), e.base % 3⟩⟩ (by rw [til23, if_pos h, day23, if_pos (of_decide_eq_true h2)])]
   repeat (first | (apply RL_pu; rfl; exact PuMadeE230) | (apply RD_Q; rfl; rfl; decide +kernel; rfl; rfl; exact QyMadeE230) | refine walk1 ?_ | (refine jn ?_; (try intro F); (first | (refine bx ?_; intro bk) | (refine stA ?_) | (apply Stp_pu; first | exact PuMadeE230 | exact PuA)); first | refine ⟨_, EndsA, QFMadeE230, ?_⟩ | refine fin ?_) | (apply RD_W; rfl; intro bk))
   exact ret_1 _ [] (.cellB rfl (by repeat' constructor) rfl rfl) .nil ⟨rfl, rfl⟩
  ·rw [hE ⟨true, year, 1, ⟨1, 0, 1 + e.day % 20⟩, ⟨900 * (24 + e.at_.tmod 24), e.base % 3⟩⟩ (by rw [til23, if_pos h, day23, if_neg (of_decide_eq_false h2)])]
   repeat (first | (apply RL_pu; rfl; exact PuMadeE230) | (apply RD_Q; rfl; rfl; decide +kernel; rfl; rfl; exact QyMadeE230) | refine walk1 ?_ | (refine jn ?_; (try intro F); (first | (refine bx ?_; intro bk) | (refine stA ?_) | (apply Stp_pu; first | exact PuMadeE230 | exact PuA)); first | refine ⟨_, EndsA, QFMadeE230, ?_⟩ | refine fin ?_) | (apply RD_W; rfl; intro bk))
   exact ret_1 _ [] (.cellB rfl (by repeat' constructor) rfl rfl) .nil ⟨rfl, rfl⟩
 ·rw [hE ⟨false, 0, 0, ⟨0, 0, 0⟩, ⟨0, 0⟩⟩ (by rw [til23, if_neg (by rw [h]; decide)])]
  repeat (first | refine wkMadeE230 ?_ | (refine jn ?_; (try intro F); (refine bx ?_; intro bk); refine fin ?_) | (apply RD_W; rfl; intro bk))
  exact ret_1 _ [] (.cellB rfl (by repeat' constructor) rfl rfl) .nil ⟨rfl, rfl⟩
end Go.Proofs.YtonjepladadmhaaGreatDoor
namespace Go.Wk
open Go Go.RowKit
theorem Pu_maxI {P : Program} {n : Nat} {wr : World} {fr : Fr} {O : List It} {ty : TypeId} {x y : Operand} {ts : Array TypeId} {k : IntKind} {i j : Int} (hx : ev fr x = some (.int k i)) (hy : ev fr y = some (.int k j)) : Pu P n wr fr O (.call ⟨.builtin .max, #[x, y], ts⟩) ty (.int k (if i < j then j else i)) :=
 fun a w hs _ _ _ _ => by simp [execOp, resolve, invoke, builtin, Builtin.max_, Builtin.max2, hs.sim.ev hx, hs.sim.ev hy]
theorem RdSl.take {α : Type} {w : World} {A : Option Addr} {c : Nat} {enc : α → List Value} {sz : Nat} {xs : List α} (h : RdSl w A c enc sz xs) (k : Nat) : RdSl w A c enc sz (xs.take k) :=
 ⟨by rw [List.length_take]; exact Nat.le_trans (Nat.min_le_right _ _) h.le, h.cap, fun j x hj => h.rd j x (by
  rw [List.getElem?_take] at hj
  split at hj
  ·exact hj
  ·cases hj)⟩
theorem E23.len (x : E23) : x.enc.length = 8 := rfl
end Go.Wk
namespace Go.Proofs.YtonjepladadmhaaGreatDoor
open Go Go.RowKit Go.Wk
structure DD23 where
 sets : List (List Int)
 zones : List (List E23)
 links : List Int
structure RdLL {α : Type} (w : World) (A : Option Addr) (c : Nat) (enc : α → List Value) (sz : Nat) (ll : List (List α)) : Prop where
 le : ll.length ≤ c
 cap : c ≤ maxLen
 rd : ∀ k l, ll[k]? = some l → A ≠ none ∧ ∃ B cb, RdSl w B cb enc sz l ∧ CellsAt w ((adr A).add (k * 1)) [.slice B l.length cb]
theorem RdLL.up {α : Type} {w w' : World} {A : Option Addr} {c : Nat} {enc : α → List Value} {sz : Nat} {ll : List (List α)} (h : RdLL w A c enc sz ll) (hb : Bel w.heap.size w w') : RdLL w' A c enc sz ll :=
 ⟨h.le, h.cap, fun k l hk => by
  obtain ⟨h1, B, cb, h2, h3⟩ := h.rd k l hk
  exact ⟨h1, B, cb, h2.up hb, h3.up hb (Nat.le_refl _)⟩⟩
theorem RdLL.take {α : Type} {w : World} {A : Option Addr} {c : Nat} {enc : α → List Value} {sz : Nat} {ll : List (List α)} (h : RdLL w A c enc sz ll) (k : Nat) : RdLL w A c enc sz (ll.take k) :=
 ⟨by rw [List.length_take]; exact Nat.le_trans (Nat.min_le_right _ _) h.le, h.cap, fun j x hj => h.rd j x (by
  rw [List.getElem?_take] at hj
  split at hj
  ·exact hj
  ·cases hj)⟩
def d23V (As Az Al : Option Addr) (cs cz cl : Nat) (d : DD23) : Value := .agg #[.slice As d.sets.length cs, .slice Az d.zones.length cz, .slice Al d.links.length cl]
def e23Z : E23 := ⟨0, 0, 0, 0, 0, 0, 0, 0⟩
def sZ : ByteArray := ⟨#[65, 114, 101, 97, 47, 90]⟩
def sL : ByteArray := ⟨#[79, 108, 100, 47, 76]⟩
def DD23.ns (d : DD23) : Nat := max 1 (min d.sets.length 3)
def rules23 (sets : List (List Int)) : Nat → List DRule
 | 0 => []
 | k + 1 => rules23 sets k ++ made17 (sets.getD k []) (sR ++ dig k)
def zl23 (zones : List (List E23)) : List (List E23) := if zones.length = 0 then [[]] else zones.take 3
def el23 (l : List E23) : List E23 := if l.length = 0 then [e23Z] else l.take 4
def eras23 (sets : Int) (l : List E23) : Nat → List DEra × Int
 | 0 => ([], 1904)
 | k + 1 => ((eras23 sets l k).1 ++ [era23 (l.getD k e23Z) (decide ((k : Int) = 0)) sets ((eras23 sets l k).2 + (1 + (l.getD k e23Z).years % 30)) (decide ((k : Int) < (l.length : Int) - 1))], (eras23 sets l k).2 + (1 + (l.getD k e23Z).years % 30))
def zone23 (sets : Int) (i : Nat) (l : List E23) : DZone := ⟨sZ ++ dig i, (eras23 sets (el23 l) (el23 l).length).1⟩
def zones23 (sets : Int) (zs : List (List E23)) : Nat → List DZone
 | 0 => []
 | i + 1 => zones23 sets zs i ++ [zone23 sets i (zs.getD i [])]
def link23 (nz : Nat) (n : Int) (i : Nat) : DLink := ⟨if n % ((nz : Int) + i) ≥ nz then sL ++ dig (n % ((nz : Int) + i) - nz) else sZ ++ dig (n % (nz : Int)), sL ++ dig i⟩
def links23 (nz : Nat) (links : List Int) : Nat → List DLink
 | 0 => []
 | i + 1 => links23 nz links i ++ [link23 nz (links.getD i 0) i]
def made23 (d : DD23) : DSource := ⟨rules23 d.sets d.ns, zones23 d.ns (zl23 d.zones) (zl23 d.zones).length, links23 (zl23 d.zones).length (d.links.take 4) (d.links.take 4).length, []⟩
theorem made17_le5 (l : List Int) (x : ByteArray) : (made17 l x).length ≤ 5 := by
 obtain ⟨q1, q2, q3⟩ := m1_rng l
 obtain ⟨q4, q5, q6⟩ := m2_rng l (m1 l).1 (m1 l).2 q1 q2 q3
 rw [made17, List.length_map, m3, List.length_append, pairB_len]
 omega
theorem rules23_len (sets : List (List Int)) : ∀ k, (rules23 sets k).length ≤ 5 * k
 | 0 => Nat.le_refl _
 | k + 1 => by
  have := rules23_len sets k
  have h2 := made17_le5 (sets.getD k []) (sR ++ dig k)
  rw [rules23, List.length_append]
  omega
theorem zl23_len (zs : List (List E23)) : 1 ≤ (zl23 zs).length ∧ (zl23 zs).length ≤ 3 := by
 unfold zl23
 split
 ·simp
 ·rw [List.length_take]; omega
theorem el23_len (l : List E23) : 1 ≤ (el23 l).length ∧ (el23 l).length ≤ 4 := by
 unfold el23
 split
 ·simp
 ·rw [List.length_take]; omega
theorem eras23_len (sets : Int) (l : List E23) : ∀ k, (eras23 sets l k).1.length = k
 | 0 => rfl
 | k + 1 => by simp [eras23, eras23_len sets l k]
theorem eras23_year (sets : Int) (l : List E23) (hl : ∀ e ∈ l, e.ok) : ∀ k : Nat, 1904 ≤ (eras23 sets l k).2 ∧ (eras23 sets l k).2 ≤ 1904 + 30 * k
 | 0 => by simp [eras23]
 | k + 1 => by
  obtain ⟨h1, h2⟩ := eras23_year sets l hl k
  have h3 := Int.emod_nonneg (l.getD k e23Z).years (b := 30) (by decide)
  have h4 := Int.emod_lt_of_pos (l.getD k e23Z).years (b := 30) (by decide)
  simp only [eras23]
  omega
theorem zones23_len (sets : Int) (zs : List (List E23)) : ∀ k, (zones23 sets zs k).length = k
 | 0 => rfl
 | k + 1 => by simp [zones23, zones23_len sets zs k]
theorem links23_len (nz : Nat) (links : List Int) : ∀ k, (links23 nz links k).length = k
 | 0 => rfl
 | k + 1 => by simp [links23, links23_len nz links k]
def sN (j : Nat) : ByteArray := sR ++ dig (j : Int)
theorem sN_ne : ∀ i j : Fin 3, i ≠ j → sN i.val ≠ sN j.val := by decide +kernel
theorem sN_ok : ∀ i : Fin 3, setB (sN i.val) = true := by decide +kernel
theorem rules23_names (sets : List (List Int)) : ∀ m, ∀ r ∈ rules23 sets m, ∃ j, j < m ∧ r.name = sN j
 | 0, r, h => by cases h
 | m + 1, r, h => by
  rw [rules23, List.mem_append] at h
  rcases h with h | h
  ·obtain ⟨j, h1, h2⟩ := rules23_names sets m r h
   exact ⟨j, by omega, h2⟩
  ·exact ⟨m, by omega, made17_name' _ _ r h⟩
theorem rules23_of (sets : List (List Int)) : ∀ m, m ≤ 3 → ∀ j, j < 3 → ofB (rules23 sets m) (sN j) = if j < m then made17 (sets.getD j []) (sN j) else []
 | 0, _, j, _ => rfl
 | m + 1, hm, j, hj => by
  rw [rules23, ofB_app, rules23_of sets m (by omega) j hj]
  by_cases h : j = m
  ·subst h
   rw [if_neg (by omega), if_pos (by omega), List.nil_append]
   exact ofB_all (made17_name' _ _)
  ·have hno : ofB (made17 (sets.getD m []) (sR ++ dig (m : Int))) (sN j) = [] := ofB_no (y := sN m) (made17_name' _ _) (sN_ne ⟨m, by omega⟩ ⟨j, hj⟩ fun e => h (Fin.mk.inj e).symm)
   rw [hno, List.append_nil]
   by_cases h2 : j < m
   ·rw [if_pos h2, if_pos (by omega)]
   ·rw [if_neg h2, if_neg (by omega)]
theorem rules23_set (sets : List (List Int)) (m : Nat) (hm : m ≤ 3) (j : Nat) (hj : j < m) : DrSet (ofB (rules23 sets m) (sN j)) ∧ (ofB (rules23 sets m) (sN j)).length ≤ 5 := by
 rw [rules23_of sets m hm j (by omega), if_pos hj]
 exact ⟨made17_set _ _, made17_len _ _⟩
theorem rules23_sets (sets : List (List Int)) (m : Nat) (hm : m ≤ 3) : setsGo (rules23 sets m) (namesB (rules23 sets m) []) = none := by
 refine setsGo_none' _ fun x hx => ?_
 rcases namesB_mem' _ _ x hx with h | ⟨r, h1, h2⟩
 ·cases h
 ·obtain ⟨j, h3, h4⟩ := rules23_names sets m r h1
  rw [← h2, h4]
  exact (rules23_set sets m hm j h3).1.fault (sN_ok ⟨j, by omega⟩)
theorem fmt23_mem (n : Int) : fmt23 n ∈ fmtU := by
 have h0 := Int.emod_nonneg n (b := 6) (by decide)
 have h1 := Int.emod_lt_of_pos n (b := 6) (by decide)
 unfold fmt23
 generalize n % 6 = x at *
 have hc : x = 0 ∨ x = 1 ∨ x = 2 ∨ x = 3 ∨ x = 4 ∨ x = 5 := by omega
 rcases hc with rfl | rfl | rfl | rfl | rfl | rfl
 ·exact .head _
 ·exact .tail _ (.head _)
 ·exact .tail _ (.tail _ (.tail _ (.tail _ (.tail _ (.tail _ (.head _))))))
 ·exact .tail _ (.tail _ (.tail _ (.head _)))
 ·exact .tail _ (.tail _ (.tail _ (.tail _ (.head _))))
 ·exact .tail _ (.tail _ (.tail _ (.tail _ (.tail _ (.tail _ (.tail _ (.head _)))))))
theorem era23_dr (rs : List DRule) (ns : Nat) (hns : 1 ≤ ns) (e : E23) (k : Nat) (year : Int) (fin_ : Bool) (hs : ∀ j, j < ns → DrSet (ofB rs (sN j)) ∧ (ofB rs (sN j)).length ≤ 5) :
  DrEra rs (era23 e (decide ((k : Int) = 0)) ns year fin_) (decide (k = 0)) := by
 have o := tmod_rng e.off 48 (by decide)
 have hf := fmt23_mem e.format
 have hk0 := Int.emod_nonneg e.kind (b := 3) (by decide)
 have hk1 := Int.emod_lt_of_pos e.kind (b := 3) (by decide)
 have hs0 := Int.emod_nonneg e.set (b := 4) (by decide)
 have hs1 := Int.emod_lt_of_pos e.set (b := 4) (by decide)
 have ht0 := Int.emod_nonneg e.set (b := (ns : Int)) (by omega)
 have ht1 := Int.emod_lt_of_pos e.set (b := (ns : Int)) (by omega)
 have hkd : kind23 e (decide ((k : Int) = 0)) = 0 ∨ kind23 e (decide ((k : Int) = 0)) = 1 ∨ (kind23 e (decide ((k : Int) = 0)) = 2 ∧ k ≠ 0) := by
  unfold kind23
  split
  ·exact .inl rfl
  ·rename_i hh
   have hc : e.kind % 3 = 0 ∨ e.kind % 3 = 1 ∨ e.kind % 3 = 2 := by omega
   rcases hc with hc | hc | hc
   ·exact .inl hc
   ·exact .inr (.inl hc)
   ·refine .inr (.inr ⟨hc, fun hk => hh ⟨?_, hc⟩⟩)
    subst hk
    rfl
 unfold DrEra era23
 dsimp only
 rcases hkd with h | h | ⟨h, hk⟩
 ·refine .inl ⟨h, ?_, ?_, by omega, by omega, hf⟩
  ·unfold save23; rw [if_neg (by omega)]
  ·unfold set23; rw [if_neg (by omega)]
 ·refine .inr (.inl ⟨h, ?_, ?_, by omega, by omega, hf⟩)
  ·unfold save23; rw [if_pos h]; omega
  ·unfold set23; rw [if_neg (by omega)]
 ·have he : set23 e (decide ((k : Int) = 0)) ns = sN (e.set % (ns : Int)).toNat := by
   unfold set23 sN
   rw [if_pos h, Int.toNat_of_nonneg ht0]
  obtain ⟨h1, h2⟩ := hs (e.set % (ns : Int)).toNat (by omega)
  refine .inr (.inr ⟨h, decide_eq_false hk, ?_, by omega, by omega, hf, ?_, ?_⟩)
  ·unfold save23; rw [if_neg (by omega)]
  ·rw [he]; exact h1
  ·rw [he]; exact h2
theorem eras23_get (ns : Int) (l : List E23) : ∀ (c k : Nat) (e : DEra), (eras23 ns l c).1[k]? = some e → k < c ∧ e = era23 (l.getD k e23Z) (decide ((k : Int) = 0)) ns (eras23 ns l (k + 1)).2 (decide ((k : Int) < (l.length : Int) - 1))
 | 0, k, e, h => by simp [eras23] at h
 | c + 1, k, e, h => by
  have hl := eras23_len ns l c
  simp only [eras23] at h
  rcases Nat.lt_trichotomy k c with hk | hk | hk
  ·rw [List.getElem?_append_left (by omega)] at h
   obtain ⟨h1, h2⟩ := eras23_get ns l c k e h
   exact ⟨by omega, h2⟩
  ·rw [List.getElem?_append_right (by omega), hl, hk, Nat.sub_self] at h
   simp only [List.getElem?_cons_zero, Option.some.injEq] at h
   subst h hk
   exact ⟨by omega, rfl⟩
  ·rw [List.getElem?_eq_none (by simp; omega)] at h
   cases h
theorem eras23_yr (ns : Int) (l : List E23) : ∀ k : Nat, 1904 + k ≤ (eras23 ns l k).2 ∧ (eras23 ns l k).2 ≤ 1904 + 30 * k ∧ (eras23 ns l k).2 < (eras23 ns l (k + 1)).2
 | 0 => by
  have h3 := Int.emod_nonneg (l.getD 0 e23Z).years (b := 30) (by decide)
  simp only [eras23]
  omega
 | k + 1 => by
  obtain ⟨h1, h2, _⟩ := eras23_yr ns l k
  have h3 := Int.emod_nonneg (l.getD k e23Z).years (b := 30) (by decide)
  have h4 := Int.emod_lt_of_pos (l.getD k e23Z).years (b := 30) (by decide)
  have h5 := Int.emod_nonneg (l.getD (k + 1) e23Z).years (b := 30) (by decide)
  simp only [eras23] at h1 h2 ⊢
  omega
theorem zone23_dr (rs : List DRule) (ns : Nat) (hns : 1 ≤ ns) (i : Nat) (l : List E23) (hs : ∀ j, j < ns → DrSet (ofB rs (sN j)) ∧ (ofB rs (sN j)).length ≤ 5) : ∃ Y, DrEras rs (zone23 ns i l).eras Y := by
 have hl := el23_len l
 show ∃ Y, DrEras rs (eras23 ns (el23 l) (el23 l).length).1 Y
 generalize el23 l = m at *
 have hlen := eras23_len ns m m.length
 refine ⟨fun k => (eras23 ns m (k + 1)).2 - 1, by omega, fun k e he => ?_, fun k hk => ?_, fun k hk => ?_, fun k e he => ?_⟩
 ·obtain ⟨h1, rfl⟩ := eras23_get ns m m.length k e he
  exact era23_dr rs ns hns _ k _ _ hs
 ·have := eras23_yr ns m (k + 1)
  omega
 ·have := eras23_yr ns m (k + 1)
  show (eras23 ns m (k + 1)).2 - 1 < (eras23 ns m (k + 1 + 1)).2 - 1
  omega
 ·obtain ⟨h1, rfl⟩ := eras23_get ns m m.length k e he
  generalize m.getD k e23Z = x at *
  have o := tmod_rng x.at_ 24 (by decide)
  have b0 := Int.emod_nonneg x.base (b := 3) (by decide)
  have b1 := Int.emod_lt_of_pos x.base (b := 3) (by decide)
  have d0 := Int.emod_nonneg x.day (b := 20) (by decide)
  have d1 := Int.emod_lt_of_pos x.day (b := 20) (by decide)
  have w0 := Int.emod_nonneg x.day (b := 7) (by decide)
  have w1 := Int.emod_lt_of_pos x.day (b := 7) (by decide)
  show if k + 1 < _ then DrTil (til23 x (eras23 ns m (k + 1)).2 (decide ((k : Int) < (m.length : Int) - 1))) ((eras23 ns m (k + 1)).2 - 1) else til23 x (eras23 ns m (k + 1)).2 (decide ((k : Int) < (m.length : Int) - 1)) = noTil
  rw [hlen]
  by_cases hk : k + 1 < m.length
  ·rw [if_pos hk, decide_eq_true (by omega)]
   unfold til23
   rw [if_pos rfl]
   refine .inr ⟨day23 x, _, _, by rw [show (eras23 ns m (k + 1)).2 - 1 + 1 = (eras23 ns m (k + 1)).2 by omega], ?_, by omega, by omega, by omega, by omega⟩
   unfold day23
   split
   ·exact .inr ⟨rfl, ⟨w0, by dsimp only; omega⟩, rfl⟩
   ·exact .inl ⟨rfl, rfl, by dsimp only; omega, by dsimp only; omega⟩
  ·rw [if_neg hk, decide_eq_false (by omega)]
   rfl
theorem zones23_dr (rs : List DRule) (ns : Nat) (hns : 1 ≤ ns) (zs : List (List E23)) (hs : ∀ j, j < ns → DrSet (ofB rs (sN j)) ∧ (ofB rs (sN j)).length ≤ 5) : ∀ i, ∀ z ∈ zones23 ns zs i, ∃ Y, DrEras rs z.eras Y
 | 0, z, h => by cases h
 | i + 1, z, h => by
  rw [zones23, List.mem_append, List.mem_singleton] at h
  rcases h with h | rfl
  ·exact zones23_dr rs ns hns zs hs i z h
  ·exact zone23_dr rs ns hns i _ hs
theorem ns23 (d : DD23) : 1 ≤ d.ns ∧ d.ns ≤ 3 := by unfold DD23.ns; omega
theorem made23_zones (d : DD23) : ∀ z ∈ (made23 d).zones, ∃ Y, DrEras (made23 d).rules z.eras Y :=
 zones23_dr (rules23 d.sets d.ns) d.ns (ns23 d).1 (zl23 d.zones) (fun j hj => rules23_set d.sets d.ns (ns23 d).2 j hj) (zl23 d.zones).length
theorem made23_sets (d : DD23) : setsD (made23 d) = none := rules23_sets d.sets d.ns (ns23 d).2
def zoneN23 : List ByteArray := [⟨#[65, 114, 101, 97, 47, 90, 48]⟩, ⟨#[65, 114, 101, 97, 47, 90, 49]⟩, ⟨#[65, 114, 101, 97, 47, 90, 50]⟩]
def linkN23 : List ByteArray := [⟨#[79, 108, 100, 47, 76, 48]⟩, ⟨#[79, 108, 100, 47, 76, 49]⟩, ⟨#[79, 108, 100, 47, 76, 50]⟩, ⟨#[79, 108, 100, 47, 76, 51]⟩]
theorem zoneN23_eq : ∀ i : Fin 3, sZ ++ dig ((i.val : Nat) : Int) = zoneN23.getD i.val ByteArray.empty := by decide +kernel
theorem linkN23_eq : ∀ i : Fin 4, sL ++ dig ((i.val : Nat) : Int) = linkN23.getD i.val ByteArray.empty := by decide +kernel
def lkT23 (nz c : Nat) : ByteArray := if c < nz then zoneN23.getD c ByteArray.empty else linkN23.getD (c - nz) ByteArray.empty
def lks23 (nz : Nat) (c : Nat → Nat) : Nat → List DLink
 | 0 => []
 | i + 1 => lks23 nz c i ++ [⟨lkT23 nz (c i), linkN23.getD i ByteArray.empty⟩]
def zns23 : Nat → List DZone
 | 0 => []
 | i + 1 => zns23 i ++ [⟨zoneN23.getD i ByteArray.empty, []⟩]
def ch4 (a b c d : Nat) (i : Nat) : Nat := match i with | 0 => a | 1 => b | 2 => c | _ => d
theorem links23_all : ∀ nz : Fin 4, ∀ nl : Fin 5, ∀ a : Fin 3, ∀ b : Fin 4, ∀ c : Fin 5, ∀ d : Fin 6, a.val < nz.val → b.val < nz.val + 1 → c.val < nz.val + 2 → d.val < nz.val + 3 →
  linksD ⟨[], zns23 nz.val, lks23 nz.val (ch4 a.val b.val c.val d.val) nl.val, []⟩ = none := by decide +kernel
theorem zones23_bare (sets : Int) (zs : List (List E23)) : ∀ i, i ≤ 3 → (zones23 sets zs i).map bare' = zns23 i
 | 0, _ => rfl
 | i + 1, h => by
  rw [zones23, List.map_append, zones23_bare sets zs i (by omega), zns23, ← zoneN23_eq ⟨i, by omega⟩]
  rfl
theorem link23_is (nz : Nat) (h1 : 1 ≤ nz) (h3 : nz ≤ 3) (n : Int) (i : Nat) (hi : i < 4) : ∃ c, c < nz + i ∧ link23 nz n i = ⟨lkT23 nz c, linkN23.getD i ByteArray.empty⟩ := by
 have a0 := Int.emod_nonneg n (b := (nz : Int) + i) (by omega)
 have a1 := Int.emod_lt_of_pos n (b := (nz : Int) + i) (by omega)
 have b0 := Int.emod_nonneg n (b := (nz : Int)) (by omega)
 have b1 := Int.emod_lt_of_pos n (b := (nz : Int)) (by omega)
 unfold link23
 rw [linkN23_eq ⟨i, hi⟩]
 by_cases h : n % ((nz : Int) + i) ≥ nz
 ·refine ⟨(n % ((nz : Int) + i)).toNat, by omega, ?_⟩
  rw [if_pos h]
  unfold lkT23
  rw [if_neg (by omega), ← linkN23_eq ⟨(n % ((nz : Int) + i)).toNat - nz, by omega⟩]
  dsimp only
  rw [show (((n % ((nz : Int) + i)).toNat - nz : Nat) : Int) = n % ((nz : Int) + i) - nz by omega]
 ·refine ⟨(n % (nz : Int)).toNat, by omega, ?_⟩
  rw [if_neg h]
  unfold lkT23
  rw [if_pos (by omega), ← zoneN23_eq ⟨(n % (nz : Int)).toNat, by omega⟩]
  dsimp only
  rw [Int.toNat_of_nonneg b0]
theorem lks23_congr (nz : Nat) (c c' : Nat → Nat) : ∀ n, (∀ i, i < n → c i = c' i) → lks23 nz c n = lks23 nz c' n
 | 0, _ => rfl
 | n + 1, h => by rw [lks23, lks23, lks23_congr nz c c' n fun i hi => h i (by omega), h n (by omega)]
theorem links23_lks (nz : Nat) (h1 : 1 ≤ nz) (h3 : nz ≤ 3) (L : List Int) : ∀ i : Nat, i ≤ 4 → ∃ c : Nat → Nat, (∀ k, c k < nz + k) ∧ links23 nz L i = lks23 nz c i
 | 0, _ => ⟨fun _ => 0, fun k => by dsimp only; omega, rfl⟩
 | i + 1, h => by
  obtain ⟨c, q1, q2⟩ := links23_lks nz h1 h3 L i (by omega)
  obtain ⟨x, q3, q4⟩ := link23_is nz h1 h3 (L.getD i 0) i (by omega)
  refine ⟨fun k => if k = i then x else c k, fun k => ?_, ?_⟩
  ·dsimp only
   split
   ·rename_i e; rw [e]; exact q3
   ·exact q1 k
  ·rw [links23, q2, q4, lks23, lks23_congr nz (fun k => if k = i then x else c k) c i fun k hk => if_neg (by omega), if_pos rfl]
theorem made23_links (d : DD23) : linksD (made23 d) = none := by
 obtain ⟨z1, z3⟩ := zl23_len d.zones
 have hl : (d.links.take 4).length ≤ 4 := by rw [List.length_take]; omega
 obtain ⟨c, q1, q2⟩ := links23_lks (zl23 d.zones).length z1 z3 (d.links.take 4) (d.links.take 4).length hl
 rw [linksD_bare]
 unfold made23 bareS
 dsimp only
 rw [zones23_bare _ _ _ z3, q2, lks23_congr _ c (ch4 (c 0) (c 1) (c 2) (c 3)) _ fun i hi => by
  have hc : i = 0 ∨ i = 1 ∨ i = 2 ∨ i = 3 := by omega
  rcases hc with rfl | rfl | rfl | rfl <;> rfl]
 have r0 := q1 0
 have r1 := q1 1
 have r2 := q1 2
 have r3 := q1 3
 exact links23_all ⟨_, by omega⟩ ⟨_, by omega⟩ ⟨c 0, by omega⟩ ⟨c 1, by omega⟩ ⟨c 2, by omega⟩ ⟨c 3, by omega⟩ (by dsimp only; omega) (by dsimp only; omega) (by dsimp only; omega) (by dsimp only; omega)
theorem made23_sizes (d : DD23) : sizesD (made23 d) = none := by
 have h1 := rules23_len d.sets d.ns
 have hm := (ns23 d).2
 obtain ⟨z1, z3⟩ := zl23_len d.zones
 have hr : (made23 d).rules.length ≤ 15 := by
  show (rules23 d.sets d.ns).length ≤ 15
  omega
 have hz : (made23 d).zones.length ≤ 3 := by
  show (zones23 d.ns (zl23 d.zones) (zl23 d.zones).length).length ≤ 3
  rw [zones23_len]; exact z3
 have hk : (made23 d).links.length ≤ 4 := by
  show (links23 (zl23 d.zones).length (d.links.take 4) (d.links.take 4).length).length ≤ 4
  rw [links23_len, List.length_take]; omega
 have hf : (made23 d).zones.findIdx? (fun z => decide (60 < z.eras.length)) = none := by
  rw [List.findIdx?_eq_none_iff]
  intro z hz
  obtain ⟨Y, h⟩ := made23_zones d z hz
  have := h.len
  exact decide_eq_false (by omega)
 unfold sizesD
 rw [if_neg (by omega), if_neg (by omega), hf]
 dsimp only
 rw [if_neg (by omega), if_neg (by show ¬ 2000 < ([] : List ByteArray).length; decide)]
theorem made23_acc (d : DD23) : accD (made23 d) = none := by
 unfold accD
 rw [made23_sizes d, made23_sets d, made23_links d, zonesGo_none _ 0 (made23_zones d)]
 rfl
end Go.Proofs.YtonjepladadmhaaGreatDoor
