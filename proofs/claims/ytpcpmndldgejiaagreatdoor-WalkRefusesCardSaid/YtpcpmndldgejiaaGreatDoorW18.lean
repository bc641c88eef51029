/- Parts of the proof. -/
import Derived.Test.YtpcpmndldgejiaaGreatDoorW17
import Derived.Test.YtpcpmndldgejiaaGreatDoorW04
import Derived.Test.YtpcpmndldgejiaaGreatDoorW05
import Derived.Laws.Strings2
set_option maxHeartbeats 4000000
set_option linter.unusedVariables false
set_option linter.unusedSimpArgs false
namespace Go.Proofs.YtpcpmndldgejiaaGreatDoor
open Go Go.RowKit Go.Wk
attribute [local irreducible] W RL Does Zay Zam retQ Calls Pu Stp RD Qy Ay Zan atB Zh9 ZeA Zgz
def Zqx (n : Int) : List Value := [.int .i64 n]
theorem Zqx.len (n : Int) : (Zqx n).length = 1 := rfl
theorem Zqn (x : ByteArray) : ∀ (l : List Zaa) (k : Nat) (r : Zaa), l[k]? = some r -> lay (l.flatMap Zaa.enc) (k * 11) [.string x] = (l.take k ++ ZcL x r :: l.drop (k + 1)).flatMap Zaa.enc
 | [], k, r, h => by simp at h
 | a :: l, 0, r, h => by
  simp only [List.getElem?_cons_zero, Option.some.injEq] at h
  subst h
  simp [lay, ZcL, Zaa.enc]
 | a :: l, k + 1, r, h => by
  have ih := Zqn x l k r (by simpa using h)
  simp only [lay] at ih ⊢
  simp only [List.flatMap_cons, List.take_succ_cons, List.drop_succ_cons, List.cons_append]
  rw [<- ih]
  rw [show (k + 1) * 11 = a.enc.length + k * 11 by rw [Zaa.len]; omega, List.set_append_right _ _ (by omega), Nat.add_sub_cancel_left]
theorem Zlp {x : ByteArray} {l : List Zaa} {k : Nat} (r : Zaa) (hr : l[k]? = some r) : ((l.take k).map (ZcL x) ++ l.drop k)[k]? = some r := by
 have hk := (List.getElem?_eq_some_iff.1 hr).1
 have e : ((l.take k).map (ZcL x)).length = k := by rw [List.length_map, List.length_take]; omega
 rw [List.getElem?_append_right (by omega), e, Nat.sub_self, List.getElem?_drop]
 exact hr
theorem ZrE (x : ByteArray) (l : List Zaa) (k : Nat) (r : Zaa) (hr : l[k]? = some r) :
  lay (((l.take k).map (ZcL x) ++ l.drop k).flatMap Zaa.enc) (k * 11 + 0) [.string x] = ((l.take (k + 1)).map (ZcL x) ++ l.drop (k + 1)).flatMap Zaa.enc := by
 have hk := (List.getElem?_eq_some_iff.1 hr).1
 have e : ((l.take k).map (ZcL x)).length = k := by rw [List.length_map, List.length_take]; omega
 rw [Nat.add_zero, Zqn x _ k r (Zlp r hr), List.take_append_of_le_length (by omega), List.take_of_length_le (by omega)]
 congr 1
 rw [List.drop_append, List.drop_eq_nil_of_le (by omega), e, List.nil_append, List.drop_drop, List.take_add_one, List.map_append, List.append_assoc, hr, show k + (k + 1 - k) = k + 1 by omega]
 rfl
set_option maxHeartbeats 8000000 in
theorem ZoO (A : Option Addr) (c : Nat) (l : List Int) (x : ByteArray) (w : World) (hA : RdSl w A c ZcH 1 l) (hr : ∀ x ∈ l, inR .u8 x) :
  Does Tryz.prog 30 [.slice A l.length c, .string x] w (fun v O => ∃ A' c', v = .slice A' (Zce l x).length c' /\ O = [.row (.slice A' (Zce l x).length c') 118 11 (Zce l x).length ((Zce l x).flatMap Zaa.enc)]) := by
 have r0 := Zaw l 0 5 (by decide)
 have r1 := Zaw l 1 80 (by decide)
 have r3 := Zaw l 3 28 (by decide)
 have r6 := Zaw l 6 12 (by decide)
 have r8 := Zaw l 8 5 (by decide)
 have r9 := Zaw l 9 6 (by decide)
 obtain ⟨q1, q2, q3⟩ := Zm1 l
 obtain ⟨q4, q5, q6⟩ := Zqq l (m1 l).1 (m1 l).2 q1 q2 q3
 have hget : Zhb[(atB l 0 5).toNat]? = some (ZbO l) := by
  have hk : (atB l 0 5).toNat < Zhb.length := by simp only [Zhb, List.length_cons, List.length_nil]; omega
  rw [ZbO, List.getD_eq_getElem?_getD, List.getElem?_eq_getElem hk]
  rfl
 refine Zab Tryz.func30 rfl rfl rfl rfl ?_
 repeat (first | (apply RL_pu; rfl; (apply ZdI (v := .int .i64 (ZbO l)); rfl; (intro w' _ hO; exact ((Zh7 (c := 5) (l := Zhb) (t := 2) Zqx.len (Nat.le_refl 5) (by decide) (hO.of (A := .blk bk (Zhb.flatMap Zqx) _) (by repeat' constructor))).rd _ _ hget).2 0 _ rfl))) | (refine js ?_; (first | (refine Zac (fun w' hw => ZbB A c l 0 5 w' (hA.up hw) hr (by omega) (by omega)) ?_) | (refine Zac (fun w' hw => ZbB A c l 1 80 w' (hA.up hw) hr (by omega) (by omega)) ?_) | (refine Zac (fun w' hw => ZbB A c l 2 3 w' (hA.up hw) hr (by omega) (by omega)) ?_) | (refine bx ?_; intro bk))) | refine walk1 ?_)
 refine ZfG 118 11 ?_
 refine Zb0 (fun fr' O' => ∃ A' c' n xs, (n = (m1 l).1.length /\ xs = (m1 l).1.flatMap Zaa.enc) /\ Sub [(0, .slice A l.length c), (1, .string x), (5, .int .i64 (ZbO l)), (6, .int .i64 (m1 l).2), (7, .slice A' n c')] fr' /\ SubO [.row (.slice A' n c') 118 11 n xs] O') ?_ ?_
 ·refine Zah rfl (fun h => ?_) (fun h => ?_)
  ·have e : m1 l = ([ZyM l (1900 + atB l 1 80)], 1900 + atB l 1 80 + 1) := by rw [m1, if_pos (by simpa using h)]
   repeat (first | (refine js ?_; (first | (refine Zac (fun w' hw => ZbB A c l 3 28 w' (hA.up hw) hr (by omega) (by omega)) ?_) | (refine Zac (fun w' hw => Zht A c l 4 w' (hA.up hw) hr (by omega) (by omega)) ?_) | (apply Zau; rfl; rfl; (intro A' c'; (focus repeat' constructor)); (intro w' _ hO; exact Za4 (hO.of (by repeat' constructor))); rfl; rfl; (simp only [maxLen]; omega); omega; intro A' c' hc1 hc2 hc3) | (refine bx ?_; intro bk))) | refine walk ?_)
   rw [e]
   exact ⟨rfl, A', c', 0 + 1, [] ++ (ZyM l (1900 + atB l 1 80)).enc, ⟨rfl, rfl⟩, SFA, SOA⟩
  have e : m1 l = ([], 1900 + atB l 1 80) := by rw [m1, if_neg (by simpa using h)]
  repeat (first | (refine js ?_; (refine bx ?_; intro bk)) | refine walk ?_)
  rw [e]
  exact ⟨rfl, none, 0, 0, [], ⟨rfl, rfl⟩, SFA, SOA⟩
 rintro fr' O' ⟨A1, c1, n1, x1, ⟨hn1, hx1⟩, hf, hO⟩
 apply thenQ_n
 refine Zch hf hO ?_
 clear hf hO fr' O'
 repeat (first | (refine js ?_; (first | (refine Zac (fun w' hw => ZbB A c l 5 2 w' (hA.up hw) hr (by omega) (by omega)) ?_) | (refine bx ?_; intro bk))) | refine walk ?_)
 rw [Zce]
 generalize m1 l = g1 at *
 obtain ⟨o1, f1⟩ := g1
 dsimp only at *
 refine Zb0 (fun fr' O' => ∃ A' c' n xs, (n = (m2 l o1 f1).1.length /\ xs = (m2 l o1 f1).1.flatMap Zaa.enc) /\ Sub [(0, .slice A l.length c), (1, .string x), (5, .int .i64 (ZbO l)), (6, .int .i64 (m2 l o1 f1).2), (7, .slice A' n c')] fr' /\ SubO [.row (.slice A' n c') 118 11 n xs] O') ?_ ?_
 ·refine Zah rfl (fun h => ?_) (fun h => ?_)
  ·have e : m2 l o1 f1 = (o1 ++ Zgz l 7 f1 (f1 + atB l 6 12) (ZbO l), f1 + atB l 6 12 + 1 + atB l 8 5) := by rw [m2, if_pos (by simpa using h)]
   repeat (first | (refine js ?_; (first | (refine Zac (fun w' hw => ZbB A c l 6 12 w' (hA.up hw) hr (by omega) (by omega)) ?_) | (refine Zac (fun w' hw => ZbB A c l 8 5 w' (hA.up hw) hr (by omega) (by omega)) ?_) | (apply Zag (h := fun w' hw _ => ZiK A c l 7 f1 (f1 + atB l 6 12) (ZbO l) w' (hA.up hw) hr (by omega) (by omega)); rfl; rintro v O' ⟨k1, rfl, rfl⟩) | (apply Zau; rfl; rfl; (intro A' c'; (focus repeat' constructor)); (intro w' _ hO; exact Za4 (hO.of (by repeat' constructor))); (rw [Zbr Zaa.len, Zdb]); exact Zfs oneR _; (simp only [maxLen]; omega); omega; intro A' c' hc1 hc2 hc3) | (refine bx ?_; intro bk))) | refine walk ?_)
   rw [e]
   exact ⟨rfl, A', c', n1 + 2, x1 ++ _, ⟨by rw [List.length_append, Zdb, hn1], by rw [List.flatMap_append, hx1]⟩, SFA, SOA⟩
  have e : m2 l o1 f1 = (o1, f1) := by rw [m2, if_neg (by simpa using h)]
  repeat (first | (refine js ?_; (refine bx ?_; intro bk)) | refine walk ?_)
  rw [e]
  exact ⟨rfl, A1, c1, n1, x1, ⟨hn1, hx1⟩, SFA, SOA⟩
 rintro fr' O' ⟨A2, c2, n2, x2, ⟨hn2, hx2⟩, hf, hO⟩
 apply thenQ_n
 refine Zch hf hO ?_
 clear hf hO fr' O'
 generalize m2 l o1 f1 = g2 at *
 obtain ⟨o2, f2⟩ := g2
 dsimp only at *
 repeat (first | (refine js ?_; (first | (refine Zac (fun w' hw => ZbB A c l 9 6 w' (hA.up hw) hr (by omega) (by omega)) ?_) | (refine Zac (fun w' hw => ZbB A c l 10 3 w' (hA.up hw) hr (by omega) (by omega)) ?_) | (refine bx ?_; intro bk))) | refine walk ?_)
 refine Zb0 (fun fr' O' => Sub [(0, .slice A l.length c), (1, .string x), (5, .int .i64 (ZbO l)), (6, .int .i64 f2), (7, .slice A2 n2 c2), (9, .int .i64 (to17 l f2))] fr' /\ SubO [.row (.slice A2 n2 c2) 118 11 n2 x2] O') ?_ ?_
 ·refine Zah rfl (fun h => ?_) (fun h => ?_)
  ·have e : to17 l f2 = 1048576 := by rw [to17, if_pos (by simpa using h)]
   repeat (first | (refine js ?_; (refine bx ?_; intro bk)) | refine walk ?_)
   rw [e]
   exact ⟨rfl, SFA, SOA⟩
  have e : to17 l f2 = f2 + atB l 9 6 := by rw [to17, if_neg (by simpa using h)]
  repeat (first | (refine js ?_; (refine bx ?_; intro bk)) | refine walk ?_)
  rw [e]
  exact ⟨rfl, SFA, SOA⟩
 rintro fr' O' ⟨hf, hO⟩
 apply thenQ_n
 refine Zch hf hO ?_
 clear hf hO fr' O'
 repeat (first | (refine js ?_; (first | (apply Zag (h := fun w' hw _ => ZiK A c l 11 f2 (to17 l f2) (ZbO l) w' (hA.up hw) hr (by omega) (by omega)); rfl; rintro v O' ⟨k1, rfl, rfl⟩) | (apply Zau; rfl; rfl; (intro A' c'; (focus repeat' constructor)); (intro w' _ hO; exact Za4 (hO.of (by repeat' constructor))); (rw [Zbr Zaa.len, Zdb]); exact Zfs oneR _; (simp only [maxLen]; omega); omega; intro A' c' hc1 hc2 hc3) | (refine bx ?_; intro bk))) | refine walk ?_)
 obtain ⟨o3, ho3⟩ : ∃ o3, m3 l o2 f2 = o3 := ⟨_, rfl⟩
 have hx3 : x2 ++ (Zgz l 11 f2 (to17 l f2) (ZbO l)).flatMap Zaa.enc = o3.flatMap Zaa.enc := by rw [<- ho3, m3, List.flatMap_append, hx2]
 have hn3 : n2 + 2 = o3.length := by rw [<- ho3, m3, List.length_append, Zdb, hn2]
 have hn5 : o3.length <= 5 := by omega
 rw [ho3, hx3, hn3]
 have hAn : A' ≠ none := hc3 (by omega)
 refine Zaq [(1, .string x), (7, .slice A' o3.length c'), (70, .int .i64 o3.length)] [] (fun k : Nat => [(71, .int .i64 k)]) (fun k => [.row (.slice A' o3.length c') 118 11 o3.length (((o3.take k).map (ZcL x) ++ o3.drop k).flatMap Zaa.enc)]) (fun k => k <= o3.length) (fun k => o3.length - k) 0 SFA SOA (Nat.zero_le _) ?_
 intro k hk
 repeat (first | (refine js ?_; (refine bx ?_; intro bk)) | refine walk ?_)
 refine Zah rfl (fun h => ?_) (fun h => ?_)
 ·have hk2 : k < o3.length := by simpa using h
  have hll : (((o3.take k).map (ZcL x) ++ o3.drop k).flatMap Zaa.enc).length = o3.length * 11 := by
   rw [Zbr Zaa.len, List.length_append, List.length_map, List.length_take, List.length_drop, Nat.min_eq_left hk]
   congr 1; omega
  repeat (first | (apply RL_pu; rfl; (first | (apply Pu_indexAddr; rfl; rfl; omega; omega; exact hAn) | (apply Zma; rfl))) | (refine js ?_; (first | (apply ZbW; rfl; rfl; (focus repeat' constructor); rfl; rfl; rfl; (rw [hll]; omega); decide; exact ZrE x o3 k _ (List.getElem?_eq_getElem hk2)) | (refine bx ?_; intro bk))) | refine walk1 ?_)
  exact ⟨k + 1, OA, OA, SFA, SOA⟩
 have hk2 : k = o3.length := by simp only [decide_eq_false_iff_not] at h; omega
 subst hk2
 repeat (first | (refine js ?_; (refine bx ?_; intro bk)) | refine walk ?_)
 have e : (o3.take o3.length).map (ZcL x) ++ o3.drop o3.length = o3.map (ZcL x) := by rw [List.take_length, List.drop_length, List.append_nil]
 rw [e]
 refine ret_1 _ [.row (.slice A' (o3.map (ZcL x)).length c') 118 11 (o3.map (ZcL x)).length ((o3.map (ZcL x)).flatMap Zaa.enc)] (.tmp (v := .slice A' (o3.map (ZcL x)).length c') (by rw [List.length_map]; rfl)) (by rw [List.length_map]; exact SOA) ⟨A', c', rfl, rfl⟩
end Go.Proofs.YtpcpmndldgejiaaGreatDoor
namespace Go.Proofs.YtpcpmndldgejiaaGreatDoor
open Go Go.RowKit Go.Wk Go.ChangeShapes Go.WideShapes Go.ChangeAt
structure _root_.Go.Wk.E23 where
 mk ::
 kind : Int
 set : Int
 format : Int
 years : Int
 day : Int
 base : Int
 off : Int
 at_ : Int
 deriving DecidableEq
def _root_.Go.Wk.E23.enc (d : E23) : List Value := [.int .u8 d.kind, .int .u8 d.set, .int .u8 d.format, .int .u8 d.years, .int .u8 d.day, .int .u8 d.base, .int .i8 d.off, .int .i8 d.at_]
section
variable {H : Type} {enc : TypeId × Value -> H} {w : World} {sp : Nat -> Bool} {held : Bool}
def _root_.Go.Wk.E23.ok (d : E23) : Prop := inR .u8 d.kind /\ inR .u8 d.set /\ inR .u8 d.format /\ inR .u8 d.years /\ inR .u8 d.day /\ inR .u8 d.base /\ inR .i8 d.off /\ inR .i8 d.at_
theorem ZzR {n : Nat} {cs : List Value} {y : DataW H × List MemPlace} (h : DataW.trod enc Tryz.prog w 0 sp held n 109 cs = some y) : ∃ d : E23, cs = d.enc /\ d.ok := by
 obtain ⟨hl, hf⟩ := ZqC Tryz.underlying109 h
 rw [show Tryz.prog.cellsOf 109 = 8 from by kernel_rfl] at hl
 have c5 : Tryz.prog.cellsOf 5 = 1 := by kernel_rfl
 have c107 : Tryz.prog.cellsOf 107 = 1 := by kernel_rfl
 obtain ⟨a0, cs0, rfl, hl0⟩ := ZaS hl
 obtain ⟨a1, cs1, rfl, hl1⟩ := ZaS hl0
 obtain ⟨a2, cs2, rfl, hl2⟩ := ZaS hl1
 obtain ⟨a3, cs3, rfl, hl3⟩ := ZaS hl2
 obtain ⟨a4, cs4, rfl, hl4⟩ := ZaS hl3
 obtain ⟨a5, cs5, rfl, hl5⟩ := ZaS hl4
 obtain ⟨a6, cs6, rfl, hl6⟩ := ZaS hl5
 obtain ⟨a7, cs7, rfl, hl7⟩ := ZaS hl6
 obtain rfl := List.eq_nil_of_length_eq_zero hl7
 obtain ⟨n0, y0, h0⟩ := hf 0 5 0 1 rfl c5
 obtain ⟨x0, e0, _, b0⟩ := DataW.trod_int Tryz.underlying5 h0
 injection e0 with e0 _
 subst e0
 obtain ⟨n1, y1, h1⟩ := hf 1 5 1 1 rfl c5
 obtain ⟨x1, e1, _, b1⟩ := DataW.trod_int Tryz.underlying5 h1
 injection e1 with e1 _
 subst e1
 obtain ⟨n2, y2, h2⟩ := hf 2 5 2 1 rfl c5
 obtain ⟨x2, e2, _, b2⟩ := DataW.trod_int Tryz.underlying5 h2
 injection e2 with e2 _
 subst e2
 obtain ⟨n3, y3, h3⟩ := hf 3 5 3 1 rfl c5
 obtain ⟨x3, e3, _, b3⟩ := DataW.trod_int Tryz.underlying5 h3
 injection e3 with e3 _
 subst e3
 obtain ⟨n4, y4, h4⟩ := hf 4 5 4 1 rfl c5
 obtain ⟨x4, e4, _, b4⟩ := DataW.trod_int Tryz.underlying5 h4
 injection e4 with e4 _
 subst e4
 obtain ⟨n5, y5, h5⟩ := hf 5 5 5 1 rfl c5
 obtain ⟨x5, e5, _, b5⟩ := DataW.trod_int Tryz.underlying5 h5
 injection e5 with e5 _
 subst e5
 obtain ⟨n6, y6, h6⟩ := hf 6 107 6 1 rfl c107
 obtain ⟨x6, e6, _, b6⟩ := DataW.trod_int Tryz.underlying107 h6
 injection e6 with e6 _
 subst e6
 obtain ⟨n7, y7, h7⟩ := hf 7 107 7 1 rfl c107
 obtain ⟨x7, e7, _, b7⟩ := DataW.trod_int Tryz.underlying107 h7
 injection e7 with e7 _
 subst e7
 exact ⟨⟨x0, x1, x2, x3, x4, x5, x6, x7⟩, rfl, Ze0 b0, Ze0 b1, Ze0 b2, Ze0 b3, Ze0 b4, Ze0 b5, Ze0 b6, Ze0 b7⟩
end
end Go.Proofs.YtpcpmndldgejiaaGreatDoor
namespace Go.Wk
open Go Go.RowKit
section
variable {P : Program} {n : Nat} {wr : World} {fr : Fr} {O : List It} {ty : TypeId}
theorem ZuY {t : TypeId} {x y z : Operand} {s : ByteArray} {k k' : IntKind} {i j : Int} [hS : StringT P t] (hx : ev fr x = some (.string s)) (hy : ev fr y = some (.int k i)) (hz : ev fr z = some (.int k' j)) (h0 : 0 <= i) (h1 : i <= j) (h2 : j <= s.size) :
  Pu P n wr fr O (.slice t x (some y) (some z) none) ty (.string (s.extract i.toNat j.toNat)) := fun a w hs _ _ _ _ => by
 have h := run_slice_string (P := P) w t s k k' i j hS.h h0 h1 h2
 simp [execOp, hs.sim.ev hx, hs.sim.ev hy, hs.sim.ev hz, Instr.sliceAt, run_underlying hS.h, h]
end
end Go.Wk
namespace Go.Proofs.YtpcpmndldgejiaaGreatDoor
open Go Go.RowKit Go.Wk
attribute [local irreducible] W RL Does Zay Zam retQ Calls Pu Stp RD Qy Ay Zan
def ZnA : ByteArray := ⟨#[48, 49, 50, 51, 52, 53, 54, 55, 56, 57, 97, 98, 99, 100, 101, 102, 103, 104, 105, 106, 107, 108, 109, 110, 111, 112, 113, 114, 115, 116, 117, 118, 119, 120, 121, 122]⟩
def dig (i : Int) : ByteArray := ZnA.extract i.toNat (i + 1).toNat
theorem Zox (i : Int) (h0 : 0 <= i) (h1 : i < 10) (w : World) : Does Tryz.prog 151 [.int .i64 i] w (fun v O => v = .string (dig i) /\ O = []) := by
 refine Zab Tryz.func151 rfl rfl rfl rfl ?_
 repeat (first | refine walk ?_)
 refine Zah rfl (fun h => ?_) (fun h => absurd h (by simp; omega))
 repeat (first | (apply RL_pu; rfl; (apply ZuY; rfl; rfl; rfl; omega; omega; (show i + 1 <= ((36 : Nat) : Int); omega))) | refine walk1 ?_)
 exact rtA
theorem Zj6 (i : Int) (h0 : 0 <= i) (h1 : i < 10) (w : World) : Does Tryz.prog 109 [.int .i64 i, .int .i64 10] w (fun v O => v = .string (dig i) /\ O = []) := by
 refine Zab Tryz.func109 rfl rfl rfl rfl ?_
 repeat (first | (refine js ?_; (refine bx ?_; intro bk)) | refine walk ?_)
 refine Zl5 14 rfl (fun _ => ?_) (fun h => absurd h (by simp; omega))
 repeat (first | (refine js ?_; (refine bx ?_; intro bk)) | refine walk ?_)
 refine Zah rfl (fun h => ?_) (fun h => absurd h (by simp; omega))
 repeat (first | (refine js ?_; (first | (refine Zac (fun w' _ => Zox i h0 h1 w') ?_) | (refine bx ?_; intro bk))) | refine walk ?_)
 exact rtA
theorem ZrQ (i : Int) (h0 : 0 <= i) (h1 : i < 10) (w : World) : Does Tryz.prog 69 [.int .i64 i] w (fun v O => v = .string (dig i) /\ O = []) := by
 refine Zab Tryz.func69 rfl rfl rfl rfl ?_
 repeat (first | (refine js ?_; (refine Zac (fun w' _ => Zj6 i h0 h1 w') ?_)) | refine walk ?_)
 exact rtA
theorem Zdk (i : Int) (h0 : 0 <= i) (h1 : i < 10) (w : World) : Does Tryz.prog 31 [.int .i64 i] w (fun v O => v = .string (dig i) /\ O = []) := by
 refine Zab Tryz.func31 rfl rfl rfl rfl ?_
 repeat (first | (refine js ?_; (refine Zac (fun w' _ => ZrQ i h0 h1 w') ?_)) | refine walk ?_)
 exact rtA
def ZkJ : List ByteArray := [⟨#[76, 77, 84]⟩, ⟨#[71, 77, 84, 47, 66, 83, 84]⟩, ⟨#[69, 37, 115, 83, 84]⟩, ⟨#[37, 122]⟩, ⟨#[67, 69, 84, 47, 67, 69, 83, 84]⟩, ⟨#[87, 83, 84]⟩]
def Zhm (n : Int) : ByteArray := ZkJ.getD (n % 6).toNat ByteArray.empty
theorem ZlK (n : Int) (h0 : 0 <= n) (w : World) : Does Tryz.prog 70 [.int .u8 n] w (fun v O => v = .string (Zhm n) /\ O = []) := by
 have hm0 := Int.emod_nonneg n (b := 6) (by decide)
 have hm1 := Int.emod_lt_of_pos n (b := 6) (by decide)
 have hget : ZkJ[(n % 6).toNat]? = some (Zhm n) := by
  have hk : (n % 6).toNat < ZkJ.length := by simp only [ZkJ, List.length_cons, List.length_nil]; omega
  rw [Zhm, List.getD_eq_getElem?_getD, List.getElem?_eq_getElem hk]
  rfl
 refine Zab Tryz.func70 rfl rfl rfl rfl ?_
 repeat (first | (apply RL_pu; rfl; (apply ZdI (v := .string (Zhm n)); rfl; (intro w' _ hO; exact ((Zh7 (c := 6) (l := ZkJ) (t := 9) Zbh.len (Nat.le_refl 6) (by decide) (hO.of (A := .blk bk (ZkJ.flatMap Zbh) _) (by repeat' constructor))).rd _ _ hget).2 0 _ rfl))) | (refine js ?_; (refine bx ?_; intro bk)) | refine walk1 ?_)
 exact rtA
theorem Zms (y m d : Int) (w : World) : Does Tryz.prog 71 [.int .i64 y, .int .i64 m, .int .i64 d] w (fun v O => v = .agg #[.bool true, .int .i64 y, .int .i64 m, .int .i64 1, .int .i64 0, .int .i64 d, .int .i64 0, .int .i64 0] /\ O = []) := by
 refine Zab Tryz.func71 rfl rfl rfl rfl ?_
 repeat (first | (refine js ?_; (refine bx ?_; intro bk)) | refine walk ?_)
 exact ret_1 _ [] (.cellB rfl (by repeat' constructor) rfl rfl) .nil ⟨rfl, rfl⟩
attribute [local irreducible] dig Zhm
def sR : ByteArray := ⟨#[82]⟩
def Zd2 (e : E23) (first : Bool) : Int := if first = true /\ e.kind % 3 = 2 then 0 else e.kind % 3
def Zgv (e : E23) (first : Bool) : Int := if Zd2 e first = 1 then 1800 * (1 + e.set % 4) else 0
def ZiF (e : E23) (first : Bool) (sets : Int) : ByteArray := if Zd2 e first = 2 then sR ++ dig (e.set % sets) else ByteArray.empty
def Zua (e : E23) : DDay := if e.day >= 200 then ⟨3, e.day % 7, 8⟩ else ⟨1, 0, 1 + e.day % 20⟩
def Zmt (e : E23) (year : Int) (fen : Bool) : Zbj := if fen = true then ⟨true, year, 1, Zua e, ⟨900 * (24 + e.at_.tmod 24), e.base % 3⟩⟩ else ⟨false, 0, 0, ⟨0, 0, 0⟩, ⟨0, 0⟩⟩
def ZlL (e : E23) (first : Bool) (sets year : Int) (fen : Bool) : DEra := ⟨900 * e.off.tmod 48, Zd2 e first, Zgv e first, ZiF e first sets, Zhm e.format, Zmt e year fen⟩
theorem Zib (a b : Int) (hb : 0 < b) : -b < a.tmod b /\ a.tmod b < b := ⟨Int.lt_tmod_of_pos a hb, Int.tmod_lt_of_pos a hb⟩
theorem Zii (i : Int) (h0 : 0 <= i) (h1 : i < 10) : (dig i).size = 1 := by
 unfold dig
 rw [ByteArray.size_extract]
 have : ZnA.size = 36 := rfl
 omega
theorem ZbR {G G' : Prop} (k : G') (h : Hold G' -> G := by intro k9; (first | refine walk ?_ | (refine jn ?_; (try intro F); (first | (refine stA ?_) | (apply Zae; exact PuA)); refine fin ?_)); exact k9.out) : G := h ⟨k⟩
theorem Zcw {G : Prop} (h : G := by (first | (apply ZeC; rfl; rfl; omega) | (apply Pu_rem (kk := .i8); rfl; rfl; decide))) : G := h
theorem Zfw {G : Prop} (h : G := by first | (apply Qy_y; rfl; exact Zcw) | exact QyA) : G := h
theorem Zfx {G : Prop} (h : G := by repeat (first | exact QF.nil | (apply QF.mk; rfl; rfl; decide +kernel; exact Zfw))) : G := h
theorem Zld {G : Prop} (h : G := by (first | (apply ZeC; rfl; rfl; omega) | (apply Zu3; rfl; rfl; omega))) : G := h
theorem Zlc {G : Prop} (h : G := by (apply Zgm; rfl; rfl; (rw [Zii _ (by omega) (by omega)]; decide))) : G := h
set_option maxHeartbeats 8000000 in
theorem Zr1 (e : E23) (he : e.ok) (first : Bool) (sets year : Int) (fen : Bool) (hs0 : 0 < sets) (hs1 : sets <= 10) (w : World) :
  Does Tryz.prog 32 [.agg e.enc.toArray, .bool first, .int .i64 sets, .int .i64 year, .bool fen] w (fun v O => v = .agg (ZlL e first sets year fen).enc.toArray /\ O = []) := by
 obtain ⟨k1, k2, k3, k4, k5, k6, k7, k8⟩ := he
 rw [ZkF] at k1 k2 k3 k4 k5 k6
 rw [Zxh] at k7 k8
 have t1 := Zib e.off 48 (by decide)
 have t2 := Zib e.at_ 24 (by decide)
 have m1 := Int.emod_nonneg e.set (b := sets) (by omega)
 have m2 := Int.emod_lt_of_pos e.set (b := sets) hs0
 show Does _ _ [.agg #[.int .u8 e.kind, .int .u8 e.set, .int .u8 e.format, .int .u8 e.years, .int .u8 e.day, .int .u8 e.base, .int .i8 e.off, .int .i8 e.at_], .bool first, .int .i64 sets, .int .i64 year, .bool fen] w _
 refine Zab Tryz.func32 rfl rfl rfl rfl ?_
 repeat (first | (apply RL_pu; rfl; exact Zcw) | (apply RD_Q; rfl; rfl; decide +kernel; rfl; rfl; exact Zfw) | refine walk1 ?_ | (refine jg ?_; (try intro F); (first | (refine Zac (fun w' _ => ZlK e.format k3.1 w') ?_) | (refine bx ?_; intro bk) | (refine stA ?_)); first | refine ⟨_, EndsA, Zfx, ?_⟩ | refine fin ?_) | (refine jn ?_; (try intro F); (first | (refine bx ?_; intro bk) | (refine stA ?_) | (apply Zae; first | exact Zcw | exact PuA)); first | refine ⟨_, EndsA, Zfx, ?_⟩ | refine fin ?_) | (apply RD_W; rfl; intro bk))
 rename_i b5 b10 _
 generalize bk = b11
 refine Zzp (fun fr' O' => Sub [(30, .bool (decide (first = true /\ e.kind % 3 = 2))), (2, .int .i64 sets), (3, .int .i64 year), (4, .bool fen), (5, .pointer (some ⟨b5, 0, none⟩)), (10, .pointer (some ⟨b10, 0, none⟩)), (11, .pointer (some ⟨b11, 0, none⟩))] fr' /\ SubO [.blk b11 [.int .i64 (900 * e.off.tmod 48), .int .i64 (e.kind % 3), .int .i64 0, .string ByteArray.empty, .string (Zhm e.format), .bool false, .int .i64 0, .int .i64 0, .int .i64 0, .int .i64 0, .int .i64 0, .int .i64 0, .int .i64 0] 74, .blk b10 [.int .i64 0, .int .i64 0, .int .i64 0, .string ByteArray.empty, .string ByteArray.empty, .bool false, .int .i64 0, .int .i64 0, .int .i64 0, .int .i64 0, .int .i64 0, .int .i64 0, .int .i64 0] 74, .blk b5 [.int .u8 e.kind, .int .u8 e.set, .int .u8 e.format, .int .u8 e.years, .int .u8 e.day, .int .u8 e.base, .int .i8 e.off, .int .i8 e.at_] 109] O') ?_ ?_
 ·refine Zl5 26 rfl (fun h => ?_) (fun h => ?_)
  ·repeat (first | refine ZbR ?_ | (refine jn ?_; (try intro F); (refine bx ?_; intro bk); refine fin ?_) | (apply RD_W; rfl; intro bk))
   rw [show decide (first = true /\ e.kind % 3 = 2) = decide (e.kind % 3 = 2) from decide_eq_decide.2 (by simp [h])]
   exact ⟨SFA, SOA⟩
  ·repeat (first | refine ZbR ?_ | (refine jn ?_; (try intro F); (refine bx ?_; intro bk); refine fin ?_) | (apply RD_W; rfl; intro bk))
   rw [decide_eq_false (by simp [h])]
   exact ⟨SFA, SOA⟩
 rintro fr' O' ⟨hf, hO⟩
 apply thenQ_n
 refine Zch hf hO ?_
 clear hf hO fr' O'
 refine Zb0 (fun fr' O' => Sub [(2, .int .i64 sets), (3, .int .i64 year), (4, .bool fen), (5, .pointer (some ⟨b5, 0, none⟩)), (10, .pointer (some ⟨b10, 0, none⟩)), (11, .pointer (some ⟨b11, 0, none⟩))] fr' /\ SubO [.blk b11 [.int .i64 (900 * e.off.tmod 48), .int .i64 (Zd2 e first), .int .i64 0, .string ByteArray.empty, .string (Zhm e.format), .bool false, .int .i64 0, .int .i64 0, .int .i64 0, .int .i64 0, .int .i64 0, .int .i64 0, .int .i64 0] 74, .blk b10 [.int .i64 0, .int .i64 0, .int .i64 0, .string ByteArray.empty, .string ByteArray.empty, .bool false, .int .i64 0, .int .i64 0, .int .i64 0, .int .i64 0, .int .i64 0, .int .i64 0, .int .i64 0] 74, .blk b5 [.int .u8 e.kind, .int .u8 e.set, .int .u8 e.format, .int .u8 e.years, .int .u8 e.day, .int .u8 e.base, .int .i8 e.off, .int .i8 e.at_] 109] O') ?_ ?_
 ·refine Zah rfl (fun h => ?_) (fun h => ?_)
  ·rw [show Zd2 e first = 0 from if_pos (of_decide_eq_true h)]
   repeat (first | refine ZbR ?_ | (refine jn ?_; (try intro F); (refine bx ?_; intro bk); refine fin ?_) | (apply RD_W; rfl; intro bk))
   exact ⟨rfl, SFA, SOA⟩
  ·rw [show Zd2 e first = e.kind % 3 from if_neg (of_decide_eq_false h)]
   repeat (first | refine ZbR ?_ | (refine jn ?_; (try intro F); (refine bx ?_; intro bk); refine fin ?_) | (apply RD_W; rfl; intro bk))
   exact ⟨rfl, SFA, SOA⟩
 rintro fr' O' ⟨hf, hO⟩
 apply thenQ_n
 refine Zch hf hO ?_
 clear hf hO fr' O'
 repeat (first | refine Zll ?_ | (refine jn ?_; (try intro F); (first | (refine bx ?_; intro bk) | (refine stA ?_) | (apply Zae; exact PuA)); refine fin ?_) | (apply RD_W; rfl; intro bk))
 refine Zb0 (fun fr' O' => Sub [(2, .int .i64 sets), (3, .int .i64 year), (4, .bool fen), (5, .pointer (some ⟨b5, 0, none⟩)), (10, .pointer (some ⟨b10, 0, none⟩)), (11, .pointer (some ⟨b11, 0, none⟩))] fr' /\ SubO [.blk b11 [.int .i64 (900 * e.off.tmod 48), .int .i64 (Zd2 e first), .int .i64 (Zgv e first), .string (ZiF e first sets), .string (Zhm e.format), .bool false, .int .i64 0, .int .i64 0, .int .i64 0, .int .i64 0, .int .i64 0, .int .i64 0, .int .i64 0] 74, .blk b10 [.int .i64 0, .int .i64 0, .int .i64 0, .string ByteArray.empty, .string ByteArray.empty, .bool false, .int .i64 0, .int .i64 0, .int .i64 0, .int .i64 0, .int .i64 0, .int .i64 0, .int .i64 0] 74, .blk b5 [.int .u8 e.kind, .int .u8 e.set, .int .u8 e.format, .int .u8 e.years, .int .u8 e.day, .int .u8 e.base, .int .i8 e.off, .int .i8 e.at_] 109] O') ?_ ?_
 ·repeat (first | refine ZbR ?_ | (refine jn ?_; (try intro F); (refine bx ?_; intro bk); refine fin ?_) | (apply RD_W; rfl; intro bk))
  refine Zah rfl (fun h => ?_) (fun h => ?_)
  ·have hk := of_decide_eq_true h
   rw [show Zgv e first = 1800 * (1 + e.set % 4) from if_pos hk, show ZiF e first sets = ByteArray.empty from if_neg (by rw [hk]; decide)]
   repeat (first | (apply RL_pu; rfl; exact Zld) | (apply RD_Q; rfl; rfl; decide +kernel; rfl; rfl; exact QyMadeE231) | refine walk1 ?_ | (refine jn ?_; (try intro F); (first | (refine bx ?_; intro bk) | (refine stA ?_) | (apply Zae; first | exact Zld | exact PuA)); first | refine ⟨_, EndsA, QFMadeE231, ?_⟩ | refine fin ?_) | (apply RD_W; rfl; intro bk))
   exact ⟨rfl, SFA, SOA⟩
  ·have hk := of_decide_eq_false h
   rw [show Zgv e first = 0 from if_neg hk]
   repeat (first | refine ZbR ?_ | (refine jn ?_; (try intro F); (refine bx ?_; intro bk); refine fin ?_) | (apply RD_W; rfl; intro bk))
   refine Zah rfl (fun h2 => ?_) (fun h2 => ?_)
   ·rw [show ZiF e first sets = sR ++ dig (e.set % sets) from if_pos (of_decide_eq_true h2)]
    repeat (first | (apply RL_pu; rfl; exact Zlc) | (apply RD_Q; rfl; rfl; decide +kernel; rfl; rfl; exact QyMadeE232) | refine walk1 ?_ | (refine jg ?_; (try intro F); (first | (refine Zac (fun w' _ => Zdk (e.set % sets) m1 (by omega) w') ?_) | (refine bx ?_; intro bk) | (refine stA ?_)); first | refine ⟨_, EndsA, QFMadeE232, ?_⟩ | refine fin ?_) | (refine jn ?_; (try intro F); (first | (refine bx ?_; intro bk) | (refine stA ?_) | (apply Zae; first | exact Zlc | exact PuA)); first | refine ⟨_, EndsA, QFMadeE232, ?_⟩ | refine fin ?_) | (apply RD_W; rfl; intro bk))
    exact ⟨rfl, SFA, SOA⟩
   ·rw [show ZiF e first sets = ByteArray.empty from if_neg (of_decide_eq_false h2)]
    repeat (first | refine ZbR ?_ | (refine jn ?_; (try intro F); (refine bx ?_; intro bk); refine fin ?_) | (apply RD_W; rfl; intro bk))
    exact ⟨rfl, SFA, SOA⟩
 rintro fr' O' ⟨hf, hO⟩
 apply thenQ_n
 refine Zch hf hO ?_
 clear hf hO fr' O'
 have hE : ∀ u : Zbj, Zmt e year fen = u -> (ZlL e first sets year fen).enc = [.int .i64 (900 * e.off.tmod 48), .int .i64 (Zd2 e first), .int .i64 (Zgv e first), .string (ZiF e first sets), .string (Zhm e.format), .bool u.is, .int .i64 u.year, .int .i64 u.month, .int .i64 u.day.kind, .int .i64 u.day.week, .int .i64 u.day.day, .int .i64 u.at_.sec, .int .i64 u.at_.base] := fun u hu => by rw [<- hu]; rfl
 generalize Zd2 e first = K at *
 generalize Zgv e first = SV at *
 generalize ZiF e first sets = ST at *
 repeat (first | refine ZbR ?_ | (refine jn ?_; (try intro F); (refine bx ?_; intro bk); refine fin ?_) | (apply RD_W; rfl; intro bk))
 refine Zah rfl (fun h => ?_) (fun h => ?_)
 ·repeat (first | refine walk ?_ | (refine jg ?_; (try intro F); (first | (refine Zac (fun w' _ => Zms year 1 (1 + e.day % 20) w') ?_) | (refine bx ?_; intro bk) | (refine stA ?_)); refine fin ?_) | (refine jn ?_; (try intro F); (first | (refine bx ?_; intro bk) | (refine stA ?_) | (apply Zae; exact PuA)); refine fin ?_) | (apply RD_W; rfl; intro bk))
  refine Zah rfl (fun h2 => ?_) (fun h2 => ?_)
  ·rw [hE ⟨true, year, 1, ⟨3, e.day % 7, 8⟩, ⟨900 * (24 + e.at_.tmod 24), e.base % 3⟩⟩ (by rw [Zmt, if_pos h, Zua, if_pos (of_decide_eq_true h2)])]
   repeat (first | (apply RL_pu; rfl; exact Zcw) | (apply RD_Q; rfl; rfl; decide +kernel; rfl; rfl; exact Zfw) | refine walk1 ?_ | (refine jn ?_; (try intro F); (first | (refine bx ?_; intro bk) | (refine stA ?_) | (apply Zae; first | exact Zcw | exact PuA)); first | refine ⟨_, EndsA, Zfx, ?_⟩ | refine fin ?_) | (apply RD_W; rfl; intro bk))
   exact ret_1 _ [] (.cellB rfl (by repeat' constructor) rfl rfl) .nil ⟨rfl, rfl⟩
  ·rw [hE ⟨true, year, 1, ⟨1, 0, 1 + e.day % 20⟩, ⟨900 * (24 + e.at_.tmod 24), e.base % 3⟩⟩ (by rw [Zmt, if_pos h, Zua, if_neg (of_decide_eq_false h2)])]
   repeat (first | (apply RL_pu; rfl; exact Zcw) | (apply RD_Q; rfl; rfl; decide +kernel; rfl; rfl; exact Zfw) | refine walk1 ?_ | (refine jn ?_; (try intro F); (first | (refine bx ?_; intro bk) | (refine stA ?_) | (apply Zae; first | exact Zcw | exact PuA)); first | refine ⟨_, EndsA, Zfx, ?_⟩ | refine fin ?_) | (apply RD_W; rfl; intro bk))
   exact ret_1 _ [] (.cellB rfl (by repeat' constructor) rfl rfl) .nil ⟨rfl, rfl⟩
 ·rw [hE ⟨false, 0, 0, ⟨0, 0, 0⟩, ⟨0, 0⟩⟩ (by rw [Zmt, if_neg (by rw [h]; decide)])]
  repeat (first | refine ZbR ?_ | (refine jn ?_; (try intro F); (refine bx ?_; intro bk); refine fin ?_) | (apply RD_W; rfl; intro bk))
  exact ret_1 _ [] (.cellB rfl (by repeat' constructor) rfl rfl) .nil ⟨rfl, rfl⟩
end Go.Proofs.YtpcpmndldgejiaaGreatDoor
namespace Go.Wk
open Go Go.RowKit
theorem Zu1 {P : Program} {n : Nat} {wr : World} {fr : Fr} {O : List It} {ty : TypeId} {x y : Operand} {ts : Array TypeId} {k : IntKind} {i j : Int} (hx : ev fr x = some (.int k i)) (hy : ev fr y = some (.int k j)) : Pu P n wr fr O (.call ⟨.builtin .max, #[x, y], ts⟩) ty (.int k (if i < j then j else i)) :=
 fun a w hs _ _ _ _ => by simp [execOp, resolve, invoke, builtin, Builtin.max_, Builtin.max2, hs.sim.ev hx, hs.sim.ev hy]
theorem RdSl.take {α : Type} {w : World} {A : Option Addr} {c : Nat} {enc : α -> List Value} {sz : Nat} {xs : List α} (h : RdSl w A c enc sz xs) (k : Nat) : RdSl w A c enc sz (xs.take k) :=
 ⟨by rw [List.length_take]; exact Nat.le_trans (Nat.min_le_right _ _) h.le, h.cap, fun j x hj => h.rd j x (by
  rw [List.getElem?_take] at hj
  split at hj
  ·exact hj
  ·cases hj)⟩
theorem E23.len (x : E23) : x.enc.length = 8 := rfl
end Go.Wk
namespace Go.Proofs.YtpcpmndldgejiaaGreatDoor
open Go Go.RowKit Go.Wk
structure DD23 where
 sets : List (List Int)
 zones : List (List E23)
 links : List Int
structure RdLL {α : Type} (w : World) (A : Option Addr) (c : Nat) (enc : α -> List Value) (sz : Nat) (ll : List (List α)) : Prop where
 le : ll.length <= c
 cap : c <= maxLen
 rd : ∀ k l, ll[k]? = some l -> A ≠ none /\ ∃ B cb, RdSl w B cb enc sz l /\ Zao w ((adr A).add (k * 1)) [.slice B l.length cb]
theorem RdLL.up {α : Type} {w w' : World} {A : Option Addr} {c : Nat} {enc : α -> List Value} {sz : Nat} {ll : List (List α)} (h : RdLL w A c enc sz ll) (hb : Bel w.heap.size w w') : RdLL w' A c enc sz ll :=
 ⟨h.le, h.cap, fun k l hk => by
  obtain ⟨h1, B, cb, h2, h3⟩ := h.rd k l hk
  exact ⟨h1, B, cb, h2.up hb, h3.up hb (Nat.le_refl _)⟩⟩
theorem RdLL.take {α : Type} {w : World} {A : Option Addr} {c : Nat} {enc : α -> List Value} {sz : Nat} {ll : List (List α)} (h : RdLL w A c enc sz ll) (k : Nat) : RdLL w A c enc sz (ll.take k) :=
 ⟨by rw [List.length_take]; exact Nat.le_trans (Nat.min_le_right _ _) h.le, h.cap, fun j x hj => h.rd j x (by
  rw [List.getElem?_take] at hj
  split at hj
  ·exact hj
  ·cases hj)⟩
def d23V (As Az Al : Option Addr) (cs cz cl : Nat) (d : DD23) : Value := .agg #[.slice As d.sets.length cs, .slice Az d.zones.length cz, .slice Al d.links.length cl]
def e23Z : E23 := ⟨0, 0, 0, 0, 0, 0, 0, 0⟩
def sZ : ByteArray := ⟨#[65, 114, 101, 97, 47, 90]⟩
def sL : ByteArray := ⟨#[79, 108, 100, 47, 76]⟩
def DD23.ns (d : DD23) : Nat := max 1 (min d.sets.length 3)
def Za3 (sets : List (List Int)) : Nat -> List Zaa
 | 0 => []
 | k + 1 => Za3 sets k ++ Zce (sets.getD k []) (sR ++ dig k)
def zl23 (zones : List (List E23)) : List (List E23) := if zones.length = 0 then [[]] else zones.take 3
def el23 (l : List E23) : List E23 := if l.length = 0 then [e23Z] else l.take 4
def ZaT (sets : Int) (l : List E23) : Nat -> List DEra × Int
 | 0 => ([], 1904)
 | k + 1 => ((ZaT sets l k).1 ++ [ZlL (l.getD k e23Z) (decide ((k : Int) = 0)) sets ((ZaT sets l k).2 + (1 + (l.getD k e23Z).years % 30)) (decide ((k : Int) < (l.length : Int) - 1))], (ZaT sets l k).2 + (1 + (l.getD k e23Z).years % 30))
def ZpV (sets : Int) (i : Nat) (l : List E23) : ZaY := ⟨sZ ++ dig i, (ZaT sets (el23 l) (el23 l).length).1⟩
def ZbN (sets : Int) (zs : List (List E23)) : Nat -> List ZaY
 | 0 => []
 | i + 1 => ZbN sets zs i ++ [ZpV sets i (zs.getD i [])]
def ZhP (nz : Nat) (n : Int) (i : Nat) : Zbf := ⟨if n % ((nz : Int) + i) >= nz then sL ++ dig (n % ((nz : Int) + i) - nz) else sZ ++ dig (n % (nz : Int)), sL ++ dig i⟩
def Zby (nz : Nat) (links : List Int) : Nat -> List Zbf
 | 0 => []
 | i + 1 => Zby nz links i ++ [ZhP nz (links.getD i 0) i]
def Zap (d : DD23) : Zai := ⟨Za3 d.sets d.ns, ZbN d.ns (zl23 d.zones) (zl23 d.zones).length, Zby (zl23 d.zones).length (d.links.take 4) (d.links.take 4).length, []⟩
theorem ZkA (l : List Int) (x : ByteArray) : (Zce l x).length <= 5 := by
 obtain ⟨q1, q2, q3⟩ := Zm1 l
 obtain ⟨q4, q5, q6⟩ := Zqq l (m1 l).1 (m1 l).2 q1 q2 q3
 rw [Zce, List.length_map, m3, List.length_append, Zdb]
 omega
theorem Zc9 (sets : List (List Int)) : ∀ k, (Za3 sets k).length <= 5 * k
 | 0 => Nat.le_refl _
 | k + 1 => by
  have := Zc9 sets k
  have h2 := ZkA (sets.getD k []) (sR ++ dig k)
  rw [Za3, List.length_append]
  omega
theorem ZbK (zs : List (List E23)) : 1 <= (zl23 zs).length /\ (zl23 zs).length <= 3 := by
 unfold zl23
 split
 ·simp
 ·rw [List.length_take]; omega
theorem ZqF (l : List E23) : 1 <= (el23 l).length /\ (el23 l).length <= 4 := by
 unfold el23
 split
 ·simp
 ·rw [List.length_take]; omega
theorem Zfm (sets : Int) (l : List E23) : ∀ k, (ZaT sets l k).1.length = k
 | 0 => rfl
 | k + 1 => by simp [ZaT, Zfm sets l k]
theorem Zjp (sets : Int) (l : List E23) (hl : ∀ e ∈ l, e.ok) : ∀ k : Nat, 1904 <= (ZaT sets l k).2 /\ (ZaT sets l k).2 <= 1904 + 30 * k
 | 0 => by simp [ZaT]
 | k + 1 => by
  obtain ⟨h1, h2⟩ := Zjp sets l hl k
  have h3 := Int.emod_nonneg (l.getD k e23Z).years (b := 30) (by decide)
  have h4 := Int.emod_lt_of_pos (l.getD k e23Z).years (b := 30) (by decide)
  simp only [ZaT]
  omega
theorem Zc3 (sets : Int) (zs : List (List E23)) : ∀ k, (ZbN sets zs k).length = k
 | 0 => rfl
 | k + 1 => by simp [ZbN, Zc3 sets zs k]
theorem Zct (nz : Nat) (links : List Int) : ∀ k, (Zby nz links k).length = k
 | 0 => rfl
 | k + 1 => by simp [Zby, Zct nz links k]
def sN (j : Nat) : ByteArray := sR ++ dig (j : Int)
theorem ZAL : ∀ i j : Fin 3, i ≠ j -> sN i.val ≠ sN j.val := by decide +kernel
theorem ZAK : ∀ i : Fin 3, setB (sN i.val) = true := by decide +kernel
theorem Zed (sets : List (List Int)) : ∀ m, ∀ r ∈ Za3 sets m, ∃ j, j < m /\ r.name = sN j
 | 0, r, h => by cases h
 | m + 1, r, h => by
  rw [Za3, List.mem_append] at h
  rcases h with h | h
  ·obtain ⟨j, h1, h2⟩ := Zed sets m r h
   exact ⟨j, by omega, h2⟩
  ·exact ⟨m, by omega, ZeW _ _ r h⟩
theorem Zkn (sets : List (List Int)) : ∀ m, m <= 3 -> ∀ j, j < 3 -> ofB (Za3 sets m) (sN j) = if j < m then Zce (sets.getD j []) (sN j) else []
 | 0, _, j, _ => rfl
 | m + 1, hm, j, hj => by
  rw [Za3, ZyO, Zkn sets m (by omega) j hj]
  by_cases h : j = m
  ·subst h
   rw [if_neg (by omega), if_pos (by omega), List.nil_append]
   exact ZyP (ZeW _ _)
  ·have hno : ofB (Zce (sets.getD m []) (sR ++ dig (m : Int))) (sN j) = [] := ZzV (y := sN m) (ZeW _ _) (ZAL ⟨m, by omega⟩ ⟨j, hj⟩ fun e => h (Fin.mk.inj e).symm)
   rw [hno, List.append_nil]
   by_cases h2 : j < m
   ·rw [if_pos h2, if_pos (by omega)]
   ·rw [if_neg h2, if_neg (by omega)]
theorem Zf2 (sets : List (List Int)) (m : Nat) (hm : m <= 3) (j : Nat) (hj : j < m) : Zbl (ofB (Za3 sets m) (sN j)) /\ (ofB (Za3 sets m) (sN j)).length <= 5 := by
 rw [Zkn sets m hm j (by omega), if_pos hj]
 exact ⟨ZrG _ _, ZrH _ _⟩
theorem ZmH (sets : List (List Int)) (m : Nat) (hm : m <= 3) : ZdS (Za3 sets m) (Zcd (Za3 sets m) []) = none := by
 refine ZhI _ fun x hx => ?_
 rcases Zf5 _ _ x hx with h | ⟨r, h1, h2⟩
 ·cases h
 ·obtain ⟨j, h3, h4⟩ := Zed sets m r h1
  rw [<- h2, h4]
  exact (Zf2 sets m hm j h3).1.fault (ZAK ⟨j, by omega⟩)
theorem ZtU (n : Int) : Zhm n ∈ fmtU := by
 have h0 := Int.emod_nonneg n (b := 6) (by decide)
 have h1 := Int.emod_lt_of_pos n (b := 6) (by decide)
 unfold Zhm
 generalize n % 6 = x at *
 have hc : x = 0 \/ x = 1 \/ x = 2 \/ x = 3 \/ x = 4 \/ x = 5 := by omega
 rcases hc with rfl | rfl | rfl | rfl | rfl | rfl
 ·exact .head _
 ·exact .tail _ (.head _)
 ·exact .tail _ (.tail _ (.tail _ (.tail _ (.tail _ (.tail _ (.head _))))))
 ·exact .tail _ (.tail _ (.tail _ (.head _)))
 ·exact .tail _ (.tail _ (.tail _ (.tail _ (.head _))))
 ·exact .tail _ (.tail _ (.tail _ (.tail _ (.tail _ (.tail _ (.tail _ (.head _)))))))
theorem ZwB (rs : List Zaa) (ns : Nat) (hns : 1 <= ns) (e : E23) (k : Nat) (year : Int) (fin_ : Bool) (hs : ∀ j, j < ns -> Zbl (ofB rs (sN j)) /\ (ofB rs (sN j)).length <= 5) :
  ZbC rs (ZlL e (decide ((k : Int) = 0)) ns year fin_) (decide (k = 0)) := by
 have o := Zib e.off 48 (by decide)
 have hf := ZtU e.format
 have hk0 := Int.emod_nonneg e.kind (b := 3) (by decide)
 have hk1 := Int.emod_lt_of_pos e.kind (b := 3) (by decide)
 have hs0 := Int.emod_nonneg e.set (b := 4) (by decide)
 have hs1 := Int.emod_lt_of_pos e.set (b := 4) (by decide)
 have ht0 := Int.emod_nonneg e.set (b := (ns : Int)) (by omega)
 have ht1 := Int.emod_lt_of_pos e.set (b := (ns : Int)) (by omega)
 have hkd : Zd2 e (decide ((k : Int) = 0)) = 0 \/ Zd2 e (decide ((k : Int) = 0)) = 1 \/ (Zd2 e (decide ((k : Int) = 0)) = 2 /\ k ≠ 0) := by
  unfold Zd2
  split
  ·exact .inl rfl
  ·rename_i hh
   have hc : e.kind % 3 = 0 \/ e.kind % 3 = 1 \/ e.kind % 3 = 2 := by omega
   rcases hc with hc | hc | hc
   ·exact .inl hc
   ·exact .inr (.inl hc)
   ·refine .inr (.inr ⟨hc, fun hk => hh ⟨?_, hc⟩⟩)
    subst hk
    rfl
 unfold ZbC ZlL
 dsimp only
 rcases hkd with h | h | ⟨h, hk⟩
 ·refine .inl ⟨h, ?_, ?_, by omega, by omega, hf⟩
  ·unfold Zgv; rw [if_neg (by omega)]
  ·unfold ZiF; rw [if_neg (by omega)]
 ·refine .inr (.inl ⟨h, ?_, ?_, by omega, by omega, hf⟩)
  ·unfold Zgv; rw [if_pos h]; omega
  ·unfold ZiF; rw [if_neg (by omega)]
 ·have he : ZiF e (decide ((k : Int) = 0)) ns = sN (e.set % (ns : Int)).toNat := by
   unfold ZiF sN
   rw [if_pos h, Int.toNat_of_nonneg ht0]
  obtain ⟨h1, h2⟩ := hs (e.set % (ns : Int)).toNat (by omega)
  refine .inr (.inr ⟨h, decide_eq_false hk, ?_, by omega, by omega, hf, ?_, ?_⟩)
  ·unfold Zgv; rw [if_neg (by omega)]
  ·rw [he]; exact h1
  ·rw [he]; exact h2
theorem Zhq (ns : Int) (l : List E23) : ∀ (c k : Nat) (e : DEra), (ZaT ns l c).1[k]? = some e -> k < c /\ e = ZlL (l.getD k e23Z) (decide ((k : Int) = 0)) ns (ZaT ns l (k + 1)).2 (decide ((k : Int) < (l.length : Int) - 1))
 | 0, k, e, h => by simp [ZaT] at h
 | c + 1, k, e, h => by
  have hl := Zfm ns l c
  simp only [ZaT] at h
  rcases Nat.lt_trichotomy k c with hk | hk | hk
  ·rw [List.getElem?_append_left (by omega)] at h
   obtain ⟨h1, h2⟩ := Zhq ns l c k e h
   exact ⟨by omega, h2⟩
  ·rw [List.getElem?_append_right (by omega), hl, hk, Nat.sub_self] at h
   simp only [List.getElem?_cons_zero, Option.some.injEq] at h
   subst h hk
   exact ⟨by omega, rfl⟩
  ·rw [List.getElem?_eq_none (by simp; omega)] at h
   cases h
theorem Zjo (ns : Int) (l : List E23) : ∀ k : Nat, 1904 + k <= (ZaT ns l k).2 /\ (ZaT ns l k).2 <= 1904 + 30 * k /\ (ZaT ns l k).2 < (ZaT ns l (k + 1)).2
 | 0 => by
  have h3 := Int.emod_nonneg (l.getD 0 e23Z).years (b := 30) (by decide)
  simp only [ZaT]
  omega
 | k + 1 => by
  obtain ⟨h1, h2, _⟩ := Zjo ns l k
  have h3 := Int.emod_nonneg (l.getD k e23Z).years (b := 30) (by decide)
  have h4 := Int.emod_lt_of_pos (l.getD k e23Z).years (b := 30) (by decide)
  have h5 := Int.emod_nonneg (l.getD (k + 1) e23Z).years (b := 30) (by decide)
  simp only [ZaT] at h1 h2 ⊢
  omega
theorem Zsw (rs : List Zaa) (ns : Nat) (hns : 1 <= ns) (i : Nat) (l : List E23) (hs : ∀ j, j < ns -> Zbl (ofB rs (sN j)) /\ (ofB rs (sN j)).length <= 5) : ∃ Y, ZaJ rs (ZpV ns i l).eras Y := by
 have hl := ZqF l
 show ∃ Y, ZaJ rs (ZaT ns (el23 l) (el23 l).length).1 Y
 generalize el23 l = m at *
 have hlen := Zfm ns m m.length
 refine ⟨fun k => (ZaT ns m (k + 1)).2 - 1, by omega, fun k e he => ?_, fun k hk => ?_, fun k hk => ?_, fun k e he => ?_⟩
 ·obtain ⟨h1, rfl⟩ := Zhq ns m m.length k e he
  exact ZwB rs ns hns _ k _ _ hs
 ·have := Zjo ns m (k + 1)
  omega
 ·have := Zjo ns m (k + 1)
  show (ZaT ns m (k + 1)).2 - 1 < (ZaT ns m (k + 1 + 1)).2 - 1
  omega
 ·obtain ⟨h1, rfl⟩ := Zhq ns m m.length k e he
  generalize m.getD k e23Z = x at *
  have o := Zib x.at_ 24 (by decide)
  have b0 := Int.emod_nonneg x.base (b := 3) (by decide)
  have b1 := Int.emod_lt_of_pos x.base (b := 3) (by decide)
  have d0 := Int.emod_nonneg x.day (b := 20) (by decide)
  have d1 := Int.emod_lt_of_pos x.day (b := 20) (by decide)
  have w0 := Int.emod_nonneg x.day (b := 7) (by decide)
  have w1 := Int.emod_lt_of_pos x.day (b := 7) (by decide)
  show if k + 1 < _ then ZvR (Zmt x (ZaT ns m (k + 1)).2 (decide ((k : Int) < (m.length : Int) - 1))) ((ZaT ns m (k + 1)).2 - 1) else Zmt x (ZaT ns m (k + 1)).2 (decide ((k : Int) < (m.length : Int) - 1)) = ZyS
  rw [hlen]
  by_cases hk : k + 1 < m.length
  ·rw [if_pos hk, decide_eq_true (by omega)]
   unfold Zmt
   rw [if_pos rfl]
   refine .inr ⟨Zua x, _, _, by rw [show (ZaT ns m (k + 1)).2 - 1 + 1 = (ZaT ns m (k + 1)).2 by omega], ?_, by omega, by omega, by omega, by omega⟩
   unfold Zua
   split
   ·exact .inr ⟨rfl, ⟨w0, by dsimp only; omega⟩, rfl⟩
   ·exact .inl ⟨rfl, rfl, by dsimp only; omega, by dsimp only; omega⟩
  ·rw [if_neg hk, decide_eq_false (by omega)]
   rfl
theorem Zka (rs : List Zaa) (ns : Nat) (hns : 1 <= ns) (zs : List (List E23)) (hs : ∀ j, j < ns -> Zbl (ofB rs (sN j)) /\ (ofB rs (sN j)).length <= 5) : ∀ i, ∀ z ∈ ZbN ns zs i, ∃ Y, ZaJ rs z.eras Y
 | 0, z, h => by cases h
 | i + 1, z, h => by
  rw [ZbN, List.mem_append, List.mem_singleton] at h
  rcases h with h | rfl
  ·exact Zka rs ns hns zs hs i z h
  ·exact Zsw rs ns hns i _ hs
theorem ns23 (d : DD23) : 1 <= d.ns /\ d.ns <= 3 := by unfold DD23.ns; omega
theorem ZaX (d : DD23) : ∀ z ∈ (Zap d).zones, ∃ Y, ZaJ (Zap d).rules z.eras Y :=
 Zka (Za3 d.sets d.ns) d.ns (ns23 d).1 (zl23 d.zones) (fun j hj => Zf2 d.sets d.ns (ns23 d).2 j hj) (zl23 d.zones).length
theorem Zf7 (d : DD23) : Zh6 (Zap d) = none := ZmH d.sets d.ns (ns23 d).2
def Zbg : List ByteArray := [⟨#[65, 114, 101, 97, 47, 90, 48]⟩, ⟨#[65, 114, 101, 97, 47, 90, 49]⟩, ⟨#[65, 114, 101, 97, 47, 90, 50]⟩]
def ZeX : List ByteArray := [⟨#[79, 108, 100, 47, 76, 48]⟩, ⟨#[79, 108, 100, 47, 76, 49]⟩, ⟨#[79, 108, 100, 47, 76, 50]⟩, ⟨#[79, 108, 100, 47, 76, 51]⟩]
theorem Zkc : ∀ i : Fin 3, sZ ++ dig ((i.val : Nat) : Int) = Zbg.getD i.val ByteArray.empty := by decide +kernel
theorem ZkC : ∀ i : Fin 4, sL ++ dig ((i.val : Nat) : Int) = ZeX.getD i.val ByteArray.empty := by decide +kernel
def ZrJ (nz c : Nat) : ByteArray := if c < nz then Zbg.getD c ByteArray.empty else ZeX.getD (c - nz) ByteArray.empty
def ZfE (nz : Nat) (c : Nat -> Nat) : Nat -> List Zbf
 | 0 => []
 | i + 1 => ZfE nz c i ++ [⟨ZrJ nz (c i), ZeX.getD i ByteArray.empty⟩]
def Zgn : Nat -> List ZaY
 | 0 => []
 | i + 1 => Zgn i ++ [⟨Zbg.getD i ByteArray.empty, []⟩]
def ch4 (a b c d : Nat) (i : Nat) : Nat := match i with | 0 => a | 1 => b | 2 => c | _ => d
theorem ZoS : ∀ nz : Fin 4, ∀ nl : Fin 5, ∀ a : Fin 3, ∀ b : Fin 4, ∀ c : Fin 5, ∀ d : Fin 6, a.val < nz.val -> b.val < nz.val + 1 -> c.val < nz.val + 2 -> d.val < nz.val + 3 ->
  Zb7 ⟨[], Zgn nz.val, ZfE nz.val (ch4 a.val b.val c.val d.val) nl.val, []⟩ = none := by decide +kernel
theorem Zb6 (sets : Int) (zs : List (List E23)) : ∀ i, i <= 3 -> (ZbN sets zs i).map ZjF = Zgn i
 | 0, _ => rfl
 | i + 1, h => by
  rw [ZbN, List.map_append, Zb6 sets zs i (by omega), Zgn, <- Zkc ⟨i, by omega⟩]
  rfl
theorem Ztw (nz : Nat) (h1 : 1 <= nz) (h3 : nz <= 3) (n : Int) (i : Nat) (hi : i < 4) : ∃ c, c < nz + i /\ ZhP nz n i = ⟨ZrJ nz c, ZeX.getD i ByteArray.empty⟩ := by
 have a0 := Int.emod_nonneg n (b := (nz : Int) + i) (by omega)
 have a1 := Int.emod_lt_of_pos n (b := (nz : Int) + i) (by omega)
 have b0 := Int.emod_nonneg n (b := (nz : Int)) (by omega)
 have b1 := Int.emod_lt_of_pos n (b := (nz : Int)) (by omega)
 unfold ZhP
 rw [ZkC ⟨i, hi⟩]
 by_cases h : n % ((nz : Int) + i) >= nz
 ·refine ⟨(n % ((nz : Int) + i)).toNat, by omega, ?_⟩
  rw [if_pos h]
  unfold ZrJ
  rw [if_neg (by omega), <- ZkC ⟨(n % ((nz : Int) + i)).toNat - nz, by omega⟩]
  dsimp only
  rw [show (((n % ((nz : Int) + i)).toNat - nz : Nat) : Int) = n % ((nz : Int) + i) - nz by omega]
 ·refine ⟨(n % (nz : Int)).toNat, by omega, ?_⟩
  rw [if_neg h]
  unfold ZrJ
  rw [if_pos (by omega), <- Zkc ⟨(n % (nz : Int)).toNat, by omega⟩]
  dsimp only
  rw [Int.toNat_of_nonneg b0]
theorem Zdi (nz : Nat) (c c' : Nat -> Nat) : ∀ n, (∀ i, i < n -> c i = c' i) -> ZfE nz c n = ZfE nz c' n
 | 0, _ => rfl
 | n + 1, h => by rw [ZfE, ZfE, Zdi nz c c' n fun i hi => h i (by omega), h n (by omega)]
theorem Zcs (nz : Nat) (h1 : 1 <= nz) (h3 : nz <= 3) (L : List Int) : ∀ i : Nat, i <= 4 -> ∃ c : Nat -> Nat, (∀ k, c k < nz + k) /\ Zby nz L i = ZfE nz c i
 | 0, _ => ⟨fun _ => 0, fun k => by dsimp only; omega, rfl⟩
 | i + 1, h => by
  obtain ⟨c, q1, q2⟩ := Zcs nz h1 h3 L i (by omega)
  obtain ⟨x, q3, q4⟩ := Ztw nz h1 h3 (L.getD i 0) i (by omega)
  refine ⟨fun k => if k = i then x else c k, fun k => ?_, ?_⟩
  ·dsimp only
   split
   ·rename_i e; rw [e]; exact q3
   ·exact q1 k
  ·rw [Zby, q2, q4, ZfE, Zdi nz (fun k => if k = i then x else c k) c i fun k hk => if_neg (by omega), if_pos rfl]
theorem ZhL (d : DD23) : Zb7 (Zap d) = none := by
 obtain ⟨z1, z3⟩ := ZbK d.zones
 have hl : (d.links.take 4).length <= 4 := by rw [List.length_take]; omega
 obtain ⟨c, q1, q2⟩ := Zcs (zl23 d.zones).length z1 z3 (d.links.take 4) (d.links.take 4).length hl
 rw [Zeg]
 unfold Zap Ze9
 dsimp only
 rw [Zb6 _ _ _ z3, q2, Zdi _ c (ch4 (c 0) (c 1) (c 2) (c 3)) _ fun i hi => by
  have hc : i = 0 \/ i = 1 \/ i = 2 \/ i = 3 := by omega
  rcases hc with rfl | rfl | rfl | rfl <;> rfl]
 have r0 := q1 0
 have r1 := q1 1
 have r2 := q1 2
 have r3 := q1 3
 exact ZoS ⟨_, by omega⟩ ⟨_, by omega⟩ ⟨c 0, by omega⟩ ⟨c 1, by omega⟩ ⟨c 2, by omega⟩ ⟨c 3, by omega⟩ (by dsimp only; omega) (by dsimp only; omega) (by dsimp only; omega) (by dsimp only; omega)
theorem ZeU (d : DD23) : ZcQ (Zap d) = none := by
 have h1 := Zc9 d.sets d.ns
 have hm := (ns23 d).2
 obtain ⟨z1, z3⟩ := ZbK d.zones
 have hr : (Zap d).rules.length <= 15 := by
  show (Za3 d.sets d.ns).length <= 15
  omega
 have hz : (Zap d).zones.length <= 3 := by
  show (ZbN d.ns (zl23 d.zones) (zl23 d.zones).length).length <= 3
  rw [Zc3]; exact z3
 have hk : (Zap d).links.length <= 4 := by
  show (Zby (zl23 d.zones).length (d.links.take 4) (d.links.take 4).length).length <= 4
  rw [Zct, List.length_take]; omega
 have hf : (Zap d).zones.findIdx? (fun z => decide (60 < z.eras.length)) = none := by
  rw [List.findIdx?_eq_none_iff]
  intro z hz
  obtain ⟨Y, h⟩ := ZaX d z hz
  have := h.len
  exact decide_eq_false (by omega)
 unfold ZcQ
 rw [if_neg (by omega), if_neg (by omega), hf]
 dsimp only
 rw [if_neg (by omega), if_neg (by show ¬ 2000 < ([] : List ByteArray).length; decide)]
theorem Zfj (d : DD23) : accD (Zap d) = none := by
 unfold accD
 rw [ZeU d, Zf7 d, ZhL d, ZeD _ 0 (ZaX d)]
 rfl
end Go.Proofs.YtpcpmndldgejiaaGreatDoor
