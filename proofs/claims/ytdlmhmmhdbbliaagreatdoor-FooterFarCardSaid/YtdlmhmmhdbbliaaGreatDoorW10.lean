/- Parts of the proof. -/
import Derived.Test.YtdlmhmmhdbbliaaGreatDoorW09
import Derived.Test.YtdlmhmmhdbbliaaGreatDoorW04
import Derived.Test.YtdlmhmmhdbbliaaGreatDoorW05
import Derived.Laws.Strings2
set_option maxHeartbeats 4000000
set_option linter.unusedVariables false
set_option linter.unusedSimpArgs false
namespace Go.Proofs.YtdlmhmmhdbbliaaGreatDoor
open Go Go.RowKit Go.Wk
attribute [local irreducible] W RL Does Zau Zaj retQ Calls Pu Stp RD Qy Ay Zak atB Zhp Zd9 ZfS
def Zpe (n : Int) : List Value := [.int .i64 n]
theorem Zpe.len (n : Int) : (Zpe n).length = 1 := rfl
theorem Zo5 (x : ByteArray) : ∀ (l : List Zaa) (k : Nat) (r : Zaa), l[k]? = some r -> lay (l.flatMap Zaa.enc) (k * 11) [.string x] = (l.take k ++ Zcw x r :: l.drop (k + 1)).flatMap Zaa.enc
 | [], k, r, h => by simp at h
 | a :: l, 0, r, h => by
  simp only [List.getElem?_cons_zero, Option.some.injEq] at h
  subst h
  simp [lay, Zcw, Zaa.enc]
 | a :: l, k + 1, r, h => by
  have ih := Zo5 x l k r (by simpa using h)
  simp only [lay] at ih ⊢
  simp only [List.flatMap_cons, List.take_succ_cons, List.drop_succ_cons, List.cons_append]
  rw [<- ih]
  rw [show (k + 1) * 11 = a.enc.length + k * 11 by rw [Zaa.len]; omega, List.set_append_right _ _ (by omega), Nat.add_sub_cancel_left]
theorem Zkr {x : ByteArray} {l : List Zaa} {k : Nat} (r : Zaa) (hr : l[k]? = some r) : ((l.take k).map (Zcw x) ++ l.drop k)[k]? = some r := by
 have hk := (List.getElem?_eq_some_iff.1 hr).1
 have e : ((l.take k).map (Zcw x)).length = k := by rw [List.length_map, List.length_take]; omega
 rw [List.getElem?_append_right (by omega), e, Nat.sub_self, List.getElem?_drop]
 exact hr
theorem Zqr (x : ByteArray) (l : List Zaa) (k : Nat) (r : Zaa) (hr : l[k]? = some r) :
  lay (((l.take k).map (Zcw x) ++ l.drop k).flatMap Zaa.enc) (k * 11 + 0) [.string x] = ((l.take (k + 1)).map (Zcw x) ++ l.drop (k + 1)).flatMap Zaa.enc := by
 have hk := (List.getElem?_eq_some_iff.1 hr).1
 have e : ((l.take k).map (Zcw x)).length = k := by rw [List.length_map, List.length_take]; omega
 rw [Nat.add_zero, Zo5 x _ k r (Zkr r hr), List.take_append_of_le_length (by omega), List.take_of_length_le (by omega)]
 congr 1
 rw [List.drop_append, List.drop_eq_nil_of_le (by omega), e, List.nil_append, List.drop_drop, List.take_add_one, List.map_append, List.append_assoc, hr, show k + (k + 1 - k) = k + 1 by omega]
 rfl
set_option maxHeartbeats 8000000 in
theorem ZnE (A : Option Addr) (c : Nat) (l : List Int) (x : ByteArray) (w : World) (hA : RdSl w A c Zed 1 l) (hr : ∀ x ∈ l, inR .u8 x) :
  Does Tryz.prog 15 [.slice A l.length c, .string x] w (fun v O => ∃ A' c', v = .slice A' (ZbV l x).length c' /\ O = [.row (.slice A' (ZbV l x).length c') 82 11 (ZbV l x).length ((ZbV l x).flatMap Zaa.enc)]) := by
 have r0 := Zap l 0 5 (by decide)
 have r1 := Zap l 1 80 (by decide)
 have r3 := Zap l 3 28 (by decide)
 have r6 := Zap l 6 12 (by decide)
 have r8 := Zap l 8 5 (by decide)
 have r9 := Zap l 9 6 (by decide)
 obtain ⟨q1, q2, q3⟩ := Zl0 l
 obtain ⟨q4, q5, q6⟩ := Zo9 l (m1 l).1 (m1 l).2 q1 q2 q3
 have hget : Zgy[(atB l 0 5).toNat]? = some (Zbw l) := by
  have hk : (atB l 0 5).toNat < Zgy.length := by simp only [Zgy, List.length_cons, List.length_nil]; omega
  rw [Zbw, List.getD_eq_getElem?_getD, List.getElem?_eq_getElem hk]
  rfl
 refine Zab Tryz.func15 rfl rfl rfl rfl ?_
 repeat (first | (apply RL_pu; rfl; (apply Zd4 (v := .int .i64 (Zbw l)); rfl; (intro w' _ hO; exact ((ZkB (c := 5) (l := Zgy) (t := 2) Zpe.len (Nat.le_refl 5) (by decide) (hO.of (A := .blk bk (Zgy.flatMap Zpe) _) (by repeat' constructor))).rd _ _ hget).2 0 _ rfl))) | (refine js ?_; (first | (refine Zac (fun w' hw => Zbf A c l 0 5 w' (hA.up hw) hr (by omega) (by omega)) ?_) | (refine Zac (fun w' hw => Zbf A c l 1 80 w' (hA.up hw) hr (by omega) (by omega)) ?_) | (refine Zac (fun w' hw => Zbf A c l 2 3 w' (hA.up hw) hr (by omega) (by omega)) ?_) | (refine bx ?_; intro bk))) | refine walk1 ?_)
 refine Zfc 82 11 ?_
 refine ZbZ (fun fr' O' => ∃ A' c' n xs, (n = (m1 l).1.length /\ xs = (m1 l).1.flatMap Zaa.enc) /\ Sub [(0, .slice A l.length c), (1, .string x), (5, .int .i64 (Zbw l)), (6, .int .i64 (m1 l).2), (7, .slice A' n c')] fr' /\ SubO [.row (.slice A' n c') 82 11 n xs] O') ?_ ?_
 ·refine Zaf rfl (fun h => ?_) (fun h => ?_)
  ·have e : m1 l = ([Zxl l (1900 + atB l 1 80)], 1900 + atB l 1 80 + 1) := by rw [m1, if_pos (by simpa using h)]
   repeat (first | (refine js ?_; (first | (refine Zac (fun w' hw => Zbf A c l 3 28 w' (hA.up hw) hr (by omega) (by omega)) ?_) | (refine Zac (fun w' hw => ZgR A c l 4 w' (hA.up hw) hr (by omega) (by omega)) ?_) | (apply ZaA; rfl; rfl; (intro A' c'; (focus repeat' constructor)); (intro w' _ hO; exact ZbG (hO.of (by repeat' constructor))); rfl; rfl; (simp only [maxLen]; omega); omega; intro A' c' hc1 hc2 hc3) | (refine bx ?_; intro bk))) | refine walk ?_)
   rw [e]
   exact ⟨rfl, A', c', 0 + 1, [] ++ (Zxl l (1900 + atB l 1 80)).enc, ⟨rfl, rfl⟩, SFA, SOA⟩
  have e : m1 l = ([], 1900 + atB l 1 80) := by rw [m1, if_neg (by simpa using h)]
  repeat (first | (refine js ?_; (refine bx ?_; intro bk)) | refine walk ?_)
  rw [e]
  exact ⟨rfl, none, 0, 0, [], ⟨rfl, rfl⟩, SFA, SOA⟩
 rintro fr' O' ⟨A1, c1, n1, x1, ⟨hn1, hx1⟩, hf, hO⟩
 apply thenQ_n
 refine Zcz hf hO ?_
 clear hf hO fr' O'
 repeat (first | (refine js ?_; (first | (refine Zac (fun w' hw => Zbf A c l 5 2 w' (hA.up hw) hr (by omega) (by omega)) ?_) | (refine bx ?_; intro bk))) | refine walk ?_)
 rw [ZbV]
 generalize m1 l = g1 at *
 obtain ⟨o1, f1⟩ := g1
 dsimp only at *
 refine ZbZ (fun fr' O' => ∃ A' c' n xs, (n = (m2 l o1 f1).1.length /\ xs = (m2 l o1 f1).1.flatMap Zaa.enc) /\ Sub [(0, .slice A l.length c), (1, .string x), (5, .int .i64 (Zbw l)), (6, .int .i64 (m2 l o1 f1).2), (7, .slice A' n c')] fr' /\ SubO [.row (.slice A' n c') 82 11 n xs] O') ?_ ?_
 ·refine Zaf rfl (fun h => ?_) (fun h => ?_)
  ·have e : m2 l o1 f1 = (o1 ++ ZfS l 7 f1 (f1 + atB l 6 12) (Zbw l), f1 + atB l 6 12 + 1 + atB l 8 5) := by rw [m2, if_pos (by simpa using h)]
   repeat (first | (refine js ?_; (first | (refine Zac (fun w' hw => Zbf A c l 6 12 w' (hA.up hw) hr (by omega) (by omega)) ?_) | (refine Zac (fun w' hw => Zbf A c l 8 5 w' (hA.up hw) hr (by omega) (by omega)) ?_) | (apply Zag (h := fun w' hw _ => ZhZ A c l 7 f1 (f1 + atB l 6 12) (Zbw l) w' (hA.up hw) hr (by omega) (by omega)); rfl; rintro v O' ⟨k1, rfl, rfl⟩) | (apply ZaA; rfl; rfl; (intro A' c'; (focus repeat' constructor)); (intro w' _ hO; exact ZbG (hO.of (by repeat' constructor))); (rw [Zba Zaa.len, ZcS]); exact Ze0 oneR _; (simp only [maxLen]; omega); omega; intro A' c' hc1 hc2 hc3) | (refine bx ?_; intro bk))) | refine walk ?_)
   rw [e]
   exact ⟨rfl, A', c', n1 + 2, x1 ++ _, ⟨by rw [List.length_append, ZcS, hn1], by rw [List.flatMap_append, hx1]⟩, SFA, SOA⟩
  have e : m2 l o1 f1 = (o1, f1) := by rw [m2, if_neg (by simpa using h)]
  repeat (first | (refine js ?_; (refine bx ?_; intro bk)) | refine walk ?_)
  rw [e]
  exact ⟨rfl, A1, c1, n1, x1, ⟨hn1, hx1⟩, SFA, SOA⟩
 rintro fr' O' ⟨A2, c2, n2, x2, ⟨hn2, hx2⟩, hf, hO⟩
 apply thenQ_n
 refine Zcz hf hO ?_
 clear hf hO fr' O'
 generalize m2 l o1 f1 = g2 at *
 obtain ⟨o2, f2⟩ := g2
 dsimp only at *
 repeat (first | (refine js ?_; (first | (refine Zac (fun w' hw => Zbf A c l 9 6 w' (hA.up hw) hr (by omega) (by omega)) ?_) | (refine Zac (fun w' hw => Zbf A c l 10 3 w' (hA.up hw) hr (by omega) (by omega)) ?_) | (refine bx ?_; intro bk))) | refine walk ?_)
 refine ZbZ (fun fr' O' => Sub [(0, .slice A l.length c), (1, .string x), (5, .int .i64 (Zbw l)), (6, .int .i64 f2), (7, .slice A2 n2 c2), (9, .int .i64 (to17 l f2))] fr' /\ SubO [.row (.slice A2 n2 c2) 82 11 n2 x2] O') ?_ ?_
 ·refine Zaf rfl (fun h => ?_) (fun h => ?_)
  ·have e : to17 l f2 = 1048576 := by rw [to17, if_pos (by simpa using h)]
   repeat (first | (refine js ?_; (refine bx ?_; intro bk)) | refine walk ?_)
   rw [e]
   exact ⟨rfl, SFA, SOA⟩
  have e : to17 l f2 = f2 + atB l 9 6 := by rw [to17, if_neg (by simpa using h)]
  repeat (first | (refine js ?_; (refine bx ?_; intro bk)) | refine walk ?_)
  rw [e]
  exact ⟨rfl, SFA, SOA⟩
 rintro fr' O' ⟨hf, hO⟩
 apply thenQ_n
 refine Zcz hf hO ?_
 clear hf hO fr' O'
 repeat (first | (refine js ?_; (first | (apply Zag (h := fun w' hw _ => ZhZ A c l 11 f2 (to17 l f2) (Zbw l) w' (hA.up hw) hr (by omega) (by omega)); rfl; rintro v O' ⟨k1, rfl, rfl⟩) | (apply ZaA; rfl; rfl; (intro A' c'; (focus repeat' constructor)); (intro w' _ hO; exact ZbG (hO.of (by repeat' constructor))); (rw [Zba Zaa.len, ZcS]); exact Ze0 oneR _; (simp only [maxLen]; omega); omega; intro A' c' hc1 hc2 hc3) | (refine bx ?_; intro bk))) | refine walk ?_)
 obtain ⟨o3, ho3⟩ : ∃ o3, m3 l o2 f2 = o3 := ⟨_, rfl⟩
 have hx3 : x2 ++ (ZfS l 11 f2 (to17 l f2) (Zbw l)).flatMap Zaa.enc = o3.flatMap Zaa.enc := by rw [<- ho3, m3, List.flatMap_append, hx2]
 have hn3 : n2 + 2 = o3.length := by rw [<- ho3, m3, List.length_append, ZcS, hn2]
 have hn5 : o3.length <= 5 := by omega
 rw [ho3, hx3, hn3]
 have hAn : A' ≠ none := hc3 (by omega)
 refine Zao [(1, .string x), (7, .slice A' o3.length c'), (70, .int .i64 o3.length)] [] (fun k : Nat => [(71, .int .i64 k)]) (fun k => [.row (.slice A' o3.length c') 82 11 o3.length (((o3.take k).map (Zcw x) ++ o3.drop k).flatMap Zaa.enc)]) (fun k => k <= o3.length) (fun k => o3.length - k) 0 SFA SOA (Nat.zero_le _) ?_
 intro k hk
 repeat (first | (refine js ?_; (refine bx ?_; intro bk)) | refine walk ?_)
 refine Zaf rfl (fun h => ?_) (fun h => ?_)
 ·have hk2 : k < o3.length := by simpa using h
  have hll : (((o3.take k).map (Zcw x) ++ o3.drop k).flatMap Zaa.enc).length = o3.length * 11 := by
   rw [Zba Zaa.len, List.length_append, List.length_map, List.length_take, List.length_drop, Nat.min_eq_left hk]
   congr 1; omega
  repeat (first | (apply RL_pu; rfl; (first | (apply Pu_indexAddr; rfl; rfl; omega; omega; exact hAn) | (apply Zk8; rfl))) | (refine js ?_; (first | (apply Zj7; rfl; rfl; (focus repeat' constructor); rfl; rfl; rfl; (rw [hll]; omega); decide; exact Zqr x o3 k _ (List.getElem?_eq_getElem hk2)) | (refine bx ?_; intro bk))) | refine walk1 ?_)
  exact ⟨k + 1, OA, OA, SFA, SOA⟩
 have hk2 : k = o3.length := by simp only [decide_eq_false_iff_not] at h; omega
 subst hk2
 repeat (first | (refine js ?_; (refine bx ?_; intro bk)) | refine walk ?_)
 have e : (o3.take o3.length).map (Zcw x) ++ o3.drop o3.length = o3.map (Zcw x) := by rw [List.take_length, List.drop_length, List.append_nil]
 rw [e]
 refine ret_1 _ [.row (.slice A' (o3.map (Zcw x)).length c') 82 11 (o3.map (Zcw x)).length ((o3.map (Zcw x)).flatMap Zaa.enc)] (.tmp (v := .slice A' (o3.map (Zcw x)).length c') (by rw [List.length_map]; rfl)) (by rw [List.length_map]; exact SOA) ⟨A', c', rfl, rfl⟩
end Go.Proofs.YtdlmhmmhdbbliaaGreatDoor
namespace Go.Proofs.YtdlmhmmhdbbliaaGreatDoor
open Go Go.RowKit Go.Wk Go.ChangeShapes Go.WideShapes Go.ChangeAt
structure _root_.Go.Wk.E23 where
 mk ::
 kind : Int
 set : Int
 format : Int
 years : Int
 day : Int
 base : Int
 off : Int
 at_ : Int
 deriving DecidableEq
def _root_.Go.Wk.E23.enc (d : E23) : List Value := [.int .u8 d.kind, .int .u8 d.set, .int .u8 d.format, .int .u8 d.years, .int .u8 d.day, .int .u8 d.base, .int .i8 d.off, .int .i8 d.at_]
section
variable {H : Type} {enc : TypeId × Value -> H} {w : World} {sp : Nat -> Bool} {held : Bool}
def _root_.Go.Wk.E23.ok (d : E23) : Prop := inR .u8 d.kind /\ inR .u8 d.set /\ inR .u8 d.format /\ inR .u8 d.years /\ inR .u8 d.day /\ inR .u8 d.base /\ inR .i8 d.off /\ inR .i8 d.at_
theorem Zyr {n : Nat} {cs : List Value} {y : DataW H × List MemPlace} (h : DataW.trod enc Tryz.prog w 0 sp held n 67 cs = some y) : ∃ d : E23, cs = d.enc /\ d.ok := by
 obtain ⟨hl, hf⟩ := Zpi Tryz.underlying67 h
 rw [show Tryz.prog.cellsOf 67 = 8 from by kernel_rfl] at hl
 have c5 : Tryz.prog.cellsOf 5 = 1 := by kernel_rfl
 have c65 : Tryz.prog.cellsOf 65 = 1 := by kernel_rfl
 obtain ⟨a0, cs0, rfl, hl0⟩ := Zbs hl
 obtain ⟨a1, cs1, rfl, hl1⟩ := Zbs hl0
 obtain ⟨a2, cs2, rfl, hl2⟩ := Zbs hl1
 obtain ⟨a3, cs3, rfl, hl3⟩ := Zbs hl2
 obtain ⟨a4, cs4, rfl, hl4⟩ := Zbs hl3
 obtain ⟨a5, cs5, rfl, hl5⟩ := Zbs hl4
 obtain ⟨a6, cs6, rfl, hl6⟩ := Zbs hl5
 obtain ⟨a7, cs7, rfl, hl7⟩ := Zbs hl6
 obtain rfl := List.eq_nil_of_length_eq_zero hl7
 obtain ⟨n0, y0, h0⟩ := hf 0 5 0 1 rfl c5
 obtain ⟨x0, e0, _, b0⟩ := DataW.trod_int Tryz.underlying5 h0
 injection e0 with e0 _
 subst e0
 obtain ⟨n1, y1, h1⟩ := hf 1 5 1 1 rfl c5
 obtain ⟨x1, e1, _, b1⟩ := DataW.trod_int Tryz.underlying5 h1
 injection e1 with e1 _
 subst e1
 obtain ⟨n2, y2, h2⟩ := hf 2 5 2 1 rfl c5
 obtain ⟨x2, e2, _, b2⟩ := DataW.trod_int Tryz.underlying5 h2
 injection e2 with e2 _
 subst e2
 obtain ⟨n3, y3, h3⟩ := hf 3 5 3 1 rfl c5
 obtain ⟨x3, e3, _, b3⟩ := DataW.trod_int Tryz.underlying5 h3
 injection e3 with e3 _
 subst e3
 obtain ⟨n4, y4, h4⟩ := hf 4 5 4 1 rfl c5
 obtain ⟨x4, e4, _, b4⟩ := DataW.trod_int Tryz.underlying5 h4
 injection e4 with e4 _
 subst e4
 obtain ⟨n5, y5, h5⟩ := hf 5 5 5 1 rfl c5
 obtain ⟨x5, e5, _, b5⟩ := DataW.trod_int Tryz.underlying5 h5
 injection e5 with e5 _
 subst e5
 obtain ⟨n6, y6, h6⟩ := hf 6 65 6 1 rfl c65
 obtain ⟨x6, e6, _, b6⟩ := DataW.trod_int Tryz.underlying65 h6
 injection e6 with e6 _
 subst e6
 obtain ⟨n7, y7, h7⟩ := hf 7 65 7 1 rfl c65
 obtain ⟨x7, e7, _, b7⟩ := DataW.trod_int Tryz.underlying65 h7
 injection e7 with e7 _
 subst e7
 exact ⟨⟨x0, x1, x2, x3, x4, x5, x6, x7⟩, rfl, Zf0 b0, Zf0 b1, Zf0 b2, Zf0 b3, Zf0 b4, Zf0 b5, Zf0 b6, Zf0 b7⟩
end
end Go.Proofs.YtdlmhmmhdbbliaaGreatDoor
namespace Go.Wk
open Go Go.RowKit
section
variable {P : Program} {n : Nat} {wr : World} {fr : Fr} {O : List It} {ty : TypeId}
theorem ZtQ {t : TypeId} {x y z : Operand} {s : ByteArray} {k k' : IntKind} {i j : Int} [hS : StringT P t] (hx : ev fr x = some (.string s)) (hy : ev fr y = some (.int k i)) (hz : ev fr z = some (.int k' j)) (h0 : 0 <= i) (h1 : i <= j) (h2 : j <= s.size) :
  Pu P n wr fr O (.slice t x (some y) (some z) none) ty (.string (s.extract i.toNat j.toNat)) := fun a w hs _ _ _ _ => by
 have h := run_slice_string (P := P) w t s k k' i j hS.h h0 h1 h2
 simp [execOp, hs.sim.ev hx, hs.sim.ev hy, hs.sim.ev hz, Instr.sliceAt, run_underlying hS.h, h]
end
end Go.Wk
namespace Go.Proofs.YtdlmhmmhdbbliaaGreatDoor
open Go Go.RowKit Go.Wk
attribute [local irreducible] W RL Does Zau Zaj retQ Calls Pu Stp RD Qy Ay Zak
def Zmt : ByteArray := ⟨#[48, 49, 50, 51, 52, 53, 54, 55, 56, 57, 97, 98, 99, 100, 101, 102, 103, 104, 105, 106, 107, 108, 109, 110, 111, 112, 113, 114, 115, 116, 117, 118, 119, 120, 121, 122]⟩
def dig (i : Int) : ByteArray := Zmt.extract i.toNat (i + 1).toNat
theorem Zno (i : Int) (h0 : 0 <= i) (h1 : i < 10) (w : World) : Does Tryz.prog 126 [.int .i64 i] w (fun v O => v = .string (dig i) /\ O = []) := by
 refine Zab Tryz.func126 rfl rfl rfl rfl ?_
 repeat (first | refine walk ?_)
 refine Zaf rfl (fun h => ?_) (fun h => absurd h (by simp; omega))
 repeat (first | (apply RL_pu; rfl; (apply ZtQ; rfl; rfl; rfl; omega; omega; (show i + 1 <= ((36 : Nat) : Int); omega))) | refine walk1 ?_)
 exact rtA
theorem Zjf (i : Int) (h0 : 0 <= i) (h1 : i < 10) (w : World) : Does Tryz.prog 86 [.int .i64 i, .int .i64 10] w (fun v O => v = .string (dig i) /\ O = []) := by
 refine Zab Tryz.func86 rfl rfl rfl rfl ?_
 repeat (first | (refine js ?_; (refine bx ?_; intro bk)) | refine walk ?_)
 refine Zk3 14 rfl (fun _ => ?_) (fun h => absurd h (by simp; omega))
 repeat (first | (refine js ?_; (refine bx ?_; intro bk)) | refine walk ?_)
 refine Zaf rfl (fun h => ?_) (fun h => absurd h (by simp; omega))
 repeat (first | (refine js ?_; (first | (refine Zac (fun w' _ => Zno i h0 h1 w') ?_) | (refine bx ?_; intro bk))) | refine walk ?_)
 exact rtA
theorem ZqF (i : Int) (h0 : 0 <= i) (h1 : i < 10) (w : World) : Does Tryz.prog 51 [.int .i64 i] w (fun v O => v = .string (dig i) /\ O = []) := by
 refine Zab Tryz.func51 rfl rfl rfl rfl ?_
 repeat (first | (refine js ?_; (refine Zac (fun w' _ => Zjf i h0 h1 w') ?_)) | refine walk ?_)
 exact rtA
theorem ZcX (i : Int) (h0 : 0 <= i) (h1 : i < 10) (w : World) : Does Tryz.prog 16 [.int .i64 i] w (fun v O => v = .string (dig i) /\ O = []) := by
 refine Zab Tryz.func16 rfl rfl rfl rfl ?_
 repeat (first | (refine js ?_; (refine Zac (fun w' _ => ZqF i h0 h1 w') ?_)) | refine walk ?_)
 exact rtA
def ZjQ : List ByteArray := [⟨#[76, 77, 84]⟩, ⟨#[71, 77, 84, 47, 66, 83, 84]⟩, ⟨#[69, 37, 115, 83, 84]⟩, ⟨#[37, 122]⟩, ⟨#[67, 69, 84, 47, 67, 69, 83, 84]⟩, ⟨#[87, 83, 84]⟩]
def ZgJ (n : Int) : ByteArray := ZjQ.getD (n % 6).toNat ByteArray.empty
theorem ZkK (n : Int) (h0 : 0 <= n) (w : World) : Does Tryz.prog 52 [.int .u8 n] w (fun v O => v = .string (ZgJ n) /\ O = []) := by
 have hm0 := Int.emod_nonneg n (b := 6) (by decide)
 have hm1 := Int.emod_lt_of_pos n (b := 6) (by decide)
 have hget : ZjQ[(n % 6).toNat]? = some (ZgJ n) := by
  have hk : (n % 6).toNat < ZjQ.length := by simp only [ZjQ, List.length_cons, List.length_nil]; omega
  rw [ZgJ, List.getD_eq_getElem?_getD, List.getElem?_eq_getElem hk]
  rfl
 refine Zab Tryz.func52 rfl rfl rfl rfl ?_
 repeat (first | (apply RL_pu; rfl; (apply Zd4 (v := .string (ZgJ n)); rfl; (intro w' _ hO; exact ((ZkB (c := 6) (l := ZjQ) (t := 9) ZaW.len (Nat.le_refl 6) (by decide) (hO.of (A := .blk bk (ZjQ.flatMap ZaW) _) (by repeat' constructor))).rd _ _ hget).2 0 _ rfl))) | (refine js ?_; (refine bx ?_; intro bk)) | refine walk1 ?_)
 exact rtA
theorem Zlr (y m d : Int) (w : World) : Does Tryz.prog 53 [.int .i64 y, .int .i64 m, .int .i64 d] w (fun v O => v = .agg #[.bool true, .int .i64 y, .int .i64 m, .int .i64 1, .int .i64 0, .int .i64 d, .int .i64 0, .int .i64 0] /\ O = []) := by
 refine Zab Tryz.func53 rfl rfl rfl rfl ?_
 repeat (first | (refine js ?_; (refine bx ?_; intro bk)) | refine walk ?_)
 exact ret_1 _ [] (.cellB rfl (by repeat' constructor) rfl rfl) .nil ⟨rfl, rfl⟩
attribute [local irreducible] dig ZgJ
def sR : ByteArray := ⟨#[82]⟩
def Zdw (e : E23) (first : Bool) : Int := if first = true /\ e.kind % 3 = 2 then 0 else e.kind % 3
def ZfO (e : E23) (first : Bool) : Int := if Zdw e first = 1 then 1800 * (1 + e.set % 4) else 0
def ZhU (e : E23) (first : Bool) (sets : Int) : ByteArray := if Zdw e first = 2 then sR ++ dig (e.set % sets) else ByteArray.empty
def Zs5 (e : E23) : DDay := if e.day >= 200 then ⟨3, e.day % 7, 8⟩ else ⟨1, 0, 1 + e.day % 20⟩
def Zls (e : E23) (year : Int) (fen : Bool) : ZaT := if fen = true then ⟨true, year, 1, Zs5 e, ⟨900 * (24 + e.at_.tmod 24), e.base % 3⟩⟩ else ⟨false, 0, 0, ⟨0, 0, 0⟩, ⟨0, 0⟩⟩
def ZkN (e : E23) (first : Bool) (sets year : Int) (fen : Bool) : DEra := ⟨900 * e.off.tmod 48, Zdw e first, ZfO e first, ZhU e first sets, ZgJ e.format, Zls e year fen⟩
theorem Zhs (a b : Int) (hb : 0 < b) : -b < a.tmod b /\ a.tmod b < b := ⟨Int.lt_tmod_of_pos a hb, Int.tmod_lt_of_pos a hb⟩
theorem Zhy (i : Int) (h0 : 0 <= i) (h1 : i < 10) : (dig i).size = 1 := by
 unfold dig
 rw [ByteArray.size_extract]
 have : Zmt.size = 36 := rfl
 omega
theorem ZbB {G G' : Prop} (k : G') (h : Hold G' -> G := by intro k9; (first | refine walk ?_ | (refine jn ?_; (try intro F); (first | (refine stA ?_) | (apply Zae; exact PuA)); refine fin ?_)); exact k9.out) : G := h ⟨k⟩
theorem Zcd {G : Prop} (h : G := by (first | (apply Zdd; rfl; rfl; omega) | (apply Pu_rem (kk := .i8); rfl; rfl; decide))) : G := h
theorem Ze5 {G : Prop} (h : G := by first | (apply Qy_y; rfl; exact Zcd) | exact QyA) : G := h
theorem Ze6 {G : Prop} (h : G := by repeat (first | exact QF.nil | (apply QF.mk; rfl; rfl; decide +kernel; exact Ze5))) : G := h
theorem Zkh {G : Prop} (h : G := by (first | (apply Zdd; rfl; rfl; omega) | (apply ZtV; rfl; rfl; omega))) : G := h
theorem Zkg {G : Prop} (h : G := by (apply ZfJ; rfl; rfl; (rw [Zhy _ (by omega) (by omega)]; decide))) : G := h
set_option maxHeartbeats 8000000 in
theorem ZqR (e : E23) (he : e.ok) (first : Bool) (sets year : Int) (fen : Bool) (hs0 : 0 < sets) (hs1 : sets <= 10) (w : World) :
  Does Tryz.prog 17 [.agg e.enc.toArray, .bool first, .int .i64 sets, .int .i64 year, .bool fen] w (fun v O => v = .agg (ZkN e first sets year fen).enc.toArray /\ O = []) := by
 obtain ⟨k1, k2, k3, k4, k5, k6, k7, k8⟩ := he
 rw [ZjN] at k1 k2 k3 k4 k5 k6
 rw [Zwa] at k7 k8
 have t1 := Zhs e.off 48 (by decide)
 have t2 := Zhs e.at_ 24 (by decide)
 have m1 := Int.emod_nonneg e.set (b := sets) (by omega)
 have m2 := Int.emod_lt_of_pos e.set (b := sets) hs0
 show Does _ _ [.agg #[.int .u8 e.kind, .int .u8 e.set, .int .u8 e.format, .int .u8 e.years, .int .u8 e.day, .int .u8 e.base, .int .i8 e.off, .int .i8 e.at_], .bool first, .int .i64 sets, .int .i64 year, .bool fen] w _
 refine Zab Tryz.func17 rfl rfl rfl rfl ?_
 repeat (first | (apply RL_pu; rfl; exact Zcd) | (apply RD_Q; rfl; rfl; decide +kernel; rfl; rfl; exact Ze5) | refine walk1 ?_ | (refine jg ?_; (try intro F); (first | (refine Zac (fun w' _ => ZkK e.format k3.1 w') ?_) | (refine bx ?_; intro bk) | (refine stA ?_)); first | refine ⟨_, EndsA, Ze6, ?_⟩ | refine fin ?_) | (refine jn ?_; (try intro F); (first | (refine bx ?_; intro bk) | (refine stA ?_) | (apply Zae; first | exact Zcd | exact PuA)); first | refine ⟨_, EndsA, Ze6, ?_⟩ | refine fin ?_) | (apply RD_W; rfl; intro bk))
 rename_i b5 b10 _
 generalize bk = b11
 refine Zx1 (fun fr' O' => Sub [(30, .bool (decide (first = true /\ e.kind % 3 = 2))), (2, .int .i64 sets), (3, .int .i64 year), (4, .bool fen), (5, .pointer (some ⟨b5, 0, none⟩)), (10, .pointer (some ⟨b10, 0, none⟩)), (11, .pointer (some ⟨b11, 0, none⟩))] fr' /\ SubO [.blk b11 [.int .i64 (900 * e.off.tmod 48), .int .i64 (e.kind % 3), .int .i64 0, .string ByteArray.empty, .string (ZgJ e.format), .bool false, .int .i64 0, .int .i64 0, .int .i64 0, .int .i64 0, .int .i64 0, .int .i64 0, .int .i64 0] 75, .blk b10 [.int .i64 0, .int .i64 0, .int .i64 0, .string ByteArray.empty, .string ByteArray.empty, .bool false, .int .i64 0, .int .i64 0, .int .i64 0, .int .i64 0, .int .i64 0, .int .i64 0, .int .i64 0] 75, .blk b5 [.int .u8 e.kind, .int .u8 e.set, .int .u8 e.format, .int .u8 e.years, .int .u8 e.day, .int .u8 e.base, .int .i8 e.off, .int .i8 e.at_] 67] O') ?_ ?_
 ·refine Zk3 26 rfl (fun h => ?_) (fun h => ?_)
  ·repeat (first | refine ZbB ?_ | (refine jn ?_; (try intro F); (refine bx ?_; intro bk); refine fin ?_) | (apply RD_W; rfl; intro bk))
   rw [show decide (first = true /\ e.kind % 3 = 2) = decide (e.kind % 3 = 2) from decide_eq_decide.2 (by simp [h])]
   exact ⟨SFA, SOA⟩
  ·repeat (first | refine ZbB ?_ | (refine jn ?_; (try intro F); (refine bx ?_; intro bk); refine fin ?_) | (apply RD_W; rfl; intro bk))
   rw [decide_eq_false (by simp [h])]
   exact ⟨SFA, SOA⟩
 rintro fr' O' ⟨hf, hO⟩
 apply thenQ_n
 refine Zcz hf hO ?_
 clear hf hO fr' O'
 refine ZbZ (fun fr' O' => Sub [(2, .int .i64 sets), (3, .int .i64 year), (4, .bool fen), (5, .pointer (some ⟨b5, 0, none⟩)), (10, .pointer (some ⟨b10, 0, none⟩)), (11, .pointer (some ⟨b11, 0, none⟩))] fr' /\ SubO [.blk b11 [.int .i64 (900 * e.off.tmod 48), .int .i64 (Zdw e first), .int .i64 0, .string ByteArray.empty, .string (ZgJ e.format), .bool false, .int .i64 0, .int .i64 0, .int .i64 0, .int .i64 0, .int .i64 0, .int .i64 0, .int .i64 0] 75, .blk b10 [.int .i64 0, .int .i64 0, .int .i64 0, .string ByteArray.empty, .string ByteArray.empty, .bool false, .int .i64 0, .int .i64 0, .int .i64 0, .int .i64 0, .int .i64 0, .int .i64 0, .int .i64 0] 75, .blk b5 [.int .u8 e.kind, .int .u8 e.set, .int .u8 e.format, .int .u8 e.years, .int .u8 e.day, .int .u8 e.base, .int .i8 e.off, .int .i8 e.at_] 67] O') ?_ ?_
 ·refine Zaf rfl (fun h => ?_) (fun h => ?_)
  ·rw [show Zdw e first = 0 from if_pos (of_decide_eq_true h)]
   repeat (first | refine ZbB ?_ | (refine jn ?_; (try intro F); (refine bx ?_; intro bk); refine fin ?_) | (apply RD_W; rfl; intro bk))
   exact ⟨rfl, SFA, SOA⟩
  ·rw [show Zdw e first = e.kind % 3 from if_neg (of_decide_eq_false h)]
   repeat (first | refine ZbB ?_ | (refine jn ?_; (try intro F); (refine bx ?_; intro bk); refine fin ?_) | (apply RD_W; rfl; intro bk))
   exact ⟨rfl, SFA, SOA⟩
 rintro fr' O' ⟨hf, hO⟩
 apply thenQ_n
 refine Zcz hf hO ?_
 clear hf hO fr' O'
 repeat (first | refine Zkq ?_ | (refine jn ?_; (try intro F); (first | (refine bx ?_; intro bk) | (refine stA ?_) | (apply Zae; exact PuA)); refine fin ?_) | (apply RD_W; rfl; intro bk))
 refine ZbZ (fun fr' O' => Sub [(2, .int .i64 sets), (3, .int .i64 year), (4, .bool fen), (5, .pointer (some ⟨b5, 0, none⟩)), (10, .pointer (some ⟨b10, 0, none⟩)), (11, .pointer (some ⟨b11, 0, none⟩))] fr' /\ SubO [.blk b11 [.int .i64 (900 * e.off.tmod 48), .int .i64 (Zdw e first), .int .i64 (ZfO e first), .string (ZhU e first sets), .string (ZgJ e.format), .bool false, .int .i64 0, .int .i64 0, .int .i64 0, .int .i64 0, .int .i64 0, .int .i64 0, .int .i64 0] 75, .blk b10 [.int .i64 0, .int .i64 0, .int .i64 0, .string ByteArray.empty, .string ByteArray.empty, .bool false, .int .i64 0, .int .i64 0, .int .i64 0, .int .i64 0, .int .i64 0, .int .i64 0, .int .i64 0] 75, .blk b5 [.int .u8 e.kind, .int .u8 e.set, .int .u8 e.format, .int .u8 e.years, .int .u8 e.day, .int .u8 e.base, .int .i8 e.off, .int .i8 e.at_] 67] O') ?_ ?_
 ·repeat (first | refine ZbB ?_ | (refine jn ?_; (try intro F); (refine bx ?_; intro bk); refine fin ?_) | (apply RD_W; rfl; intro bk))
  refine Zaf rfl (fun h => ?_) (fun h => ?_)
  ·have hk := of_decide_eq_true h
   rw [show ZfO e first = 1800 * (1 + e.set % 4) from if_pos hk, show ZhU e first sets = ByteArray.empty from if_neg (by rw [hk]; decide)]
   repeat (first | (apply RL_pu; rfl; exact Zkh) | (apply RD_Q; rfl; rfl; decide +kernel; rfl; rfl; exact QyMadeE231) | refine walk1 ?_ | (refine jn ?_; (try intro F); (first | (refine bx ?_; intro bk) | (refine stA ?_) | (apply Zae; first | exact Zkh | exact PuA)); first | refine ⟨_, EndsA, QFMadeE231, ?_⟩ | refine fin ?_) | (apply RD_W; rfl; intro bk))
   exact ⟨rfl, SFA, SOA⟩
  ·have hk := of_decide_eq_false h
   rw [show ZfO e first = 0 from if_neg hk]
   repeat (first | refine ZbB ?_ | (refine jn ?_; (try intro F); (refine bx ?_; intro bk); refine fin ?_) | (apply RD_W; rfl; intro bk))
   refine Zaf rfl (fun h2 => ?_) (fun h2 => ?_)
   ·rw [show ZhU e first sets = sR ++ dig (e.set % sets) from if_pos (of_decide_eq_true h2)]
    repeat (first | (apply RL_pu; rfl; exact Zkg) | (apply RD_Q; rfl; rfl; decide +kernel; rfl; rfl; exact QyMadeE232) | refine walk1 ?_ | (refine jg ?_; (try intro F); (first | (refine Zac (fun w' _ => ZcX (e.set % sets) m1 (by omega) w') ?_) | (refine bx ?_; intro bk) | (refine stA ?_)); first | refine ⟨_, EndsA, QFMadeE232, ?_⟩ | refine fin ?_) | (refine jn ?_; (try intro F); (first | (refine bx ?_; intro bk) | (refine stA ?_) | (apply Zae; first | exact Zkg | exact PuA)); first | refine ⟨_, EndsA, QFMadeE232, ?_⟩ | refine fin ?_) | (apply RD_W; rfl; intro bk))
    exact ⟨rfl, SFA, SOA⟩
   ·rw [show ZhU e first sets = ByteArray.empty from if_neg (of_decide_eq_false h2)]
    repeat (first | refine ZbB ?_ | (refine jn ?_; (try intro F); (refine bx ?_; intro bk); refine fin ?_) | (apply RD_W; rfl; intro bk))
    exact ⟨rfl, SFA, SOA⟩
 rintro fr' O' ⟨hf, hO⟩
 apply thenQ_n
 refine Zcz hf hO ?_
 clear hf hO fr' O'
 have hE : ∀ u : ZaT, Zls e year fen = u -> (ZkN e first sets year fen).enc = [.int .i64 (900 * e.off.tmod 48), .int .i64 (Zdw e first), .int .i64 (ZfO e first), .string (ZhU e first sets), .string (ZgJ e.format), .bool u.is, .int .i64 u.year, .int .i64 u.month, .int .i64 u.day.kind, .int .i64 u.day.week, .int .i64 u.day.day, .int .i64 u.at_.sec, .int .i64 u.at_.base] := fun u hu => by rw [<- hu]; rfl
 generalize Zdw e first = K at *
 generalize ZfO e first = SV at *
 generalize ZhU e first sets = ST at *
 repeat (first | refine ZbB ?_ | (refine jn ?_; (try intro F); (refine bx ?_; intro bk); refine fin ?_) | (apply RD_W; rfl; intro bk))
 refine Zaf rfl (fun h => ?_) (fun h => ?_)
 ·repeat (first | refine walk ?_ | (refine jg ?_; (try intro F); (first | (refine Zac (fun w' _ => Zlr year 1 (1 + e.day % 20) w') ?_) | (refine bx ?_; intro bk) | (refine stA ?_)); refine fin ?_) | (refine jn ?_; (try intro F); (first | (refine bx ?_; intro bk) | (refine stA ?_) | (apply Zae; exact PuA)); refine fin ?_) | (apply RD_W; rfl; intro bk))
  refine Zaf rfl (fun h2 => ?_) (fun h2 => ?_)
  ·rw [hE ⟨true, year, 1, ⟨3, e.day % 7, 8⟩, ⟨900 * (24 + e.at_.tmod 24), e.base % 3⟩⟩ (by rw [Zls, if_pos h, Zs5, if_pos (of_decide_eq_true h2)])]
   repeat (first | (apply RL_pu; rfl; exact Zcd) | (apply RD_Q; rfl; rfl; decide +kernel; rfl; rfl; exact Ze5) | refine walk1 ?_ | (refine jn ?_; (try intro F); (first | (refine bx ?_; intro bk) | (refine stA ?_) | (apply Zae; first | exact Zcd | exact PuA)); first | refine ⟨_, EndsA, Ze6, ?_⟩ | refine fin ?_) | (apply RD_W; rfl; intro bk))
   exact ret_1 _ [] (.cellB rfl (by repeat' constructor) rfl rfl) .nil ⟨rfl, rfl⟩
  ·rw [hE ⟨true, year, 1, ⟨1, 0, 1 + e.day % 20⟩, ⟨900 * (24 + e.at_.tmod 24), e.base % 3⟩⟩ (by rw [Zls, if_pos h, Zs5, if_neg (of_decide_eq_false h2)])]
   repeat (first | (apply RL_pu; rfl; exact Zcd) | (apply RD_Q; rfl; rfl; decide +kernel; rfl; rfl; exact Ze5) | refine walk1 ?_ | (refine jn ?_; (try intro F); (first | (refine bx ?_; intro bk) | (refine stA ?_) | (apply Zae; first | exact Zcd | exact PuA)); first | refine ⟨_, EndsA, Ze6, ?_⟩ | refine fin ?_) | (apply RD_W; rfl; intro bk))
   exact ret_1 _ [] (.cellB rfl (by repeat' constructor) rfl rfl) .nil ⟨rfl, rfl⟩
 ·rw [hE ⟨false, 0, 0, ⟨0, 0, 0⟩, ⟨0, 0⟩⟩ (by rw [Zls, if_neg (by rw [h]; decide)])]
  repeat (first | refine ZbB ?_ | (refine jn ?_; (try intro F); (refine bx ?_; intro bk); refine fin ?_) | (apply RD_W; rfl; intro bk))
  exact ret_1 _ [] (.cellB rfl (by repeat' constructor) rfl rfl) .nil ⟨rfl, rfl⟩
end Go.Proofs.YtdlmhmmhdbbliaaGreatDoor
namespace Go.Wk
open Go Go.RowKit
theorem Zya {P : Program} {n : Nat} {wr : World} {fr : Fr} {O : List It} {ty : TypeId} {x y : Operand} {ts : Array TypeId} {k : IntKind} {i j : Int} (hx : ev fr x = some (.int k i)) (hy : ev fr y = some (.int k j)) : Pu P n wr fr O (.call ⟨.builtin .max, #[x, y], ts⟩) ty (.int k (if i < j then j else i)) :=
 fun a w hs _ _ _ _ => by simp [execOp, resolve, invoke, builtin, Builtin.max_, Builtin.max2, hs.sim.ev hx, hs.sim.ev hy]
theorem RdSl.take {α : Type} {w : World} {A : Option Addr} {c : Nat} {enc : α -> List Value} {sz : Nat} {xs : List α} (h : RdSl w A c enc sz xs) (k : Nat) : RdSl w A c enc sz (xs.take k) :=
 ⟨by rw [List.length_take]; exact Nat.le_trans (Nat.min_le_right _ _) h.le, h.cap, fun j x hj => h.rd j x (by
  rw [List.getElem?_take] at hj
  split at hj
  ·exact hj
  ·cases hj)⟩
theorem E23.len (x : E23) : x.enc.length = 8 := rfl
end Go.Wk
namespace Go.Proofs.YtdlmhmmhdbbliaaGreatDoor
open Go Go.RowKit Go.Wk
structure DD23 where
 sets : List (List Int)
 zones : List (List E23)
 links : List Int
structure RdLL {α : Type} (w : World) (A : Option Addr) (c : Nat) (enc : α -> List Value) (sz : Nat) (ll : List (List α)) : Prop where
 le : ll.length <= c
 cap : c <= maxLen
 rd : ∀ k l, ll[k]? = some l -> A ≠ none /\ ∃ B cb, RdSl w B cb enc sz l /\ Zal w ((adr A).add (k * 1)) [.slice B l.length cb]
theorem RdLL.up {α : Type} {w w' : World} {A : Option Addr} {c : Nat} {enc : α -> List Value} {sz : Nat} {ll : List (List α)} (h : RdLL w A c enc sz ll) (hb : Bel w.heap.size w w') : RdLL w' A c enc sz ll :=
 ⟨h.le, h.cap, fun k l hk => by
  obtain ⟨h1, B, cb, h2, h3⟩ := h.rd k l hk
  exact ⟨h1, B, cb, h2.up hb, h3.up hb (Nat.le_refl _)⟩⟩
theorem RdLL.take {α : Type} {w : World} {A : Option Addr} {c : Nat} {enc : α -> List Value} {sz : Nat} {ll : List (List α)} (h : RdLL w A c enc sz ll) (k : Nat) : RdLL w A c enc sz (ll.take k) :=
 ⟨by rw [List.length_take]; exact Nat.le_trans (Nat.min_le_right _ _) h.le, h.cap, fun j x hj => h.rd j x (by
  rw [List.getElem?_take] at hj
  split at hj
  ·exact hj
  ·cases hj)⟩
def d23V (As Az Al : Option Addr) (cs cz cl : Nat) (d : DD23) : Value := .agg #[.slice As d.sets.length cs, .slice Az d.zones.length cz, .slice Al d.links.length cl]
def e23Z : E23 := ⟨0, 0, 0, 0, 0, 0, 0, 0⟩
def sZ : ByteArray := ⟨#[65, 114, 101, 97, 47, 90]⟩
def sL : ByteArray := ⟨#[79, 108, 100, 47, 76]⟩
def DD23.ns (d : DD23) : Nat := max 1 (min d.sets.length 3)
def ZaP (sets : List (List Int)) : Nat -> List Zaa
 | 0 => []
 | k + 1 => ZaP sets k ++ ZbV (sets.getD k []) (sR ++ dig k)
def zl23 (zones : List (List E23)) : List (List E23) := if zones.length = 0 then [[]] else zones.take 3
def el23 (l : List E23) : List E23 := if l.length = 0 then [e23Z] else l.take 4
def ZaK (sets : Int) (l : List E23) : Nat -> List DEra × Int
 | 0 => ([], 1904)
 | k + 1 => ((ZaK sets l k).1 ++ [ZkN (l.getD k e23Z) (decide ((k : Int) = 0)) sets ((ZaK sets l k).2 + (1 + (l.getD k e23Z).years % 30)) (decide ((k : Int) < (l.length : Int) - 1))], (ZaK sets l k).2 + (1 + (l.getD k e23Z).years % 30))
def ZoG (sets : Int) (i : Nat) (l : List E23) : ZaY := ⟨sZ ++ dig i, (ZaK sets (el23 l) (el23 l).length).1⟩
def Zbu (sets : Int) (zs : List (List E23)) : Nat -> List ZaY
 | 0 => []
 | i + 1 => Zbu sets zs i ++ [ZoG sets i (zs.getD i [])]
def Zhc (nz : Nat) (n : Int) (i : Nat) : Zb5 := ⟨if n % ((nz : Int) + i) >= nz then sL ++ dig (n % ((nz : Int) + i) - nz) else sZ ++ dig (n % (nz : Int)), sL ++ dig i⟩
def Zby (nz : Nat) (links : List Int) : Nat -> List Zb5
 | 0 => []
 | i + 1 => Zby nz links i ++ [Zhc nz (links.getD i 0) i]
def Zbx (d : DD23) : Zai := ⟨ZaP d.sets d.ns, Zbu d.ns (zl23 d.zones) (zl23 d.zones).length, Zby (zl23 d.zones).length (d.links.take 4) (d.links.take 4).length, []⟩
theorem ZjH (l : List Int) (x : ByteArray) : (ZbV l x).length <= 5 := by
 obtain ⟨q1, q2, q3⟩ := Zl0 l
 obtain ⟨q4, q5, q6⟩ := Zo9 l (m1 l).1 (m1 l).2 q1 q2 q3
 rw [ZbV, List.length_map, m3, List.length_append, ZcS]
 omega
theorem ZcR (sets : List (List Int)) : ∀ k, (ZaP sets k).length <= 5 * k
 | 0 => Nat.le_refl _
 | k + 1 => by
  have := ZcR sets k
  have h2 := ZjH (sets.getD k []) (sR ++ dig k)
  rw [ZaP, List.length_append]
  omega
theorem ZeL (zs : List (List E23)) : 1 <= (zl23 zs).length /\ (zl23 zs).length <= 3 := by
 unfold zl23
 split
 ·simp
 ·rw [List.length_take]; omega
theorem Zpk (l : List E23) : 1 <= (el23 l).length /\ (el23 l).length <= 4 := by
 unfold el23
 split
 ·simp
 ·rw [List.length_take]; omega
theorem ZeV (sets : Int) (l : List E23) : ∀ k, (ZaK sets l k).1.length = k
 | 0 => rfl
 | k + 1 => by simp [ZaK, ZeV sets l k]
theorem Ziw (sets : Int) (l : List E23) (hl : ∀ e ∈ l, e.ok) : ∀ k : Nat, 1904 <= (ZaK sets l k).2 /\ (ZaK sets l k).2 <= 1904 + 30 * k
 | 0 => by simp [ZaK]
 | k + 1 => by
  obtain ⟨h1, h2⟩ := Ziw sets l hl k
  have h3 := Int.emod_nonneg (l.getD k e23Z).years (b := 30) (by decide)
  have h4 := Int.emod_lt_of_pos (l.getD k e23Z).years (b := 30) (by decide)
  simp only [ZaK]
  omega
theorem ZcL (sets : Int) (zs : List (List E23)) : ∀ k, (Zbu sets zs k).length = k
 | 0 => rfl
 | k + 1 => by simp [Zbu, ZcL sets zs k]
theorem ZdP (nz : Nat) (links : List Int) : ∀ k, (Zby nz links k).length = k
 | 0 => rfl
 | k + 1 => by simp [Zby, ZdP nz links k]
def sN (j : Nat) : ByteArray := sR ++ dig (j : Int)
theorem Zzm : ∀ i j : Fin 3, i ≠ j -> sN i.val ≠ sN j.val := by decide +kernel
theorem Zzl : ∀ i : Fin 3, setB (sN i.val) = true := by decide +kernel
theorem ZdL (sets : List (List Int)) : ∀ m, ∀ r ∈ ZaP sets m, ∃ j, j < m /\ r.name = sN j
 | 0, r, h => by cases h
 | m + 1, r, h => by
  rw [ZaP, List.mem_append] at h
  rcases h with h | h
  ·obtain ⟨j, h1, h2⟩ := ZdL sets m r h
   exact ⟨j, by omega, h2⟩
  ·exact ⟨m, by omega, Zeu _ _ r h⟩
theorem Zjt (sets : List (List Int)) : ∀ m, m <= 3 -> ∀ j, j < 3 -> ofB (ZaP sets m) (sN j) = if j < m then ZbV (sets.getD j []) (sN j) else []
 | 0, _, j, _ => rfl
 | m + 1, hm, j, hj => by
  rw [ZaP, Zxn, Zjt sets m (by omega) j hj]
  by_cases h : j = m
  ·subst h
   rw [if_neg (by omega), if_pos (by omega), List.nil_append]
   exact Zxo (Zeu _ _)
  ·have hno : ofB (ZbV (sets.getD m []) (sR ++ dig (m : Int))) (sN j) = [] := Zyw (y := sN m) (Zeu _ _) (Zzm ⟨m, by omega⟩ ⟨j, hj⟩ fun e => h (Fin.mk.inj e).symm)
   rw [hno, List.append_nil]
   by_cases h2 : j < m
   ·rw [if_pos h2, if_pos (by omega)]
   ·rw [if_neg h2, if_neg (by omega)]
theorem Zfx (sets : List (List Int)) (m : Nat) (hm : m <= 3) (j : Nat) (hj : j < m) : Zbh (ofB (ZaP sets m) (sN j)) /\ (ofB (ZaP sets m) (sN j)).length <= 5 := by
 rw [Zjt sets m hm j (by omega), if_pos hj]
 exact ⟨Zqu _ _, Zqv _ _⟩
theorem ZlB (sets : List (List Int)) (m : Nat) (hm : m <= 3) : Zdn (ZaP sets m) (ZbU (ZaP sets m) []) = none := by
 refine Zg4 _ fun x hx => ?_
 rcases ZfA _ _ x hx with h | ⟨r, h1, h2⟩
 ·cases h
 ·obtain ⟨j, h3, h4⟩ := ZdL sets m r h1
  rw [<- h2, h4]
  exact (Zfx sets m hm j h3).1.fault (Zzl ⟨j, by omega⟩)
theorem ZsO (n : Int) : ZgJ n ∈ fmtU := by
 have h0 := Int.emod_nonneg n (b := 6) (by decide)
 have h1 := Int.emod_lt_of_pos n (b := 6) (by decide)
 unfold ZgJ
 generalize n % 6 = x at *
 have hc : x = 0 \/ x = 1 \/ x = 2 \/ x = 3 \/ x = 4 \/ x = 5 := by omega
 rcases hc with rfl | rfl | rfl | rfl | rfl | rfl
 ·exact .head _
 ·exact .tail _ (.head _)
 ·exact .tail _ (.tail _ (.tail _ (.tail _ (.tail _ (.tail _ (.head _))))))
 ·exact .tail _ (.tail _ (.tail _ (.head _)))
 ·exact .tail _ (.tail _ (.tail _ (.tail _ (.head _))))
 ·exact .tail _ (.tail _ (.tail _ (.tail _ (.tail _ (.tail _ (.tail _ (.head _)))))))
theorem ZvA (rs : List Zaa) (ns : Nat) (hns : 1 <= ns) (e : E23) (k : Nat) (year : Int) (fin_ : Bool) (hs : ∀ j, j < ns -> Zbh (ofB rs (sN j)) /\ (ofB rs (sN j)).length <= 5) :
  Zbi rs (ZkN e (decide ((k : Int) = 0)) ns year fin_) (decide (k = 0)) := by
 have o := Zhs e.off 48 (by decide)
 have hf := ZsO e.format
 have hk0 := Int.emod_nonneg e.kind (b := 3) (by decide)
 have hk1 := Int.emod_lt_of_pos e.kind (b := 3) (by decide)
 have hs0 := Int.emod_nonneg e.set (b := 4) (by decide)
 have hs1 := Int.emod_lt_of_pos e.set (b := 4) (by decide)
 have ht0 := Int.emod_nonneg e.set (b := (ns : Int)) (by omega)
 have ht1 := Int.emod_lt_of_pos e.set (b := (ns : Int)) (by omega)
 have hkd : Zdw e (decide ((k : Int) = 0)) = 0 \/ Zdw e (decide ((k : Int) = 0)) = 1 \/ (Zdw e (decide ((k : Int) = 0)) = 2 /\ k ≠ 0) := by
  unfold Zdw
  split
  ·exact .inl rfl
  ·rename_i hh
   have hc : e.kind % 3 = 0 \/ e.kind % 3 = 1 \/ e.kind % 3 = 2 := by omega
   rcases hc with hc | hc | hc
   ·exact .inl hc
   ·exact .inr (.inl hc)
   ·refine .inr (.inr ⟨hc, fun hk => hh ⟨?_, hc⟩⟩)
    subst hk
    rfl
 unfold Zbi ZkN
 dsimp only
 rcases hkd with h | h | ⟨h, hk⟩
 ·refine .inl ⟨h, ?_, ?_, by omega, by omega, hf⟩
  ·unfold ZfO; rw [if_neg (by omega)]
  ·unfold ZhU; rw [if_neg (by omega)]
 ·refine .inr (.inl ⟨h, ?_, ?_, by omega, by omega, hf⟩)
  ·unfold ZfO; rw [if_pos h]; omega
  ·unfold ZhU; rw [if_neg (by omega)]
 ·have he : ZhU e (decide ((k : Int) = 0)) ns = sN (e.set % (ns : Int)).toNat := by
   unfold ZhU sN
   rw [if_pos h, Int.toNat_of_nonneg ht0]
  obtain ⟨h1, h2⟩ := hs (e.set % (ns : Int)).toNat (by omega)
  refine .inr (.inr ⟨h, decide_eq_false hk, ?_, by omega, by omega, hf, ?_, ?_⟩)
  ·unfold ZfO; rw [if_neg (by omega)]
  ·rw [he]; exact h1
  ·rw [he]; exact h2
theorem ZgN (ns : Int) (l : List E23) : ∀ (c k : Nat) (e : DEra), (ZaK ns l c).1[k]? = some e -> k < c /\ e = ZkN (l.getD k e23Z) (decide ((k : Int) = 0)) ns (ZaK ns l (k + 1)).2 (decide ((k : Int) < (l.length : Int) - 1))
 | 0, k, e, h => by simp [ZaK] at h
 | c + 1, k, e, h => by
  have hl := ZeV ns l c
  simp only [ZaK] at h
  rcases Nat.lt_trichotomy k c with hk | hk | hk
  ·rw [List.getElem?_append_left (by omega)] at h
   obtain ⟨h1, h2⟩ := ZgN ns l c k e h
   exact ⟨by omega, h2⟩
  ·rw [List.getElem?_append_right (by omega), hl, hk, Nat.sub_self] at h
   simp only [List.getElem?_cons_zero, Option.some.injEq] at h
   subst h hk
   exact ⟨by omega, rfl⟩
  ·rw [List.getElem?_eq_none (by simp; omega)] at h
   cases h
theorem Ziv (ns : Int) (l : List E23) : ∀ k : Nat, 1904 + k <= (ZaK ns l k).2 /\ (ZaK ns l k).2 <= 1904 + 30 * k /\ (ZaK ns l k).2 < (ZaK ns l (k + 1)).2
 | 0 => by
  have h3 := Int.emod_nonneg (l.getD 0 e23Z).years (b := 30) (by decide)
  simp only [ZaK]
  omega
 | k + 1 => by
  obtain ⟨h1, h2, _⟩ := Ziv ns l k
  have h3 := Int.emod_nonneg (l.getD k e23Z).years (b := 30) (by decide)
  have h4 := Int.emod_lt_of_pos (l.getD k e23Z).years (b := 30) (by decide)
  have h5 := Int.emod_nonneg (l.getD (k + 1) e23Z).years (b := 30) (by decide)
  simp only [ZaK] at h1 h2 ⊢
  omega
theorem Zrn (rs : List Zaa) (ns : Nat) (hns : 1 <= ns) (i : Nat) (l : List E23) (hs : ∀ j, j < ns -> Zbh (ofB rs (sN j)) /\ (ofB rs (sN j)).length <= 5) : ∃ Y, Zbo rs (ZoG ns i l).eras Y := by
 have hl := Zpk l
 show ∃ Y, Zbo rs (ZaK ns (el23 l) (el23 l).length).1 Y
 generalize el23 l = m at *
 have hlen := ZeV ns m m.length
 refine ⟨fun k => (ZaK ns m (k + 1)).2 - 1, by omega, fun k e he => ?_, fun k hk => ?_, fun k hk => ?_, fun k e he => ?_⟩
 ·obtain ⟨h1, rfl⟩ := ZgN ns m m.length k e he
  exact ZvA rs ns hns _ k _ _ hs
 ·have := Ziv ns m (k + 1)
  omega
 ·have := Ziv ns m (k + 1)
  show (ZaK ns m (k + 1)).2 - 1 < (ZaK ns m (k + 1 + 1)).2 - 1
  omega
 ·obtain ⟨h1, rfl⟩ := ZgN ns m m.length k e he
  generalize m.getD k e23Z = x at *
  have o := Zhs x.at_ 24 (by decide)
  have b0 := Int.emod_nonneg x.base (b := 3) (by decide)
  have b1 := Int.emod_lt_of_pos x.base (b := 3) (by decide)
  have d0 := Int.emod_nonneg x.day (b := 20) (by decide)
  have d1 := Int.emod_lt_of_pos x.day (b := 20) (by decide)
  have w0 := Int.emod_nonneg x.day (b := 7) (by decide)
  have w1 := Int.emod_lt_of_pos x.day (b := 7) (by decide)
  show if k + 1 < _ then ZuD (Zls x (ZaK ns m (k + 1)).2 (decide ((k : Int) < (m.length : Int) - 1))) ((ZaK ns m (k + 1)).2 - 1) else Zls x (ZaK ns m (k + 1)).2 (decide ((k : Int) < (m.length : Int) - 1)) = Zxr
  rw [hlen]
  by_cases hk : k + 1 < m.length
  ·rw [if_pos hk, decide_eq_true (by omega)]
   unfold Zls
   rw [if_pos rfl]
   refine .inr ⟨Zs5 x, _, _, by rw [show (ZaK ns m (k + 1)).2 - 1 + 1 = (ZaK ns m (k + 1)).2 by omega], ?_, by omega, by omega, by omega, by omega⟩
   unfold Zs5
   split
   ·exact .inr ⟨rfl, ⟨w0, by dsimp only; omega⟩, rfl⟩
   ·exact .inl ⟨rfl, rfl, by dsimp only; omega, by dsimp only; omega⟩
  ·rw [if_neg hk, decide_eq_false (by omega)]
   rfl
theorem Zji (rs : List Zaa) (ns : Nat) (hns : 1 <= ns) (zs : List (List E23)) (hs : ∀ j, j < ns -> Zbh (ofB rs (sN j)) /\ (ofB rs (sN j)).length <= 5) : ∀ i, ∀ z ∈ Zbu ns zs i, ∃ Y, Zbo rs z.eras Y
 | 0, z, h => by cases h
 | i + 1, z, h => by
  rw [Zbu, List.mem_append, List.mem_singleton] at h
  rcases h with h | rfl
  ·exact Zji rs ns hns zs hs i z h
  ·exact Zrn rs ns hns i _ hs
theorem ns23 (d : DD23) : 1 <= d.ns /\ d.ns <= 3 := by unfold DD23.ns; omega
theorem Zco (d : DD23) : ∀ z ∈ (Zbx d).zones, ∃ Y, Zbo (Zbx d).rules z.eras Y :=
 Zji (ZaP d.sets d.ns) d.ns (ns23 d).1 (zl23 d.zones) (fun j hj => Zfx d.sets d.ns (ns23 d).2 j hj) (zl23 d.zones).length
theorem ZnD (d : DD23) : Zjb (Zbx d) = none := ZlB d.sets d.ns (ns23 d).2
def Zki : List ByteArray := [⟨#[65, 114, 101, 97, 47, 90, 48]⟩, ⟨#[65, 114, 101, 97, 47, 90, 49]⟩, ⟨#[65, 114, 101, 97, 47, 90, 50]⟩]
def Zh7 : List ByteArray := [⟨#[79, 108, 100, 47, 76, 48]⟩, ⟨#[79, 108, 100, 47, 76, 49]⟩, ⟨#[79, 108, 100, 47, 76, 50]⟩, ⟨#[79, 108, 100, 47, 76, 51]⟩]
theorem Zjk : ∀ i : Fin 3, sZ ++ dig ((i.val : Nat) : Int) = Zki.getD i.val ByteArray.empty := by decide +kernel
theorem ZjJ : ∀ i : Fin 4, sL ++ dig ((i.val : Nat) : Int) = Zh7.getD i.val ByteArray.empty := by decide +kernel
def Zqy (nz c : Nat) : ByteArray := if c < nz then Zki.getD c ByteArray.empty else Zh7.getD (c - nz) ByteArray.empty
def Zje (nz : Nat) (c : Nat -> Nat) : Nat -> List Zb5
 | 0 => []
 | i + 1 => Zje nz c i ++ [⟨Zqy nz (c i), Zh7.getD i ByteArray.empty⟩]
def ZpZ : Nat -> List ZaY
 | 0 => []
 | i + 1 => ZpZ i ++ [⟨Zki.getD i ByteArray.empty, []⟩]
def ch4 (a b c d : Nat) (i : Nat) : Nat := match i with | 0 => a | 1 => b | 2 => c | _ => d
theorem ZnI : ∀ nz : Fin 4, ∀ nl : Fin 5, ∀ a : Fin 3, ∀ b : Fin 4, ∀ c : Fin 5, ∀ d : Fin 6, a.val < nz.val -> b.val < nz.val + 1 -> c.val < nz.val + 2 -> d.val < nz.val + 3 ->
  Zcp ⟨[], ZpZ nz.val, Zje nz.val (ch4 a.val b.val c.val d.val) nl.val, []⟩ = none := by decide +kernel
theorem Zee (sets : Int) (zs : List (List E23)) : ∀ i, i <= 3 -> (Zbu sets zs i).map ZkY = ZpZ i
 | 0, _ => rfl
 | i + 1, h => by
  rw [Zbu, List.map_append, Zee sets zs i (by omega), ZpZ, <- Zjk ⟨i, by omega⟩]
  rfl
theorem Zsu (nz : Nat) (h1 : 1 <= nz) (h3 : nz <= 3) (n : Int) (i : Nat) (hi : i < 4) : ∃ c, c < nz + i /\ Zhc nz n i = ⟨Zqy nz c, Zh7.getD i ByteArray.empty⟩ := by
 have a0 := Int.emod_nonneg n (b := (nz : Int) + i) (by omega)
 have a1 := Int.emod_lt_of_pos n (b := (nz : Int) + i) (by omega)
 have b0 := Int.emod_nonneg n (b := (nz : Int)) (by omega)
 have b1 := Int.emod_lt_of_pos n (b := (nz : Int)) (by omega)
 unfold Zhc
 rw [ZjJ ⟨i, hi⟩]
 by_cases h : n % ((nz : Int) + i) >= nz
 ·refine ⟨(n % ((nz : Int) + i)).toNat, by omega, ?_⟩
  rw [if_pos h]
  unfold Zqy
  rw [if_neg (by omega), <- ZjJ ⟨(n % ((nz : Int) + i)).toNat - nz, by omega⟩]
  dsimp only
  rw [show (((n % ((nz : Int) + i)).toNat - nz : Nat) : Int) = n % ((nz : Int) + i) - nz by omega]
 ·refine ⟨(n % (nz : Int)).toNat, by omega, ?_⟩
  rw [if_neg h]
  unfold Zqy
  rw [if_pos (by omega), <- Zjk ⟨(n % (nz : Int)).toNat, by omega⟩]
  dsimp only
  rw [Int.toNat_of_nonneg b0]
theorem ZfC (nz : Nat) (c c' : Nat -> Nat) : ∀ n, (∀ i, i < n -> c i = c' i) -> Zje nz c n = Zje nz c' n
 | 0, _ => rfl
 | n + 1, h => by rw [Zje, Zje, ZfC nz c c' n fun i hi => h i (by omega), h n (by omega)]
theorem ZfD (nz : Nat) (h1 : 1 <= nz) (h3 : nz <= 3) (L : List Int) : ∀ i : Nat, i <= 4 -> ∃ c : Nat -> Nat, (∀ k, c k < nz + k) /\ Zby nz L i = Zje nz c i
 | 0, _ => ⟨fun _ => 0, fun k => by dsimp only; omega, rfl⟩
 | i + 1, h => by
  obtain ⟨c, q1, q2⟩ := ZfD nz h1 h3 L i (by omega)
  obtain ⟨x, q3, q4⟩ := Zsu nz h1 h3 (L.getD i 0) i (by omega)
  refine ⟨fun k => if k = i then x else c k, fun k => ?_, ?_⟩
  ·dsimp only
   split
   ·rename_i e; rw [e]; exact q3
   ·exact q1 k
  ·rw [Zby, q2, q4, Zje, ZfC nz (fun k => if k = i then x else c k) c i fun k hk => if_neg (by omega), if_pos rfl]
theorem ZlY (d : DD23) : Zcp (Zbx d) = none := by
 obtain ⟨z1, z3⟩ := ZeL d.zones
 have hl : (d.links.take 4).length <= 4 := by rw [List.length_take]; omega
 obtain ⟨c, q1, q2⟩ := ZfD (zl23 d.zones).length z1 z3 (d.links.take 4) (d.links.take 4).length hl
 rw [ZnH]
 unfold Zbx Zhq
 dsimp only
 rw [Zee _ _ _ z3, q2, ZfC _ c (ch4 (c 0) (c 1) (c 2) (c 3)) _ fun i hi => by
  have hc : i = 0 \/ i = 1 \/ i = 2 \/ i = 3 := by omega
  rcases hc with rfl | rfl | rfl | rfl <;> rfl]
 have r0 := q1 0
 have r1 := q1 1
 have r2 := q1 2
 have r3 := q1 3
 exact ZnI ⟨_, by omega⟩ ⟨_, by omega⟩ ⟨c 0, by omega⟩ ⟨c 1, by omega⟩ ⟨c 2, by omega⟩ ⟨c 3, by omega⟩ (by dsimp only; omega) (by dsimp only; omega) (by dsimp only; omega) (by dsimp only; omega)
theorem ZlW (d : DD23) : Zfg (Zbx d) = none := by
 have h1 := ZcR d.sets d.ns
 have hm := (ns23 d).2
 obtain ⟨z1, z3⟩ := ZeL d.zones
 have hr : (Zbx d).rules.length <= 15 := by
  show (ZaP d.sets d.ns).length <= 15
  omega
 have hz : (Zbx d).zones.length <= 3 := by
  show (Zbu d.ns (zl23 d.zones) (zl23 d.zones).length).length <= 3
  rw [ZcL]; exact z3
 have hk : (Zbx d).links.length <= 4 := by
  show (Zby (zl23 d.zones).length (d.links.take 4) (d.links.take 4).length).length <= 4
  rw [ZdP, List.length_take]; omega
 have hf : (Zbx d).zones.findIdx? (fun z => decide (60 < z.eras.length)) = none := by
  rw [List.findIdx?_eq_none_iff]
  intro z hz
  obtain ⟨Y, h⟩ := Zco d z hz
  have := h.len
  exact decide_eq_false (by omega)
 unfold Zfg
 rw [if_neg (by omega), if_neg (by omega), hf]
 dsimp only
 rw [if_neg (by omega), if_neg (by show ¬ 2000 < ([] : List ByteArray).length; decide)]
theorem ZjG (d : DD23) : accD (Zbx d) = none := by
 unfold accD
 rw [ZlW d, ZnD d, ZlY d, Zg1 _ 0 (Zco d)]
 rfl
end Go.Proofs.YtdlmhmmhdbbliaaGreatDoor
