/- Parts of the proof. -/
import Derived.Test.YtpcpmndldgejiaaGreatDoorV07
import Derived.Test.YtpcpmndldgejiaaGreatDoorV04
import Derived.Test.YtpcpmndldgejiaaGreatDoorV05
import Derived.Laws.Strings2
set_option maxHeartbeats 4000000
set_option linter.unusedVariables false
set_option linter.unusedSimpArgs false
namespace Go.Proofs.YtpcpmndldgejiaaGreatDoor
open Go Go.RowKit Go.Wk
attribute [local irreducible] W RL Does Zat Zak retQ Calls Pu Stp RD Qy Ay Zam atB dayOf Zed pairB
def intEnc (n : Int) : List Value := [.int .i64 n]
theorem intEnc.len (n : Int) : (intEnc n).length = 1 := rfl
theorem name_lay (x : ByteArray) : ∀ (l : List Zaa) (k : Nat) (r : Zaa), l[k]? = some r → lay (l.flatMap Zaa.enc) (k * 11) [.string x] = (l.take k ++ ZcE x r :: l.drop (k + 1)).flatMap Zaa.enc
 | [], k, r, h => by simp at h
 | a :: l, 0, r, h => by
  simp only [List.getElem?_cons_zero, Option.some.injEq] at h
  subst h
  simp [lay, ZcE, Zaa.enc]
 | a :: l, k + 1, r, h => by
  have ih := name_lay x l k r (by simpa using h)
  simp only [lay] at ih ⊢
  simp only [List.flatMap_cons, List.take_succ_cons, List.drop_succ_cons, List.cons_append]
  rw [← ih]
  rw [show (k + 1) * 11 = a.enc.length + k * 11 by rw [Zaa.len]; omega, List.set_append_right _ _ (by omega), Nat.add_sub_cancel_left]
theorem take_map_drop {x : ByteArray} {l : List Zaa} {k : Nat} (r : Zaa) (hr : l[k]? = some r) : ((l.take k).map (ZcE x) ++ l.drop k)[k]? = some r := by
 have hk := (List.getElem?_eq_some_iff.1 hr).1
 have e : ((l.take k).map (ZcE x)).length = k := by rw [List.length_map, List.length_take]; omega
 rw [List.getElem?_append_right (by omega), e, Nat.sub_self, List.getElem?_drop]
 exact hr
theorem named_step (x : ByteArray) (l : List Zaa) (k : Nat) (r : Zaa) (hr : l[k]? = some r) :
  lay (((l.take k).map (ZcE x) ++ l.drop k).flatMap Zaa.enc) (k * 11 + 0) [.string x] = ((l.take (k + 1)).map (ZcE x) ++ l.drop (k + 1)).flatMap Zaa.enc := by
 have hk := (List.getElem?_eq_some_iff.1 hr).1
 have e : ((l.take k).map (ZcE x)).length = k := by rw [List.length_map, List.length_take]; omega
 rw [Nat.add_zero, name_lay x _ k r (take_map_drop r hr), List.take_append_of_le_length (by omega), List.take_of_length_le (by omega)]
 congr 1
 rw [List.drop_append, List.drop_eq_nil_of_le (by omega), e, List.nil_append, List.drop_drop, List.take_add_one, List.map_append, List.append_assoc, hr, show k + (k + 1 - k) = k + 1 by omega]
 rfl
set_option maxHeartbeats 8000000 in
theorem made17_spec (A : Option Addr) (c : Nat) (l : List Int) (x : ByteArray) (w : World) (hA : RdSl w A c Zdc 1 l) (hr : ∀ x ∈ l, inR .u8 x) :
  Does Tryz.prog 30 [.slice A l.length c, .string x] w (fun v O => ∃ A' c', v = .slice A' (ZbJ l x).length c' ∧ O = [.row (.slice A' (ZbJ l x).length c') 118 11 (ZbJ l x).length ((ZbJ l x).flatMap Zaa.enc)]) := by
 have r0 := Zas l 0 5 (by decide)
 have r1 := Zas l 1 80 (by decide)
 have r3 := Zas l 3 28 (by decide)
 have r6 := Zas l 6 12 (by decide)
 have r8 := Zas l 8 5 (by decide)
 have r9 := Zas l 9 6 (by decide)
 obtain ⟨q1, q2, q3⟩ := m1_rng l
 obtain ⟨q4, q5, q6⟩ := m2_rng l (m1 l).1 (m1 l).2 q1 q2 q3
 have hget : saves17[(atB l 0 5).toNat]? = some (ZbA l) := by
  have hk : (atB l 0 5).toNat < saves17.length := by simp only [saves17, List.length_cons, List.length_nil]; omega
  rw [ZbA, List.getD_eq_getElem?_getD, List.getElem?_eq_getElem hk]
  rfl
 refine Zab Tryz.func30 rfl rfl rfl rfl ?_
 repeat (first | (apply RL_pu; rfl; (apply Zd8 (v := .int .i64 (ZbA l)); rfl; (intro w' _ hO; exact ((litRd (c := 5) (l := saves17) (t := 2) intEnc.len (Nat.le_refl 5) (by decide) (hO.of (A := .blk bk (saves17.flatMap intEnc) _) (by repeat' constructor))).rd _ _ hget).2 0 _ rfl))) | (refine js ?_; (first | (refine Zad (fun w' hw => Zbj A c l 0 5 w' (hA.up hw) hr (by omega) (by omega)) ?_) | (refine Zad (fun w' hw => Zbj A c l 1 80 w' (hA.up hw) hr (by omega) (by omega)) ?_) | (refine Zad (fun w' hw => Zbj A c l 2 3 w' (hA.up hw) hr (by omega) (by omega)) ?_) | (refine bx ?_; intro bk))) | refine walk1 ?_)
 refine Zcd 118 11 ?_
 refine Zb1 (fun fr' O' => ∃ A' c' n xs, (n = (m1 l).1.length ∧ xs = (m1 l).1.flatMap Zaa.enc) ∧ Sub [(0, .slice A l.length c), (1, .string x), (5, .int .i64 (ZbA l)), (6, .int .i64 (m1 l).2), (7, .slice A' n c')] fr' ∧ SubO [.row (.slice A' n c') 118 11 n xs] O') ?_ ?_
 ·refine Zag rfl (fun h => ?_) (fun h => ?_)
  ·have e : m1 l = ([one17 l (1900 + atB l 1 80)], 1900 + atB l 1 80 + 1) := by rw [m1, if_pos (by simpa using h)]
   repeat (first | (refine js ?_; (first | (refine Zad (fun w' hw => Zbj A c l 3 28 w' (hA.up hw) hr (by omega) (by omega)) ?_) | (refine Zad (fun w' hw => clock_spec A c l 4 w' (hA.up hw) hr (by omega) (by omega)) ?_) | (apply Zaq; rfl; rfl; (intro A' c'; (focus repeat' constructor)); (intro w' _ hO; exact Za1 (hO.of (by repeat' constructor))); rfl; rfl; (simp only [maxLen]; omega); omega; intro A' c' hc1 hc2 hc3) | (refine bx ?_; intro bk))) | refine walk ?_)
   rw [e]
   exact ⟨rfl, A', c', 0 + 1, [] ++ (one17 l (1900 + atB l 1 80)).enc, ⟨rfl, rfl⟩, SFA, SOA⟩
  have e : m1 l = ([], 1900 + atB l 1 80) := by rw [m1, if_neg (by simpa using h)]
  repeat (first | (refine js ?_; (refine bx ?_; intro bk)) | refine walk ?_)
  rw [e]
  exact ⟨rfl, none, 0, 0, [], ⟨rfl, rfl⟩, SFA, SOA⟩
 rintro fr' O' ⟨A1, c1, n1, x1, ⟨hn1, hx1⟩, hf, hO⟩
 apply thenQ_n
 refine ZbV hf hO ?_
 clear hf hO fr' O'
 repeat (first | (refine js ?_; (first | (refine Zad (fun w' hw => Zbj A c l 5 2 w' (hA.up hw) hr (by omega) (by omega)) ?_) | (refine bx ?_; intro bk))) | refine walk ?_)
 rw [ZbJ]
 generalize m1 l = g1 at *
 obtain ⟨o1, f1⟩ := g1
 dsimp only at *
 refine Zb1 (fun fr' O' => ∃ A' c' n xs, (n = (m2 l o1 f1).1.length ∧ xs = (m2 l o1 f1).1.flatMap Zaa.enc) ∧ Sub [(0, .slice A l.length c), (1, .string x), (5, .int .i64 (ZbA l)), (6, .int .i64 (m2 l o1 f1).2), (7, .slice A' n c')] fr' ∧ SubO [.row (.slice A' n c') 118 11 n xs] O') ?_ ?_
 ·refine Zag rfl (fun h => ?_) (fun h => ?_)
  ·have e : m2 l o1 f1 = (o1 ++ pairB l 7 f1 (f1 + atB l 6 12) (ZbA l), f1 + atB l 6 12 + 1 + atB l 8 5) := by rw [m2, if_pos (by simpa using h)]
   repeat (first | (refine js ?_; (first | (refine Zad (fun w' hw => Zbj A c l 6 12 w' (hA.up hw) hr (by omega) (by omega)) ?_) | (refine Zad (fun w' hw => Zbj A c l 8 5 w' (hA.up hw) hr (by omega) (by omega)) ?_) | (apply Zah (h := fun w' hw _ => pair17_spec A c l 7 f1 (f1 + atB l 6 12) (ZbA l) w' (hA.up hw) hr (by omega) (by omega)); rfl; rintro v O' ⟨k1, rfl, rfl⟩) | (apply Zaq; rfl; rfl; (intro A' c'; (focus repeat' constructor)); (intro w' _ hO; exact Za1 (hO.of (by repeat' constructor))); (rw [ZaF Zaa.len, Zc0]); exact Zby oneR _; (simp only [maxLen]; omega); omega; intro A' c' hc1 hc2 hc3) | (refine bx ?_; intro bk))) | refine walk ?_)
   rw [e]
   exact ⟨rfl, A', c', n1 + 2, x1 ++ _, ⟨by rw [List.length_append, Zc0, hn1], by rw [List.flatMap_append, hx1]⟩, SFA, SOA⟩
  have e : m2 l o1 f1 = (o1, f1) := by rw [m2, if_neg (by simpa using h)]
  repeat (first | (refine js ?_; (refine bx ?_; intro bk)) | refine walk ?_)
  rw [e]
  exact ⟨rfl, A1, c1, n1, x1, ⟨hn1, hx1⟩, SFA, SOA⟩
 rintro fr' O' ⟨A2, c2, n2, x2, ⟨hn2, hx2⟩, hf, hO⟩
 apply thenQ_n
 refine ZbV hf hO ?_
 clear hf hO fr' O'
 generalize m2 l o1 f1 = g2 at *
 obtain ⟨o2, f2⟩ := g2
 dsimp only at *
 repeat (first | (refine js ?_; (first | (refine Zad (fun w' hw => Zbj A c l 9 6 w' (hA.up hw) hr (by omega) (by omega)) ?_) | (refine Zad (fun w' hw => Zbj A c l 10 3 w' (hA.up hw) hr (by omega) (by omega)) ?_) | (refine bx ?_; intro bk))) | refine walk ?_)
 refine Zb1 (fun fr' O' => Sub [(0, .slice A l.length c), (1, .string x), (5, .int .i64 (ZbA l)), (6, .int .i64 f2), (7, .slice A2 n2 c2), (9, .int .i64 (to17 l f2))] fr' ∧ SubO [.row (.slice A2 n2 c2) 118 11 n2 x2] O') ?_ ?_
 ·refine Zag rfl (fun h => ?_) (fun h => ?_)
  ·have e : to17 l f2 = 1048576 := by rw [to17, if_pos (by simpa using h)]
   repeat (first | (refine js ?_; (refine bx ?_; intro bk)) | refine walk ?_)
   rw [e]
   exact ⟨rfl, SFA, SOA⟩
  have e : to17 l f2 = f2 + atB l 9 6 := by rw [to17, if_neg (by simpa using h)]
  repeat (first | (refine js ?_; (refine bx ?_; intro bk)) | refine walk ?_)
  rw [e]
  exact ⟨rfl, SFA, SOA⟩
 rintro fr' O' ⟨hf, hO⟩
 apply thenQ_n
 refine ZbV hf hO ?_
 clear hf hO fr' O'
 repeat (first | (refine js ?_; (first | (apply Zah (h := fun w' hw _ => pair17_spec A c l 11 f2 (to17 l f2) (ZbA l) w' (hA.up hw) hr (by omega) (by omega)); rfl; rintro v O' ⟨k1, rfl, rfl⟩) | (apply Zaq; rfl; rfl; (intro A' c'; (focus repeat' constructor)); (intro w' _ hO; exact Za1 (hO.of (by repeat' constructor))); (rw [ZaF Zaa.len, Zc0]); exact Zby oneR _; (simp only [maxLen]; omega); omega; intro A' c' hc1 hc2 hc3) | (refine bx ?_; intro bk))) | refine walk ?_)
 obtain ⟨o3, ho3⟩ : ∃ o3, m3 l o2 f2 = o3 := ⟨_, rfl⟩
 have hx3 : x2 ++ (pairB l 11 f2 (to17 l f2) (ZbA l)).flatMap Zaa.enc = o3.flatMap Zaa.enc := by rw [← ho3, m3, List.flatMap_append, hx2]
 have hn3 : n2 + 2 = o3.length := by rw [← ho3, m3, List.length_append, Zc0, hn2]
 have hn5 : o3.length ≤ 5 := by omega
 rw [ho3, hx3, hn3]
 have hAn : A' ≠ none := hc3 (by omega)
 refine Zal [(1, .string x), (7, .slice A' o3.length c'), (70, .int .i64 o3.length)] [] (fun k : Nat => [(71, .int .i64 k)]) (fun k => [.row (.slice A' o3.length c') 118 11 o3.length (((o3.take k).map (ZcE x) ++ o3.drop k).flatMap Zaa.enc)]) (fun k => k ≤ o3.length) (fun k => o3.length - k) 0 SFA SOA (Nat.zero_le _) ?_
 intro k hk
 repeat (first | (refine js ?_; (refine bx ?_; intro bk)) | refine walk ?_)
 refine Zag rfl (fun h => ?_) (fun h => ?_)
 ·have hk2 : k < o3.length := by simpa using h
  have hll : (((o3.take k).map (ZcE x) ++ o3.drop k).flatMap Zaa.enc).length = o3.length * 11 := by
   rw [ZaF Zaa.len, List.length_append, List.length_map, List.length_take, List.length_drop, Nat.min_eq_left hk]
   congr 1; omega
  repeat (first | (apply RL_pu; rfl; (first | (apply Pu_indexAddr; rfl; rfl; omega; omega; exact hAn) | (apply Zbo; rfl))) | (refine js ?_; (first | (apply Zcq; rfl; rfl; (focus repeat' constructor); rfl; rfl; rfl; (rw [hll]; omega); decide; exact named_step x o3 k _ (List.getElem?_eq_getElem hk2)) | (refine bx ?_; intro bk))) | refine walk1 ?_)
  exact ⟨k + 1, OA, OA, SFA, SOA⟩
 have hk2 : k = o3.length := by simp only [decide_eq_false_iff_not] at h; omega
 subst hk2
 repeat (first | (refine js ?_; (refine bx ?_; intro bk)) | refine walk ?_)
 have e : (o3.take o3.length).map (ZcE x) ++ o3.drop o3.length = o3.map (ZcE x) := by rw [List.take_length, List.drop_length, List.append_nil]
 rw [e]
 refine ret_1 _ [.row (.slice A' (o3.map (ZcE x)).length c') 118 11 (o3.map (ZcE x)).length ((o3.map (ZcE x)).flatMap Zaa.enc)] (.tmp (v := .slice A' (o3.map (ZcE x)).length c') (by rw [List.length_map]; rfl)) (by rw [List.length_map]; exact SOA) ⟨A', c', rfl, rfl⟩
end Go.Proofs.YtpcpmndldgejiaaGreatDoor
namespace Go.Proofs.YtpcpmndldgejiaaGreatDoor
open Go Go.RowKit Go.Wk Go.ChangeShapes Go.WideShapes Go.ChangeAt
structure _root_.Go.Wk.E23 where
 mk ::
 kind : Int
 set : Int
 format : Int
 years : Int
 day : Int
 base : Int
 off : Int
 at_ : Int
 deriving DecidableEq
def _root_.Go.Wk.E23.enc (d : E23) : List Value := [.int .u8 d.kind, .int .u8 d.set, .int .u8 d.format, .int .u8 d.years, .int .u8 d.day, .int .u8 d.base, .int .i8 d.off, .int .i8 d.at_]
section
variable {H : Type} {enc : TypeId × Value → H} {w : World} {sp : Nat → Bool} {held : Bool}
def _root_.Go.Wk.E23.ok (d : E23) : Prop := inR .u8 d.kind ∧ inR .u8 d.set ∧ inR .u8 d.format ∧ inR .u8 d.years ∧ inR .u8 d.day ∧ inR .u8 d.base ∧ inR .i8 d.off ∧ inR .i8 d.at_
theorem rd_E23 {n : Nat} {cs : List Value} {y : DataW H × List MemPlace} (h : DataW.trod enc Tryz.prog w 0 sp held n 109 cs = some y) : ∃ d : E23, cs = d.enc ∧ d.ok := by
 obtain ⟨hl, hf⟩ := field_of Tryz.underlying109 h
 rw [show Tryz.prog.cellsOf 109 = 8 from by kernel_rfl] at hl
 have c5 : Tryz.prog.cellsOf 5 = 1 := by kernel_rfl
 have c107 : Tryz.prog.cellsOf 107 = 1 := by kernel_rfl
 obtain ⟨a0, cs0, rfl, hl0⟩ := Zbg hl
 obtain ⟨a1, cs1, rfl, hl1⟩ := Zbg hl0
 obtain ⟨a2, cs2, rfl, hl2⟩ := Zbg hl1
 obtain ⟨a3, cs3, rfl, hl3⟩ := Zbg hl2
 obtain ⟨a4, cs4, rfl, hl4⟩ := Zbg hl3
 obtain ⟨a5, cs5, rfl, hl5⟩ := Zbg hl4
 obtain ⟨a6, cs6, rfl, hl6⟩ := Zbg hl5
 obtain ⟨a7, cs7, rfl, hl7⟩ := Zbg hl6
 obtain rfl := List.eq_nil_of_length_eq_zero hl7
 obtain ⟨n0, y0, h0⟩ := hf 0 5 0 1 rfl c5
 obtain ⟨x0, e0, _, b0⟩ := DataW.trod_int Tryz.underlying5 h0
 injection e0 with e0 _
 subst e0
 obtain ⟨n1, y1, h1⟩ := hf 1 5 1 1 rfl c5
 obtain ⟨x1, e1, _, b1⟩ := DataW.trod_int Tryz.underlying5 h1
 injection e1 with e1 _
 subst e1
 obtain ⟨n2, y2, h2⟩ := hf 2 5 2 1 rfl c5
 obtain ⟨x2, e2, _, b2⟩ := DataW.trod_int Tryz.underlying5 h2
 injection e2 with e2 _
 subst e2
 obtain ⟨n3, y3, h3⟩ := hf 3 5 3 1 rfl c5
 obtain ⟨x3, e3, _, b3⟩ := DataW.trod_int Tryz.underlying5 h3
 injection e3 with e3 _
 subst e3
 obtain ⟨n4, y4, h4⟩ := hf 4 5 4 1 rfl c5
 obtain ⟨x4, e4, _, b4⟩ := DataW.trod_int Tryz.underlying5 h4
 injection e4 with e4 _
 subst e4
 obtain ⟨n5, y5, h5⟩ := hf 5 5 5 1 rfl c5
 obtain ⟨x5, e5, _, b5⟩ := DataW.trod_int Tryz.underlying5 h5
 injection e5 with e5 _
 subst e5
 obtain ⟨n6, y6, h6⟩ := hf 6 107 6 1 rfl c107
 obtain ⟨x6, e6, _, b6⟩ := DataW.trod_int Tryz.underlying107 h6
 injection e6 with e6 _
 subst e6
 obtain ⟨n7, y7, h7⟩ := hf 7 107 7 1 rfl c107
 obtain ⟨x7, e7, _, b7⟩ := DataW.trod_int Tryz.underlying107 h7
 injection e7 with e7 _
 subst e7
 exact ⟨⟨x0, x1, x2, x3, x4, x5, x6, x7⟩, rfl, inR_of b0, inR_of b1, inR_of b2, inR_of b3, inR_of b4, inR_of b5, inR_of b6, inR_of b7⟩
end
end Go.Proofs.YtpcpmndldgejiaaGreatDoor
namespace Go.Wk
open Go Go.RowKit
section
variable {P : Program} {n : Nat} {wr : World} {fr : Fr} {O : List It} {ty : TypeId}
theorem Pu_sliceS {t : TypeId} {x y z : Operand} {s : ByteArray} {k k' : IntKind} {i j : Int} [hS : StringT P t] (hx : ev fr x = some (.string s)) (hy : ev fr y = some (.int k i)) (hz : ev fr z = some (.int k' j)) (h0 : 0 ≤ i) (h1 : i ≤ j) (h2 : j ≤ s.size) :
  Pu P n wr fr O (.slice t x (some y) (some z) none) ty (.string (s.extract i.toNat j.toNat)) := fun a w hs _ _ _ _ => by
 have h := run_slice_string (P := P) w t s k k' i j hS.h h0 h1 h2
 simp [execOp, hs.sim.ev hx, hs.sim.ev hy, hs.sim.ev hz, Instr.sliceAt, run_underlying hS.h, h]
end
end Go.Wk
namespace Go.Proofs.YtpcpmndldgejiaaGreatDoor
open Go Go.RowKit Go.Wk
attribute [local irreducible] W RL Does Zat Zak retQ Calls Pu Stp RD Qy Ay Zam
def digits : ByteArray := ⟨#[48, 49, 50, 51, 52, 53, 54, 55, 56, 57, 97, 98, 99, 100, 101, 102, 103, 104, 105, 106, 107, 108, 109, 110, 111, 112, 113, 114, 115, 116, 117, 118, 119, 120, 121, 122]⟩
def dig (i : Int) : ByteArray := digits.extract i.toNat (i + 1).toNat
theorem smallI_spec (i : Int) (h0 : 0 ≤ i) (h1 : i < 10) (w : World) : Does Tryz.prog 151 [.int .i64 i] w (fun v O => v = .string (dig i) ∧ O = []) := by
 refine Zab Tryz.func151 rfl rfl rfl rfl ?_
 repeat (first | refine walk ?_)
 refine Zag rfl (fun h => ?_) (fun h => absurd h (by simp; omega))
 repeat (first | (apply RL_pu; rfl; (apply Pu_sliceS; rfl; rfl; rfl; omega; omega; (show i + 1 ≤ ((36 : Nat) : Int); omega))) | refine walk1 ?_)
 exact rtA
theorem formatInt_spec (i : Int) (h0 : 0 ≤ i) (h1 : i < 10) (w : World) : Does Tryz.prog 109 [.int .i64 i, .int .i64 10] w (fun v O => v = .string (dig i) ∧ O = []) := by
 refine Zab Tryz.func109 rfl rfl rfl rfl ?_
 repeat (first | (refine js ?_; (refine bx ?_; intro bk)) | refine walk ?_)
 refine Zdj 14 rfl (fun _ => ?_) (fun h => absurd h (by simp; omega))
 repeat (first | (refine js ?_; (refine bx ?_; intro bk)) | refine walk ?_)
 refine Zag rfl (fun h => ?_) (fun h => absurd h (by simp; omega))
 repeat (first | (refine js ?_; (first | (refine Zad (fun w' _ => smallI_spec i h0 h1 w') ?_) | (refine bx ?_; intro bk))) | refine walk ?_)
 exact rtA
theorem itoa0_spec (i : Int) (h0 : 0 ≤ i) (h1 : i < 10) (w : World) : Does Tryz.prog 69 [.int .i64 i] w (fun v O => v = .string (dig i) ∧ O = []) := by
 refine Zab Tryz.func69 rfl rfl rfl rfl ?_
 repeat (first | (refine js ?_; (refine Zad (fun w' _ => formatInt_spec i h0 h1 w') ?_)) | refine walk ?_)
 exact rtA
theorem Zc6 (i : Int) (h0 : 0 ≤ i) (h1 : i < 10) (w : World) : Does Tryz.prog 31 [.int .i64 i] w (fun v O => v = .string (dig i) ∧ O = []) := by
 refine Zab Tryz.func31 rfl rfl rfl rfl ?_
 repeat (first | (refine js ?_; (refine Zad (fun w' _ => itoa0_spec i h0 h1 w') ?_)) | refine walk ?_)
 exact rtA
def fmts23 : List ByteArray := [⟨#[76, 77, 84]⟩, ⟨#[71, 77, 84, 47, 66, 83, 84]⟩, ⟨#[69, 37, 115, 83, 84]⟩, ⟨#[37, 122]⟩, ⟨#[67, 69, 84, 47, 67, 69, 83, 84]⟩, ⟨#[87, 83, 84]⟩]
def fmt23 (n : Int) : ByteArray := fmts23.getD (n % 6).toNat ByteArray.empty
theorem format23_spec (n : Int) (h0 : 0 ≤ n) (w : World) : Does Tryz.prog 70 [.int .u8 n] w (fun v O => v = .string (fmt23 n) ∧ O = []) := by
 have hm0 := Int.emod_nonneg n (b := 6) (by decide)
 have hm1 := Int.emod_lt_of_pos n (b := 6) (by decide)
 have hget : fmts23[(n % 6).toNat]? = some (fmt23 n) := by
  have hk : (n % 6).toNat < fmts23.length := by simp only [fmts23, List.length_cons, List.length_nil]; omega
  rw [fmt23, List.getD_eq_getElem?_getD, List.getElem?_eq_getElem hk]
  rfl
 refine Zab Tryz.func70 rfl rfl rfl rfl ?_
 repeat (first | (apply RL_pu; rfl; (apply Zd8 (v := .string (fmt23 n)); rfl; (intro w' _ hO; exact ((litRd (c := 6) (l := fmts23) (t := 9) Zau.len (Nat.le_refl 6) (by decide) (hO.of (A := .blk bk (fmts23.flatMap Zau) _) (by repeat' constructor))).rd _ _ hget).2 0 _ rfl))) | (refine js ?_; (refine bx ?_; intro bk)) | refine walk1 ?_)
 exact rtA
theorem until23_spec (y m d : Int) (w : World) : Does Tryz.prog 71 [.int .i64 y, .int .i64 m, .int .i64 d] w (fun v O => v = .agg #[.bool true, .int .i64 y, .int .i64 m, .int .i64 1, .int .i64 0, .int .i64 d, .int .i64 0, .int .i64 0] ∧ O = []) := by
 refine Zab Tryz.func71 rfl rfl rfl rfl ?_
 repeat (first | (refine js ?_; (refine bx ?_; intro bk)) | refine walk ?_)
 exact ret_1 _ [] (.cellB rfl (by repeat' constructor) rfl rfl) .nil ⟨rfl, rfl⟩
end Go.Proofs.YtpcpmndldgejiaaGreatDoor
namespace Go.Proofs.YtpcpmndldgejiaaGreatDoor
open Go Go.RowKit Go.Wk
attribute [local irreducible] W RL Does Zat Zak retQ Calls Pu Stp RD Qy Ay Zam dig fmt23
def sR : ByteArray := ⟨#[82]⟩
def ZdC (e : E23) (first : Bool) : Int := if first = true ∧ e.kind % 3 = 2 then 0 else e.kind % 3
def save23 (e : E23) (first : Bool) : Int := if ZdC e first = 1 then 1800 * (1 + e.set % 4) else 0
def set23 (e : E23) (first : Bool) (sets : Int) : ByteArray := if ZdC e first = 2 then sR ++ dig (e.set % sets) else ByteArray.empty
def day23 (e : E23) : DDay := if e.day ≥ 200 then ⟨3, e.day % 7, 8⟩ else ⟨1, 0, 1 + e.day % 20⟩
def til23 (e : E23) (year : Int) (fen : Bool) : Za6 := if fen = true then ⟨true, year, 1, day23 e, ⟨900 * (24 + e.at_.tmod 24), e.base % 3⟩⟩ else ⟨false, 0, 0, ⟨0, 0, 0⟩, ⟨0, 0⟩⟩
def era23 (e : E23) (first : Bool) (sets year : Int) (fen : Bool) : DEra := ⟨900 * e.off.tmod 48, ZdC e first, save23 e first, set23 e first sets, fmt23 e.format, til23 e year fen⟩
theorem tmod_rng (a b : Int) (hb : 0 < b) : -b < a.tmod b ∧ a.tmod b < b := ⟨Int.lt_tmod_of_pos a hb, Int.tmod_lt_of_pos a hb⟩
theorem dig_size (i : Int) (h0 : 0 ≤ i) (h1 : i < 10) : (dig i).size = 1 := by
 unfold dig
 rw [ByteArray.size_extract]
 have : digits.size = 36 := rfl
 omega
theorem ZbC {G G' : Prop} (k : G') (h : Hold G' → G := by intro k9; (first | refine walk ?_ | (refine jn ?_; (try intro F); (first | (refine stA ?_) | (apply Zae; exact PuA)); refine fin ?_)); exact k9.out) : G := h ⟨k⟩
theorem Zcr {G : Prop} (h : G := by (first | (apply ZeI; rfl; rfl; omega) | (apply Pu_rem (kk := .i8); rfl; rfl; decide))) : G := h
theorem QyMadeE230 {G : Prop} (h : G := by first | (apply Qy_y; rfl; exact Zcr) | exact QyA) : G := h
theorem QFMadeE230 {G : Prop} (h : G := by repeat (first | exact QF.nil | (apply QF.mk; rfl; rfl; decide +kernel; exact QyMadeE230))) : G := h
theorem PuMadeE231 {G : Prop} (h : G := by (first | (apply ZeI; rfl; rfl; omega) | (apply Pu_add8; rfl; rfl; omega))) : G := h
theorem PuMadeE232 {G : Prop} (h : G := by (apply ZcG; rfl; rfl; (rw [dig_size _ (by omega) (by omega)]; decide))) : G := h
set_option maxHeartbeats 8000000 in
theorem era23_spec (e : E23) (he : e.ok) (first : Bool) (sets year : Int) (fen : Bool) (hs0 : 0 < sets) (hs1 : sets ≤ 10) (w : World) :
  Does Tryz.prog 32 [.agg e.enc.toArray, .bool first, .int .i64 sets, .int .i64 year, .bool fen] w (fun v O => v = .agg (era23 e first sets year fen).enc.toArray ∧ O = []) := by
 obtain ⟨k1, k2, k3, k4, k5, k6, k7, k8⟩ := he
 rw [inR_u8] at k1 k2 k3 k4 k5 k6
 rw [inR_i8] at k7 k8
 have t1 := tmod_rng e.off 48 (by decide)
 have t2 := tmod_rng e.at_ 24 (by decide)
 have m1 := Int.emod_nonneg e.set (b := sets) (by omega)
 have m2 := Int.emod_lt_of_pos e.set (b := sets) hs0
 show Does _ _ [.agg #[.int .u8 e.kind, .int .u8 e.set, .int .u8 e.format, .int .u8 e.years, .int .u8 e.day, .int .u8 e.base, .int .i8 e.off, .int .i8 e.at_], .bool first, .int .i64 sets, .int .i64 year, .bool fen] w _
 refine Zab Tryz.func32 rfl rfl rfl rfl ?_
 repeat (first | (apply RL_pu; rfl; exact Zcr) | (apply RD_Q; rfl; rfl; decide +kernel; rfl; rfl; exact QyMadeE230) | refine walk1 ?_ | (refine jg ?_; (try intro F); (first | (refine Zad (fun w' _ => format23_spec e.format k3.1 w') ?_) | (refine bx ?_; intro bk) | (refine stA ?_)); first | refine ⟨_, EndsA, QFMadeE230, ?_⟩ | refine fin ?_) | (refine jn ?_; (try intro F); (first | (refine bx ?_; intro bk) | (refine stA ?_) | (apply Zae; first | exact Zcr | exact PuA)); first | refine ⟨_, EndsA, QFMadeE230, ?_⟩ | refine fin ?_) | (apply RD_W; rfl; intro bk))
 rename_i b5 b10 _
 generalize bk = b11
 refine RL_post (fun fr' O' => Sub [(30, .bool (decide (first = true ∧ e.kind % 3 = 2))), (2, .int .i64 sets), (3, .int .i64 year), (4, .bool fen), (5, .pointer (some ⟨b5, 0, none⟩)), (10, .pointer (some ⟨b10, 0, none⟩)), (11, .pointer (some ⟨b11, 0, none⟩))] fr' ∧ SubO [.blk b11 [.int .i64 (900 * e.off.tmod 48), .int .i64 (e.kind % 3), .int .i64 0, .string ByteArray.empty, .string (fmt23 e.format), .bool false, .int .i64 0, .int .i64 0, .int .i64 0, .int .i64 0, .int .i64 0, .int .i64 0, .int .i64 0] 74, .blk b10 [.int .i64 0, .int .i64 0, .int .i64 0, .string ByteArray.empty, .string ByteArray.empty, .bool false, .int .i64 0, .int .i64 0, .int .i64 0, .int .i64 0, .int .i64 0, .int .i64 0, .int .i64 0] 74, .blk b5 [.int .u8 e.kind, .int .u8 e.set, .int .u8 e.format, .int .u8 e.years, .int .u8 e.day, .int .u8 e.base, .int .i8 e.off, .int .i8 e.at_] 109] O') ?_ ?_
 ·refine Zdj 26 rfl (fun h => ?_) (fun h => ?_)
  ·repeat (first | refine ZbC ?_ | (refine jn ?_; (try intro F); (refine bx ?_; intro bk); refine fin ?_) | (apply RD_W; rfl; intro bk))
   rw [show decide (first = true ∧ e.kind % 3 = 2) = decide (e.kind % 3 = 2) from decide_eq_decide.2 (by simp [h])]
   exact ⟨SFA, SOA⟩
  ·repeat (first | refine ZbC ?_ | (refine jn ?_; (try intro F); (refine bx ?_; intro bk); refine fin ?_) | (apply RD_W; rfl; intro bk))
   rw [decide_eq_false (by simp [h])]
   exact ⟨SFA, SOA⟩
 rintro fr' O' ⟨hf, hO⟩
 apply thenQ_n
 refine ZbV hf hO ?_
 clear hf hO fr' O'
 refine Zb1 (fun fr' O' => Sub [(2, .int .i64 sets), (3, .int .i64 year), (4, .bool fen), (5, .pointer (some ⟨b5, 0, none⟩)), (10, .pointer (some ⟨b10, 0, none⟩)), (11, .pointer (some ⟨b11, 0, none⟩))] fr' ∧ SubO [.blk b11 [.int .i64 (900 * e.off.tmod 48), .int .i64 (ZdC e first), .int .i64 0, .string ByteArray.empty, .string (fmt23 e.format), .bool false, .int .i64 0, .int .i64 0, .int .i64 0, .int .i64 0, .int .i64 0, .int .i64 0, .int .i64 0] 74, .blk b10 [.int .i64 0, .int .i64 0, .int .i64 0, .string ByteArray.empty, .string ByteArray.empty, .bool false, .int .i64 0, .int .i64 0, .int .i64 0, .int .i64 0, .int .i64 0, .int .i64 0, .int .i64 0] 74, .blk b5 [.int .u8 e.kind, .int .u8 e.set, .int .u8 e.format, .int .u8 e.years, .int .u8 e.day, .int .u8 e.base, .int .i8 e.off, .int .i8 e.at_] 109] O') ?_ ?_
 ·refine Zag rfl (fun h => ?_) (fun h => ?_)
  ·rw [show ZdC e first = 0 from if_pos (of_decide_eq_true h)]
   repeat (first | refine ZbC ?_ | (refine jn ?_; (try intro F); (refine bx ?_; intro bk); refine fin ?_) | (apply RD_W; rfl; intro bk))
   exact ⟨rfl, SFA, SOA⟩
  ·rw [show ZdC e first = e.kind % 3 from if_neg (of_decide_eq_false h)]
   repeat (first | refine ZbC ?_ | (refine jn ?_; (try intro F); (refine bx ?_; intro bk); refine fin ?_) | (apply RD_W; rfl; intro bk))
   exact ⟨rfl, SFA, SOA⟩
 rintro fr' O' ⟨hf, hO⟩
 apply thenQ_n
 refine ZbV hf hO ?_
 clear hf hO fr' O'
 repeat (first | refine walkB ?_ | (refine jn ?_; (try intro F); (first | (refine bx ?_; intro bk) | (refine stA ?_) | (apply Zae; exact PuA)); refine fin ?_) | (apply RD_W; rfl; intro bk))
 refine Zb1 (fun fr' O' => Sub [(2, .int .i64 sets), (3, .int .i64 year), (4, .bool fen), (5, .pointer (some ⟨b5, 0, none⟩)), (10, .pointer (some ⟨b10, 0, none⟩)), (11, .pointer (some ⟨b11, 0, none⟩))] fr' ∧ SubO [.blk b11 [.int .i64 (900 * e.off.tmod 48), .int .i64 (ZdC e first), .int .i64 (save23 e first), .string (set23 e first sets), .string (fmt23 e.format), .bool false, .int .i64 0, .int .i64 0, .int .i64 0, .int .i64 0, .int .i64 0, .int .i64 0, .int .i64 0] 74, .blk b10 [.int .i64 0, .int .i64 0, .int .i64 0, .string ByteArray.empty, .string ByteArray.empty, .bool false, .int .i64 0, .int .i64 0, .int .i64 0, .int .i64 0, .int .i64 0, .int .i64 0, .int .i64 0] 74, .blk b5 [.int .u8 e.kind, .int .u8 e.set, .int .u8 e.format, .int .u8 e.years, .int .u8 e.day, .int .u8 e.base, .int .i8 e.off, .int .i8 e.at_] 109] O') ?_ ?_
 ·repeat (first | refine ZbC ?_ | (refine jn ?_; (try intro F); (refine bx ?_; intro bk); refine fin ?_) | (apply RD_W; rfl; intro bk))
  refine Zag rfl (fun h => ?_) (fun h => ?_)
  ·have hk := of_decide_eq_true h
   rw [show save23 e first = 1800 * (1 + e.set % 4) from if_pos hk, show set23 e first sets = ByteArray.empty from if_neg (by rw [hk]; decide)]
   repeat (first | (apply RL_pu; rfl; exact PuMadeE231) | (apply RD_Q; rfl; rfl; decide +kernel; rfl; rfl; exact QyMadeE231) | refine walk1 ?_ | (refine jn ?_; (try intro F); (first | (refine bx ?_; intro bk) | (refine stA ?_) | (apply Zae; first | exact PuMadeE231 | exact PuA)); first | refine ⟨_, EndsA, QFMadeE231, ?_⟩ | refine fin ?_) | (apply RD_W; rfl; intro bk))
   exact ⟨rfl, SFA, SOA⟩
  ·have hk := of_decide_eq_false h
   rw [show save23 e first = 0 from if_neg hk]
   repeat (first | refine ZbC ?_ | (refine jn ?_; (try intro F); (refine bx ?_; intro bk); refine fin ?_) | (apply RD_W; rfl; intro bk))
   refine Zag rfl (fun h2 => ?_) (fun h2 => ?_)
   ·rw [show set23 e first sets = sR ++ dig (e.set % sets) from if_pos (of_decide_eq_true h2)]
    repeat (first | (apply RL_pu; rfl; exact PuMadeE232) | (apply RD_Q; rfl; rfl; decide +kernel; rfl; rfl; exact QyMadeE232) | refine walk1 ?_ | (refine jg ?_; (try intro F); (first | (refine Zad (fun w' _ => Zc6 (e.set % sets) m1 (by omega) w') ?_) | (refine bx ?_; intro bk) | (refine stA ?_)); first | refine ⟨_, EndsA, QFMadeE232, ?_⟩ | refine fin ?_) | (refine jn ?_; (try intro F); (first | (refine bx ?_; intro bk) | (refine stA ?_) | (apply Zae; first | exact PuMadeE232 | exact PuA)); first | refine ⟨_, EndsA, QFMadeE232, ?_⟩ | refine fin ?_) | (apply RD_W; rfl; intro bk))
    exact ⟨rfl, SFA, SOA⟩
   ·rw [show set23 e first sets = ByteArray.empty from if_neg (of_decide_eq_false h2)]
    repeat (first | refine ZbC ?_ | (refine jn ?_; (try intro F); (refine bx ?_; intro bk); refine fin ?_) | (apply RD_W; rfl; intro bk))
    exact ⟨rfl, SFA, SOA⟩
 rintro fr' O' ⟨hf, hO⟩
 apply thenQ_n
 refine ZbV hf hO ?_
 clear hf hO fr' O'
 have hE : ∀ u : Za6, til23 e year fen = u → (era23 e first sets year fen).enc = [.int .i64 (900 * e.off.tmod 48), .int .i64 (ZdC e first), .int .i64 (save23 e first), .string (set23 e first sets), .string (fmt23 e.format), .bool u.is, .int .i64 u.year, .int .i64 u.month, .int .i64 u.day.kind, .int .i64 u.day.week, .int .i64 u.day.day, .int .i64 u.at_.sec, .int .i64 u.at_.base] := fun u hu => by rw [← hu]; rfl
 generalize ZdC e first = K at *
 generalize save23 e first = SV at *
 generalize set23 e first sets = ST at *
 repeat (first | refine ZbC ?_ | (refine jn ?_; (try intro F); (refine bx ?_; intro bk); refine fin ?_) | (apply RD_W; rfl; intro bk))
 refine Zag rfl (fun h => ?_) (fun h => ?_)
 ·repeat (first | refine walk ?_ | (refine jg ?_; (try intro F); (first | (refine Zad (fun w' _ => until23_spec year 1 (1 + e.day % 20) w') ?_) | (refine bx ?_; intro bk) | (refine stA ?_)); refine fin ?_) | (refine jn ?_; (try intro F); (first | (refine bx ?_; intro bk) | (refine stA ?_) | (apply Zae; exact PuA)); refine fin ?_) | (apply RD_W; rfl; intro bk))
  refine Zag rfl (fun h2 => ?_) (fun h2 => ?_)
  ·rw [hE ⟨true, year, 1, ⟨3, e.day % 7, 8⟩, ⟨900 * (24 + e.at_.tmod 24), e.base % 3⟩⟩ (by rw [til23, if_pos h, day23, if_pos (of_decide_eq_true h2)])]
   repeat (first | (apply RL_pu; rfl; exact Zcr) | (apply RD_Q; rfl; rfl; decide +kernel; rfl; rfl; exact QyMadeE230) | refine walk1 ?_ | (refine jn ?_; (try intro F); (first | (refine bx ?_; intro bk) | (refine stA ?_) | (apply Zae; first | exact Zcr | exact PuA)); first | refine ⟨_, EndsA, QFMadeE230, ?_⟩ | refine fin ?_) | (apply RD_W; rfl; intro bk))
   exact ret_1 _ [] (.cellB rfl (by repeat' constructor) rfl rfl) .nil ⟨rfl, rfl⟩
  ·rw [hE ⟨true, year, 1, ⟨1, 0, 1 + e.day % 20⟩, ⟨900 * (24 + e.at_.tmod 24), e.base % 3⟩⟩ (by rw [til23, if_pos h, day23, if_neg (of_decide_eq_false h2)])]
   repeat (first | (apply RL_pu; rfl; exact Zcr) | (apply RD_Q; rfl; rfl; decide +kernel; rfl; rfl; exact QyMadeE230) | refine walk1 ?_ | (refine jn ?_; (try intro F); (first | (refine bx ?_; intro bk) | (refine stA ?_) | (apply Zae; first | exact Zcr | exact PuA)); first | refine ⟨_, EndsA, QFMadeE230, ?_⟩ | refine fin ?_) | (apply RD_W; rfl; intro bk))
   exact ret_1 _ [] (.cellB rfl (by repeat' constructor) rfl rfl) .nil ⟨rfl, rfl⟩
 ·rw [hE ⟨false, 0, 0, ⟨0, 0, 0⟩, ⟨0, 0⟩⟩ (by rw [til23, if_neg (by rw [h]; decide)])]
  repeat (first | refine ZbC ?_ | (refine jn ?_; (try intro F); (refine bx ?_; intro bk); refine fin ?_) | (apply RD_W; rfl; intro bk))
  exact ret_1 _ [] (.cellB rfl (by repeat' constructor) rfl rfl) .nil ⟨rfl, rfl⟩
end Go.Proofs.YtpcpmndldgejiaaGreatDoor
namespace Go.Wk
open Go Go.RowKit
theorem Pu_maxI {P : Program} {n : Nat} {wr : World} {fr : Fr} {O : List It} {ty : TypeId} {x y : Operand} {ts : Array TypeId} {k : IntKind} {i j : Int} (hx : ev fr x = some (.int k i)) (hy : ev fr y = some (.int k j)) : Pu P n wr fr O (.call ⟨.builtin .max, #[x, y], ts⟩) ty (.int k (if i < j then j else i)) :=
 fun a w hs _ _ _ _ => by simp [execOp, resolve, invoke, builtin, Builtin.max_, Builtin.max2, hs.sim.ev hx, hs.sim.ev hy]
theorem RdSl.take {α : Type} {w : World} {A : Option Addr} {c : Nat} {enc : α → List Value} {sz : Nat} {xs : List α} (h : RdSl w A c enc sz xs) (k : Nat) : RdSl w A c enc sz (xs.take k) :=
 ⟨by rw [List.length_take]; exact Nat.le_trans (Nat.min_le_right _ _) h.le, h.cap, fun j x hj => h.rd j x (by
  rw [List.getElem?_take] at hj
  split at hj
  ·exact hj
  ·cases hj)⟩
theorem E23.len (x : E23) : x.enc.length = 8 := rfl
end Go.Wk
namespace Go.Proofs.YtpcpmndldgejiaaGreatDoor
open Go Go.RowKit Go.Wk
structure DD23 where
 sets : List (List Int)
 zones : List (List E23)
 links : List Int
structure RdLL {α : Type} (w : World) (A : Option Addr) (c : Nat) (enc : α → List Value) (sz : Nat) (ll : List (List α)) : Prop where
 le : ll.length ≤ c
 cap : c ≤ maxLen
 rd : ∀ k l, ll[k]? = some l → A ≠ none ∧ ∃ B cb, RdSl w B cb enc sz l ∧ Zap w ((adr A).add (k * 1)) [.slice B l.length cb]
theorem RdLL.up {α : Type} {w w' : World} {A : Option Addr} {c : Nat} {enc : α → List Value} {sz : Nat} {ll : List (List α)} (h : RdLL w A c enc sz ll) (hb : Bel w.heap.size w w') : RdLL w' A c enc sz ll :=
 ⟨h.le, h.cap, fun k l hk => by
  obtain ⟨h1, B, cb, h2, h3⟩ := h.rd k l hk
  exact ⟨h1, B, cb, h2.up hb, h3.up hb (Nat.le_refl _)⟩⟩
theorem RdLL.take {α : Type} {w : World} {A : Option Addr} {c : Nat} {enc : α → List Value} {sz : Nat} {ll : List (List α)} (h : RdLL w A c enc sz ll) (k : Nat) : RdLL w A c enc sz (ll.take k) :=
 ⟨by rw [List.length_take]; exact Nat.le_trans (Nat.min_le_right _ _) h.le, h.cap, fun j x hj => h.rd j x (by
  rw [List.getElem?_take] at hj
  split at hj
  ·exact hj
  ·cases hj)⟩
def d23V (As Az Al : Option Addr) (cs cz cl : Nat) (d : DD23) : Value := .agg #[.slice As d.sets.length cs, .slice Az d.zones.length cz, .slice Al d.links.length cl]
def e23Z : E23 := ⟨0, 0, 0, 0, 0, 0, 0, 0⟩
def sZ : ByteArray := ⟨#[65, 114, 101, 97, 47, 90]⟩
def sL : ByteArray := ⟨#[79, 108, 100, 47, 76]⟩
def DD23.ns (d : DD23) : Nat := max 1 (min d.sets.length 3)
def ZaL (sets : List (List Int)) : Nat → List Zaa
 | 0 => []
 | k + 1 => ZaL sets k ++ ZbJ (sets.getD k []) (sR ++ dig k)
def zl23 (zones : List (List E23)) : List (List E23) := if zones.length = 0 then [[]] else zones.take 3
def el23 (l : List E23) : List E23 := if l.length = 0 then [e23Z] else l.take 4
def ZaK (sets : Int) (l : List E23) : Nat → List DEra × Int
 | 0 => ([], 1904)
 | k + 1 => ((ZaK sets l k).1 ++ [era23 (l.getD k e23Z) (decide ((k : Int) = 0)) sets ((ZaK sets l k).2 + (1 + (l.getD k e23Z).years % 30)) (decide ((k : Int) < (l.length : Int) - 1))], (ZaK sets l k).2 + (1 + (l.getD k e23Z).years % 30))
def zone23 (sets : Int) (i : Nat) (l : List E23) : ZaN := ⟨sZ ++ dig i, (ZaK sets (el23 l) (el23 l).length).1⟩
def Za8 (sets : Int) (zs : List (List E23)) : Nat → List ZaN
 | 0 => []
 | i + 1 => Za8 sets zs i ++ [zone23 sets i (zs.getD i [])]
def link23 (nz : Nat) (n : Int) (i : Nat) : ZaC := ⟨if n % ((nz : Int) + i) ≥ nz then sL ++ dig (n % ((nz : Int) + i) - nz) else sZ ++ dig (n % (nz : Int)), sL ++ dig i⟩
def ZaZ (nz : Nat) (links : List Int) : Nat → List ZaC
 | 0 => []
 | i + 1 => ZaZ nz links i ++ [link23 nz (links.getD i 0) i]
def Zan (d : DD23) : Zaf := ⟨ZaL d.sets d.ns, Za8 d.ns (zl23 d.zones) (zl23 d.zones).length, ZaZ (zl23 d.zones).length (d.links.take 4) (d.links.take 4).length, []⟩
theorem made17_le5 (l : List Int) (x : ByteArray) : (ZbJ l x).length ≤ 5 := by
 obtain ⟨q1, q2, q3⟩ := m1_rng l
 obtain ⟨q4, q5, q6⟩ := m2_rng l (m1 l).1 (m1 l).2 q1 q2 q3
 rw [ZbJ, List.length_map, m3, List.length_append, Zc0]
 omega
theorem Zcm (sets : List (List Int)) : ∀ k, (ZaL sets k).length ≤ 5 * k
 | 0 => Nat.le_refl _
 | k + 1 => by
  have := Zcm sets k
  have h2 := made17_le5 (sets.getD k []) (sR ++ dig k)
  rw [ZaL, List.length_append]
  omega
theorem ZcI (zs : List (List E23)) : 1 ≤ (zl23 zs).length ∧ (zl23 zs).length ≤ 3 := by
 unfold zl23
 split
 ·simp
 ·rw [List.length_take]; omega
theorem el23_len (l : List E23) : 1 ≤ (el23 l).length ∧ (el23 l).length ≤ 4 := by
 unfold el23
 split
 ·simp
 ·rw [List.length_take]; omega
theorem ZdG (sets : Int) (l : List E23) : ∀ k, (ZaK sets l k).1.length = k
 | 0 => rfl
 | k + 1 => by simp [ZaK, ZdG sets l k]
theorem eras23_year (sets : Int) (l : List E23) (hl : ∀ e ∈ l, e.ok) : ∀ k : Nat, 1904 ≤ (ZaK sets l k).2 ∧ (ZaK sets l k).2 ≤ 1904 + 30 * k
 | 0 => by simp [ZaK]
 | k + 1 => by
  obtain ⟨h1, h2⟩ := eras23_year sets l hl k
  have h3 := Int.emod_nonneg (l.getD k e23Z).years (b := 30) (by decide)
  have h4 := Int.emod_lt_of_pos (l.getD k e23Z).years (b := 30) (by decide)
  simp only [ZaK]
  omega
theorem ZbS (sets : Int) (zs : List (List E23)) : ∀ k, (Za8 sets zs k).length = k
 | 0 => rfl
 | k + 1 => by simp [Za8, ZbS sets zs k]
theorem Zco (nz : Nat) (links : List Int) : ∀ k, (ZaZ nz links k).length = k
 | 0 => rfl
 | k + 1 => by simp [ZaZ, Zco nz links k]
end Go.Proofs.YtpcpmndldgejiaaGreatDoor
