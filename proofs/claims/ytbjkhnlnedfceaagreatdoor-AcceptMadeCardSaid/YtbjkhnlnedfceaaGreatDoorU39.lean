/- Contract: analemmalaw25.fault. Contract: analemmalaw25.example. Contract: slices.Equal at numbers. Rules: make with a length; an index that is a number, in an own block. Lemmas for the chapter's examples: sources that lie in own blocks. -/
import Derived.Test.YtbjkhnlnedfceaaGreatDoorU36
import Derived.Test.YtbjkhnlnedfceaaGreatDoorU10
import Derived.Test.YtbjkhnlnedfceaaGreatDoorU18
import Derived.Test.YtbjkhnlnedfceaaGreatDoorU24
import Derived.Laws.OwnMore
import Derived.Test.YtbjkhnlnedfceaaGreatDoorU19
set_option maxHeartbeats 4000000
set_option linter.unusedVariables false
set_option linter.unusedSimpArgs false
namespace Go.Wk
open Go Go.RowKit
theorem Pu_eqlEB {P : Program} {n : Nat} {wr : World} {fr : Fr} {O : List It} {ty t t' : TypeId} {α : Type} [DecidableEq α] {enc : α → List Value} {x y : Operand} {i j : α} {b : Bool} [hE : EqE P t α enc] (hx : ev fr x = some (.agg (enc i).toArray)) (hy : ev fr y = some (.agg (enc j).toArray)) (h : decide (i = j) = b) :
  Pu P n wr fr O (.binOp .eql t x y t') ty (.bool b) := h ▸ Pu_eqlE hx hy
end Go.Wk
namespace Go.Proofs.YtbjkhnlnedfceaaGreatDoor
open Go Go.RowKit Go.Wk
attribute [local irreducible] W RL Does thenQ blockQ retQ Calls Pu Stp RD Qy Ay DoesIn
def ptP : Option (DPlace × Int) → DPlace × Int
 | none => (⟨0, 0, 0⟩, 0)
 | some x => x
theorem ptV_eq (o : Option (DPlace × Int)) : ptV o = .tuple #[plV (ptP o).1, .int .i64 (ptP o).2] := by cases o <;> rfl
def faultB (a : DSource) (q : DPlace) (e : Int) : Bool := decide ((ptP (accD a)).1 = q) && (decide ((ptP (accD a)).2 = e) && (decide ((ptP (inD a 2)).1 = q) && (decide ((ptP (inD a 2)).2 = e) && decide ((formsD a).length = 0))))
theorem fault25_spec (Ar Az Al As : Option Addr) (cr cz cl cs : Nat) (a : DSource) (q : DPlace) (e : Int) (w : World) (h : AccOk w Ar Az Al As cr cz cl cs a) :
  Does Tryz.prog 17 [srcV Ar Az Al As cr cz cl cs a, .agg q.enc.toArray, .int .i64 e] w (fun v O => v = .bool (faultB a q e) ∧ O = []) := by
 have h1 := fun w' (hw : Bel w.heap.size w w') => accS (h.up hw)
 have h2 := fun w' (hw : Bel w.heap.size w w') => inA_spec Ar Az Al As cr cz cl cs a 2 w' (h.up hw)
 have h3 := fun w' (hw : Bel w.heap.size w w') => formsA_spec Ar Az Al As cr cz cl cs a w' (h.up hw)
 unfold faultB
 rw [ptV_eq] at h1 h2
 generalize ptP (accD a) = x1 at *
 generalize ptP (inD a 2) = x2 at *
 generalize formsD a = fs at *
 obtain ⟨⟨p1, p2, p3⟩, e1⟩ := x1
 obtain ⟨⟨q1, q2, q3⟩, e2⟩ := x2
 obtain ⟨r1, r2, r3⟩ := q
 dsimp only at h1 h2 ⊢
 obtain ⟨c1, hc1⟩ : ∃ c, decide ((⟨p1, p2, p3⟩ : DPlace) = ⟨r1, r2, r3⟩) = c := ⟨_, rfl⟩
 obtain ⟨c2, hc2⟩ : ∃ c, decide (e1 = e) = c := ⟨_, rfl⟩
 obtain ⟨c3, hc3⟩ : ∃ c, decide ((⟨q1, q2, q3⟩ : DPlace) = ⟨r1, r2, r3⟩) = c := ⟨_, rfl⟩
 obtain ⟨c4, hc4⟩ : ∃ c, decide (e2 = e) = c := ⟨_, rfl⟩
 obtain ⟨c5, hc5⟩ : ∃ c, decide (fs.length = 0) = c := ⟨_, rfl⟩
 have hc5' : decide ((fs.length : Int) = 0) = c5 := by rw [← hc5, decide_eq_decide]; omega
 rw [hc1, hc2, hc3, hc4, hc5]
 simp only [plV, DPlace.enc] at h1 h2 ⊢
 refine Does_of_W Tryz.func17 rfl rfl rfl rfl ?_
 repeat' (first | (apply RL_pu; rfl; (first | (apply Pu_eqlEB (i := (⟨p1, p2, p3⟩ : DPlace)) (j := (⟨r1, r2, r3⟩ : DPlace)) (enc := DPlace.enc); rfl; rfl; exact hc1) | (apply Pu_eqlEB (i := (⟨q1, q2, q3⟩ : DPlace)) (j := (⟨r1, r2, r3⟩ : DPlace)) (enc := DPlace.enc); rfl; rfl; exact hc3) | (apply Pu_eqlB; rfl; rfl; exact hc2) | (apply Pu_eqlB; rfl; rfl; exact hc4) | (apply Pu_eqlB; rfl; rfl; exact hc5'))) | (refine js ?_; (first | (refine callE h1 ?_) | (refine callE h2 ?_) | (apply Stp_call (h := fun w' hw _ => h3 w' hw); rfl; rintro v O' ⟨A3, k3, rfl, rfl⟩) | (refine bx ?_; intro bk))) | refine walk1 ?_ | refine und ?_ | (refine RL_gsplit rfl rfl rfl (fun hc => ?_) (fun hc => ?_)) | (refine RD_gsplit rfl rfl rfl (fun hc => ?_) (fun hc => ?_)) | (refine W_cond rfl (fun hc => ?_) (fun hc => ?_)))
 all_goals exact clo1
def exR1 : DRule := ⟨⟨#[82]⟩, 1990, 1048576, 3, ⟨2, 0, 0⟩, ⟨7200, 0⟩, 3600, ByteArray.empty⟩
def exR2 : DRule := ⟨⟨#[82]⟩, 1990, 1048576, 10, ⟨2, 0, 0⟩, ⟨10800, 0⟩, 0, ByteArray.empty⟩
def exE1 : DEra := ⟨3600, 0, 0, ByteArray.empty, ⟨#[76, 77, 84]⟩, ⟨true, 1980, 1, ⟨1, 0, 1⟩, ⟨0, 0⟩⟩⟩
def exE2 : DEra := ⟨3600, 2, 0, ⟨#[82]⟩, ⟨#[67, 69, 84, 47, 67, 69, 83, 84]⟩, ⟨false, 0, 0, ⟨0, 0, 0⟩, ⟨0, 0⟩⟩⟩
def ExR (v : Value) (O : List It) : Prop := ∃ br be bz, v = .agg #[.slice (some ⟨br, 0, none⟩) 2 2, .slice (some ⟨bz, 0, none⟩) 1 1, .slice none 0 0, .slice none 0 0] ∧
 O = [.blk bz [.string ⟨#[90]⟩, .slice (some ⟨be, 0, none⟩) 2 2] 43, .blk be (exE1.enc ++ exE2.enc) 48, .blk br (exR1.enc ++ exR2.enc) 39]
theorem exam25_spec (w : World) : Does Tryz.prog 38 [] w ExR := by
 refine Does_of_W Tryz.func38 rfl rfl rfl rfl ?_
 repeat (first | (refine js ?_; (refine bx ?_; intro bk)) | refine walk ?_)
 rename_i br be
 exact ret_1 _ [.blk bk [.string ⟨#[90]⟩, .slice (some ⟨be, 0, none⟩) 2 2] 43, .blk be (exE1.enc ++ exE2.enc) 48, .blk br (exR1.enc ++ exR2.enc) 39] (.cellB rfl (by repeat' constructor) rfl rfl) SOA ⟨br, be, bk, rfl, rfl⟩
theorem wkEqI0 {G G' : Prop} (k : G') (h : Hold G' → G := by intro k9; (first | refine walk ?_ | (refine jn ?_; (try intro F); (apply Stp_pu; exact PuA); refine fin ?_)); exact k9.out) : G := h ⟨k⟩
theorem equalI_spec (A B : Option Addr) (ca cb : Nat) (x y : List Int) (w : World) (hA : RdSl w A ca iEnc 1 x) (hB : RdSl w B cb iEnc 1 y) :
  Does Tryz.prog 13 [.slice A x.length ca, .slice B y.length cb] w (fun v O => v = .bool (decide (x = y)) ∧ O = []) := by
 have hs1 := hA.le
 have hs2 := hA.cap
 unfold maxLen at hs2
 generalize hres : decide (x = y) = res
 refine Does_of_W Tryz.func13 rfl rfl rfl rfl ?_
 repeat refine wkEqI0 ?_
 refine W_cond rfl (fun h1 => ?_) (fun h1 => ?_)
 ·repeat refine wkEqI0 ?_
  exact ret_1 _ [] (.tmp rfl) .nil ⟨by rw [← hres, dec_len]; simp at h1; omega, rfl⟩
 have hlen : x.length = y.length := by simp at h1; omega
 clear h1
 repeat refine wkEqI0 ?_
 refine W_loopF [(0, _), (1, _), (4, _), (12, _)] _ (fun k : Nat => [(13, .int .i64 k)]) (fun _ => []) (fun k => k ≤ x.length ∧ decide (x.drop k = y.drop k) = res) (fun k => x.length - k) 0 ⟨rfl, rfl, rfl, rfl, rfl, trivial⟩ (.refl _) ⟨by omega, hres⟩ ?_
 rintro k ⟨hk, hi⟩
 repeat refine wkEqI0 ?_
 refine W_cond rfl (fun hc => ?_) (fun hc => ?_)
 ·simp only [decide_eq_true_eq, Int.ofNat_lt] at hc
  have hcy : k < y.length := by omega
  obtain ⟨hna, hca⟩ := hA.rd k _ (List.getElem?_eq_getElem hc)
  obtain ⟨hnb, hcb⟩ := hB.rd k _ (List.getElem?_eq_getElem hcy)
  rw [drop_cons hc, drop_cons hcy, dec_cons] at hi
  generalize x[k] = p at *
  generalize y[k] = q at *
  repeat (first | (apply RL_pu; rfl; exact PuI) | (apply RD_Q; rfl; rfl; decide +kernel; rfl; rfl; exact QyI) | refine walk1 ?_ | (refine jn ?_; (try intro F); (apply Stp_pu; first | exact PuI | exact PuA); first | refine ⟨_, EndsA, QFI, ?_⟩ | refine fin ?_))
  refine W_cond rfl (fun h3 => ?_) (fun h3 => ?_)
  ·repeat refine wkEqI0 ?_
   exact ret_1 _ [] (.tmp rfl) .nil ⟨by simp at h3; simp [← hi, h3], rfl⟩
  repeat refine wkEqI0 ?_
  simp at h3
  exact ⟨k + 1, by omega, ⟨by omega, by rw [← hi]; simp [h3]⟩, SFA, SOA⟩
 simp only [decide_eq_false_iff_not, Int.ofNat_lt] at hc
 repeat refine wkEqI0 ?_
 exact ret_1 _ [] (.tmp rfl) .nil ⟨by rw [← hi, dec_nil (by omega) (by omega)], rfl⟩
end Go.Proofs.YtbjkhnlnedfceaaGreatDoor
namespace Go.Wk
open Go Go.RowKit
section
variable {P : Program} {n : Nat} {wr : World} {fr : Fr} {O : List It} {ty : TypeId} {pos : String} {af : Array Edge} {dst : Option Tmp} {g : Option (Nat × Bool)} {Kp : Value → List It → Prop}
theorem Pu_indexAddrK {t e sz bytes b s j : Nat} {x ix : Operand} {len cap : Nat} {kk : IntKind} {i : Int} [hE : ElemT P t e sz bytes] (hx : ev fr x = some (.slice (some ⟨b, s, none⟩) len cap)) (hi : ev fr ix = some (.int kk i))
  (h0 : 0 ≤ i) (h1 : i < len) (hj : s + i.toNat * sz = j) : Pu P n wr fr O (.indexAddr t x ix) ty (.pointer (some ⟨b, j, none⟩)) := by
 have := Pu_indexAddr (P := P) (n := n) (wr := wr) (O := O) (ty := ty) (t := t) (e := e) (sz := sz) (bytes := bytes) hx hi h0 h1 (by simp)
 have he : (adr (some ⟨b, s, none⟩)).add (i.toNat * sz) = ⟨b, j, none⟩ := by
  show (⟨b, s, none⟩ : Addr).add (i.toNat * sz) = _
  rw [add_mk, hj]
 rwa [he] at this
end
theorem RdSl.pre {α : Type} {w : World} {A : Option Addr} {c sz : Nat} {enc : α → List Value} {x y : List α} (h : RdSl w A c enc sz (x ++ y)) : RdSl w A c enc sz x :=
 ⟨by have := h.le; rw [List.length_append] at this; omega, h.cap, fun k v hv => h.rd k v (by
  have hk := (List.getElem?_eq_some_iff.1 hv).1
  rw [List.getElem?_append_left hk]; exact hv)⟩
theorem Pu_sliceHE {P : Program} {n : Nat} {wr : World} {fr : Fr} {O : List It} {ty : TypeId} {t e sz bytes m : Nat} {x y : Operand} {A : Option Addr} {len cap : Nat} {h : Int} [hE : ElemZ P t e sz bytes] (hx : ev fr x = some (.slice A len cap)) (hy : ev fr y = some (.int .i64 h)) (h0 : 0 ≤ h) (h1 : h ≤ cap) (hm : h.toNat = m) :
  Pu P n wr fr O (.slice t x none (some y) none) ty (.slice A m cap) := hm ▸ Pu_sliceH hx hy h0 h1
end Go.Wk
namespace Go.Proofs.YtbjkhnlnedfceaaGreatDoor
open Go Go.RowKit Go.Wk
def okR (r : DRule) : Bool := decide (r.name.size ≤ 1000000000) && (decide (r.letter.size ≤ 1000000000) && (decide (-9223372036854775808 ≤ r.save) && decide (r.save ≤ 9223372036854775807)))
def okI (n : Int) : Bool := decide (-9223372036854775808 ≤ n) && decide (n ≤ 9223372036854775807)
def okE (e : DEra) : Bool := okI e.off && (okI e.save && (okI e.kind && (decide (e.format.size ≤ 1000000000) && decide (e.set.size ≤ 1000000000))))
def okZ (z : DZone) : Bool := decide (z.name.size ≤ 1000000000) && (decide (z.eras.length ≤ 1000000) && z.eras.all okE)
def okL (l : DLink) : Bool := decide (l.target.size ≤ 1000000000) && decide (l.name.size ≤ 1000000000)
def okD (s : DSource) : Bool := decide (s.rules.length ≤ 1000000) && (decide (s.zones.length ≤ 1000000) && (decide (s.links.length ≤ 1000000) && (decide (s.shifts.length ≤ 1000000) && (s.rules.all okR && (s.zones.all okZ && s.links.all okL)))))
theorem okI_64 {n : Int} (h : okI n = true) : I64 n := by
 unfold okI at h
 rw [Bool.and_eq_true, decide_eq_true_eq, decide_eq_true_eq] at h
 exact h
theorem okD_ok {s : DSource} (h : okD s = true) : SrcOk s ∧ SavI s ∧ ∀ z ∈ s.zones, ∀ e ∈ z.eras, EraOk e := by
 unfold okD at h
 simp only [Bool.and_eq_true, decide_eq_true_eq, List.all_eq_true] at h
 obtain ⟨h1, h2, h3, h4, h5, h6, h7⟩ := h
 have hr : ∀ r ∈ s.rules, _ := fun r hr => by
  have := h5 r hr
  unfold okR at this
  simp only [Bool.and_eq_true, decide_eq_true_eq] at this
  exact this
 have hz : ∀ z ∈ s.zones, z.name.size ≤ 1000000000 ∧ z.eras.length ≤ 1000000 ∧ ∀ e ∈ z.eras, okE e = true := fun z hz => by
  have := h6 z hz
  unfold okZ at this
  simp only [Bool.and_eq_true, decide_eq_true_eq, List.all_eq_true] at this
  exact this
 have he : ∀ e, okE e = true → I64 e.off ∧ I64 e.save ∧ I64 e.kind ∧ e.format.size ≤ 1000000000 ∧ e.set.size ≤ 1000000000 := fun e he => by
  unfold okE at he
  simp only [Bool.and_eq_true, decide_eq_true_eq] at he
  exact ⟨okI_64 he.1, okI_64 he.2.1, okI_64 he.2.2.1, he.2.2.2⟩
 refine ⟨⟨h1, h2, h3, h4, fun r h => ⟨(hr r h).1, (hr r h).2.1⟩, fun z h => ⟨(hz z h).1, (hz z h).2.1, fun e h' => ⟨(he e ((hz z h).2.2 e h')).2.2.2.2, (he e ((hz z h).2.2 e h')).2.2.2.1⟩⟩, fun l h => ?_⟩, fun r h => ⟨(hr r h).2.2.1, (hr r h).2.2.2⟩, fun z h e h' => ?_⟩
 ·have := h7 l h
  unfold okL at this
  simp only [Bool.and_eq_true, decide_eq_true_eq] at this
  exact this
 ·have := he e ((hz z h).2.2 e h')
  exact ⟨this.1, this.2.1, this.2.2.1, this.2.2.2.1⟩
theorem accOk {w w' : World} {Ar Az Al As : Option Addr} {cr cz cl cs : Nat} {a : DSource} (hL : LibW w) (hG : Glob w) (hw : Bel w.heap.size w w') (h : okD a = true) (hA : RdSource w' Ar Az Al As cr cz cl cs a) : AccOk w' Ar Az Al As cr cz cl cs a :=
 ⟨hL.up hw, hG.up hw, hA, (okD_ok h).1, (okD_ok h).2.1, (okD_ok h).2.2⟩
def exS (rs : List DRule) (es : List DEra) (ls : List DLink) (ss : List ByteArray) : DSource := ⟨rs, [⟨⟨#[90]⟩, es⟩], ls, ss⟩
theorem ex_rd {w : World} {Ar Ae Al As : Option Addr} {cr ce cl cs bz : Nat} {rs : List DRule} {es : List DEra} {ls : List DLink} {ss : List ByteArray} (hr : RdSl w Ar cr DRule.enc 11 rs) (hz : (It.blk bz [.string ⟨#[90]⟩, .slice Ae es.length ce] 43).sat w) (he : RdSl w Ae ce DEra.enc 13 es)
  (hl : RdSl w Al cl DLink.enc 2 ls) (hs : RdSl w As cs strEnc 1 ss) : RdSource w Ar (some ⟨bz, 0, none⟩) Al As cr 1 cl cs (exS rs es ls ss) :=
 ⟨hr, Nat.le_refl 1, by decide, zones_rd (litRd (c := 1) (l := [(⟨⟨⟨#[90]⟩, es⟩, Ae, ce⟩ : ZE)]) ZE.len (Nat.le_refl 1) (by decide) hz) (fun q hq => by rw [List.mem_singleton.1 hq]; exact he), hl, hs⟩
theorem iEnc.len (i : Int) : (iEnc i).length = 1 := rfl
theorem faultT (Ar Az Al As : Option Addr) (cr cz cl cs : Nat) (a : DSource) (q : DPlace) (e : Int) (w : World) (h : AccOk w Ar Az Al As cr cz cl cs a) (hf : faultB a q e = true) :
  Does Tryz.prog 17 [srcV Ar Az Al As cr cz cl cs a, .agg q.enc.toArray, .int .i64 e] w (fun v O => v = .bool true ∧ O = []) := hf ▸ fault25_spec Ar Az Al As cr cz cl cs a q e w h
theorem formsT (Ar Az Al As : Option Addr) (cr cz cl cs : Nat) (a : DSource) (l : List Int) (w : World) (h : AccOk w Ar Az Al As cr cz cl cs a) (hf : formsD a = l) :
  Does Tryz.prog 14 [srcV Ar Az Al As cr cz cl cs a] w (NewSl 3 1 iEnc l) := hf ▸ formsA_spec Ar Az Al As cr cz cl cs a w h
theorem exam25_nf (w : World) : Does Tryz.prog 38 [] w (fun v O => ∃ br be bz, v = .agg #[.slice (some ⟨br, 0, none⟩) 2 2, .slice (some ⟨bz, 0, none⟩) 1 1, .slice none 0 0, .slice none 0 0] ∧
  O = [.blk bz [.string ⟨#[90]⟩, .slice (some ⟨be, 0, none⟩) 2 2] 43, .blk be [.int .i64 3600, .int .i64 0, .int .i64 0, .string ByteArray.empty, .string ⟨#[76, 77, 84]⟩, .bool true, .int .i64 1980, .int .i64 1, .int .i64 1, .int .i64 0, .int .i64 1, .int .i64 0, .int .i64 0, .int .i64 3600, .int .i64 2, .int .i64 0, .string ⟨#[82]⟩, .string ⟨#[67, 69, 84, 47, 67, 69, 83, 84]⟩, .bool false, .int .i64 0, .int .i64 0, .int .i64 0, .int .i64 0, .int .i64 0, .int .i64 0, .int .i64 0] 48, .blk br [.string ⟨#[82]⟩, .int .i64 1990, .int .i64 1048576, .int .i64 3, .int .i64 2, .int .i64 0, .int .i64 0, .int .i64 7200, .int .i64 0, .int .i64 3600, .string ByteArray.empty, .string ⟨#[82]⟩, .int .i64 1990, .int .i64 1048576, .int .i64 10, .int .i64 2, .int .i64 0, .int .i64 0, .int .i64 10800, .int .i64 0, .int .i64 0, .string ByteArray.empty] 39]) :=
 exam25_spec w
def exR1n : DRule := { exR1 with save := -3600 }
def exE2z : DEra := { exE2 with format := ⟨#[37, 122]⟩ }
def exE2q : DEra := { exE2 with set := ⟨#[81]⟩ }
def exE2u : DEra := { exE2 with til := ⟨true, 2000, 3, ⟨1, 0, 26⟩, ⟨0, 0⟩⟩ }
def exE3 : DEra := ⟨3600, 0, 0, ByteArray.empty, ⟨#[67, 69, 84]⟩, ⟨false, 0, 0, ⟨0, 0, 0⟩, ⟨0, 0⟩⟩⟩
def exE1k : DEra := { exE1 with kind := 2, set := ⟨#[82]⟩ }
def exE2o : DEra := { exE2 with off := 52200 }
def exL : DLink := ⟨⟨#[90]⟩, ⟨#[90]⟩⟩
def d1 : DSource := exS [exR1, exR2] [exE1, exE2] [] []
def d2 : DSource := exS [exR1n, exR2] [exE1, exE2] [] []
def d3 : DSource := exS [exR1, exR2] [exE1, exE2z] [] []
def d4 : DSource := exS [exR1] [exE1, exE2] [] []
def d5 : DSource := exS [exR1, exR2] [exE1, exE2q] [] []
def d6 : DSource := exS [exR1, exR2] [exE1, exE2u, exE3] [] []
def d7 : DSource := exS [exR1, exR2] [exE1k, exE2] [] []
def d8 : DSource := exS [exR1, exR2] [exE1, exE2o] [] []
def d9 : DSource := exS [exR1, exR2] [exE1, exE2] [exL] []
def d10 : DSource := exS [exR1, exR2] [exE1, exE2] [] [⟨#[82]⟩]
def d11 : DSource := exS [exR1, exR2] [exE1, exE2] [] [⟨#[81]⟩]
end Go.Proofs.YtbjkhnlnedfceaaGreatDoor
