/- Lemmas for the chapter's examples: sources that lie in own blocks. Contracts: analemmalaw25: names and the numbers of a draft; analemmalaw21.Era. The source of a draft of layer 25, as plain functions; a step of its counter. -/
import Derived.Test.YtbjkhnlnedfceaaGreatDoorQ37
import Derived.Test.YtbjkhnlnedfceaaGreatDoorQ15
set_option maxHeartbeats 4000000
set_option linter.unusedVariables false
set_option linter.unusedSimpArgs false
namespace Go.Proofs.YtbjkhnlnedfceaaGreatDoor
open Go Go.RowKit Go.Wk
def okR (r : DRule) : Bool := decide (r.name.size ≤ 1000000000) && (decide (r.letter.size ≤ 1000000000) && (decide (-9223372036854775808 ≤ r.save) && decide (r.save ≤ 9223372036854775807)))
def okI (n : Int) : Bool := decide (-9223372036854775808 ≤ n) && decide (n ≤ 9223372036854775807)
def okE (e : DEra) : Bool := okI e.off && (okI e.save && (okI e.kind && (decide (e.format.size ≤ 1000000000) && decide (e.set.size ≤ 1000000000))))
def okZ (z : DZone) : Bool := decide (z.name.size ≤ 1000000000) && (decide (z.eras.length ≤ 1000000) && z.eras.all okE)
def okL (l : DLink) : Bool := decide (l.target.size ≤ 1000000000) && decide (l.name.size ≤ 1000000000)
def okD (s : DSource) : Bool := decide (s.rules.length ≤ 1000000) && (decide (s.zones.length ≤ 1000000) && (decide (s.links.length ≤ 1000000) && (decide (s.shifts.length ≤ 1000000) && (s.rules.all okR && (s.zones.all okZ && s.links.all okL)))))
theorem okI_64 {n : Int} (h : okI n = true) : I64 n := by
 unfold okI at h
 rw [Bool.and_eq_true, decide_eq_true_eq, decide_eq_true_eq] at h
 exact h
theorem okD_ok {s : DSource} (h : okD s = true) : SrcOk s ∧ SavI s ∧ ∀ z ∈ s.zones, ∀ e ∈ z.eras, EraOk e := by
 unfold okD at h
 simp only [Bool.and_eq_true, decide_eq_true_eq, List.all_eq_true] at h
 obtain ⟨h1, h2, h3, h4, h5, h6, h7⟩ := h
 have hr : ∀ r ∈ s.rules, _ := fun r hr => by
  have := h5 r hr
  unfold okR at this
  simp only [Bool.and_eq_true, decide_eq_true_eq] at this
  exact this
 have hz : ∀ z ∈ s.zones, z.name.size ≤ 1000000000 ∧ z.eras.length ≤ 1000000 ∧ ∀ e ∈ z.eras, okE e = true := fun z hz => by
  have := h6 z hz
  unfold okZ at this
  simp only [Bool.and_eq_true, decide_eq_true_eq, List.all_eq_true] at this
  exact this
 have he : ∀ e, okE e = true → I64 e.off ∧ I64 e.save ∧ I64 e.kind ∧ e.format.size ≤ 1000000000 ∧ e.set.size ≤ 1000000000 := fun e he => by
  unfold okE at he
  simp only [Bool.and_eq_true, decide_eq_true_eq] at he
  exact ⟨okI_64 he.1, okI_64 he.2.1, okI_64 he.2.2.1, he.2.2.2⟩
 refine ⟨⟨h1, h2, h3, h4, fun r h => ⟨(hr r h).1, (hr r h).2.1⟩, fun z h => ⟨(hz z h).1, (hz z h).2.1, fun e h' => ⟨(he e ((hz z h).2.2 e h')).2.2.2.2, (he e ((hz z h).2.2 e h')).2.2.2.1⟩⟩, fun l h => ?_⟩, fun r h => ⟨(hr r h).2.2.1, (hr r h).2.2.2⟩, fun z h e h' => ?_⟩
 ·have := h7 l h
  unfold okL at this
  simp only [Bool.and_eq_true, decide_eq_true_eq] at this
  exact this
 ·have := he e ((hz z h).2.2 e h')
  exact ⟨this.1, this.2.1, this.2.2.1, this.2.2.2.1⟩
theorem accOk {w w' : World} {Ar Az Al As : Option Addr} {cr cz cl cs : Nat} {a : DSource} (hL : LibW w) (hG : Glob w) (hw : Bel w.heap.size w w') (h : okD a = true) (hA : RdSource w' Ar Az Al As cr cz cl cs a) : AccOk w' Ar Az Al As cr cz cl cs a :=
 ⟨hL.up hw, hG.up hw, hA, (okD_ok h).1, (okD_ok h).2.1, (okD_ok h).2.2⟩
def exS (rs : List DRule) (es : List DEra) (ls : List DLink) (ss : List ByteArray) : DSource := ⟨rs, [⟨⟨#[90]⟩, es⟩], ls, ss⟩
theorem ex_rd {w : World} {Ar Ae Al As : Option Addr} {cr ce cl cs bz : Nat} {rs : List DRule} {es : List DEra} {ls : List DLink} {ss : List ByteArray} (hr : RdSl w Ar cr DRule.enc 11 rs) (hz : (It.blk bz [.string ⟨#[90]⟩, .slice Ae es.length ce] 43).sat w) (he : RdSl w Ae ce DEra.enc 13 es)
  (hl : RdSl w Al cl DLink.enc 2 ls) (hs : RdSl w As cs strEnc 1 ss) : RdSource w Ar (some ⟨bz, 0, none⟩) Al As cr 1 cl cs (exS rs es ls ss) :=
 ⟨hr, Nat.le_refl 1, by decide, zones_rd (litRd (c := 1) (l := [(⟨⟨⟨#[90]⟩, es⟩, Ae, ce⟩ : ZE)]) ZE.len (Nat.le_refl 1) (by decide) hz) (fun q hq => by rw [List.mem_singleton.1 hq]; exact he), hl, hs⟩
theorem iEnc.len (i : Int) : (iEnc i).length = 1 := rfl
theorem faultT (Ar Az Al As : Option Addr) (cr cz cl cs : Nat) (a : DSource) (q : DPlace) (e : Int) (w : World) (h : AccOk w Ar Az Al As cr cz cl cs a) (hf : faultB a q e = true) :
  Does Tryz.prog 17 [srcV Ar Az Al As cr cz cl cs a, .agg q.enc.toArray, .int .i64 e] w (fun v O => v = .bool true ∧ O = []) := hf ▸ fault25_spec Ar Az Al As cr cz cl cs a q e w h
theorem formsT (Ar Az Al As : Option Addr) (cr cz cl cs : Nat) (a : DSource) (l : List Int) (w : World) (h : AccOk w Ar Az Al As cr cz cl cs a) (hf : formsD a = l) :
  Does Tryz.prog 14 [srcV Ar Az Al As cr cz cl cs a] w (NewSl 3 1 iEnc l) := hf ▸ formsA_spec Ar Az Al As cr cz cl cs a w h
theorem exam25_nf (w : World) : Does Tryz.prog 38 [] w (fun v O => ∃ br be bz, v = .agg #[.slice (some ⟨br, 0, none⟩) 2 2, .slice (some ⟨bz, 0, none⟩) 1 1, .slice none 0 0, .slice none 0 0] ∧
  O = [.blk bz [.string ⟨#[90]⟩, .slice (some ⟨be, 0, none⟩) 2 2] 43, .blk be [.int .i64 3600, .int .i64 0, .int .i64 0, .string ByteArray.empty, .string ⟨#[76, 77, 84]⟩, .bool true, .int .i64 1980, .int .i64 1, .int .i64 1, .int .i64 0, .int .i64 1, .int .i64 0, .int .i64 0, .int .i64 3600, .int .i64 2, .int .i64 0, .string ⟨#[82]⟩, .string ⟨#[67, 69, 84, 47, 67, 69, 83, 84]⟩, .bool false, .int .i64 0, .int .i64 0, .int .i64 0, .int .i64 0, .int .i64 0, .int .i64 0, .int .i64 0] 48, .blk br [.string ⟨#[82]⟩, .int .i64 1990, .int .i64 1048576, .int .i64 3, .int .i64 2, .int .i64 0, .int .i64 0, .int .i64 7200, .int .i64 0, .int .i64 3600, .string ByteArray.empty, .string ⟨#[82]⟩, .int .i64 1990, .int .i64 1048576, .int .i64 10, .int .i64 2, .int .i64 0, .int .i64 0, .int .i64 10800, .int .i64 0, .int .i64 0, .string ByteArray.empty] 39]) :=
 exam25_spec w
def exR1n : DRule := { exR1 with save := -3600 }
def exE2z : DEra := { exE2 with format := ⟨#[37, 122]⟩ }
def exE2q : DEra := { exE2 with set := ⟨#[81]⟩ }
def exE2u : DEra := { exE2 with til := ⟨true, 2000, 3, ⟨1, 0, 26⟩, ⟨0, 0⟩⟩ }
def exE3 : DEra := ⟨3600, 0, 0, ByteArray.empty, ⟨#[67, 69, 84]⟩, ⟨false, 0, 0, ⟨0, 0, 0⟩, ⟨0, 0⟩⟩⟩
def exE1k : DEra := { exE1 with kind := 2, set := ⟨#[82]⟩ }
def exE2o : DEra := { exE2 with off := 52200 }
def exL : DLink := ⟨⟨#[90]⟩, ⟨#[90]⟩⟩
def d1 : DSource := exS [exR1, exR2] [exE1, exE2] [] []
def d2 : DSource := exS [exR1n, exR2] [exE1, exE2] [] []
def d3 : DSource := exS [exR1, exR2] [exE1, exE2z] [] []
def d4 : DSource := exS [exR1] [exE1, exE2] [] []
def d5 : DSource := exS [exR1, exR2] [exE1, exE2q] [] []
def d6 : DSource := exS [exR1, exR2] [exE1, exE2u, exE3] [] []
def d7 : DSource := exS [exR1, exR2] [exE1k, exE2] [] []
def d8 : DSource := exS [exR1, exR2] [exE1, exE2o] [] []
def d9 : DSource := exS [exR1, exR2] [exE1, exE2] [exL] []
def d10 : DSource := exS [exR1, exR2] [exE1, exE2] [] [⟨#[82]⟩]
def d11 : DSource := exS [exR1, exR2] [exE1, exE2] [] [⟨#[81]⟩]
attribute [local irreducible] W RL Does thenQ blockQ retQ Calls Pu Stp RD Qy Ay DoesIn
theorem names25_spec (w : World) : Does Tryz.prog 33 [] w (fun v O => ∃ a b c, v = .tuple #[.slice (some ⟨a, 0, none⟩) 2 2, .slice (some ⟨b, 0, none⟩) 3 3, .slice (some ⟨c, 0, none⟩) 3 3] ∧ O = [.blk a (setN25.flatMap strEnc) 9, .blk b (zoneN25.flatMap strEnc) 9, .blk c (linkN25.flatMap strEnc) 9]) := by
 refine Does_of_W Tryz.func33 rfl rfl rfl rfl ?_
 repeat (first | (refine js ?_; (refine bx ?_; intro bk)) | refine walk ?_)
 rename_i b1 b2
 exact ret_3 (.slice (some ⟨b1, 0, none⟩) 2 2) (.slice (some ⟨b2, 0, none⟩) 3 3) (.slice (some ⟨bk, 0, none⟩) 3 3) [.blk b1 (setN25.flatMap strEnc) 9, .blk b2 (zoneN25.flatMap strEnc) 9, .blk bk (linkN25.flatMap strEnc) 9] (.tmp rfl) (.tmp rfl) (.tmp rfl) SOA ⟨_, _, _, rfl, rfl⟩
theorem PuDraft250 {G : Prop} (h : G := by (apply Pu_loadB1; rfl; (first | exact hp | exact hp' | exact hq); rfl)) : G := h
theorem QyDraft250 {G : Prop} (h : G := by first | (apply Qy_y; rfl; exact PuDraft250) | exact QyA) : G := h
theorem QFDraft250 {G : Prop} (h : G := by repeat (first | exact QF.nil | (apply QF.mk; rfl; rfl; decide +kernel; exact QyDraft250))) : G := h
theorem PuDraft251 {G : Prop} (h : G := by (apply Pu_loadB1; rfl; (first | exact hp' | exact hq); rfl)) : G := h
theorem QyDraft251 {G : Prop} (h : G := by first | (apply Qy_y; rfl; exact PuDraft251) | exact QyA) : G := h
theorem QFDraft251 {G : Prop} (h : G := by repeat (first | exact QF.nil | (apply QF.mk; rfl; rfl; decide +kernel; exact QyDraft251))) : G := h
theorem PuDraft252 {G : Prop} (h : G := by (first | exact PuDraft251 | exact PuI)) : G := h
theorem QyDraft252 {G : Prop} (h : G := by first | (apply Qy_y; rfl; exact PuDraft252) | exact QyA) : G := h
theorem QFDraft252 {G : Prop} (h : G := by repeat (first | exact QF.nil | (apply QF.mk; rfl; rfl; decide +kernel; exact QyDraft252))) : G := h
theorem pick_spec (As Al : Option Addr) (ls cs c : Nat) (z k : Int) (L : List Int) (n m : Int) (b1 b3 : Nat) (wr : World) (hA : RdSl wr Al c byEnc 1 L) (hr : ∀ x ∈ L, inR .u8 x) (hn : 0 ≤ n) (hn2 : n ≤ 100000) (hm : 0 < m) (O O' R1 R2 R3 : List It)
  (hu : Upd O (.blk b3 [.int .i64 n] 3) (.blk b3 [.int .i64 (n + 1)] 3) O') (hp : Pick (.blk b3 [.int .i64 n] 3) O R1) (hp' : Pick (.blk b3 [.int .i64 (n + 1)] 3) O' R2) (hq : Pick (.blk b1 [.slice As ls cs, .int .u8 z, .int .u8 k, .slice Al L.length c] 25) O' R3) :
  DoesIn Tryz.prog 32 [.int .i64 m, .pointer (some ⟨b3, 0, none⟩), .pointer (some ⟨b1, 0, none⟩)] wr O (fun v Ox => v = .int .i64 (pk L n m) ∧ Ox = O') := by
 have hs1 := hA.le
 have hs2 := hA.cap
 simp only [maxLen] at hs2
 refine DoesIn_of_W Tryz.func32 rfl rfl rfl rfl ?_
 repeat (first | (apply RL_pu; rfl; exact PuDraft250) | (refine js ?_; (apply Stp_storeNf; rfl; rfl; exact hu; (focus repeat' constructor); rfl; rfl; rfl; (focus repeat' constructor))) | (apply RD_Q; rfl; rfl; decide +kernel; rfl; rfl; exact QyDraft250) | refine walk1 ?_ | (refine RD_Lw ?_; intro F; (first | (apply Stp_storeNf; rfl; rfl; exact hu; (focus repeat' constructor); rfl; rfl; rfl; (focus repeat' constructor)) | (refine stA ?_) | (apply Stp_pu; first | exact PuDraft250 | exact PuA)); refine ⟨_, EndsA, QFDraft250, ?_⟩))
 refine W_cond rfl (fun h => ?_) (fun h => ?_)
 ·repeat (first | (apply RL_pu; rfl; exact PuDraft251) | (apply RD_Q; rfl; rfl; decide +kernel; rfl; rfl; exact QyDraft251) | refine walk1 ?_ | (refine jn ?_; (try intro F); (first | (refine stA ?_) | (apply Stp_pu; first | exact PuDraft251 | exact PuA)); first | refine ⟨_, EndsA, QFDraft251, ?_⟩ | refine fin ?_))
  exact ret_1 _ O' (.tmp rfl) (.refl _) ⟨by rw [pk, if_pos (by simpa using h)], rfl⟩
 have h0 : L.length ≠ 0 := by simpa using h
 have hp0 : (0 : Int) < L.length := by omega
 have hm0 := Int.emod_nonneg (n + 1) (b := (L.length : Int)) (by omega)
 have hm1 := Int.emod_lt_of_pos (n + 1) hp0
 have hk : ((n + 1) % (L.length : Int)).toNat < L.length := by omega
 obtain ⟨hna, hca⟩ := hA.rd _ _ (List.getElem?_eq_getElem hk)
 have hv := hr _ (List.getElem_mem hk)
 have e : pk L n m = L[((n + 1) % (L.length : Int)).toNat] % m := by
  rw [pk, if_neg h0, List.getD_eq_getElem?_getD, List.getElem?_eq_getElem hk]
  rfl
 rw [e]
 generalize L[((n + 1) % (L.length : Int)).toNat] = r at *
 rw [inR_u8] at hv
 repeat (first | (apply RL_pu; rfl; exact PuDraft252) | (apply RD_Q; rfl; rfl; decide +kernel; rfl; rfl; exact QyDraft252) | refine walk1 ?_ | (refine jn ?_; (try intro F); (first | (refine stA ?_) | (apply Stp_pu; first | exact PuDraft252 | exact PuA)); first | refine ⟨_, EndsA, QFDraft252, ?_⟩ | refine fin ?_))
 exact ret_1 _ O' (.tmp rfl) (.refl _) ⟨rfl, rfl⟩
set_option maxHeartbeats 4000000 in
theorem era21_spec (A : Value) (off kind : Int) (h1 : 0 ≤ off) (h2 : off < 49) (h3 : 0 ≤ kind) (h4 : kind < 4) (w : World) : Does Tryz.prog 34 [A, .int .u8 off, .int .u8 kind] w (fun v O => v = .agg (era21 off kind).enc.toArray ∧ O = []) := by
 have m1 : off % 49 = off := by omega
 have m2 : kind % 5 = kind := by omega
 have hget : fmt21[kind.toNat]? = some (fmt21.getD kind.toNat ByteArray.empty) := by
  have hk : kind.toNat < fmt21.length := by simp only [fmt21, List.length_cons, List.length_nil]; omega
  rw [List.getD_eq_getElem?_getD, List.getElem?_eq_getElem hk]
  rfl
 have hne : fmt21.getD kind.toNat ByteArray.empty ≠ ⟨#[]⟩ := by
  obtain h | h | h | h : kind = 0 ∨ kind = 1 ∨ kind = 2 ∨ kind = 3 := by omega
  all_goals subst h; decide
 refine Does_of_W Tryz.func34 rfl rfl rfl rfl ?_
 repeat (first | (apply RL_pu; rfl; (apply Pu_mul; rfl; rfl; omega)) | (refine js ?_; (refine bx ?_; intro bk)) | refine walk1 ?_)
 rw [m1, m2]
 refine W_cond rfl (fun h => ?_) (fun h => ?_)
 ·have h' := of_decide_eq_true h
  exact absurd h' hne
 repeat (first | (refine js ?_; (refine bx ?_; intro bk)) | refine walk ?_)
 exact ret_1 (.agg (era21 off kind).enc.toArray) [] (.cellB rfl (by repeat' constructor) rfl rfl) .nil ⟨rfl, rfl⟩
end Go.Proofs.YtbjkhnlnedfceaaGreatDoor
namespace Go.Proofs.YtbjkhnlnedfceaaGreatDoor
open Go Go.RowKit Go.Wk
structure RdSets (w : World) (A : Option Addr) (c : Nat) (sets : List (List Int)) : Prop where
 le : sets.length ≤ c
 cap : c ≤ maxLen
 rd : ∀ k l, sets[k]? = some l → A ≠ none ∧ ∃ B cb, RdSl w B cb byEnc 1 l ∧ CellsAt w ((adr A).add (k * 1)) [.slice B l.length cb]
theorem RdSets.up {w w' : World} {A : Option Addr} {c : Nat} {sets : List (List Int)} (h : RdSets w A c sets) (hb : Bel w.heap.size w w') : RdSets w' A c sets :=
 ⟨h.le, h.cap, fun k l hk => by
  obtain ⟨h1, B, cb, h2, h3⟩ := h.rd k l hk
  exact ⟨h1, B, cb, h2.up hb, h3.up hb (Nat.le_refl _)⟩⟩
theorem til_lay (u : DUntil) : ∀ (l : List DEra) (k : Nat) (e : DEra), l[k]? = some e → lay (l.flatMap DEra.enc) (k * 13 + 5) u.enc = (l.set k (setTil u e)).flatMap DEra.enc
 | [], k, r, h => by simp at h
 | a :: l, 0, r, h => by
  simp only [List.getElem?_cons_zero, Option.some.injEq] at h
  subst h
  simp [lay, setTil, DEra.enc, DUntil.enc]
 | a :: l, k + 1, r, h => by
  have ih := til_lay u l k r (by simpa using h)
  simp only [List.flatMap_cons, List.set_cons_succ]
  rw [← ih]
  have hs : ∀ (vs : List Value) (cs : List Value) (j : Nat), lay (a.enc ++ cs) (13 + j) vs = a.enc ++ lay cs j vs := by
   intro vs
   induction vs with
   | nil => intro cs j; rfl
   | cons v r ih2 =>
    intro cs j
    rw [lay, lay, List.set_append_right _ _ (by rw [DEra.len]; omega), DEra.len, show 13 + j - 13 = j by omega, show 13 + j + 1 = 13 + (j + 1) by omega, ih2]
  rw [show (k + 1) * 13 + 5 = 13 + (k * 13 + 5) by omega, hs]
attribute [local irreducible] W RL Does thenQ blockQ retQ Calls Pu Stp RD Qy Ay DoesIn
section
variable {n : Nat} {fr : Fr} {O : List It} {ty : TypeId} {pos : String} {af : Array Edge} {dst : Option Tmp} {g : Option (Nat × Bool)} {Kp : Value → List It → Prop}
theorem Stp_pick {As Al : Option Addr} {ls cs c : Nat} {z k : Int} {L : List Int} {N m : Int} {b1 b3 : Nat} {wr : World} {gx x : Operand} {ts : Array TypeId} {O' R1 R2 R3 : List It} (hA : RdSl wr Al c byEnc 1 L) (hr : ∀ x ∈ L, inR .u8 x)
  (hg : ev fr gx = some (.func (.func 32) #[] #[.pointer (some ⟨b3, 0, none⟩), .pointer (some ⟨b1, 0, none⟩)])) (hx : ev fr x = some (.int .i64 m))
  (hu : Upd O (.blk b3 [.int .i64 N] 3) (.blk b3 [.int .i64 (N + 1)] 3) O') (hp : Pick (.blk b3 [.int .i64 N] 3) O R1) (hp' : Pick (.blk b3 [.int .i64 (N + 1)] 3) O' R2) (hq : Pick (.blk b1 [.slice As ls cs, .int .u8 z, .int .u8 k, .slice Al L.length c] 25) O' R3)
  (hn : 0 ≤ N) (hn2 : N ≤ 100000) (hm : 0 < m) (kk : Kp (.int .i64 (pk L N m)) O') : Stp Tryz.prog n wr fr O ⟨dst, .call ⟨.value gx, #[x], ts⟩, ty, pos, af, g⟩ Kp := by
 refine Stp_callVIn (f := 32) (us := []) (cs := [.pointer (some ⟨b3, 0, none⟩), .pointer (some ⟨b1, 0, none⟩)]) (xs := [x]) (vs := [.int .i64 m]) hg ?_ (pick_spec As Al ls cs c z k L N m b1 b3 wr hA hr hn hn2 hm O O' R1 R2 R3 hu hp hp' hq) (.refl _) ?_
 ·simp [evsO, hx]
 ·rintro v O' ⟨rfl, rfl⟩
  exact kk
end
end Go.Proofs.YtbjkhnlnedfceaaGreatDoor
