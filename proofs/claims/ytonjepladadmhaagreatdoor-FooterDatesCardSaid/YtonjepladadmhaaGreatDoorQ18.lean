/- Contracts: slices.Clone at four types. Contracts of functions that make maps: ruleset.Names, merge.names, merge.sets. Contract: merge.sets. Contract: analemmaref14.Copy. Contracts: analemmalaw17.Draft (a list of bytes): at, clock, pair. Contract: analemmalaw17.Draft: pair. Contract: analemmalaw17.Draft: Made. -/
import Derived.Test.YtonjepladadmhaaGreatDoorQ08
import Derived.Test.YtonjepladadmhaaGreatDoorQ05
import Derived.Test.YtonjepladadmhaaGreatDoorQ16
set_option maxHeartbeats 4000000
set_option linter.unusedVariables false
set_option linter.unusedSimpArgs false
namespace Go.Proofs.YtonjepladadmhaaGreatDoor
open Go Go.RowKit Go.Wk
attribute [local irreducible] W RL Does thenQ blockQ retQ Calls Pu Stp RD Qy Ay
theorem cloneR_spec (A : Option Addr) (c : Nat) (x : List DRule) (w : World) (hA : RdSl w A c DRule.enc 11 x) (hn : x.length ≤ 1000000) :
  Does Tryz.prog 197 [.slice A x.length c] w (NewSl 27 11 DRule.enc x) := by
 refine Does_of_W Tryz.func197 rfl rfl rfl rfl ?_
 repeat (first | (refine js ?_; (refine bx ?_; intro bk)) | refine walk ?_)
 refine W_cond rfl (fun h1 => ?_) (fun h1 => ?_)
 ·obtain rfl := hA.none h1
  refine W_nil 27 11 ?_
  repeat (first | (refine js ?_; (refine bx ?_; intro bk)) | refine walk ?_)
  exact ret_1 _ [.row (.slice none 0 0) 27 11 0 []] (.tmp rfl) SOA ⟨none, 0, rfl, rfl⟩
 repeat (first | (refine js ?_; (first | (apply Stp_append0; rfl; rfl; (intro A' c'; (focus repeat' constructor)); (intro w' hw _; exact (hA.up hw).rd.raw DRule.len (by decide)); exact flat_len DRule.len x; exact all_flat oneR x; (simp only [maxLen]; omega); omega; intro A' c' hc1 hc2 hc3) | (refine bx ?_; intro bk))) | refine walk ?_)
 exact ret_1 _ _ (.tmp rfl) (.refl _) ⟨A', c', rfl, rfl⟩
theorem mget_mset (k : ByteArray) (v : Value) (x : ByteArray) : ∀ m : List (ByteArray × Value), mget (mset m k v) x = if x = k then some v else mget m x
 | [] => by simp [mset, mget]
 | (y, u) :: r => by
  simp only [mset]
  split
  ·rename_i h; subst h; simp only [mget]; split <;> simp_all
  ·rename_i h
   simp only [mget, mget_mset k v x r]
   split
   ·rename_i h2; subst h2; rw [if_neg (fun e => h e.symm)]
   ·rfl
def MpB (m : List (ByteArray × Value)) (l : List ByteArray) : Prop := ∀ x, (mget m x).getD (.bool false) = .bool (memB x l)
theorem MpB.set {m : List (ByteArray × Value)} {l : List ByteArray} (h : MpB m l) (y : ByteArray) : MpB (mset m y (.bool true)) (l ++ [y]) := fun x => by
 rw [mget_mset, memB_snoc]
 by_cases e : x = y
 ·subst e; simp
 ·rw [if_neg e, h x]; simp [show ¬ y = x from fun h => e h.symm]
theorem MpB.nil : MpB [] [] := fun _ => rfl
structure MG (α : Type) where
 k : Nat
 A : Option Addr
 c : Nat
 m : Nat
 xs : List Value
 acc : List α
 mp : List (ByteArray × Value)
theorem names_spec (Ar Az Al As : Option Addr) (cr cz cl cs : Nat) (a : DSource) (w : World) (hA : RdSource w Ar Az Al As cr cz cl cs a) (hn : a.rules.length ≤ 1000000) :
  Does Tryz.prog 105 [srcV Ar Az Al As cr cz cl cs a] w (NewSl 9 1 strEnc (namesB a.rules [])) := by
 generalize hres : namesB a.rules [] = res
 refine Does_of_W Tryz.func105 rfl rfl rfl rfl ?_
 repeat (first | (refine js ?_; (refine bx ?_; intro bk)) | refine walk ?_)
 refine W_nil 9 1 ?_
 refine W_loopF [(3, _), (9, _), (10, _)] [] (fun g : MG ByteArray => [(4, .slice g.A g.m g.c), (11, .int .i64 g.k)]) (fun g => [.row (.slice g.A g.m g.c) 9 1 g.m g.xs, .mp _ g.mp]) (fun g => g.k ≤ a.rules.length ∧ g.m = g.acc.length ∧ g.xs = g.acc.flatMap strEnc ∧ g.m ≤ g.k ∧ MpB g.mp g.acc ∧ namesB (a.rules.drop g.k) g.acc = res) (fun g => a.rules.length - g.k) ⟨0, none, 0, 0, [], [], []⟩ ⟨rfl, rfl, rfl, rfl, rfl, trivial⟩ SOA ⟨by simp, rfl, rfl, Nat.le_refl _, .nil, by simpa using hres⟩ ?_
 rintro ⟨k, A, c, m, xs, acc, mp⟩ ⟨hk, hm, hx, hmk, hp, hi⟩
 dsimp only at hk hm hx hmk hp hi ⊢
 repeat (first | (refine js ?_; (refine bx ?_; intro bk)) | refine walk ?_)
 refine W_cond rfl (fun hc => ?_) (fun hc => ?_)
 ·simp only [decide_eq_true_eq, Int.ofNat_lt] at hc
  obtain ⟨hna, hca⟩ := hA.r.rd k _ (List.getElem?_eq_getElem hc)
  have hnb := hna
  have hcb := hca
  rw [drop_cons hc, namesB] at hi
  generalize a.rules[k] = r at *
  repeat (first | (apply RL_pu; rfl; (first | exact PuI | (apply Pu_lookupC; rfl; rfl; (focus repeat' constructor); exact hp _))) | (refine js ?_; (refine bx ?_; intro bk)) | refine walk1 ?_)
  refine W_cond rfl (fun h3 => ?_) (fun h3 => ?_)
  ·simp only [Bool.not_eq_true'] at h3
   rw [h3] at hi
   repeat (first | (apply RL_pu; rfl; exact PuI) | (refine js ?_; (first | (apply Stp_append; rfl; rfl; (intro A' c'; (focus repeat' constructor)); (intro w' _ hO; exact blkRaw (hO.of (by repeat' constructor))); rfl; rfl; (simp only [maxLen]; omega); omega; intro A' c' hc1 hc2 hc3) | (refine bx ?_; intro bk))) | refine walk1 ?_)
   exact ⟨⟨k + 1, A', c', m + 1, xs ++ strEnc r.name, acc ++ [r.name], mset mp r.name (.bool true)⟩, OA, ⟨OA, by simp [hm], by rw [hx]; exact flat_snoc acc r.name, OA, hp.set _, by rw [← hi]; simp⟩, SFA, SOA⟩
  simp only [Bool.not_eq_false'] at h3
  rw [h3] at hi
  repeat (first | (refine js ?_; (refine bx ?_; intro bk)) | refine walk ?_)
  exact ⟨⟨k + 1, A, c, m, xs, acc, mp⟩, OA, ⟨OA, hm, hx, OA, hp, by rw [← hi]; simp⟩, SFA, SOA⟩
 simp only [decide_eq_false_iff_not, Int.ofNat_lt] at hc
 rw [List.drop_eq_nil_of_le (by omega), namesB] at hi
 subst hi
 repeat (first | (refine js ?_; (refine bx ?_; intro bk)) | refine walk ?_)
 exact ret_1 _ [.row (.slice A acc.length c) 9 1 acc.length (acc.flatMap strEnc)] (.tmp rfl) (by subst hm hx; exact SOA) ⟨A, c, by rw [hm], rfl⟩
structure SetRow where
 name : ByteArray
 rs : List DRule
 A : Option Addr
 c : Nat
 m : Nat
 xs : List Value
def SetRow.v (g : SetRow) : Value := .slice g.A g.m g.c
def SetRow.row (g : SetRow) : It := .row (.slice g.A g.m g.c) 27 11 g.m g.xs
def fnd : List SetRow → ByteArray → Option SetRow
 | [], _ => none
 | g :: G, x => if g.name = x then some g else fnd G x
def remG : List SetRow → ByteArray → List SetRow
 | [], _ => []
 | g :: G, x => if g.name = x then G else g :: remG G x
theorem remG_none (x : ByteArray) : ∀ G, fnd G x = none → remG G x = G
 | [], _ => rfl
 | y :: G, h => by
  simp only [fnd] at h
  split at h
  ·cases h
  ·rename_i hn; rw [remG, if_neg hn, remG_none x G h]
theorem remG_perm (x : ByteArray) (g : SetRow) : ∀ G, fnd G x = some g → (G.map SetRow.row).Perm (g.row :: (remG G x).map SetRow.row)
 | [], h => by simp [fnd] at h
 | y :: G, h => by
  simp only [fnd] at h
  split at h
  ·rename_i hn
   simp at h; subst h
   rw [remG, if_pos hn]; exact .refl _
  ·rename_i hn
   rw [remG, if_neg hn]
   exact (List.Perm.cons _ (remG_perm x g G h)).trans (.swap _ _ _)
theorem fnd_remG (x y : ByteArray) (h : y ≠ x) : ∀ G, fnd (remG G x) y = fnd G y
 | [] => rfl
 | g :: G => by
  simp only [remG]
  split
  ·rename_i hn
   rw [fnd, if_neg (fun e => h (e.symm.trans hn))]
  ·simp only [fnd, fnd_remG x y h G]
def SetsG (mp : List (ByteArray × Value)) (G : List SetRow) (rs : List DRule) : Prop :=
 ∀ x, match fnd G x with
  | none => mget mp x = none ∧ ofB rs x = []
  | some g => mget mp x = some g.v ∧ g.rs = ofB rs x ∧ g.rs ≠ [] ∧ g.m = g.rs.length ∧ g.xs = g.rs.flatMap DRule.enc
theorem ofB_snoc (rs : List DRule) (r : DRule) (x : ByteArray) : ofB (rs ++ [r]) x = ofB rs x ++ if r.name = x then [r] else [] := by
 simp only [ofB, List.filter_append, List.filter_cons, List.filter_nil, decide_eq_true_eq]
theorem SetsG.step {mp : List (ByteArray × Value)} {G : List SetRow} {rs : List DRule} (h : SetsG mp G rs) (r : DRule) (A : Option Addr) (c m : Nat) (xs : List Value) (hm : m = (ofB rs r.name).length) (hx : xs = (ofB rs r.name).flatMap DRule.enc) :
  SetsG (mset mp r.name (.slice A (m + 1) c)) (⟨r.name, ofB rs r.name ++ [r], A, c, m + 1, xs ++ r.enc⟩ :: remG G r.name) (rs ++ [r]) := fun x => by
 by_cases e : r.name = x
 ·subst e
  rw [fnd, if_pos rfl, mget_mset, if_pos rfl, ofB_snoc, if_pos rfl]
  exact ⟨rfl, rfl, by simp, by simp [hm], by rw [hx]; exact flat_snoc _ r⟩
 ·have e' : x ≠ r.name := fun h => e h.symm
  simp only [fnd, if_neg e, fnd_remG r.name x e', mget_mset, if_neg e', ofB_snoc, List.append_nil]
  exact h x
theorem SetsG.len {mp : List (ByteArray × Value)} {G : List SetRow} {rs : List DRule} (_ : SetsG mp G rs) (x : ByteArray) : (ofB rs x).length ≤ rs.length := List.length_filter_le _ _
theorem SetsG.front {mp : List (ByteArray × Value)} {G : List SetRow} {rs : List DRule} (h : SetsG mp G rs) (x : ByteArray) :
  ∃ A c m xs, m = (ofB rs x).length ∧ xs = (ofB rs x).flatMap DRule.enc ∧ (mget mp x).getD (.slice none 0 0) = .slice A m c ∧ (SubO (.row (.slice A m c) 27 11 m xs :: (remG G x).map SetRow.row) (.row (.slice none 0 0) 27 11 0 [] :: G.map SetRow.row)) := by
 have := h x
 cases hf : fnd G x with
 | none =>
  rw [hf] at this
  refine ⟨none, 0, 0, [], by rw [this.2]; rfl, by rw [this.2]; rfl, by rw [this.1]; rfl, ?_⟩
  rw [remG_none x G hf]
  exact .refl _
 | some g =>
  rw [hf] at this
  obtain ⟨h1, h2, h3, h4, h5⟩ := this
  refine ⟨g.A, g.c, g.m, g.xs, by rw [h4, h2], by rw [h5, h2], by rw [h1]; rfl, .drop ?_⟩
  exact SubO.ofPerm (R := []) (by rw [List.append_nil]; exact remG_perm x g G hf)
structure ZE where
 z : DZone
 A : Option Addr
 c : Nat
def ZE.enc (q : ZE) : List Value := [.string q.z.name, .slice q.A q.z.eras.length q.c]
theorem ZE.len (x : ZE) : x.enc.length = 2 := rfl
def ErasAt (Zs : List ZE) (w : World) : Prop := ∀ q ∈ Zs, RdSl w q.A q.c DEra.enc 13 q.z.eras
theorem ErasAt.append {Zs Zs' : List ZE} {w : World} (h : ErasAt Zs w) (h' : ErasAt Zs' w) : ErasAt (Zs ++ Zs') w := fun x hx => by
 rcases List.mem_append.1 hx with hx | hx
 ·exact h x hx
 ·exact h' x hx
theorem zones_rd {w : World} {A : Option Addr} {c : Nat} {Zs : List ZE} (h : RdSl w A c ZE.enc 2 Zs) (he : ErasAt Zs w) : RdZ w A (Zs.map ZE.z) := fun k z hz => by
 rw [List.getElem?_map] at hz
 cases hq : Zs[k]? with
 | none => rw [hq] at hz; cases hz
 | some q =>
  rw [hq] at hz
  injection hz with hz
  subst hz
  exact ⟨(h.rd k q hq).1, q.enc, ⟨q.A, q.c, he q (List.mem_of_getElem? hq), rfl⟩, (h.rd k q hq).2⟩
abbrev rowR (A : Option Addr) (c : Nat) (l : List DRule) : It := .row (.slice A l.length c) 27 11 l.length (l.flatMap DRule.enc)
abbrev rowZ (A : Option Addr) (c : Nat) (l : List ZE) : It := .row (.slice A l.length c) 51 2 l.length (l.flatMap ZE.enc)
abbrev rowL (A : Option Addr) (c : Nat) (l : List DLink) : It := .row (.slice A l.length c) 63 2 l.length (l.flatMap DLink.enc)
abbrev rowS (A : Option Addr) (c : Nat) (l : List ByteArray) : It := .row (.slice A l.length c) 9 1 l.length (l.flatMap strEnc)
def NewSrc (s : DSource) (v : Value) (O : List It) : Prop :=
 ∃ Ar cr Az cz Al cl As cs Zs S, v = srcV Ar Az Al As cr cz cl cs s ∧ Zs.map ZE.z = s.zones ∧ O = [rowR Ar cr s.rules, rowZ Az cz Zs, rowL Al cl s.links, rowS As cs s.shifts, .fact S (ErasAt Zs)]
theorem src_rd {w : World} {Ar Az Al As : Option Addr} {cr cz cl cs : Nat} {Zs : List ZE} {S : Nat → Prop} {s : DSource} (hz : Zs.map ZE.z = s.zones) (h1 : (rowR Ar cr s.rules).sat w) (h2 : (rowZ Az cz Zs).sat w) (h3 : (rowL Al cl s.links).sat w) (h4 : (rowS As cs s.shifts).sat w) (h5 : (It.fact S (ErasAt Zs)).sat w) :
  RdSource w Ar Az Al As cr cz cl cs s := by
 have h := rowRd ZE.len h2
 have hl : s.zones.length = Zs.length := by rw [← hz, List.length_map]
 exact ⟨rowRd DRule.len h1, by rw [hl]; exact h.le, h.cap, hz ▸ zones_rd h (fact_at h5), rowRd DLink.len h3, rowRd strEnc.len h4⟩
end Go.Proofs.YtonjepladadmhaaGreatDoor
namespace Go.Proofs.YtonjepladadmhaaGreatDoor
open Go Go.RowKit Go.Wk
abbrev eraRow (q : ZE) : It := .row (.slice q.A q.z.eras.length q.c) 55 13 q.z.eras.length (q.z.eras.flatMap DEra.enc)
def NewSrcR (s : DSource) (v : Value) (O : List It) : Prop :=
 ∃ Ar cr Az cz Al cl As cs Zs, v = srcV Ar Az Al As cr cz cl cs s ∧ Zs.map ZE.z = s.zones ∧ O = rowR Ar cr s.rules :: rowZ Az cz Zs :: rowL Al cl s.links :: rowS As cs s.shifts :: Zs.map eraRow
theorem newSrc_of {s : DSource} {v : Value} {O : List It} (h : NewSrcR s v O) : ∃ O', NewSrc s v O' ∧ ∀ base w', Holds base O w' → Holds base O' w' := by
 obtain ⟨Ar, cr, Az, cz, Al, cl, As, cs, Zs, rfl, hz, rfl⟩ := h
 refine ⟨_, ⟨Ar, cr, Az, cz, Al, cl, As, cs, Zs, foot (Zs.map eraRow), rfl, hz, rfl⟩, fun base w' hH => ?_⟩
 have h1 : Holds base (Zs.map eraRow ++ [rowR Ar cr s.rules, rowZ Az cz Zs, rowL Al cl s.links, rowS As cs s.shifts]) w' := hH.perm (List.perm_append_comm (l₁ := [rowR Ar cr s.rules, rowZ Az cz Zs, rowL Al cl s.links, rowS As cs s.shifts]))
 have h2 := h1.fact (p := ErasAt Zs) (fun w2 hi q hq => rowRd DEra.len (hi (eraRow q) (List.mem_map.2 ⟨q, hq, rfl⟩)))
 exact h2.perm (List.perm_append_comm (l₁ := [_]) (l₂ := [rowR Ar cr s.rules, rowZ Az cz Zs, rowL Al cl s.links, rowS As cs s.shifts]))
theorem SubO.permT {l A B O : List It} (h : SubO (l ++ A) O) (hp : A.Perm B) : SubO (l ++ B) O := by
 obtain ⟨R, hR⟩ := h.perm
 exact SubO.ofPerm (R := R) (hR.trans ((hp.append_left l).append_right R))
section
variable {P : Program} {n : Nat} {wr : World} {fr : Fr} {O : List It} {ops : Array Oper} {K : Fr → List It → Prop}
end
attribute [local irreducible] W RL Does thenQ blockQ retQ Calls Pu Stp RD Qy Ay
end Go.Proofs.YtonjepladadmhaaGreatDoor
namespace Go.Proofs.YtonjepladadmhaaGreatDoor
open Go Go.RowKit Go.Wk
attribute [local irreducible] W RL Does thenQ blockQ retQ Calls Pu Stp RD Qy Ay DoesIn
def byEnc (n : Int) : List Value := [.int .u8 n]
theorem byEnc.len (n : Int) : (byEnc n).length = 1 := rfl
theorem at_spec (A : Option Addr) (c : Nat) (l : List Int) (i n : Int) (w : World) (hA : RdSl w A c byEnc 1 l) (hr : ∀ x ∈ l, inR .u8 x) (hi : 0 ≤ i) (hn : 0 < n) :
  Does Tryz.prog 62 [.slice A l.length c, .int .i64 i, .int .i64 n] w (fun v O => v = .int .i64 (atB l i n) ∧ O = []) := by
 have hs1 := hA.le
 have hs2 := hA.cap
 unfold maxLen at hs2
 refine Does_of_W Tryz.func62 rfl rfl rfl rfl ?_
 repeat (first | refine walk ?_)
 refine W_cond rfl (fun h => ?_) (fun h => ?_)
 ·repeat (first | refine walk ?_)
  exact ret_1 _ [] (.tmp rfl) .nil ⟨by simp at h; simp [atB, h], rfl⟩
 have h0 : l.length ≠ 0 := by simpa using h
 have hp : (0 : Int) < l.length := by omega
 have hm0 := Int.emod_nonneg i (b := (l.length : Int)) (by omega)
 have hm1 := Int.emod_lt_of_pos i hp
 have hk : (i % (l.length : Int)).toNat < l.length := by omega
 obtain ⟨hna, hca⟩ := hA.rd _ _ (List.getElem?_eq_getElem hk)
 have hv := hr _ (List.getElem_mem hk)
 have e : atB l i n = l[(i % (l.length : Int)).toNat] % n := by
  rw [atB, if_neg h0, List.getD_eq_getElem?_getD, List.getElem?_eq_getElem hk]
  rfl
 rw [e]
 generalize l[(i % (l.length : Int)).toNat] = r at *
 rw [inR_u8] at hv
 repeat (first | (apply RL_pu; rfl; exact PuI) | refine walk1 ?_)
 exact rtA
theorem clock_spec (A : Option Addr) (c : Nat) (l : List Int) (i : Int) (w : World) (hA : RdSl w A c byEnc 1 l) (hr : ∀ x ∈ l, inR .u8 x) (hi : 0 ≤ i) (hi2 : i ≤ 1000) :
  Does Tryz.prog 63 [.slice A l.length c, .int .i64 i] w (fun v O => v = .agg #[.int .i64 (clockB l i).sec, .int .i64 (clockB l i).base] ∧ O = []) := by
 have h1 := atB_range l i 49 (by decide)
 have h2 := atB_range l (i + 1) 3 (by decide)
 refine Does_of_W Tryz.func63 rfl rfl rfl rfl ?_
 repeat (first | (apply RL_pu; rfl; (apply Pu_mul; rfl; rfl; omega)) | (refine js ?_; (first | (refine callE (fun w' hw => at_spec A c l (i) 49 w' (hA.up hw) hr (by omega) (by omega)) ?_) | (refine callE (fun w' hw => at_spec A c l (i + 1) 3 w' (hA.up hw) hr (by omega) (by omega)) ?_) | (refine bx ?_; intro bk))) | refine walk1 ?_)
 exact ret_1 _ [] (.cellB rfl (by repeat' constructor) rfl rfl) .nil ⟨rfl, rfl⟩
theorem DDay.len3 (d : DDay) : d.enc.length = 3 := rfl
theorem PuDraft171 {G : Prop} (h : G := by (first | (apply Pu_loadO1; rfl; exact hp 0 _ rfl) | (apply Pu_mul; rfl; rfl; omega))) : G := h
theorem QyDraft171 {G : Prop} (h : G := by first | (apply Qy_y; rfl; exact PuDraft171) | exact QyA) : G := h
theorem QFDraft171 {G : Prop} (h : G := by repeat (first | exact QF.nil | (apply QF.mk; rfl; rfl; decide +kernel; exact QyDraft171))) : G := h
theorem PuDraft172 {G : Prop} (h : G := by (apply Pu_loadN (cs := (dayOf l i).enc); rfl; rfl; (intro w' _ hO; exact ((litRd (c := 3) (l := dayB l i) (t := 23) DDay.len3 (Nat.le_refl 3) (by decide) (hO.of (A := .blk bk ((dayB l i).flatMap DDay.enc) _) (by repeat' constructor))).rd _ _ hget).2))) : G := h
theorem QyDraft172 {G : Prop} (h : G := by first | (apply Qy_y; rfl; exact PuDraft172) | exact QyA) : G := h
theorem QFDraft172 {G : Prop} (h : G := by repeat (first | exact QF.nil | (apply QF.mk; rfl; rfl; decide +kernel; exact QyDraft172))) : G := h
theorem day17_spec (A : Option Addr) (c : Nat) (l : List Int) (i : Int) (ad : Addr) (w : World) (hA : RdSl w A c byEnc 1 l) (hr : ∀ x ∈ l, inR .u8 x) (hi : 0 ≤ i) (hi2 : i ≤ 1000) (hp : CellsAt w ad [.slice A l.length c]) :
  Does Tryz.prog 119 [.int .i64 i, .pointer (some ad)] w (fun v O => v = .agg #[.int .i64 (dayOf l i).kind, .int .i64 (dayOf l i).week, .int .i64 (dayOf l i).day] ∧ O = []) := by
 have h1 := atB_range l i 7 (by decide)
 have h2 := atB_range l (i + 1) 4 (by decide)
 have h3 := atB_range l (i + 1) 28 (by decide)
 have h4 := atB_range l (i + 2) 3 (by decide)
 refine Does_of_W Tryz.func119 rfl rfl rfl rfl ?_
 repeat (first | (apply RL_pu; rfl; exact PuDraft171) | (apply RD_Q; rfl; rfl; decide +kernel; rfl; rfl; exact QyDraft171) | refine walk1 ?_ | (refine jg ?_; (try intro F); (first | (refine callE (fun w' hw => at_spec A c l (i) 7 w' (hA.up hw) hr (by omega) (by omega)) ?_) | (refine callE (fun w' hw => at_spec A c l (i + 1) 4 w' (hA.up hw) hr (by omega) (by omega)) ?_) | (refine callE (fun w' hw => at_spec A c l (i + 1) 28 w' (hA.up hw) hr (by omega) (by omega)) ?_) | (refine callE (fun w' hw => at_spec A c l (i + 2) 3 w' (hA.up hw) hr (by omega) (by omega)) ?_) | (refine bx ?_; intro bk) | (refine stA ?_)); first | refine ⟨_, EndsA, QFDraft171, ?_⟩ | refine fin ?_) | (refine jn ?_; (try intro F); (first | (refine bx ?_; intro bk) | (refine stA ?_) | (apply Stp_pu; first | exact PuDraft171 | exact PuA)); first | refine ⟨_, EndsA, QFDraft171, ?_⟩ | refine fin ?_) | (apply RD_W; rfl; intro bk))
 have hget : (dayB l i)[(atB l (i + 2) 3).toNat]? = some (dayOf l i) := by
  have hk : (atB l (i + 2) 3).toNat < (dayB l i).length := by simp only [dayB, List.length_cons, List.length_nil]; omega
  rw [dayOf, List.getD_eq_getElem?_getD, List.getElem?_eq_getElem hk]
  rfl
 repeat (first | (apply RL_pu; rfl; exact PuDraft172) | (apply RD_Q; rfl; rfl; decide +kernel; rfl; rfl; exact QyDraft172) | refine walk1 ?_ | (refine jn ?_; (try intro F); (first | (refine bx ?_; intro bk) | (refine stA ?_) | (apply Stp_pu; first | exact PuDraft172 | exact PuA)); first | refine ⟨_, EndsA, QFDraft172, ?_⟩ | refine fin ?_) | (apply RD_W; rfl; intro bk))
 exact ret_1 _ [] (.cellB rfl (by repeat' constructor) rfl rfl) .nil ⟨rfl, rfl⟩
end Go.Proofs.YtonjepladadmhaaGreatDoor
namespace Go.Proofs.YtonjepladadmhaaGreatDoor
open Go Go.RowKit Go.Wk
attribute [local irreducible] W RL Does thenQ blockQ retQ Calls Pu Stp RD Qy Ay DoesIn atB dayOf clockB
theorem blkCells {w : World} {b : Nat} {cs : List Value} {t : TypeId} (h : (It.blk b cs t).sat w) : CellsAt w ⟨b, 0, none⟩ cs := fun j v hj => (blkRaw h j v hj).2
set_option maxHeartbeats 8000000 in
theorem pair17_spec (A : Option Addr) (c : Nat) (l : List Int) (i a b save : Int) (w : World) (hA : RdSl w A c byEnc 1 l) (hr : ∀ x ∈ l, inR .u8 x) (hi : 0 ≤ i) (hi2 : i ≤ 900) :
  Does Tryz.prog 64 [.slice A l.length c, .int .i64 i, .int .i64 a, .int .i64 b, .int .i64 save] w (fun v O => ∃ k, v = .slice (some ⟨k, 0, none⟩) 2 2 ∧ O = [.blk k ((pairB l i a b save).flatMap DRule.enc) 27]) := by
 have r1 := atB_range l i 3 (by decide)
 have r2 := atB_range l (i + 1) 3 (by decide)
 have r3 := atB_range l (i + 8) 3 (by decide)
 have r4 := atB_range l (i + 14) 2 (by decide)
 have r5 := atB_range l (i + 2) 4 (by decide)
 refine Does_of_W Tryz.func64 rfl rfl rfl rfl ?_
 repeat (first | refine walk0 ?_ | (refine jn ?_; (try intro F); (first | (refine bx ?_; intro bk) | (refine stA ?_) | (apply Stp_pu; exact PuA)); refine fin ?_) | (apply RD_W; rfl; intro bk))
 generalize bk = b5
 refine W_post (fun fr' O' => ∃ b1, Sub [(0, .slice A l.length c), (1, .int .i64 i), (2, .int .i64 a), (3, .int .i64 b), (4, .int .i64 save), (5, .pointer (some ⟨b5, 0, none⟩)), (11, .func (.func 119) #[] #[.pointer (some ⟨b5, 0, none⟩)]), (12, .pointer (some ⟨b1, 0, none⟩))] fr' ∧ SubO [.blk b1 (ruleA l i a b save).enc 27, .blk b5 [.slice A l.length c] 79] O') ?_ ?_
 ·repeat (first | refine walk ?_ | (refine jg ?_; (try intro F); (first | (refine callE (fun w' hw => at_spec A c l (i) 3 w' (hA.up hw) hr (by omega) (by omega)) ?_) | (refine callE (fun w' hw => at_spec A c l (i + 8) 3 w' (hA.up hw) hr (by omega) (by omega)) ?_) | (refine callE (fun w' hw => clock_spec A c l (i + 6) w' (hA.up hw) hr (by omega) (by omega)) ?_) | (apply Stp_callV (f := 119) (us := []) (cs := [.pointer (some ⟨b5, 0, none⟩)]) (vs := [.int .i64 (i + 3)]) (h := fun w' hw hO => day17_spec A c l (i + 3) ⟨b5, 0, none⟩ w' (hA.up hw) hr (by omega) (by omega) (blkCells (hO.of (A := .blk b5 _ _) (by repeat' constructor)))); rfl; rfl; rintro v O' ⟨rfl, rfl⟩) | (refine bx ?_; intro bk) | (refine stA ?_)); refine fin ?_) | (refine jn ?_; (try intro F); (first | (refine bx ?_; intro bk) | (refine stA ?_) | (apply Stp_pu; exact PuA)); refine fin ?_) | (apply RD_W; rfl; intro bk))
  exact ⟨rfl, _, SFA, SOA⟩
 rintro fr' O' ⟨b1, hf, hO⟩
 apply thenQ_n
 refine W_sub hf hO ?_
 repeat (first | refine walk0 ?_ | (refine jn ?_; (try intro F); (first | (refine bx ?_; intro bk) | (refine stA ?_) | (apply Stp_pu; exact PuA)); refine fin ?_) | (apply RD_W; rfl; intro bk))
 refine W_post (fun fr' O' => ∃ b2, Sub [(0, .slice A l.length c), (1, .int .i64 i), (2, .int .i64 a), (3, .int .i64 b), (4, .int .i64 save), (5, .pointer (some ⟨b5, 0, none⟩)), (11, .func (.func 119) #[] #[.pointer (some ⟨b5, 0, none⟩)]), (12, .pointer (some ⟨b1, 0, none⟩)), (13, .pointer (some ⟨b2, 0, none⟩))] fr' ∧ SubO [.blk b2 (ruleB l i a b 0).enc 27, .blk b1 (ruleA l i a b save).enc 27, .blk b5 [.slice A l.length c] 79] O') ?_ ?_
 ·repeat (first | refine walk ?_ | (refine jg ?_; (try intro F); (first | (refine callE (fun w' hw => at_spec A c l (i + 1) 3 w' (hA.up hw) hr (by omega) (by omega)) ?_) | (refine callE (fun w' hw => at_spec A c l (i + 14) 2 w' (hA.up hw) hr (by omega) (by omega)) ?_) | (refine callE (fun w' hw => clock_spec A c l (i + 12) w' (hA.up hw) hr (by omega) (by omega)) ?_) | (apply Stp_callV (f := 119) (us := []) (cs := [.pointer (some ⟨b5, 0, none⟩)]) (vs := [.int .i64 (i + 9)]) (h := fun w' hw hO => day17_spec A c l (i + 9) ⟨b5, 0, none⟩ w' (hA.up hw) hr (by omega) (by omega) (blkCells (hO.of (A := .blk b5 _ _) (by repeat' constructor)))); rfl; rfl; rintro v O' ⟨rfl, rfl⟩) | (refine bx ?_; intro bk) | (refine stA ?_)); refine fin ?_) | (refine jn ?_; (try intro F); (first | (refine bx ?_; intro bk) | (refine stA ?_) | (apply Stp_pu; exact PuA)); refine fin ?_) | (apply RD_W; rfl; intro bk))
  exact ⟨rfl, _, SFA, SOA⟩
 rintro fr' O' ⟨b2, hf, hO⟩
 apply thenQ_n
 refine W_sub hf hO ?_
 repeat (first | refine walk ?_ | (refine jg ?_; (try intro F); (first | (refine callE (fun w' hw => at_spec A c l (i + 2) 4 w' (hA.up hw) hr (by omega) (by omega)) ?_) | (refine bx ?_; intro bk) | (refine stA ?_)); refine fin ?_) | (refine jn ?_; (try intro F); (first | (refine bx ?_; intro bk) | (refine stA ?_) | (apply Stp_pu; exact PuA)); refine fin ?_) | (apply RD_W; rfl; intro bk))
 generalize hra : ruleA l i a b save = ra
 generalize hrb : ruleB l i a b 0 = rb
 refine W_sub (fr' := [(65, .bool (decide (atB l (i + 2) 4 = 0))), (12, .pointer (some ⟨b1, 0, none⟩)), (13, .pointer (some ⟨b2, 0, none⟩))]) SFA (show SubO [.blk b2 [.string rb.name, .int .i64 rb.from_, .int .i64 rb.to, .int .i64 rb.month, .int .i64 rb.day.kind, .int .i64 rb.day.week, .int .i64 rb.day.day, .int .i64 rb.at_.sec, .int .i64 rb.at_.base, .int .i64 rb.save, .string rb.letter] 27, .blk b1 [.string ra.name, .int .i64 ra.from_, .int .i64 ra.to, .int .i64 ra.month, .int .i64 ra.day.kind, .int .i64 ra.day.week, .int .i64 ra.day.day, .int .i64 ra.at_.sec, .int .i64 ra.at_.base, .int .i64 ra.save, .string ra.letter] 27] _ from SOA) ?_
 refine W_cond rfl (fun h => ?_) (fun h => ?_)
 ·have e : pairB l i a b save = [⟨ra.name, ra.from_, ra.to, ra.month, ra.day, ra.at_, rb.save, ra.letter⟩, ⟨rb.name, rb.from_, rb.to, rb.month, rb.day, rb.at_, ra.save, rb.letter⟩] := by
   rw [pairB, if_pos (by simpa using h), ← hra, ← hrb]
   rfl
  rw [e]
  repeat (first | refine walk ?_ | (refine jn ?_; (try intro F); (first | (refine bx ?_; intro bk) | (refine stA ?_) | (apply Stp_pu; exact PuA)); refine fin ?_) | (apply RD_W; rfl; intro bk))
  exact ret_1 _ [.blk bk (List.flatMap DRule.enc [⟨ra.name, ra.from_, ra.to, ra.month, ra.day, ra.at_, rb.save, ra.letter⟩, ⟨rb.name, rb.from_, rb.to, rb.month, rb.day, rb.at_, ra.save, rb.letter⟩]) 27] (.tmp rfl) SOA ⟨_, rfl, rfl⟩
 have e : pairB l i a b save = [ra, rb] := by rw [pairB, if_neg (by simpa using h), ← hra, ← hrb]
 rw [e]
 repeat (first | refine walk ?_ | (refine jn ?_; (try intro F); (first | (refine bx ?_; intro bk) | (refine stA ?_) | (apply Stp_pu; exact PuA)); refine fin ?_) | (apply RD_W; rfl; intro bk))
 exact ret_1 _ [.blk bk (List.flatMap DRule.enc [ra, rb]) 27] (.tmp rfl) SOA ⟨_, rfl, rfl⟩
end Go.Proofs.YtonjepladadmhaaGreatDoor
namespace Go.Proofs.YtonjepladadmhaaGreatDoor
open Go Go.RowKit Go.Wk
attribute [local irreducible] W RL Does thenQ blockQ retQ Calls Pu Stp RD Qy Ay DoesIn atB dayOf clockB pairB
def intEnc (n : Int) : List Value := [.int .i64 n]
theorem intEnc.len (n : Int) : (intEnc n).length = 1 := rfl
theorem name_lay (x : ByteArray) : ∀ (l : List DRule) (k : Nat) (r : DRule), l[k]? = some r → lay (l.flatMap DRule.enc) (k * 11) [.string x] = (l.take k ++ nameR x r :: l.drop (k + 1)).flatMap DRule.enc
 | [], k, r, h => by simp at h
 | a :: l, 0, r, h => by
  simp only [List.getElem?_cons_zero, Option.some.injEq] at h
  subst h
  simp [lay, nameR, DRule.enc]
 | a :: l, k + 1, r, h => by
  have ih := name_lay x l k r (by simpa using h)
  simp only [lay] at ih ⊢
  simp only [List.flatMap_cons, List.take_succ_cons, List.drop_succ_cons, List.cons_append]
  rw [← ih]
  rw [show (k + 1) * 11 = a.enc.length + k * 11 by rw [DRule.len]; omega, List.set_append_right _ _ (by omega), Nat.add_sub_cancel_left]
theorem take_map_drop {x : ByteArray} {l : List DRule} {k : Nat} (r : DRule) (hr : l[k]? = some r) : ((l.take k).map (nameR x) ++ l.drop k)[k]? = some r := by
 have hk := (List.getElem?_eq_some_iff.1 hr).1
 have e : ((l.take k).map (nameR x)).length = k := by rw [List.length_map, List.length_take]; omega
 rw [List.getElem?_append_right (by omega), e, Nat.sub_self, List.getElem?_drop]
 exact hr
theorem named_step (x : ByteArray) (l : List DRule) (k : Nat) (r : DRule) (hr : l[k]? = some r) :
  lay (((l.take k).map (nameR x) ++ l.drop k).flatMap DRule.enc) (k * 11 + 0) [.string x] = ((l.take (k + 1)).map (nameR x) ++ l.drop (k + 1)).flatMap DRule.enc := by
 have hk := (List.getElem?_eq_some_iff.1 hr).1
 have e : ((l.take k).map (nameR x)).length = k := by rw [List.length_map, List.length_take]; omega
 rw [Nat.add_zero, name_lay x _ k r (take_map_drop r hr), List.take_append_of_le_length (by omega), List.take_of_length_le (by omega)]
 congr 1
 rw [List.drop_append, List.drop_eq_nil_of_le (by omega), e, List.nil_append, List.drop_drop, List.take_add_one, List.map_append, List.append_assoc, hr, show k + (k + 1 - k) = k + 1 by omega]
 rfl
set_option maxHeartbeats 8000000 in
theorem made17_spec (A : Option Addr) (c : Nat) (l : List Int) (x : ByteArray) (w : World) (hA : RdSl w A c byEnc 1 l) (hr : ∀ x ∈ l, inR .u8 x) :
  Does Tryz.prog 25 [.slice A l.length c, .string x] w (fun v O => ∃ A' c', v = .slice A' (made17 l x).length c' ∧ O = [.row (.slice A' (made17 l x).length c') 27 11 (made17 l x).length ((made17 l x).flatMap DRule.enc)]) := by
 have r0 := atB_range l 0 5 (by decide)
 have r1 := atB_range l 1 80 (by decide)
 have r3 := atB_range l 3 28 (by decide)
 have r6 := atB_range l 6 12 (by decide)
 have r8 := atB_range l 8 5 (by decide)
 have r9 := atB_range l 9 6 (by decide)
 obtain ⟨q1, q2, q3⟩ := m1_rng l
 obtain ⟨q4, q5, q6⟩ := m2_rng l (m1 l).1 (m1 l).2 q1 q2 q3
 have hget : saves17[(atB l 0 5).toNat]? = some (save17 l) := by
  have hk : (atB l 0 5).toNat < saves17.length := by simp only [saves17, List.length_cons, List.length_nil]; omega
  rw [save17, List.getD_eq_getElem?_getD, List.getElem?_eq_getElem hk]
  rfl
 refine Does_of_W Tryz.func25 rfl rfl rfl rfl ?_
 repeat (first | (apply RL_pu; rfl; (apply Pu_load1 (v := .int .i64 (save17 l)); rfl; (intro w' _ hO; exact ((litRd (c := 5) (l := saves17) (t := 2) intEnc.len (Nat.le_refl 5) (by decide) (hO.of (A := .blk bk (saves17.flatMap intEnc) _) (by repeat' constructor))).rd _ _ hget).2 0 _ rfl))) | (refine js ?_; (first | (refine callE (fun w' hw => at_spec A c l 0 5 w' (hA.up hw) hr (by omega) (by omega)) ?_) | (refine callE (fun w' hw => at_spec A c l 1 80 w' (hA.up hw) hr (by omega) (by omega)) ?_) | (refine callE (fun w' hw => at_spec A c l 2 3 w' (hA.up hw) hr (by omega) (by omega)) ?_) | (refine bx ?_; intro bk))) | refine walk1 ?_)
 refine W_nil 27 11 ?_
 refine W_post (fun fr' O' => ∃ A' c' n xs, (n = (m1 l).1.length ∧ xs = (m1 l).1.flatMap DRule.enc) ∧ Sub [(0, .slice A l.length c), (1, .string x), (5, .int .i64 (save17 l)), (6, .int .i64 (m1 l).2), (7, .slice A' n c')] fr' ∧ SubO [.row (.slice A' n c') 27 11 n xs] O') ?_ ?_
 ·refine W_cond rfl (fun h => ?_) (fun h => ?_)
  ·have e : m1 l = ([one17 l (1900 + atB l 1 80)], 1900 + atB l 1 80 + 1) := by rw [m1, if_pos (by simpa using h)]
   repeat (first | (refine js ?_; (first | (refine callE (fun w' hw => at_spec A c l 3 28 w' (hA.up hw) hr (by omega) (by omega)) ?_) | (refine callE (fun w' hw => clock_spec A c l 4 w' (hA.up hw) hr (by omega) (by omega)) ?_) | (apply Stp_append; rfl; rfl; (intro A' c'; (focus repeat' constructor)); (intro w' _ hO; exact blkRaw (hO.of (by repeat' constructor))); rfl; rfl; (simp only [maxLen]; omega); omega; intro A' c' hc1 hc2 hc3) | (refine bx ?_; intro bk))) | refine walk ?_)
   rw [e]
   exact ⟨rfl, A', c', 0 + 1, [] ++ (one17 l (1900 + atB l 1 80)).enc, ⟨rfl, rfl⟩, SFA, SOA⟩
  have e : m1 l = ([], 1900 + atB l 1 80) := by rw [m1, if_neg (by simpa using h)]
  repeat (first | (refine js ?_; (refine bx ?_; intro bk)) | refine walk ?_)
  rw [e]
  exact ⟨rfl, none, 0, 0, [], ⟨rfl, rfl⟩, SFA, SOA⟩
 rintro fr' O' ⟨A1, c1, n1, x1, ⟨hn1, hx1⟩, hf, hO⟩
 apply thenQ_n
 refine W_sub hf hO ?_
 clear hf hO fr' O'
 repeat (first | (refine js ?_; (first | (refine callE (fun w' hw => at_spec A c l 5 2 w' (hA.up hw) hr (by omega) (by omega)) ?_) | (refine bx ?_; intro bk))) | refine walk ?_)
 rw [made17]
 generalize m1 l = g1 at *
 obtain ⟨o1, f1⟩ := g1
 dsimp only at *
 refine W_post (fun fr' O' => ∃ A' c' n xs, (n = (m2 l o1 f1).1.length ∧ xs = (m2 l o1 f1).1.flatMap DRule.enc) ∧ Sub [(0, .slice A l.length c), (1, .string x), (5, .int .i64 (save17 l)), (6, .int .i64 (m2 l o1 f1).2), (7, .slice A' n c')] fr' ∧ SubO [.row (.slice A' n c') 27 11 n xs] O') ?_ ?_
 ·refine W_cond rfl (fun h => ?_) (fun h => ?_)
  ·have e : m2 l o1 f1 = (o1 ++ pairB l 7 f1 (f1 + atB l 6 12) (save17 l), f1 + atB l 6 12 + 1 + atB l 8 5) := by rw [m2, if_pos (by simpa using h)]
   repeat (first | (refine js ?_; (first | (refine callE (fun w' hw => at_spec A c l 6 12 w' (hA.up hw) hr (by omega) (by omega)) ?_) | (refine callE (fun w' hw => at_spec A c l 8 5 w' (hA.up hw) hr (by omega) (by omega)) ?_) | (apply Stp_call (h := fun w' hw _ => pair17_spec A c l 7 f1 (f1 + atB l 6 12) (save17 l) w' (hA.up hw) hr (by omega) (by omega)); rfl; rintro v O' ⟨k1, rfl, rfl⟩) | (apply Stp_append; rfl; rfl; (intro A' c'; (focus repeat' constructor)); (intro w' _ hO; exact blkRaw (hO.of (by repeat' constructor))); (rw [flat_len DRule.len, pairB_len]); exact all_flat oneR _; (simp only [maxLen]; omega); omega; intro A' c' hc1 hc2 hc3) | (refine bx ?_; intro bk))) | refine walk ?_)
   rw [e]
   exact ⟨rfl, A', c', n1 + 2, x1 ++ _, ⟨by rw [List.length_append, pairB_len, hn1], by rw [List.flatMap_append, hx1]⟩, SFA, SOA⟩
  have e : m2 l o1 f1 = (o1, f1) := by rw [m2, if_neg (by simpa using h)]
  repeat (first | (refine js ?_; (refine bx ?_; intro bk)) | refine walk ?_)
  rw [e]
  exact ⟨rfl, A1, c1, n1, x1, ⟨hn1, hx1⟩, SFA, SOA⟩
 rintro fr' O' ⟨A2, c2, n2, x2, ⟨hn2, hx2⟩, hf, hO⟩
 apply thenQ_n
 refine W_sub hf hO ?_
 clear hf hO fr' O'
 generalize m2 l o1 f1 = g2 at *
 obtain ⟨o2, f2⟩ := g2
 dsimp only at *
 repeat (first | (refine js ?_; (first | (refine callE (fun w' hw => at_spec A c l 9 6 w' (hA.up hw) hr (by omega) (by omega)) ?_) | (refine callE (fun w' hw => at_spec A c l 10 3 w' (hA.up hw) hr (by omega) (by omega)) ?_) | (refine bx ?_; intro bk))) | refine walk ?_)
 refine W_post (fun fr' O' => Sub [(0, .slice A l.length c), (1, .string x), (5, .int .i64 (save17 l)), (6, .int .i64 f2), (7, .slice A2 n2 c2), (9, .int .i64 (to17 l f2))] fr' ∧ SubO [.row (.slice A2 n2 c2) 27 11 n2 x2] O') ?_ ?_
 ·refine W_cond rfl (fun h => ?_) (fun h => ?_)
  ·have e : to17 l f2 = 1048576 := by rw [to17, if_pos (by simpa using h)]
   repeat (first | (refine js ?_; (refine bx ?_; intro bk)) | refine walk ?_)
   rw [e]
   exact ⟨rfl, SFA, SOA⟩
  have e : to17 l f2 = f2 + atB l 9 6 := by rw [to17, if_neg (by simpa using h)]
  repeat (first | (refine js ?_; (refine bx ?_; intro bk)) | refine walk ?_)
  rw [e]
  exact ⟨rfl, SFA, SOA⟩
 rintro fr' O' ⟨hf, hO⟩
 apply thenQ_n
 refine W_sub hf hO ?_
 clear hf hO fr' O'
 repeat (first | (refine js ?_; (first | (apply Stp_call (h := fun w' hw _ => pair17_spec A c l 11 f2 (to17 l f2) (save17 l) w' (hA.up hw) hr (by omega) (by omega)); rfl; rintro v O' ⟨k1, rfl, rfl⟩) | (apply Stp_append; rfl; rfl; (intro A' c'; (focus repeat' constructor)); (intro w' _ hO; exact blkRaw (hO.of (by repeat' constructor))); (rw [flat_len DRule.len, pairB_len]); exact all_flat oneR _; (simp only [maxLen]; omega); omega; intro A' c' hc1 hc2 hc3) | (refine bx ?_; intro bk))) | refine walk ?_)
 obtain ⟨o3, ho3⟩ : ∃ o3, m3 l o2 f2 = o3 := ⟨_, rfl⟩
 have hx3 : x2 ++ (pairB l 11 f2 (to17 l f2) (save17 l)).flatMap DRule.enc = o3.flatMap DRule.enc := by rw [← ho3, m3, List.flatMap_append, hx2]
 have hn3 : n2 + 2 = o3.length := by rw [← ho3, m3, List.length_append, pairB_len, hn2]
 have hn5 : o3.length ≤ 5 := by omega
 rw [ho3, hx3, hn3]
 have hAn : A' ≠ none := hc3 (by omega)
 refine W_loopF [(1, .string x), (7, .slice A' o3.length c'), (70, .int .i64 o3.length)] [] (fun k : Nat => [(71, .int .i64 k)]) (fun k => [.row (.slice A' o3.length c') 27 11 o3.length (((o3.take k).map (nameR x) ++ o3.drop k).flatMap DRule.enc)]) (fun k => k ≤ o3.length) (fun k => o3.length - k) 0 SFA SOA (Nat.zero_le _) ?_
 intro k hk
 repeat (first | (refine js ?_; (refine bx ?_; intro bk)) | refine walk ?_)
 refine W_cond rfl (fun h => ?_) (fun h => ?_)
 ·have hk2 : k < o3.length := by simpa using h
  have hll : (((o3.take k).map (nameR x) ++ o3.drop k).flatMap DRule.enc).length = o3.length * 11 := by
   rw [flat_len DRule.len, List.length_append, List.length_map, List.length_take, List.length_drop, Nat.min_eq_left hk]
   congr 1; omega
  repeat (first | (apply RL_pu; rfl; (first | (apply Pu_indexAddr; rfl; rfl; omega; omega; exact hAn) | (apply Pu_fieldAddrA; rfl))) | (refine js ?_; (first | (apply Stp_storeR; rfl; rfl; (focus repeat' constructor); rfl; rfl; rfl; (rw [hll]; omega); decide; exact named_step x o3 k _ (List.getElem?_eq_getElem hk2)) | (refine bx ?_; intro bk))) | refine walk1 ?_)
  exact ⟨k + 1, OA, OA, SFA, SOA⟩
 have hk2 : k = o3.length := by simp only [decide_eq_false_iff_not] at h; omega
 subst hk2
 repeat (first | (refine js ?_; (refine bx ?_; intro bk)) | refine walk ?_)
 have e : (o3.take o3.length).map (nameR x) ++ o3.drop o3.length = o3.map (nameR x) := by rw [List.take_length, List.drop_length, List.append_nil]
 rw [e]
 refine ret_1 _ [.row (.slice A' (o3.map (nameR x)).length c') 27 11 (o3.map (nameR x)).length ((o3.map (nameR x)).flatMap DRule.enc)] (.tmp (v := .slice A' (o3.map (nameR x)).length c') (by rw [List.length_map]; rfl)) (by rw [List.length_map]; exact SOA) ⟨A', c', rfl, rfl⟩
end Go.Proofs.YtonjepladadmhaaGreatDoor
