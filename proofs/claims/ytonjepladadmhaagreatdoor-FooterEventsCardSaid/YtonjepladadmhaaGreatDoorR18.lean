/- Contracts of functions that make maps: ruleset.Names, merge.names, merge.sets. Contract: merge.sets. Contract: analemmaref14.Copy. Contracts: analemmalaw17.Draft (a list of bytes): at, clock, pair. Contract: analemmalaw17.Draft: pair. -/
import Derived.Test.YtonjepladadmhaaGreatDoorR17
import Derived.Test.YtonjepladadmhaaGreatDoorR05
import Derived.Test.YtonjepladadmhaaGreatDoorR08
import Derived.Test.YtonjepladadmhaaGreatDoorR16
set_option maxHeartbeats 4000000
set_option linter.unusedVariables false
set_option linter.unusedSimpArgs false
namespace Go.Proofs.YtonjepladadmhaaGreatDoor
open Go Go.RowKit Go.Wk
attribute [local irreducible] W RL Does thenQ blockQ retQ Calls Pu Stp RD Qy Ay
theorem mget_mset (k : ByteArray) (v : Value) (x : ByteArray) : ∀ m : List (ByteArray × Value), mget (mset m k v) x = if x = k then some v else mget m x
 | [] => by simp [mset, mget]
 | (y, u) :: r => by
  simp only [mset]
  split
  ·rename_i h; subst h; simp only [mget]; split <;> simp_all
  ·rename_i h
   simp only [mget, mget_mset k v x r]
   split
   ·rename_i h2; subst h2; rw [if_neg (fun e => h e.symm)]
   ·rfl
def MpB (m : List (ByteArray × Value)) (l : List ByteArray) : Prop := ∀ x, (mget m x).getD (.bool false) = .bool (memB x l)
theorem MpB.set {m : List (ByteArray × Value)} {l : List ByteArray} (h : MpB m l) (y : ByteArray) : MpB (mset m y (.bool true)) (l ++ [y]) := fun x => by
 rw [mget_mset, memB_snoc]
 by_cases e : x = y
 ·subst e; simp
 ·rw [if_neg e, h x]; simp [show ¬ y = x from fun h => e h.symm]
theorem MpB.nil : MpB [] [] := fun _ => rfl
structure MG (α : Type) where
 k : Nat
 A : Option Addr
 c : Nat
 m : Nat
 xs : List Value
 acc : List α
 mp : List (ByteArray × Value)
theorem names_spec (Ar Az Al As : Option Addr) (cr cz cl cs : Nat) (a : DSource) (w : World) (hA : RdSource w Ar Az Al As cr cz cl cs a) (hn : a.rules.length ≤ 1000000) :
  Does Tryz.prog 105 [srcV Ar Az Al As cr cz cl cs a] w (NewSl 9 1 strEnc (namesB a.rules [])) := by
 generalize hres : namesB a.rules [] = res
 refine Does_of_W Tryz.func105 rfl rfl rfl rfl ?_
 repeat (first | (refine js ?_; (refine bx ?_; intro bk)) | refine walk ?_)
 refine W_nil 9 1 ?_
 refine W_loopF [(3, _), (9, _), (10, _)] [] (fun g : MG ByteArray => [(4, .slice g.A g.m g.c), (11, .int .i64 g.k)]) (fun g => [.row (.slice g.A g.m g.c) 9 1 g.m g.xs, .mp _ g.mp]) (fun g => g.k ≤ a.rules.length ∧ g.m = g.acc.length ∧ g.xs = g.acc.flatMap strEnc ∧ g.m ≤ g.k ∧ MpB g.mp g.acc ∧ namesB (a.rules.drop g.k) g.acc = res) (fun g => a.rules.length - g.k) ⟨0, none, 0, 0, [], [], []⟩ ⟨rfl, rfl, rfl, rfl, rfl, trivial⟩ SOA ⟨by simp, rfl, rfl, Nat.le_refl _, .nil, by simpa using hres⟩ ?_
 rintro ⟨k, A, c, m, xs, acc, mp⟩ ⟨hk, hm, hx, hmk, hp, hi⟩
 dsimp only at hk hm hx hmk hp hi ⊢
 repeat (first | (refine js ?_; (refine bx ?_; intro bk)) | refine walk ?_)
 refine W_cond rfl (fun hc => ?_) (fun hc => ?_)
 ·simp only [decide_eq_true_eq, Int.ofNat_lt] at hc
  obtain ⟨hna, hca⟩ := hA.r.rd k _ (List.getElem?_eq_getElem hc)
  have hnb := hna
  have hcb := hca
  rw [drop_cons hc, namesB] at hi
  generalize a.rules[k] = r at *
  repeat (first | (apply RL_pu; rfl; (first | exact PuI | (apply Pu_lookupC; rfl; rfl; (focus repeat' constructor); exact hp _))) | (refine js ?_; (refine bx ?_; intro bk)) | refine walk1 ?_)
  refine W_cond rfl (fun h3 => ?_) (fun h3 => ?_)
  ·simp only [Bool.not_eq_true'] at h3
   rw [h3] at hi
   repeat (first | (apply RL_pu; rfl; exact PuI) | (refine js ?_; (first | (apply Stp_append; rfl; rfl; (intro A' c'; (focus repeat' constructor)); (intro w' _ hO; exact blkRaw (hO.of (by repeat' constructor))); rfl; rfl; (simp only [maxLen]; omega); omega; intro A' c' hc1 hc2 hc3) | (refine bx ?_; intro bk))) | refine walk1 ?_)
   exact ⟨⟨k + 1, A', c', m + 1, xs ++ strEnc r.name, acc ++ [r.name], mset mp r.name (.bool true)⟩, OA, ⟨OA, by simp [hm], by rw [hx]; exact flat_snoc acc r.name, OA, hp.set _, by rw [← hi]; simp⟩, SFA, SOA⟩
  simp only [Bool.not_eq_false'] at h3
  rw [h3] at hi
  repeat (first | (refine js ?_; (refine bx ?_; intro bk)) | refine walk ?_)
  exact ⟨⟨k + 1, A, c, m, xs, acc, mp⟩, OA, ⟨OA, hm, hx, OA, hp, by rw [← hi]; simp⟩, SFA, SOA⟩
 simp only [decide_eq_false_iff_not, Int.ofNat_lt] at hc
 rw [List.drop_eq_nil_of_le (by omega), namesB] at hi
 subst hi
 repeat (first | (refine js ?_; (refine bx ?_; intro bk)) | refine walk ?_)
 exact ret_1 _ [.row (.slice A acc.length c) 9 1 acc.length (acc.flatMap strEnc)] (.tmp rfl) (by subst hm hx; exact SOA) ⟨A, c, by rw [hm], rfl⟩
structure SetRow where
 name : ByteArray
 rs : List DRule
 A : Option Addr
 c : Nat
 m : Nat
 xs : List Value
def SetRow.v (g : SetRow) : Value := .slice g.A g.m g.c
def SetRow.row (g : SetRow) : It := .row (.slice g.A g.m g.c) 27 11 g.m g.xs
def fnd : List SetRow → ByteArray → Option SetRow
 | [], _ => none
 | g :: G, x => if g.name = x then some g else fnd G x
def remG : List SetRow → ByteArray → List SetRow
 | [], _ => []
 | g :: G, x => if g.name = x then G else g :: remG G x
theorem remG_none (x : ByteArray) : ∀ G, fnd G x = none → remG G x = G
 | [], _ => rfl
 | y :: G, h => by
  simp only [fnd] at h
  split at h
  ·cases h
  ·rename_i hn; rw [remG, if_neg hn, remG_none x G h]
theorem remG_perm (x : ByteArray) (g : SetRow) : ∀ G, fnd G x = some g → (G.map SetRow.row).Perm (g.row :: (remG G x).map SetRow.row)
 | [], h => by simp [fnd] at h
 | y :: G, h => by
  simp only [fnd] at h
  split at h
  ·rename_i hn
   simp at h; subst h
   rw [remG, if_pos hn]; exact .refl _
  ·rename_i hn
   rw [remG, if_neg hn]
   exact (List.Perm.cons _ (remG_perm x g G h)).trans (.swap _ _ _)
theorem fnd_remG (x y : ByteArray) (h : y ≠ x) : ∀ G, fnd (remG G x) y = fnd G y
 | [] => rfl
 | g :: G => by
  simp only [remG]
  split
  ·rename_i hn
   rw [fnd, if_neg (fun e => h (e.symm.trans hn))]
  ·simp only [fnd, fnd_remG x y h G]
def SetsG (mp : List (ByteArray × Value)) (G : List SetRow) (rs : List DRule) : Prop :=
 ∀ x, match fnd G x with
  | none => mget mp x = none ∧ ofB rs x = []
  | some g => mget mp x = some g.v ∧ g.rs = ofB rs x ∧ g.rs ≠ [] ∧ g.m = g.rs.length ∧ g.xs = g.rs.flatMap DRule.enc
theorem ofB_snoc (rs : List DRule) (r : DRule) (x : ByteArray) : ofB (rs ++ [r]) x = ofB rs x ++ if r.name = x then [r] else [] := by
 simp only [ofB, List.filter_append, List.filter_cons, List.filter_nil, decide_eq_true_eq]
theorem SetsG.step {mp : List (ByteArray × Value)} {G : List SetRow} {rs : List DRule} (h : SetsG mp G rs) (r : DRule) (A : Option Addr) (c m : Nat) (xs : List Value) (hm : m = (ofB rs r.name).length) (hx : xs = (ofB rs r.name).flatMap DRule.enc) :
  SetsG (mset mp r.name (.slice A (m + 1) c)) (⟨r.name, ofB rs r.name ++ [r], A, c, m + 1, xs ++ r.enc⟩ :: remG G r.name) (rs ++ [r]) := fun x => by
 by_cases e : r.name = x
 ·subst e
  rw [fnd, if_pos rfl, mget_mset, if_pos rfl, ofB_snoc, if_pos rfl]
  exact ⟨rfl, rfl, by simp, by simp [hm], by rw [hx]; exact flat_snoc _ r⟩
 ·have e' : x ≠ r.name := fun h => e h.symm
  simp only [fnd, if_neg e, fnd_remG r.name x e', mget_mset, if_neg e', ofB_snoc, List.append_nil]
  exact h x
theorem SetsG.len {mp : List (ByteArray × Value)} {G : List SetRow} {rs : List DRule} (_ : SetsG mp G rs) (x : ByteArray) : (ofB rs x).length ≤ rs.length := List.length_filter_le _ _
theorem SetsG.front {mp : List (ByteArray × Value)} {G : List SetRow} {rs : List DRule} (h : SetsG mp G rs) (x : ByteArray) :
  ∃ A c m xs, m = (ofB rs x).length ∧ xs = (ofB rs x).flatMap DRule.enc ∧ (mget mp x).getD (.slice none 0 0) = .slice A m c ∧ (SubO (.row (.slice A m c) 27 11 m xs :: (remG G x).map SetRow.row) (.row (.slice none 0 0) 27 11 0 [] :: G.map SetRow.row)) := by
 have := h x
 cases hf : fnd G x with
 | none =>
  rw [hf] at this
  refine ⟨none, 0, 0, [], by rw [this.2]; rfl, by rw [this.2]; rfl, by rw [this.1]; rfl, ?_⟩
  rw [remG_none x G hf]
  exact .refl _
 | some g =>
  rw [hf] at this
  obtain ⟨h1, h2, h3, h4, h5⟩ := this
  refine ⟨g.A, g.c, g.m, g.xs, by rw [h4, h2], by rw [h5, h2], by rw [h1]; rfl, .drop ?_⟩
  exact SubO.ofPerm (R := []) (by rw [List.append_nil]; exact remG_perm x g G hf)
structure ZE where
 z : DZone
 A : Option Addr
 c : Nat
def ZE.enc (q : ZE) : List Value := [.string q.z.name, .slice q.A q.z.eras.length q.c]
theorem ZE.len (x : ZE) : x.enc.length = 2 := rfl
def ErasAt (Zs : List ZE) (w : World) : Prop := ∀ q ∈ Zs, RdSl w q.A q.c DEra.enc 13 q.z.eras
theorem ErasAt.append {Zs Zs' : List ZE} {w : World} (h : ErasAt Zs w) (h' : ErasAt Zs' w) : ErasAt (Zs ++ Zs') w := fun x hx => by
 rcases List.mem_append.1 hx with hx | hx
 ·exact h x hx
 ·exact h' x hx
theorem zones_rd {w : World} {A : Option Addr} {c : Nat} {Zs : List ZE} (h : RdSl w A c ZE.enc 2 Zs) (he : ErasAt Zs w) : RdZ w A (Zs.map ZE.z) := fun k z hz => by
 rw [List.getElem?_map] at hz
 cases hq : Zs[k]? with
 | none => rw [hq] at hz; cases hz
 | some q =>
  rw [hq] at hz
  injection hz with hz
  subst hz
  exact ⟨(h.rd k q hq).1, q.enc, ⟨q.A, q.c, he q (List.mem_of_getElem? hq), rfl⟩, (h.rd k q hq).2⟩
abbrev rowR (A : Option Addr) (c : Nat) (l : List DRule) : It := .row (.slice A l.length c) 27 11 l.length (l.flatMap DRule.enc)
end Go.Proofs.YtonjepladadmhaaGreatDoor
namespace Go.Proofs.YtonjepladadmhaaGreatDoor
open Go Go.RowKit Go.Wk
section
variable {P : Program} {n : Nat} {wr : World} {fr : Fr} {O : List It} {ops : Array Oper} {K : Fr → List It → Prop}
end
attribute [local irreducible] W RL Does thenQ blockQ retQ Calls Pu Stp RD Qy Ay
end Go.Proofs.YtonjepladadmhaaGreatDoor
namespace Go.Proofs.YtonjepladadmhaaGreatDoor
open Go Go.RowKit Go.Wk
attribute [local irreducible] W RL Does thenQ blockQ retQ Calls Pu Stp RD Qy Ay DoesIn
def byEnc (n : Int) : List Value := [.int .u8 n]
theorem byEnc.len (n : Int) : (byEnc n).length = 1 := rfl
theorem at_spec (A : Option Addr) (c : Nat) (l : List Int) (i n : Int) (w : World) (hA : RdSl w A c byEnc 1 l) (hr : ∀ x ∈ l, inR .u8 x) (hi : 0 ≤ i) (hn : 0 < n) :
  Does Tryz.prog 62 [.slice A l.length c, .int .i64 i, .int .i64 n] w (fun v O => v = .int .i64 (atB l i n) ∧ O = []) := by
 have hs1 := hA.le
 have hs2 := hA.cap
 unfold maxLen at hs2
 refine Does_of_W Tryz.func62 rfl rfl rfl rfl ?_
 repeat (first | refine walk ?_)
 refine W_cond rfl (fun h => ?_) (fun h => ?_)
 ·repeat (first | refine walk ?_)
  exact ret_1 _ [] (.tmp rfl) .nil ⟨by simp at h; simp [atB, h], rfl⟩
 have h0 : l.length ≠ 0 := by simpa using h
 have hp : (0 : Int) < l.length := by omega
 have hm0 := Int.emod_nonneg i (b := (l.length : Int)) (by omega)
 have hm1 := Int.emod_lt_of_pos i hp
 have hk : (i % (l.length : Int)).toNat < l.length := by omega
 obtain ⟨hna, hca⟩ := hA.rd _ _ (List.getElem?_eq_getElem hk)
 have hv := hr _ (List.getElem_mem hk)
 have e : atB l i n = l[(i % (l.length : Int)).toNat] % n := by
  rw [atB, if_neg h0, List.getD_eq_getElem?_getD, List.getElem?_eq_getElem hk]
  rfl
 rw [e]
 generalize l[(i % (l.length : Int)).toNat] = r at *
 rw [inR_u8] at hv
 repeat (first | (apply RL_pu; rfl; exact PuI) | refine walk1 ?_)
 exact rtA
theorem clock_spec (A : Option Addr) (c : Nat) (l : List Int) (i : Int) (w : World) (hA : RdSl w A c byEnc 1 l) (hr : ∀ x ∈ l, inR .u8 x) (hi : 0 ≤ i) (hi2 : i ≤ 1000) :
  Does Tryz.prog 63 [.slice A l.length c, .int .i64 i] w (fun v O => v = .agg #[.int .i64 (clockB l i).sec, .int .i64 (clockB l i).base] ∧ O = []) := by
 have h1 := atB_range l i 49 (by decide)
 have h2 := atB_range l (i + 1) 3 (by decide)
 refine Does_of_W Tryz.func63 rfl rfl rfl rfl ?_
 repeat (first | (apply RL_pu; rfl; (apply Pu_mul; rfl; rfl; omega)) | (refine js ?_; (first | (refine callE (fun w' hw => at_spec A c l (i) 49 w' (hA.up hw) hr (by omega) (by omega)) ?_) | (refine callE (fun w' hw => at_spec A c l (i + 1) 3 w' (hA.up hw) hr (by omega) (by omega)) ?_) | (refine bx ?_; intro bk))) | refine walk1 ?_)
 exact ret_1 _ [] (.cellB rfl (by repeat' constructor) rfl rfl) .nil ⟨rfl, rfl⟩
theorem DDay.len3 (d : DDay) : d.enc.length = 3 := rfl
theorem PuDraft171 {G : Prop} (h : G := by (first | (apply Pu_loadO1; rfl; exact hp 0 _ rfl) | (apply Pu_mul; rfl; rfl; omega))) : G := h
theorem QyDraft171 {G : Prop} (h : G := by first | (apply Qy_y; rfl; exact PuDraft171) | exact QyA) : G := h
theorem QFDraft171 {G : Prop} (h : G := by repeat (first | exact QF.nil | (apply QF.mk; rfl; rfl; decide +kernel; exact QyDraft171))) : G := h
theorem PuDraft172 {G : Prop} (h : G := by (apply Pu_loadN (cs := (dayOf l i).enc); rfl; rfl; (intro w' _ hO; exact ((litRd (c := 3) (l := dayB l i) (t := 23) DDay.len3 (Nat.le_refl 3) (by decide) (hO.of (A := .blk bk ((dayB l i).flatMap DDay.enc) _) (by repeat' constructor))).rd _ _ hget).2))) : G := h
theorem QyDraft172 {G : Prop} (h : G := by first | (apply Qy_y; rfl; exact PuDraft172) | exact QyA) : G := h
theorem QFDraft172 {G : Prop} (h : G := by repeat (first | exact QF.nil | (apply QF.mk; rfl; rfl; decide +kernel; exact QyDraft172))) : G := h
theorem day17_spec (A : Option Addr) (c : Nat) (l : List Int) (i : Int) (ad : Addr) (w : World) (hA : RdSl w A c byEnc 1 l) (hr : ∀ x ∈ l, inR .u8 x) (hi : 0 ≤ i) (hi2 : i ≤ 1000) (hp : CellsAt w ad [.slice A l.length c]) :
  Does Tryz.prog 119 [.int .i64 i, .pointer (some ad)] w (fun v O => v = .agg #[.int .i64 (dayOf l i).kind, .int .i64 (dayOf l i).week, .int .i64 (dayOf l i).day] ∧ O = []) := by
 have h1 := atB_range l i 7 (by decide)
 have h2 := atB_range l (i + 1) 4 (by decide)
 have h3 := atB_range l (i + 1) 28 (by decide)
 have h4 := atB_range l (i + 2) 3 (by decide)
 refine Does_of_W Tryz.func119 rfl rfl rfl rfl ?_
 repeat (first | (apply RL_pu; rfl; exact PuDraft171) | (apply RD_Q; rfl; rfl; decide +kernel; rfl; rfl; exact QyDraft171) | refine walk1 ?_ | (refine jg ?_; (try intro F); (first | (refine callE (fun w' hw => at_spec A c l (i) 7 w' (hA.up hw) hr (by omega) (by omega)) ?_) | (refine callE (fun w' hw => at_spec A c l (i + 1) 4 w' (hA.up hw) hr (by omega) (by omega)) ?_) | (refine callE (fun w' hw => at_spec A c l (i + 1) 28 w' (hA.up hw) hr (by omega) (by omega)) ?_) | (refine callE (fun w' hw => at_spec A c l (i + 2) 3 w' (hA.up hw) hr (by omega) (by omega)) ?_) | (refine bx ?_; intro bk) | (refine stA ?_)); first | refine ⟨_, EndsA, QFDraft171, ?_⟩ | refine fin ?_) | (refine jn ?_; (try intro F); (first | (refine bx ?_; intro bk) | (refine stA ?_) | (apply Stp_pu; first | exact PuDraft171 | exact PuA)); first | refine ⟨_, EndsA, QFDraft171, ?_⟩ | refine fin ?_) | (apply RD_W; rfl; intro bk))
 have hget : (dayB l i)[(atB l (i + 2) 3).toNat]? = some (dayOf l i) := by
  have hk : (atB l (i + 2) 3).toNat < (dayB l i).length := by simp only [dayB, List.length_cons, List.length_nil]; omega
  rw [dayOf, List.getD_eq_getElem?_getD, List.getElem?_eq_getElem hk]
  rfl
 repeat (first | (apply RL_pu; rfl; exact PuDraft172) | (apply RD_Q; rfl; rfl; decide +kernel; rfl; rfl; exact QyDraft172) | refine walk1 ?_ | (refine jn ?_; (try intro F); (first | (refine bx ?_; intro bk) | (refine stA ?_) | (apply Stp_pu; first | exact PuDraft172 | exact PuA)); first | refine ⟨_, EndsA, QFDraft172, ?_⟩ | refine fin ?_) | (apply RD_W; rfl; intro bk))
 exact ret_1 _ [] (.cellB rfl (by repeat' constructor) rfl rfl) .nil ⟨rfl, rfl⟩
end Go.Proofs.YtonjepladadmhaaGreatDoor
namespace Go.Proofs.YtonjepladadmhaaGreatDoor
open Go Go.RowKit Go.Wk
attribute [local irreducible] W RL Does thenQ blockQ retQ Calls Pu Stp RD Qy Ay DoesIn atB dayOf clockB
theorem blkCells {w : World} {b : Nat} {cs : List Value} {t : TypeId} (h : (It.blk b cs t).sat w) : CellsAt w ⟨b, 0, none⟩ cs := fun j v hj => (blkRaw h j v hj).2
set_option maxHeartbeats 8000000 in
theorem pair17_spec (A : Option Addr) (c : Nat) (l : List Int) (i a b save : Int) (w : World) (hA : RdSl w A c byEnc 1 l) (hr : ∀ x ∈ l, inR .u8 x) (hi : 0 ≤ i) (hi2 : i ≤ 900) :
  Does Tryz.prog 64 [.slice A l.length c, .int .i64 i, .int .i64 a, .int .i64 b, .int .i64 save] w (fun v O => ∃ k, v = .slice (some ⟨k, 0, none⟩) 2 2 ∧ O = [.blk k ((pairB l i a b save).flatMap DRule.enc) 27]) := by
 have r1 := atB_range l i 3 (by decide)
 have r2 := atB_range l (i + 1) 3 (by decide)
 have r3 := atB_range l (i + 8) 3 (by decide)
 have r4 := atB_range l (i + 14) 2 (by decide)
 have r5 := atB_range l (i + 2) 4 (by decide)
 refine Does_of_W Tryz.func64 rfl rfl rfl rfl ?_
 repeat (first | refine walk0 ?_ | (refine jn ?_; (try intro F); (first | (refine bx ?_; intro bk) | (refine stA ?_) | (apply Stp_pu; exact PuA)); refine fin ?_) | (apply RD_W; rfl; intro bk))
 generalize bk = b5
 refine W_post (fun fr' O' => ∃ b1, Sub [(0, .slice A l.length c), (1, .int .i64 i), (2, .int .i64 a), (3, .int .i64 b), (4, .int .i64 save), (5, .pointer (some ⟨b5, 0, none⟩)), (11, .func (.func 119) #[] #[.pointer (some ⟨b5, 0, none⟩)]), (12, .pointer (some ⟨b1, 0, none⟩))] fr' ∧ SubO [.blk b1 (ruleA l i a b save).enc 27, .blk b5 [.slice A l.length c] 79] O') ?_ ?_
 ·repeat (first | refine walk ?_ | (refine jg ?_; (try intro F); (first | (refine callE (fun w' hw => at_spec A c l (i) 3 w' (hA.up hw) hr (by omega) (by omega)) ?_) | (refine callE (fun w' hw => at_spec A c l (i + 8) 3 w' (hA.up hw) hr (by omega) (by omega)) ?_) | (refine callE (fun w' hw => clock_spec A c l (i + 6) w' (hA.up hw) hr (by omega) (by omega)) ?_) | (apply Stp_callV (f := 119) (us := []) (cs := [.pointer (some ⟨b5, 0, none⟩)]) (vs := [.int .i64 (i + 3)]) (h := fun w' hw hO => day17_spec A c l (i + 3) ⟨b5, 0, none⟩ w' (hA.up hw) hr (by omega) (by omega) (blkCells (hO.of (A := .blk b5 _ _) (by repeat' constructor)))); rfl; rfl; rintro v O' ⟨rfl, rfl⟩) | (refine bx ?_; intro bk) | (refine stA ?_)); refine fin ?_) | (refine jn ?_; (try intro F); (first | (refine bx ?_; intro bk) | (refine stA ?_) | (apply Stp_pu; exact PuA)); refine fin ?_) | (apply RD_W; rfl; intro bk))
  exact ⟨rfl, _, SFA, SOA⟩
 rintro fr' O' ⟨b1, hf, hO⟩
 apply thenQ_n
 refine W_sub hf hO ?_
 repeat (first | refine walk0 ?_ | (refine jn ?_; (try intro F); (first | (refine bx ?_; intro bk) | (refine stA ?_) | (apply Stp_pu; exact PuA)); refine fin ?_) | (apply RD_W; rfl; intro bk))
 refine W_post (fun fr' O' => ∃ b2, Sub [(0, .slice A l.length c), (1, .int .i64 i), (2, .int .i64 a), (3, .int .i64 b), (4, .int .i64 save), (5, .pointer (some ⟨b5, 0, none⟩)), (11, .func (.func 119) #[] #[.pointer (some ⟨b5, 0, none⟩)]), (12, .pointer (some ⟨b1, 0, none⟩)), (13, .pointer (some ⟨b2, 0, none⟩))] fr' ∧ SubO [.blk b2 (ruleB l i a b 0).enc 27, .blk b1 (ruleA l i a b save).enc 27, .blk b5 [.slice A l.length c] 79] O') ?_ ?_
 ·repeat (first | refine walk ?_ | (refine jg ?_; (try intro F); (first | (refine callE (fun w' hw => at_spec A c l (i + 1) 3 w' (hA.up hw) hr (by omega) (by omega)) ?_) | (refine callE (fun w' hw => at_spec A c l (i + 14) 2 w' (hA.up hw) hr (by omega) (by omega)) ?_) | (refine callE (fun w' hw => clock_spec A c l (i + 12) w' (hA.up hw) hr (by omega) (by omega)) ?_) | (apply Stp_callV (f := 119) (us := []) (cs := [.pointer (some ⟨b5, 0, none⟩)]) (vs := [.int .i64 (i + 9)]) (h := fun w' hw hO => day17_spec A c l (i + 9) ⟨b5, 0, none⟩ w' (hA.up hw) hr (by omega) (by omega) (blkCells (hO.of (A := .blk b5 _ _) (by repeat' constructor)))); rfl; rfl; rintro v O' ⟨rfl, rfl⟩) | (refine bx ?_; intro bk) | (refine stA ?_)); refine fin ?_) | (refine jn ?_; (try intro F); (first | (refine bx ?_; intro bk) | (refine stA ?_) | (apply Stp_pu; exact PuA)); refine fin ?_) | (apply RD_W; rfl; intro bk))
  exact ⟨rfl, _, SFA, SOA⟩
 rintro fr' O' ⟨b2, hf, hO⟩
 apply thenQ_n
 refine W_sub hf hO ?_
 repeat (first | refine walk ?_ | (refine jg ?_; (try intro F); (first | (refine callE (fun w' hw => at_spec A c l (i + 2) 4 w' (hA.up hw) hr (by omega) (by omega)) ?_) | (refine bx ?_; intro bk) | (refine stA ?_)); refine fin ?_) | (refine jn ?_; (try intro F); (first | (refine bx ?_; intro bk) | (refine stA ?_) | (apply Stp_pu; exact PuA)); refine fin ?_) | (apply RD_W; rfl; intro bk))
 generalize hra : ruleA l i a b save = ra
 generalize hrb : ruleB l i a b 0 = rb
 refine W_sub (fr' := [(65, .bool (decide (atB l (i + 2) 4 = 0))), (12, .pointer (some ⟨b1, 0, none⟩)), (13, .pointer (some ⟨b2, 0, none⟩))]) SFA (show SubO [.blk b2 [.string rb.name, .int .i64 rb.from_, .int .i64 rb.to, .int .i64 rb.month, .int .i64 rb.day.kind, .int .i64 rb.day.week, .int .i64 rb.day.day, .int .i64 rb.at_.sec, .int .i64 rb.at_.base, .int .i64 rb.save, .string rb.letter] 27, .blk b1 [.string ra.name, .int .i64 ra.from_, .int .i64 ra.to, .int .i64 ra.month, .int .i64 ra.day.kind, .int .i64 ra.day.week, .int .i64 ra.day.day, .int .i64 ra.at_.sec, .int .i64 ra.at_.base, .int .i64 ra.save, .string ra.letter] 27] _ from SOA) ?_
 refine W_cond rfl (fun h => ?_) (fun h => ?_)
 ·have e : pairB l i a b save = [⟨ra.name, ra.from_, ra.to, ra.month, ra.day, ra.at_, rb.save, ra.letter⟩, ⟨rb.name, rb.from_, rb.to, rb.month, rb.day, rb.at_, ra.save, rb.letter⟩] := by
   rw [pairB, if_pos (by simpa using h), ← hra, ← hrb]
   rfl
  rw [e]
  repeat (first | refine walk ?_ | (refine jn ?_; (try intro F); (first | (refine bx ?_; intro bk) | (refine stA ?_) | (apply Stp_pu; exact PuA)); refine fin ?_) | (apply RD_W; rfl; intro bk))
  exact ret_1 _ [.blk bk (List.flatMap DRule.enc [⟨ra.name, ra.from_, ra.to, ra.month, ra.day, ra.at_, rb.save, ra.letter⟩, ⟨rb.name, rb.from_, rb.to, rb.month, rb.day, rb.at_, ra.save, rb.letter⟩]) 27] (.tmp rfl) SOA ⟨_, rfl, rfl⟩
 have e : pairB l i a b save = [ra, rb] := by rw [pairB, if_neg (by simpa using h), ← hra, ← hrb]
 rw [e]
 repeat (first | refine walk ?_ | (refine jn ?_; (try intro F); (first | (refine bx ?_; intro bk) | (refine stA ?_) | (apply Stp_pu; exact PuA)); refine fin ?_) | (apply RD_W; rfl; intro bk))
 exact ret_1 _ [.blk bk (List.flatMap DRule.enc [ra, rb]) 27] (.tmp rfl) SOA ⟨_, rfl, rfl⟩
end Go.Proofs.YtonjepladadmhaaGreatDoor
