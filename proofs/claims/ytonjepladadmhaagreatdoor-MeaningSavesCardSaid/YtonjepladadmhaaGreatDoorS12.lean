/- Contracts: slices.Clone at four types. Contracts of functions that make maps: ruleset.Names, merge.names, merge.sets. Contract: merge.sets. Contract: analemmaref14.Copy. Contract: slices.DeleteFunc at rules. Contract: ruleset.last. -/
import Derived.Test.YtonjepladadmhaaGreatDoorS08
import Derived.Test.YtonjepladadmhaaGreatDoorS05
import Derived.Test.YtonjepladadmhaaGreatDoorS09
import Derived.Test.YtonjepladadmhaaGreatDoorS11
set_option maxHeartbeats 4000000
set_option linter.unusedVariables false
set_option linter.unusedSimpArgs false
namespace Go.Proofs.YtonjepladadmhaaGreatDoor
open Go Go.RowKit Go.Wk
attribute [local irreducible] W RL Does thenQ blockQ retQ Calls Pu Stp RD Qy Ay
theorem cloneR_spec (A : Option Addr) (c : Nat) (x : List DRule) (w : World) (hA : RdSl w A c DRule.enc 11 x) (hn : x.length ≤ 1000000) :
  Does Tryz.prog 197 [.slice A x.length c] w (NewSl 27 11 DRule.enc x) := by
 refine Does_of_W Tryz.func197 rfl rfl rfl rfl ?_
 repeat (first | (refine js ?_; (refine bx ?_; intro bk)) | refine walk ?_)
 refine W_cond rfl (fun h1 => ?_) (fun h1 => ?_)
 ·obtain rfl := hA.none h1
  refine W_nil 27 11 ?_
  repeat (first | (refine js ?_; (refine bx ?_; intro bk)) | refine walk ?_)
  exact ret_1 _ [.row (.slice none 0 0) 27 11 0 []] (.tmp rfl) SOA ⟨none, 0, rfl, rfl⟩
 repeat (first | (refine js ?_; (first | (apply Stp_append0; rfl; rfl; (intro A' c'; (focus repeat' constructor)); (intro w' hw _; exact (hA.up hw).rd.raw DRule.len (by decide)); exact flat_len DRule.len x; exact all_flat oneR x; (simp only [maxLen]; omega); omega; intro A' c' hc1 hc2 hc3) | (refine bx ?_; intro bk))) | refine walk ?_)
 exact ret_1 _ _ (.tmp rfl) (.refl _) ⟨A', c', rfl, rfl⟩
theorem mget_mset (k : ByteArray) (v : Value) (x : ByteArray) : ∀ m : List (ByteArray × Value), mget (mset m k v) x = if x = k then some v else mget m x
 | [] => by simp [mset, mget]
 | (y, u) :: r => by
  simp only [mset]
  split
  ·rename_i h; subst h; simp only [mget]; split <;> simp_all
  ·rename_i h
   simp only [mget, mget_mset k v x r]
   split
   ·rename_i h2; subst h2; rw [if_neg (fun e => h e.symm)]
   ·rfl
def MpB (m : List (ByteArray × Value)) (l : List ByteArray) : Prop := ∀ x, (mget m x).getD (.bool false) = .bool (memB x l)
theorem MpB.set {m : List (ByteArray × Value)} {l : List ByteArray} (h : MpB m l) (y : ByteArray) : MpB (mset m y (.bool true)) (l ++ [y]) := fun x => by
 rw [mget_mset, memB_snoc]
 by_cases e : x = y
 ·subst e; simp
 ·rw [if_neg e, h x]; simp [show ¬ y = x from fun h => e h.symm]
theorem MpB.nil : MpB [] [] := fun _ => rfl
structure MG (α : Type) where
 k : Nat
 A : Option Addr
 c : Nat
 m : Nat
 xs : List Value
 acc : List α
 mp : List (ByteArray × Value)
theorem names_spec (Ar Az Al As : Option Addr) (cr cz cl cs : Nat) (a : DSource) (w : World) (hA : RdSource w Ar Az Al As cr cz cl cs a) (hn : a.rules.length ≤ 1000000) :
  Does Tryz.prog 105 [srcV Ar Az Al As cr cz cl cs a] w (NewSl 9 1 strEnc (namesB a.rules [])) := by
 generalize hres : namesB a.rules [] = res
 refine Does_of_W Tryz.func105 rfl rfl rfl rfl ?_
 repeat (first | (refine js ?_; (refine bx ?_; intro bk)) | refine walk ?_)
 refine W_nil 9 1 ?_
 refine W_loopF [(3, _), (9, _), (10, _)] [] (fun g : MG ByteArray => [(4, .slice g.A g.m g.c), (11, .int .i64 g.k)]) (fun g => [.row (.slice g.A g.m g.c) 9 1 g.m g.xs, .mp _ g.mp]) (fun g => g.k ≤ a.rules.length ∧ g.m = g.acc.length ∧ g.xs = g.acc.flatMap strEnc ∧ g.m ≤ g.k ∧ MpB g.mp g.acc ∧ namesB (a.rules.drop g.k) g.acc = res) (fun g => a.rules.length - g.k) ⟨0, none, 0, 0, [], [], []⟩ ⟨rfl, rfl, rfl, rfl, rfl, trivial⟩ SOA ⟨by simp, rfl, rfl, Nat.le_refl _, .nil, by simpa using hres⟩ ?_
 rintro ⟨k, A, c, m, xs, acc, mp⟩ ⟨hk, hm, hx, hmk, hp, hi⟩
 dsimp only at hk hm hx hmk hp hi ⊢
 repeat (first | (refine js ?_; (refine bx ?_; intro bk)) | refine walk ?_)
 refine W_cond rfl (fun hc => ?_) (fun hc => ?_)
 ·simp only [decide_eq_true_eq, Int.ofNat_lt] at hc
  obtain ⟨hna, hca⟩ := hA.r.rd k _ (List.getElem?_eq_getElem hc)
  have hnb := hna
  have hcb := hca
  rw [drop_cons hc, namesB] at hi
  generalize a.rules[k] = r at *
  repeat (first | (apply RL_pu; rfl; (first | exact PuI | (apply Pu_lookupC; rfl; rfl; (focus repeat' constructor); exact hp _))) | (refine js ?_; (refine bx ?_; intro bk)) | refine walk1 ?_)
  refine W_cond rfl (fun h3 => ?_) (fun h3 => ?_)
  ·simp only [Bool.not_eq_true'] at h3
   rw [h3] at hi
   repeat (first | (apply RL_pu; rfl; exact PuI) | (refine js ?_; (first | (apply Stp_append; rfl; rfl; (intro A' c'; (focus repeat' constructor)); (intro w' _ hO; exact blkRaw (hO.of (by repeat' constructor))); rfl; rfl; (simp only [maxLen]; omega); omega; intro A' c' hc1 hc2 hc3) | (refine bx ?_; intro bk))) | refine walk1 ?_)
   exact ⟨⟨k + 1, A', c', m + 1, xs ++ strEnc r.name, acc ++ [r.name], mset mp r.name (.bool true)⟩, OA, ⟨OA, by simp [hm], by rw [hx]; exact flat_snoc acc r.name, OA, hp.set _, by rw [← hi]; simp⟩, SFA, SOA⟩
  simp only [Bool.not_eq_false'] at h3
  rw [h3] at hi
  repeat (first | (refine js ?_; (refine bx ?_; intro bk)) | refine walk ?_)
  exact ⟨⟨k + 1, A, c, m, xs, acc, mp⟩, OA, ⟨OA, hm, hx, OA, hp, by rw [← hi]; simp⟩, SFA, SOA⟩
 simp only [decide_eq_false_iff_not, Int.ofNat_lt] at hc
 rw [List.drop_eq_nil_of_le (by omega), namesB] at hi
 subst hi
 repeat (first | (refine js ?_; (refine bx ?_; intro bk)) | refine walk ?_)
 exact ret_1 _ [.row (.slice A acc.length c) 9 1 acc.length (acc.flatMap strEnc)] (.tmp rfl) (by subst hm hx; exact SOA) ⟨A, c, by rw [hm], rfl⟩
structure SetRow where
 name : ByteArray
 rs : List DRule
 A : Option Addr
 c : Nat
 m : Nat
 xs : List Value
def SetRow.v (g : SetRow) : Value := .slice g.A g.m g.c
def SetRow.row (g : SetRow) : It := .row (.slice g.A g.m g.c) 27 11 g.m g.xs
def fnd : List SetRow → ByteArray → Option SetRow
 | [], _ => none
 | g :: G, x => if g.name = x then some g else fnd G x
def remG : List SetRow → ByteArray → List SetRow
 | [], _ => []
 | g :: G, x => if g.name = x then G else g :: remG G x
theorem remG_none (x : ByteArray) : ∀ G, fnd G x = none → remG G x = G
 | [], _ => rfl
 | y :: G, h => by
  simp only [fnd] at h
  split at h
  ·cases h
  ·rename_i hn; rw [remG, if_neg hn, remG_none x G h]
theorem remG_perm (x : ByteArray) (g : SetRow) : ∀ G, fnd G x = some g → (G.map SetRow.row).Perm (g.row :: (remG G x).map SetRow.row)
 | [], h => by simp [fnd] at h
 | y :: G, h => by
  simp only [fnd] at h
  split at h
  ·rename_i hn
   simp at h; subst h
   rw [remG, if_pos hn]; exact .refl _
  ·rename_i hn
   rw [remG, if_neg hn]
   exact (List.Perm.cons _ (remG_perm x g G h)).trans (.swap _ _ _)
theorem fnd_remG (x y : ByteArray) (h : y ≠ x) : ∀ G, fnd (remG G x) y = fnd G y
 | [] => rfl
 | g :: G => by
  simp only [remG]
  split
  ·rename_i hn
   rw [fnd, if_neg (fun e => h (e.symm.trans hn))]
  ·simp only [fnd, fnd_remG x y h G]
def SetsG (mp : List (ByteArray × Value)) (G : List SetRow) (rs : List DRule) : Prop :=
 ∀ x, match fnd G x with
  | none => mget mp x = none ∧ ofB rs x = []
  | some g => mget mp x = some g.v ∧ g.rs = ofB rs x ∧ g.rs ≠ [] ∧ g.m = g.rs.length ∧ g.xs = g.rs.flatMap DRule.enc
theorem ofB_snoc (rs : List DRule) (r : DRule) (x : ByteArray) : ofB (rs ++ [r]) x = ofB rs x ++ if r.name = x then [r] else [] := by
 simp only [ofB, List.filter_append, List.filter_cons, List.filter_nil, decide_eq_true_eq]
theorem SetsG.step {mp : List (ByteArray × Value)} {G : List SetRow} {rs : List DRule} (h : SetsG mp G rs) (r : DRule) (A : Option Addr) (c m : Nat) (xs : List Value) (hm : m = (ofB rs r.name).length) (hx : xs = (ofB rs r.name).flatMap DRule.enc) :
  SetsG (mset mp r.name (.slice A (m + 1) c)) (⟨r.name, ofB rs r.name ++ [r], A, c, m + 1, xs ++ r.enc⟩ :: remG G r.name) (rs ++ [r]) := fun x => by
 by_cases e : r.name = x
 ·subst e
  rw [fnd, if_pos rfl, mget_mset, if_pos rfl, ofB_snoc, if_pos rfl]
  exact ⟨rfl, rfl, by simp, by simp [hm], by rw [hx]; exact flat_snoc _ r⟩
 ·have e' : x ≠ r.name := fun h => e h.symm
  simp only [fnd, if_neg e, fnd_remG r.name x e', mget_mset, if_neg e', ofB_snoc, List.append_nil]
  exact h x
theorem SetsG.len {mp : List (ByteArray × Value)} {G : List SetRow} {rs : List DRule} (_ : SetsG mp G rs) (x : ByteArray) : (ofB rs x).length ≤ rs.length := List.length_filter_le _ _
theorem SetsG.front {mp : List (ByteArray × Value)} {G : List SetRow} {rs : List DRule} (h : SetsG mp G rs) (x : ByteArray) :
  ∃ A c m xs, m = (ofB rs x).length ∧ xs = (ofB rs x).flatMap DRule.enc ∧ (mget mp x).getD (.slice none 0 0) = .slice A m c ∧ (SubO (.row (.slice A m c) 27 11 m xs :: (remG G x).map SetRow.row) (.row (.slice none 0 0) 27 11 0 [] :: G.map SetRow.row)) := by
 have := h x
 cases hf : fnd G x with
 | none =>
  rw [hf] at this
  refine ⟨none, 0, 0, [], by rw [this.2]; rfl, by rw [this.2]; rfl, by rw [this.1]; rfl, ?_⟩
  rw [remG_none x G hf]
  exact .refl _
 | some g =>
  rw [hf] at this
  obtain ⟨h1, h2, h3, h4, h5⟩ := this
  refine ⟨g.A, g.c, g.m, g.xs, by rw [h4, h2], by rw [h5, h2], by rw [h1]; rfl, .drop ?_⟩
  exact SubO.ofPerm (R := []) (by rw [List.append_nil]; exact remG_perm x g G hf)
structure ZE where
 z : DZone
 A : Option Addr
 c : Nat
def ZE.enc (q : ZE) : List Value := [.string q.z.name, .slice q.A q.z.eras.length q.c]
theorem ZE.len (x : ZE) : x.enc.length = 2 := rfl
def ErasAt (Zs : List ZE) (w : World) : Prop := ∀ q ∈ Zs, RdSl w q.A q.c DEra.enc 13 q.z.eras
theorem ErasAt.append {Zs Zs' : List ZE} {w : World} (h : ErasAt Zs w) (h' : ErasAt Zs' w) : ErasAt (Zs ++ Zs') w := fun x hx => by
 rcases List.mem_append.1 hx with hx | hx
 ·exact h x hx
 ·exact h' x hx
theorem zones_rd {w : World} {A : Option Addr} {c : Nat} {Zs : List ZE} (h : RdSl w A c ZE.enc 2 Zs) (he : ErasAt Zs w) : RdZ w A (Zs.map ZE.z) := fun k z hz => by
 rw [List.getElem?_map] at hz
 cases hq : Zs[k]? with
 | none => rw [hq] at hz; cases hz
 | some q =>
  rw [hq] at hz
  injection hz with hz
  subst hz
  exact ⟨(h.rd k q hq).1, q.enc, ⟨q.A, q.c, he q (List.mem_of_getElem? hq), rfl⟩, (h.rd k q hq).2⟩
abbrev rowR (A : Option Addr) (c : Nat) (l : List DRule) : It := .row (.slice A l.length c) 27 11 l.length (l.flatMap DRule.enc)
abbrev rowZ (A : Option Addr) (c : Nat) (l : List ZE) : It := .row (.slice A l.length c) 51 2 l.length (l.flatMap ZE.enc)
abbrev rowL (A : Option Addr) (c : Nat) (l : List DLink) : It := .row (.slice A l.length c) 63 2 l.length (l.flatMap DLink.enc)
abbrev rowS (A : Option Addr) (c : Nat) (l : List ByteArray) : It := .row (.slice A l.length c) 9 1 l.length (l.flatMap strEnc)
def NewSrc (s : DSource) (v : Value) (O : List It) : Prop :=
 ∃ Ar cr Az cz Al cl As cs Zs S, v = srcV Ar Az Al As cr cz cl cs s ∧ Zs.map ZE.z = s.zones ∧ O = [rowR Ar cr s.rules, rowZ Az cz Zs, rowL Al cl s.links, rowS As cs s.shifts, .fact S (ErasAt Zs)]
theorem src_rd {w : World} {Ar Az Al As : Option Addr} {cr cz cl cs : Nat} {Zs : List ZE} {S : Nat → Prop} {s : DSource} (hz : Zs.map ZE.z = s.zones) (h1 : (rowR Ar cr s.rules).sat w) (h2 : (rowZ Az cz Zs).sat w) (h3 : (rowL Al cl s.links).sat w) (h4 : (rowS As cs s.shifts).sat w) (h5 : (It.fact S (ErasAt Zs)).sat w) :
  RdSource w Ar Az Al As cr cz cl cs s := by
 have h := rowRd ZE.len h2
 have hl : s.zones.length = Zs.length := by rw [← hz, List.length_map]
 exact ⟨rowRd DRule.len h1, by rw [hl]; exact h.le, h.cap, hz ▸ zones_rd h (fact_at h5), rowRd DLink.len h3, rowRd strEnc.len h4⟩
end Go.Proofs.YtonjepladadmhaaGreatDoor
namespace Go.Proofs.YtonjepladadmhaaGreatDoor
open Go Go.RowKit Go.Wk
abbrev eraRow (q : ZE) : It := .row (.slice q.A q.z.eras.length q.c) 55 13 q.z.eras.length (q.z.eras.flatMap DEra.enc)
def NewSrcR (s : DSource) (v : Value) (O : List It) : Prop :=
 ∃ Ar cr Az cz Al cl As cs Zs, v = srcV Ar Az Al As cr cz cl cs s ∧ Zs.map ZE.z = s.zones ∧ O = rowR Ar cr s.rules :: rowZ Az cz Zs :: rowL Al cl s.links :: rowS As cs s.shifts :: Zs.map eraRow
theorem newSrc_of {s : DSource} {v : Value} {O : List It} (h : NewSrcR s v O) : ∃ O', NewSrc s v O' ∧ ∀ base w', Holds base O w' → Holds base O' w' := by
 obtain ⟨Ar, cr, Az, cz, Al, cl, As, cs, Zs, rfl, hz, rfl⟩ := h
 refine ⟨_, ⟨Ar, cr, Az, cz, Al, cl, As, cs, Zs, foot (Zs.map eraRow), rfl, hz, rfl⟩, fun base w' hH => ?_⟩
 have h1 : Holds base (Zs.map eraRow ++ [rowR Ar cr s.rules, rowZ Az cz Zs, rowL Al cl s.links, rowS As cs s.shifts]) w' := hH.perm (List.perm_append_comm (l₁ := [rowR Ar cr s.rules, rowZ Az cz Zs, rowL Al cl s.links, rowS As cs s.shifts]))
 have h2 := h1.fact (p := ErasAt Zs) (fun w2 hi q hq => rowRd DEra.len (hi (eraRow q) (List.mem_map.2 ⟨q, hq, rfl⟩)))
 exact h2.perm (List.perm_append_comm (l₁ := [_]) (l₂ := [rowR Ar cr s.rules, rowZ Az cz Zs, rowL Al cl s.links, rowS As cs s.shifts]))
theorem SubO.permT {l A B O : List It} (h : SubO (l ++ A) O) (hp : A.Perm B) : SubO (l ++ B) O := by
 obtain ⟨R, hR⟩ := h.perm
 exact SubO.ofPerm (R := R) (hR.trans ((hp.append_left l).append_right R))
section
variable {P : Program} {n : Nat} {wr : World} {fr : Fr} {O : List It} {ops : Array Oper} {K : Fr → List It → Prop}
end
attribute [local irreducible] W RL Does thenQ blockQ retQ Calls Pu Stp RD Qy Ay
end Go.Proofs.YtonjepladadmhaaGreatDoor
namespace Go.Wk
open Go Go.RowKit
theorem zeros_one (z : Array Value) (k : Nat) (h : z.toList.all Value.oneCell' = true) (h0 : 0 < z.size) : (Builtin.zeroCells z k).toList.all Value.oneCell' = true := by
 rw [List.all_eq_true] at h ⊢
 intro x hx
 unfold Builtin.zeroCells at hx
 rw [Array.toList_map, List.mem_map] at hx
 obtain ⟨i, hi, rfl⟩ := hx
 have hlt := Nat.mod_lt i h0
 rw [getElem!_pos z (i % z.size) hlt]
 exact h _ (by simp)
theorem lay_outA : ∀ (vs xs : List Value) (j : Nat), xs.length ≤ j → lay xs j vs = xs
 | [], _, _, _ => rfl
 | v :: r, xs, j, h => by rw [lay, List.set_eq_of_length_le h, lay_outA r xs (j + 1) (by omega)]
theorem lay_at : ∀ (vs pre cs post : List Value), cs.length = vs.length → lay (pre ++ cs ++ post) pre.length vs = pre ++ vs ++ post
 | [], pre, cs, post, h => by
  have : cs = [] := List.eq_nil_of_length_eq_zero h
  rw [this]; rfl
 | v :: r, pre, [], post, h => by simp at h
 | v :: r, pre, c :: cs, post, h => by
  have := lay_at r (pre ++ [v]) cs post (by simpa using h)
  rw [lay]
  rw [show (pre ++ c :: cs ++ post).set pre.length v = pre ++ [v] ++ cs ++ post by simp]
  rw [List.length_append] at this
  simpa using this
end Go.Wk
namespace Go.Proofs.YtonjepladadmhaaGreatDoor
open Go Go.RowKit Go.Wk
attribute [local irreducible] W RL Does thenQ blockQ retQ Calls Pu Stp RD Qy Ay DoesIn nameB
theorem findI_cases {α : Type} (p : α → Bool) : ∀ (l : List α) (k : Nat), (findI p l k = -1 ∧ l.filter (fun r => !p r) = l) ∨ ∃ i, findI p l k = ((k + i : Nat) : Int) ∧ i < l.length ∧ (l.take (i + 1)).filter (fun r => !p r) = l.take i
 | [], k => .inl ⟨rfl, rfl⟩
 | x :: l, k => by
  rw [findI]
  by_cases h : p x = true
  ·rw [if_pos h]
   exact .inr ⟨0, rfl, by simp, by simp [h]⟩
  ·rw [if_neg h]
   rcases findI_cases p l (k + 1) with ⟨h1, h2⟩ | ⟨i, h1, h2, h3⟩
   ·exact .inl ⟨h1, by rw [List.filter_cons, if_pos (by simp [h]), h2]⟩
   ·refine .inr ⟨i + 1, by rw [h1]; omega, by simpa using h2, ?_⟩
    rw [List.take_succ_cons, List.filter_cons, if_pos (by simp [h]), h3, List.take_succ_cons]
theorem rowR_rd {base : Nat} {A : Option Addr} {c : Nat} {l : List DRule} {w : World} {O R : List It} (h : Holds base O w) (hp : Pick (rowR A c l) O R) (hlc : l.length ≤ c) (hcm : c ≤ maxLen) : RdSl w A c DRule.enc 11 l :=
 ⟨hlc, hcm, fun k x hk => by
  have hs := h.sat _ (hp.perm.mem_iff.2 List.mem_cons_self)
  have hlt := (List.getElem?_eq_some_iff.1 hk).1
  refine ⟨row_some hs (by omega), fun j v hj => ?_⟩
  rw [add_of_add]
  exact (row_cell hs (flat_get DRule.len l k x j v hk hj)).2⟩
instance zeroRule : ZeroV Tryz.prog 27 (.agg #[.string ByteArray.empty, .int .i64 0, .int .i64 0, .int .i64 0, .int .i64 0, .int .i64 0, .int .i64 0, .int .i64 0, .int .i64 0, .int .i64 0, .string ByteArray.empty]) := ⟨by kernel_rfl⟩
structure DG where
 j : Nat
 C : List DRule
set_option maxHeartbeats 2000000 in
theorem delete_spec (A : Option Addr) (c : Nat) (l : List DRule) (f : FuncId) [Body Tryz.prog f] (p : DRule → Bool) (wr : World) (hn : l.length ≤ 1000000) (hlc : l.length ≤ c) (hcm : c ≤ maxLen) (hAn : 0 < l.length → A ≠ none) (hf : ∀ r w', Does Tryz.prog f [.agg (DRule.enc r).toArray] w' (fun v O => v = .bool (p r) ∧ O = [])) :
  DoesIn Tryz.prog 196 [.slice A l.length c, .func (.func f) #[] #[]] wr [rowR A c l] (fun v O => v = .slice A (l.filter fun r => !p r).length c ∧ O = [rowR A c (l.filter fun r => !p r)]) := by
 have hidx := fun w' (hH : Holds wr.heap.size [rowR A c l] w') => indexFunc_spec A c l f [] [] p w' (rowR_rd hH .here hlc hcm) fun r w2 _ => hf r w2
 unfold maxLen at hcm
 generalize hres : (l.filter fun r => !p r) = res
 rcases findI_cases p l 0 with ⟨h1, h2⟩ | ⟨i, h1, h2, h3⟩
 ·rw [h1] at hidx
  rw [h2] at hres
  subst hres
  refine DoesIn_of_W Tryz.func196 rfl rfl rfl rfl ?_
  repeat (first | (refine js ?_; (first | (apply Stp_call (h := fun w' _ hH => hidx w' hH); rfl; rintro v O' ⟨rfl, rfl⟩) | (refine bx ?_; intro bk))) | refine walk ?_)
  exact ret_1 _ _ (.tmp rfl) (.refl _) ⟨rfl, rfl⟩
 ·rw [h1, Nat.zero_add] at hidx
  have hA := hAn (by omega)
  obtain ⟨ad, rfl⟩ : ∃ ad, A = some ad := by
   cases A with
   | none => exact absurd rfl hA
   | some ad => exact ⟨ad, rfl⟩
  clear hA hAn
  refine DoesIn_of_W Tryz.func196 rfl rfl rfl rfl ?_
  repeat (first | (refine js ?_; (first | (apply Stp_call (h := fun w' _ hH => hidx w' hH); rfl; rintro v O' ⟨rfl, rfl⟩) | (refine bx ?_; intro bk))) | refine walkB ?_)
  refine W_post (fun fr' O' => Go.Wk.Sub [(0, .slice (some ad) l.length c), (5, .int .i64 res.length)] fr' ∧ SubO [.row (.slice (some ad) l.length c) 27 11 l.length ((res ++ l.drop res.length).flatMap DRule.enc)] O') ?_ ?_
  ·apply W_block
   refine W_loopF [(0, _), (1, _)] [] (fun g : DG => [(5, .int .i64 g.C.length), (6, .int .i64 g.j)]) (fun g => [.row (.slice (some ad) l.length c) 27 11 l.length ((g.C ++ l.drop g.C.length).flatMap DRule.enc)])
    (fun g => g.C = (l.take g.j).filter (fun r => !p r) ∧ g.C.length + 1 ≤ g.j ∧ g.j ≤ l.length) (fun g => l.length - g.j) ⟨i + 1, l.take i⟩ (by dsimp only; rw [List.length_take, Nat.min_eq_left (by omega)]; exact ⟨rfl, rfl, rfl, rfl, trivial⟩) (by dsimp only; rw [List.length_take, Nat.min_eq_left (by omega), List.take_append_drop]; exact .refl _) ⟨h3.symm, by show (l.take i).length + 1 ≤ i + 1; rw [List.length_take]; omega, by show i + 1 ≤ l.length; omega⟩ ?_
   rintro ⟨j, C⟩ ⟨hC, hCj, hj⟩
   dsimp only at hC hCj hj ⊢
   have hLl : (C ++ l.drop C.length).length = l.length := by rw [List.length_append, List.length_drop]; omega
   repeat (first | (refine js ?_; (refine bx ?_; intro bk)) | refine walk ?_)
   refine W_cond rfl (fun g => ?_) (fun g => ?_)
   ·have hjl : j < l.length := by simpa using g
    have hx : ∀ q v, (DRule.enc l[j])[q]? = some v → ((C ++ l.drop C.length).flatMap DRule.enc)[(j : Int).toNat * 11 + q]? = some v := fun q v hv => by
     refine flat_get DRule.len _ j l[j] q v ?_ hv
     rw [List.getElem?_append_right (by omega), List.getElem?_drop, show C.length + (j - C.length) = j from by omega, List.getElem?_eq_getElem hjl]
    have hst : (l.take (j + 1)).filter (fun r => !p r) = C ++ (if p l[j] then [] else [l[j]]) := by
     rw [List.take_succ_eq_append_getElem hjl, List.filter_append, ← hC]
     by_cases hp : p l[j] = true
     ·simp [hp]
     ·simp [hp]
    have hput : lay ((C ++ l.drop C.length).flatMap DRule.enc) (C.length * 11) (DRule.enc l[j]) = ((C ++ [l[j]]) ++ l.drop (C.length + 1)).flatMap DRule.enc := by
     have hlt : C.length < l.length := by omega
     rw [drop_cons hlt, show C ++ l[C.length] :: l.drop (C.length + 1) = C ++ [l[C.length]] ++ l.drop (C.length + 1) by simp, List.flatMap_append, List.flatMap_append, List.flatMap_append, List.flatMap_append, List.flatMap_singleton, List.flatMap_singleton]
     have := lay_at (DRule.enc l[j]) (C.flatMap DRule.enc) (DRule.enc l[C.length]) ((l.drop (C.length + 1)).flatMap DRule.enc) rfl
     rw [flat_len DRule.len] at this
     exact this
    generalize l[j] = r at *
    obtain ⟨nm, fr, to, mo, ⟨dk, dw, dd⟩, ⟨cs, cb⟩, sv, le⟩ := r
    have hfr := hf ⟨nm, fr, to, mo, ⟨dk, dw, dd⟩, ⟨cs, cb⟩, sv, le⟩
    generalize p ⟨nm, fr, to, mo, ⟨dk, dw, dd⟩, ⟨cs, cb⟩, sv, le⟩ = b at *
    simp only [DRule.enc] at hx hput hfr
    repeat (first | (apply RL_pu; rfl; (first | (apply Pu_indexAddr; rfl; rfl; omega; omega; nofun) | (apply Pu_loadRN; rfl; (focus repeat' constructor); exact hx; rfl))) | (refine js ?_; (first | (apply Stp_callV (f := f) (us := []) (cs := []) (vs := [.agg #[.string nm, .int .i64 fr, .int .i64 to, .int .i64 mo, .int .i64 dk, .int .i64 dw, .int .i64 dd, .int .i64 cs, .int .i64 cb, .int .i64 sv, .string le]]) (h := fun w' hw _ => hfr w'); rfl; rfl; rintro v O' ⟨rfl, rfl⟩) | (refine bx ?_; intro bk))) | refine walk1 ?_)
    refine W_cond rfl (fun g2 => ?_) (fun g2 => ?_)
    ·have hb : b = false := by simpa using g2
     rw [hb, if_neg (by decide)] at hst
     have hfl : ((C ++ l.drop C.length).flatMap DRule.enc).length = l.length * 11 := by rw [flat_len DRule.len, hLl]
     repeat (first | (apply RL_pu; rfl; (apply Pu_indexAddr; rfl; rfl; omega; omega; nofun)) | (refine js ?_; (first | (apply Stp_storeR (vs := [.string nm, .int .i64 fr, .int .i64 to, .int .i64 mo, .int .i64 dk, .int .i64 dw, .int .i64 dd, .int .i64 cs, .int .i64 cb, .int .i64 sv, .string le]); rfl; rfl; (focus repeat' constructor); rfl; rfl; rfl; (rw [hfl]; omega); decide; exact hput) | (refine bx ?_; intro bk))) | refine walk1 ?_)
     refine ⟨⟨j + 1, _⟩, OA, ⟨hst.symm, by dsimp only; rw [List.length_append, List.length_singleton]; omega, OA⟩, ?_, ?_⟩
     ·dsimp only
      rw [List.length_append, List.length_singleton]
      exact SFA
     ·dsimp only
      rw [List.length_append, List.length_singleton]
      exact SOA
    ·have hb : b = true := by simpa using g2
     rw [hb, if_pos rfl, List.append_nil] at hst
     repeat (first | (refine js ?_; (refine bx ?_; intro bk)) | refine walk ?_)
     exact ⟨⟨j + 1, C⟩, OA, ⟨hst.symm, OA, OA⟩, SFA, SOA⟩
   ·have hjl : j = l.length := by
     have := of_decide_eq_false g
     omega
    rw [hjl, List.take_length, hres] at hC
    subst hC
    repeat (first | (refine js ?_; (refine bx ?_; intro bk)) | refine walk ?_)
    exact ⟨rfl, SFA, SOA⟩
  rintro fr' O' ⟨hf1, hO⟩
  apply thenQ_n
  refine W_sub hf1 hO ?_
  clear hf1 hO fr' O'
  have hrl : res.length < l.length := by
   have h4 : l.take (i + 1) ++ l.drop (i + 1) = l := List.take_append_drop _ _
   have h5 : res = l.take i ++ (l.drop (i + 1)).filter (fun r => !p r) := by rw [← hres, ← h3, ← List.filter_append, h4]
   have h6 := List.length_filter_le (fun r => !p r) (l.drop (i + 1))
   rw [List.length_drop] at h6
   have h7 := congrArg List.length h5
   rw [List.length_append, List.length_take] at h7
   omega
  have hLl : ((res ++ l.drop res.length).flatMap DRule.enc).length = l.length * 11 := by rw [flat_len DRule.len, List.length_append, List.length_drop]; congr 1; omega
  have htk : ∀ vs, (lay ((res ++ l.drop res.length).flatMap DRule.enc) ((res.length : Int).toNat * 11) vs).take (res.length * 11) = res.flatMap DRule.enc := fun vs => by
   rw [lay_take, List.flatMap_append, List.take_left' (by rw [flat_len DRule.len])]
   exact lay_outA _ _ _ (by rw [flat_len DRule.len]; omega)
  repeat (first | ((apply RL_st0; apply Stp_clearR (p := (res.length : Int).toNat * 11) (k := l.length - (res.length : Int).toNat); rfl; (focus repeat' constructor); exact zeros_one _ _ rfl (by decide); omega; (rw [hLl]; omega)); refine RL_shrink (m := l.length) res.length (by omega) (by repeat' constructor) ?_; rw [htk]) | (apply RL_pu; rfl; (apply Pu_sliceL; rfl; rfl; omega; omega; omega)) | (refine js ?_; (refine bx ?_; intro bk)) | refine walk1 ?_)
  exact ret_1 _ _ (.tmp rfl) (.refl _) ⟨rfl, rfl⟩
end Go.Proofs.YtonjepladadmhaaGreatDoor
namespace Go.Proofs.YtonjepladadmhaaGreatDoor
open Go Go.RowKit Go.Wk
attribute [local irreducible] W RL Does thenQ blockQ retQ Calls Pu Stp RD Qy Ay DoesIn nameB posixB
def NewRow (l : List DRule) (v : Value) (O : List It) : Prop := ∃ A c, v = .slice A l.length c ∧ O = [rowR A c l] ∧ l.length ≤ c ∧ c ≤ maxLen ∧ (0 < l.length → A ≠ none)
theorem cloneRow_spec (A : Option Addr) (c : Nat) (x : List DRule) (w : World) (hA : RdSl w A c DRule.enc 11 x) (hn : x.length ≤ 1000000) :
  Does Tryz.prog 197 [.slice A x.length c] w (NewRow x) :=
 (cloneR_spec A c x w hA hn).monoH fun v O base w' ⟨A, c, h1, h2⟩ hH => by
  subst h2
  obtain ⟨A2, c2, e1, h3, h4, h5, _⟩ := row_form (hH.sat _ List.mem_cons_self)
  injection e1 with e2 _ e3
  subst e2 e3
  exact ⟨_, ⟨A, c, h1, rfl, h3, h4, h5⟩, hH⟩
theorem PuRsD0 {G : Prop} (h : G := by (first | (apply Pu_indexAddr; rfl; rfl; (first | decide | omega); (first | decide | omega); nofun) | (apply Pu_loadRN; rfl; (focus repeat' constructor); exact hx1; rfl) | (apply Pu_loadRN; rfl; (focus repeat' constructor); exact hx2; rfl))) : G := h
theorem QyRsD0 {G : Prop} (h : G := by first | (apply Qy_y; rfl; exact PuRsD0) | exact QyA) : G := h
theorem QFRsD0 {G : Prop} (h : G := by repeat (first | exact QF.nil | (apply QF.mk; rfl; rfl; decide +kernel; exact QyRsD0))) : G := h
theorem last_spec (A : Option Addr) (c : Nat) (l : List DRule) (w : World) (hA : RdSl w A c DRule.enc 11 l) (hn : l.length ≤ 1000000) :
  Does Tryz.prog 161 [.slice A l.length c] w (fun v O => v = .bool (lastB l) ∧ O = []) := by
 have hfl : (l.filter fun r => !(!decide (r.to = 1048576))) = l.filter fun r => decide (r.to = 1048576) := by
  congr 1; funext r; rw [Bool.not_not]
 have hlen := List.length_filter_le (fun r : DRule => decide (r.to = 1048576)) l
 obtain ⟨res, hres⟩ : ∃ res, lastB l = res := ⟨_, rfl⟩
 rw [hres]
 unfold lastB at hres
 refine Does_of_W Tryz.func161 rfl rfl rfl rfl ?_
 repeat (first | refine walk ?_ | (refine jg ?_; (try intro F); (first | (apply Stp_call (h := fun w' hw _ => cloneRow_spec A c l w' (hA.up hw) hn); rfl; rintro v O' ⟨B, d, rfl, rfl, hb1, hb2, hb3⟩) | (refine bx ?_; intro bk) | (refine stA ?_)); refine fin ?_) | (refine jn ?_; (try intro F); (first | (refine bx ?_; intro bk) | (refine stA ?_) | (apply Stp_pu; exact PuA)); refine fin ?_) | (apply RD_W; rfl; intro bk))
 have hdel := delete_spec B d l 198 (fun r => !decide (r.to = 1048576)) w hn hb1 hb2 hb3 last1_spec
 rw [hfl] at hdel
 generalize (l.filter fun r => decide (r.to = 1048576)) = F at *
 repeat (first | refine walk ?_ | (refine RD_G0w ?_; intro F; (apply Stp_callIn (h := hdel); rfl; exact .refl _; rintro v O' ⟨rfl, rfl⟩); refine ⟨_, EndsA, SubO.right _ _, ?_⟩) | (refine jn ?_; (try intro F); (first | (apply Stp_callIn (h := hdel); rfl; exact .refl _; rintro v O' ⟨rfl, rfl⟩) | (refine bx ?_; intro bk) | (refine stA ?_) | (apply Stp_pu; exact PuA)); refine fin ?_) | (apply RD_W; rfl; intro bk))
 rcases F with _ | ⟨a, _ | ⟨b, _ | ⟨x, F⟩⟩⟩
 ·repeat (first | refine walk ?_ | (refine jn ?_; (try intro F); (first | (refine bx ?_; intro bk) | (refine stA ?_) | (apply Stp_pu; exact PuA)); refine fin ?_) | (apply RD_W; rfl; intro bk))
  exact ret_1 _ [] (.tmp rfl) .nil ⟨by rw [← hres], rfl⟩
 ·repeat (first | refine walk ?_ | (refine jn ?_; (try intro F); (first | (refine bx ?_; intro bk) | (refine stA ?_) | (apply Stp_pu; exact PuA)); refine fin ?_) | (apply RD_W; rfl; intro bk))
  exact ret_1 _ [] (.tmp rfl) .nil ⟨by rw [← hres], rfl⟩
 ·have hB := hb3 (by simp at hlen; omega)
  obtain ⟨ad, rfl⟩ : ∃ ad, B = some ad := by
   cases B with
   | none => exact absurd rfl hB
   | some ad => exact ⟨ad, rfl⟩
  dsimp only at hres
  have hpa := posix_spec a
  have hpb := posix_spec b
  generalize posixB a = pa at *
  generalize posixB b = pb at *
  have hx1 : ∀ q v, (DRule.enc a)[q]? = some v → ([a, b].flatMap DRule.enc)[(0 : Int).toNat * 11 + q]? = some v := fun q v hv => flat_get DRule.len _ 0 a q v rfl hv
  have hx2 : ∀ q v, (DRule.enc b)[q]? = some v → ([a, b].flatMap DRule.enc)[(1 : Int).toNat * 11 + q]? = some v := fun q v hv => flat_get DRule.len _ 1 b q v rfl hv
  simp only [rowR, List.length_cons, List.length_nil, Nat.zero_add, Nat.reduceAdd]
  generalize hxs : [a, b].flatMap DRule.enc = xs at *
  clear hxs
  obtain ⟨nm, fr, to, mo, ⟨dk, dw, dd⟩, ⟨cs, cb⟩, sv, le⟩ := a
  obtain ⟨nm2, fr2, to2, mo2, ⟨dk2, dw2, dd2⟩, ⟨cs2, cb2⟩, sv2, le2⟩ := b
  simp only [DRule.enc] at hx1 hx2 hpa hpb
  repeat (first | (apply RL_pu; rfl; exact PuRsD0) | (apply RD_Q; rfl; rfl; decide +kernel; rfl; rfl; exact QyRsD0) | refine walk1 ?_ | (refine jn ?_; (try intro F); (first | (refine bx ?_; intro bk) | (refine stA ?_) | (apply Stp_pu; first | exact PuRsD0 | exact PuA)); first | refine ⟨_, EndsA, QFRsD0, ?_⟩ | refine fin ?_) | (apply RD_W; rfl; intro bk))
  repeat' (first | (refine js ?_; (first | (refine callE (fun w' _ => hpa w') ?_) | (refine callE (fun w' _ => hpb w') ?_) | (refine bx ?_; intro bk))) | refine walk ?_ | (refine RD_G0w ?_; intro F; (first | (refine callE (fun w' _ => hpa w') ?_) | (refine callE (fun w' _ => hpb w') ?_)); refine ⟨_, EndsA, SubO.right _ _, ?_⟩) | (refine RD_Lw ?_; intro F; (first | (refine callE (fun w' _ => hpa w') ?_) | (refine callE (fun w' _ => hpb w') ?_) | (refine bx ?_; intro bk) | (refine stA ?_) | (apply Stp_pu; exact PuA)); refine ⟨_, EndsA, QFA, ?_⟩) | (apply RD_W; rfl; intro bk) | refine und ?_ | (refine RL_gsplit rfl rfl rfl (fun hc => ?_) (fun hc => ?_)) | (refine RD_gsplit rfl rfl rfl (fun hc => ?_) (fun hc => ?_)) | (refine W_cond rfl (fun hc => ?_) (fun hc => ?_)))
  all_goals clear hx1 hx2 hpa hpb hdel hA hb1 hb2
  all_goals subst hres
  all_goals exact clo1
 ·repeat (first | refine walk ?_ | (refine jn ?_; (try intro F); (first | (refine bx ?_; intro bk) | (refine stA ?_) | (apply Stp_pu; exact PuA)); refine fin ?_) | (apply RD_W; rfl; intro bk))
  exact ret_1 _ [] (.tmp rfl) .nil ⟨by rw [← hres], rfl⟩
end Go.Proofs.YtonjepladadmhaaGreatDoor
