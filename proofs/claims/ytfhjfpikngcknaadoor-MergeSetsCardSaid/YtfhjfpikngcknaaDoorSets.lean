/- Contract: merge.sets. -/
import Derived.Test.YtfhjfpikngcknaaDoorMap
import Derived.Test.YtfhjfpikngcknaaDoorWkI
namespace Go.Proofs.YtfhjfpikngcknaaDoor
open Go Go.RowKit Go.Wk
attribute [local irreducible] W RL Does thenQ blockQ retQ Calls Pu Stp RD Qy Ay


structure SetRow where
  name : ByteArray
  rs : List DRule
  A : Option Addr
  c : Nat
  m : Nat
  xs : List Value
def SetRow.v (g : SetRow) : Value := .slice g.A g.m g.c
def SetRow.row (g : SetRow) : It := .row (.slice g.A g.m g.c) 46 11 g.m g.xs
def fnd : List SetRow → ByteArray → Option SetRow
  | [], _ => none
  | g :: G, x => if g.name = x then some g else fnd G x
def remG : List SetRow → ByteArray → List SetRow
  | [], _ => []
  | g :: G, x => if g.name = x then G else g :: remG G x
theorem fnd_mem (x : ByteArray) (g : SetRow) : ∀ G, fnd G x = some g → g ∈ G
  | [], h => by simp [fnd] at h
  | y :: G, h => by
    simp only [fnd] at h
    split at h
    · simp at h; simp [h]
    · exact List.mem_cons_of_mem _ (fnd_mem x g G h)
theorem remG_none (x : ByteArray) : ∀ G, fnd G x = none → remG G x = G
  | [], _ => rfl
  | y :: G, h => by
    simp only [fnd] at h
    split at h
    · cases h
    · rename_i hn; rw [remG, if_neg hn, remG_none x G h]
theorem remG_perm (x : ByteArray) (g : SetRow) : ∀ G, fnd G x = some g → (G.map SetRow.row).Perm (g.row :: (remG G x).map SetRow.row)
  | [], h => by simp [fnd] at h
  | y :: G, h => by
    simp only [fnd] at h
    split at h
    · rename_i hn
      simp at h; subst h
      rw [remG, if_pos hn]; exact .refl _
    · rename_i hn
      rw [remG, if_neg hn]
      exact (List.Perm.cons _ (remG_perm x g G h)).trans (.swap _ _ _)
theorem fnd_remG (x y : ByteArray) (h : y ≠ x) : ∀ G, fnd (remG G x) y = fnd G y
  | [] => rfl
  | g :: G => by
    simp only [remG]
    split
    · rename_i hn
      rw [fnd, if_neg (fun e => h (e.symm.trans hn))]
    · simp only [fnd, fnd_remG x y h G]

/-- The sets of the rules so far. -/
def SetsG (mp : List (ByteArray × Value)) (G : List SetRow) (rs : List DRule) : Prop :=
  ∀ x, match fnd G x with
    | none => mget mp x = none ∧ ofB rs x = []
    | some g => mget mp x = some g.v ∧ g.rs = ofB rs x ∧ g.rs ≠ [] ∧ g.m = g.rs.length ∧ g.xs = g.rs.flatMap DRule.enc
theorem ofB_snoc (rs : List DRule) (r : DRule) (x : ByteArray) : ofB (rs ++ [r]) x = ofB rs x ++ if r.name = x then [r] else [] := by
  simp only [ofB, List.filter_append, List.filter_cons, List.filter_nil, decide_eq_true_eq]
theorem SetsG.step {mp : List (ByteArray × Value)} {G : List SetRow} {rs : List DRule} (h : SetsG mp G rs) (r : DRule) (A : Option Addr) (c m : Nat) (xs : List Value) (hm : m = (ofB rs r.name).length) (hx : xs = (ofB rs r.name).flatMap DRule.enc) :
    SetsG (mset mp r.name (.slice A (m + 1) c)) (⟨r.name, ofB rs r.name ++ [r], A, c, m + 1, xs ++ r.enc⟩ :: remG G r.name) (rs ++ [r]) := fun x => by
  by_cases e : r.name = x
  · subst e
    rw [fnd, if_pos rfl, mget_mset, if_pos rfl, ofB_snoc, if_pos rfl]
    exact ⟨rfl, rfl, by simp, by simp [hm], by rw [hx]; exact flat_snoc _ r⟩
  · have e' : x ≠ r.name := fun h => e h.symm
    simp only [fnd, if_neg e, fnd_remG r.name x e', mget_mset, if_neg e', ofB_snoc, List.append_nil]
    exact h x
theorem SetsG.len {mp : List (ByteArray × Value)} {G : List SetRow} {rs : List DRule} (_ : SetsG mp G rs) (x : ByteArray) : (ofB rs x).length ≤ rs.length := List.length_filter_le _ _
theorem SetsG.front {mp : List (ByteArray × Value)} {G : List SetRow} {rs : List DRule} (h : SetsG mp G rs) (x : ByteArray) :
    ∃ A c m xs, m = (ofB rs x).length ∧ xs = (ofB rs x).flatMap DRule.enc ∧ (mget mp x).getD (.slice none 0 0) = .slice A m c ∧ (SubO (.row (.slice A m c) 46 11 m xs :: (remG G x).map SetRow.row) (.row (.slice none 0 0) 46 11 0 [] :: G.map SetRow.row)) := by
  have := h x
  cases hf : fnd G x with
  | none =>
    rw [hf] at this
    refine ⟨none, 0, 0, [], by rw [this.2]; rfl, by rw [this.2]; rfl, by rw [this.1]; rfl, ?_⟩
    rw [remG_none x G hf]
    exact .refl _
  | some g =>
    rw [hf] at this
    obtain ⟨h1, h2, h3, h4, h5⟩ := this
    refine ⟨g.A, g.c, g.m, g.xs, by rw [h4, h2], by rw [h5, h2], by rw [h1]; rfl, .drop ?_⟩
    exact SubO.ofPerm (R := []) (by rw [List.append_nil]; exact remG_perm x g G hf)

/-- What a map of sets tells. -/
def SetsM (m : List (ByteArray × Value)) (rs : List DRule) : Prop :=
  ∀ x, match mget m x with
    | none => ofB rs x = []
    | some v => ofB rs x ≠ [] ∧ ∃ A c, v = .slice A (ofB rs x).length c
def SetsAt (m : List (ByteArray × Value)) (rs : List DRule) (w : World) : Prop :=
  ∀ x A n c, mget m x = some (.slice A n c) → RdSl w A c DRule.enc 11 (ofB rs x)
def NewSets (rs : List DRule) (v : Value) (O : List It) : Prop := ∃ b m S, v = .map (some b) ∧ O = [.fact S (SetsAt m rs), .mp b m] ∧ SetsM m rs

structure SG where
  k : Nat
  G : List SetRow
  mp : List (ByteArray × Value)

theorem sets_spec (Ar Az Al As : Option Addr) (cr cz cl cs : Nat) (a : DSource) (w : World) (hA : RdSource w Ar Az Al As cr cz cl cs a) (hn : a.rules.length ≤ 1000000) :
    Does Tryd.prog 22 [srcV Ar Az Al As cr cz cl cs a] w (NewSets a.rules) := by
  refine Does_of_W Tryd.func22 rfl rfl rfl rfl ?_
  repeat (first | (apply RL_st; rfl; (first | (apply Stp_boxNf; rfl; (focus repeat (first | exact Nf.nil | apply Nf.cons)); intro bk) | (apply Stp_makeMap; intro bk) | (apply Stp_alloc; intro bk) | (apply Stp_buildSliceC; rfl; rfl; rfl; rfl; (focus repeat (first | exact Nf.nil | apply Nf.cons)); intro bk))) | refine walk ?_ | (refine RD_Lw ?_; intro F; (first | (apply Stp_boxNf; rfl; (focus repeat (first | exact Nf.nil | apply Nf.cons)); intro bk) | (apply Stp_makeMap; intro bk) | (apply Stp_alloc; intro bk) | (apply Stp_storeNf; rfl; rfl; (focus repeat' constructor); (focus repeat (first | exact Nf.nil | apply Nf.cons)); rfl; rfl; rfl; (focus repeat' constructor)) | (apply Stp_buildSliceC; rfl; rfl; rfl; rfl; (focus repeat (first | exact Nf.nil | apply Nf.cons)); intro bk) | (apply Stp_mapUpdate; rfl; rfl; rfl; (focus repeat' constructor)) | (apply Stp_pu; exact PuA)); refine ⟨_, EndsA, QFA, ?_⟩) | (apply RD_W; rfl; intro bk))
  refine W_loopF [(3, _), (8, _), (9, _)] [] (fun g : SG => [(10, .int .i64 g.k)]) (fun g => .mp _ g.mp :: g.G.map SetRow.row) (fun g => g.k ≤ a.rules.length ∧ SetsG g.mp g.G (a.rules.take g.k)) (fun g => a.rules.length - g.k) ⟨0, [], []⟩ ⟨rfl, rfl, rfl, rfl, trivial⟩ (.cons .here .nil) ⟨by simp, fun x => ⟨rfl, by simp [ofB]⟩⟩ ?_
  rintro ⟨k, G, mp⟩ ⟨hk, hp⟩
  dsimp only at hk hp ⊢
  rw [List.append_nil]
  repeat (first | (apply RL_st; rfl; (first | (apply Stp_boxNf; rfl; (focus repeat (first | exact Nf.nil | apply Nf.cons)); intro bk) | (apply Stp_makeMap; intro bk) | (apply Stp_alloc; intro bk) | (apply Stp_buildSliceC; rfl; rfl; rfl; rfl; (focus repeat (first | exact Nf.nil | apply Nf.cons)); intro bk))) | refine walk ?_ | (refine RD_Lw ?_; intro F; (first | (apply Stp_boxNf; rfl; (focus repeat (first | exact Nf.nil | apply Nf.cons)); intro bk) | (apply Stp_makeMap; intro bk) | (apply Stp_alloc; intro bk) | (apply Stp_storeNf; rfl; rfl; (focus repeat' constructor); (focus repeat (first | exact Nf.nil | apply Nf.cons)); rfl; rfl; rfl; (focus repeat' constructor)) | (apply Stp_buildSliceC; rfl; rfl; rfl; rfl; (focus repeat (first | exact Nf.nil | apply Nf.cons)); intro bk) | (apply Stp_mapUpdate; rfl; rfl; rfl; (focus repeat' constructor)) | (apply Stp_pu; exact PuA)); refine ⟨_, EndsA, QFA, ?_⟩) | (apply RD_W; rfl; intro bk))
  refine W_cond rfl (fun hc => ?_) (fun hc => ?_)
  · simp only [decide_eq_true_eq, Int.ofNat_lt] at hc
    obtain ⟨hna, hca⟩ := hA.r.rd k _ (List.getElem?_eq_getElem hc)
    have hnb := hna
    have hcb := hca
    have ht := List.take_append_getElem hc
    have hlen := List.length_take_le k a.rules
    generalize a.rules[k] = r at *
    obtain ⟨A, c, m, xs, hm, hx, hg, hO⟩ := hp.front r.name
    have hs := fun A' c' => hp.step r A' c' m xs hm hx
    have hml := hp.len r.name
    rw [ht] at hs
    refine W_nil 46 11 (W_perm (.row (.slice A m c) 46 11 m xs :: .mp bk mp :: (remG G r.name).map SetRow.row) ?_ ?_)
    · obtain ⟨R, hR⟩ := hO.perm
      refine SubO.ofPerm (R := R) ?_
      exact ((List.Perm.swap _ _ _).trans (List.Perm.cons _ hR)).trans (List.Perm.swap _ _ _)
    repeat (first | (apply RL_pu; rfl; (first | (apply Pu_indexAddr; rfl; rfl; omega; omega; (first | exact hna | exact hnb)) | (apply Pu_loadON; rfl; (first | exact hca | exact hcb); rfl) | (apply Pu_loadO1'; rfl; (first | exact hca | exact hcb); rfl) | (apply Pu_loadO1; rfl; (first | exact hca 0 _ rfl | exact hcb 0 _ rfl)) | (apply Pu_lookupC; rfl; rfl; (focus repeat' constructor); exact hg))) | (apply RL_st0; (apply Stp_append; rfl; rfl; (intro A' c'; (focus repeat' constructor)); (intro w' _ hO; exact blkRaw (hO.of (by (focus repeat' constructor)))); rfl; rfl; (simp only [maxLen]; omega); omega; intro A' c' hc1 hc2 hc3)) | (apply RL_st; rfl; (first | (apply Stp_append; rfl; rfl; (intro A' c'; (focus repeat' constructor)); (intro w' _ hO; exact blkRaw (hO.of (by (focus repeat' constructor)))); rfl; rfl; (simp only [maxLen]; omega); omega; intro A' c' hc1 hc2 hc3) | (apply Stp_boxNf; rfl; (focus repeat (first | exact Nf.nil | apply Nf.cons)); intro bk) | (apply Stp_makeMap; intro bk) | (apply Stp_alloc; intro bk) | (apply Stp_buildSliceC; rfl; rfl; rfl; rfl; (focus repeat (first | exact Nf.nil | apply Nf.cons)); intro bk))) | (apply RD_Q; rfl; rfl; decide +kernel; rfl; rfl; (first | (apply Qy_y; rfl; (first | (apply Pu_indexAddr; rfl; rfl; omega; omega; (first | exact hna | exact hnb)) | (apply Pu_loadON; rfl; (first | exact hca | exact hcb); rfl) | (apply Pu_loadO1'; rfl; (first | exact hca | exact hcb); rfl) | (apply Pu_loadO1; rfl; (first | exact hca 0 _ rfl | exact hcb 0 _ rfl)) | (apply Pu_lookupC; rfl; rfl; (focus repeat' constructor); exact hg))) | exact QyA)) | refine walk1 ?_ | (refine RD_Lw ?_; intro F; (first | (apply Stp_append; rfl; rfl; (intro A' c'; (focus repeat' constructor)); (intro w' _ hO; exact blkRaw (hO.of (by (focus repeat' constructor)))); rfl; rfl; (simp only [maxLen]; omega); omega; intro A' c' hc1 hc2 hc3) | (apply Stp_boxNf; rfl; (focus repeat (first | exact Nf.nil | apply Nf.cons)); intro bk) | (apply Stp_makeMap; intro bk) | (apply Stp_alloc; intro bk) | (apply Stp_storeNf; rfl; rfl; (focus repeat' constructor); (focus repeat (first | exact Nf.nil | apply Nf.cons)); rfl; rfl; rfl; (focus repeat' constructor)) | (apply Stp_buildSliceC; rfl; rfl; rfl; rfl; (focus repeat (first | exact Nf.nil | apply Nf.cons)); intro bk) | (apply Stp_mapUpdate; rfl; rfl; rfl; (focus repeat' constructor)) | (apply Stp_pu; first | (apply Pu_indexAddr; rfl; rfl; omega; omega; (first | exact hna | exact hnb)) | (apply Pu_loadON; rfl; (first | exact hca | exact hcb); rfl) | (apply Pu_loadO1'; rfl; (first | exact hca | exact hcb); rfl) | (apply Pu_loadO1; rfl; (first | exact hca 0 _ rfl | exact hcb 0 _ rfl)) | (apply Pu_lookupC; rfl; rfl; (focus repeat' constructor); exact hg) | exact PuA)); refine ⟨_, EndsA, (by repeat (first | exact QF.nil | (apply QF.mk; rfl; rfl; decide +kernel; (first | (apply Qy_y; rfl; (first | (apply Pu_indexAddr; rfl; rfl; omega; omega; (first | exact hna | exact hnb)) | (apply Pu_loadON; rfl; (first | exact hca | exact hcb); rfl) | (apply Pu_loadO1'; rfl; (first | exact hca | exact hcb); rfl) | (apply Pu_loadO1; rfl; (first | exact hca 0 _ rfl | exact hcb 0 _ rfl)) | (apply Pu_lookupC; rfl; rfl; (focus repeat' constructor); exact hg))) | exact QyA)))), ?_⟩) | (apply RD_W; rfl; intro bk))
    refine ⟨⟨k + 1, _, _⟩, (by first | omega | (dsimp only; omega)), ⟨(by first | omega | (dsimp only; omega)), hs A' c'⟩, (by repeat (first | exact trivial | refine ⟨rfl, ?_⟩)), ?_⟩
    rw [List.append_nil]
    refine .cons (by (focus repeat' constructor)) (.cons (by (focus repeat' constructor)) ?_)
    repeat (first | exact .refl _ | apply SubO.drop)
  simp only [decide_eq_false_iff_not, Int.ofNat_lt] at hc
  rw [List.take_of_length_le (by omega)] at hp
  refine W_toFact (G.map SetRow.row) [.mp _ mp] (SetsAt mp a.rules) (SubO.ofPerm (R := []) (by rw [List.append_nil]; exact (List.perm_append_singleton _ _).symm)) (fun w' hi x A n c hx => ?_) ?_
  · have := hp x
    cases hf : fnd G x with
    | none =>
      rw [hf, hx] at this
      cases this.1
    | some g =>
      rw [hf] at this
      obtain ⟨h1, h2, h3, h4, h5⟩ := this
      rw [hx] at h1
      have hr := hi g.row (List.mem_map_of_mem (fnd_mem x g G hf))
      simp only [SetRow.v, Option.some.injEq, Value.slice.injEq] at h1
      simp only [SetRow.row, h4, h5] at hr
      rw [h1.1, h1.2.2, ← h2]
      exact rowRd DRule.len hr
  repeat (first | (apply RL_st; rfl; (first | (apply Stp_boxNf; rfl; (focus repeat (first | exact Nf.nil | apply Nf.cons)); intro bk) | (apply Stp_makeMap; intro bk) | (apply Stp_alloc; intro bk) | (apply Stp_buildSliceC; rfl; rfl; rfl; rfl; (focus repeat (first | exact Nf.nil | apply Nf.cons)); intro bk))) | refine walk ?_ | (refine RD_Lw ?_; intro F; (first | (apply Stp_boxNf; rfl; (focus repeat (first | exact Nf.nil | apply Nf.cons)); intro bk) | (apply Stp_makeMap; intro bk) | (apply Stp_alloc; intro bk) | (apply Stp_storeNf; rfl; rfl; (focus repeat' constructor); (focus repeat (first | exact Nf.nil | apply Nf.cons)); rfl; rfl; rfl; (focus repeat' constructor)) | (apply Stp_buildSliceC; rfl; rfl; rfl; rfl; (focus repeat (first | exact Nf.nil | apply Nf.cons)); intro bk) | (apply Stp_mapUpdate; rfl; rfl; rfl; (focus repeat' constructor)) | (apply Stp_pu; exact PuA)); refine ⟨_, EndsA, QFA, ?_⟩) | (apply RD_W; rfl; intro bk))
  refine ret_1 _ _ (.tmp rfl) (.refl _) ⟨_, mp, _, rfl, rfl, fun x => ?_⟩
  have := hp x
  cases hf : fnd G x with
  | none =>
    rw [hf] at this
    rw [this.1]
    exact this.2
  | some g =>
    rw [hf] at this
    obtain ⟨h1, h2, h3, h4, h5⟩ := this
    rw [h1]
    exact ⟨h2 ▸ h3, g.A, g.c, by rw [SetRow.v, h4, h2]⟩
end Go.Proofs.YtfhjfpikngcknaaDoor
