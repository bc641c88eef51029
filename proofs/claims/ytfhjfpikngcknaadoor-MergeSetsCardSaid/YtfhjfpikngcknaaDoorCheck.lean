/- What merging checks; contract: merge.check. -/
import Derived.Test.YtfhjfpikngcknaaDoorAlike
namespace Go.Proofs.YtfhjfpikngcknaaDoor
open Go Go.RowKit Go.Wk
attribute [local irreducible] W RL Does thenQ blockQ retQ Calls Pu Stp RD Qy Ay


def badSet (a b : DSource) : List ByteArray → Option ByteArray
  | [] => none
  | x :: l => if alikeB a b x then badSet a b l else some x
def badName (a : DSource) : List ByteArray → Nat → Option Nat
  | [], _ => none
  | x :: l, k => if takenB x a then some k else badName a l (k + 1)
/-- The first part of b that is there already, or is not alike. -/
def chkB (a b : DSource) : Option DPlace :=
  match badSet a b (namesB b.rules []) with
  | some x => some ⟨1, firstOf b.rules x 0, 0⟩
  | none => match badName a (b.zones.map (·.name)) 0 with
    | some i => some ⟨2, i, 0⟩
    | none => match badName a (b.links.map (·.name)) 0 with
      | some i => some ⟨3, i, 0⟩
      | none => none

theorem namesB_mem (x : ByteArray) : ∀ (l : List DRule) (acc : List ByteArray), x ∈ namesB l acc → x ∈ acc ∨ ∃ r ∈ l, r.name = x
  | [], acc, h => .inl h
  | r :: l, acc, h => by
    simp only [namesB] at h
    split at h
    · rcases namesB_mem x l acc h with h | ⟨r', h1, h2⟩
      · exact .inl h
      · exact .inr ⟨r', List.mem_cons_of_mem _ h1, h2⟩
    · rcases namesB_mem x l _ h with h | ⟨r', h1, h2⟩
      · rcases List.mem_append.1 h with h | h
        · exact .inl h
        · exact .inr ⟨r, List.mem_cons_self, (List.mem_singleton.1 h).symm⟩
      · exact .inr ⟨r', List.mem_cons_of_mem _ h1, h2⟩
theorem namesB_len : ∀ (l : List DRule) (acc : List ByteArray), (namesB l acc).length ≤ acc.length + l.length
  | [], acc => Nat.le_refl _
  | r :: l, acc => by
    simp only [namesB]
    split
    · have := namesB_len l acc; simp only [List.length_cons]; omega
    · have := namesB_len l (acc ++ [r.name]); simp only [List.length_cons, List.length_append, List.length_nil] at this ⊢; omega
theorem find_first (x : ByteArray) : ∀ (l : List DRule) (k : Nat), (∃ r ∈ l, r.name = x) → findI (fun r => decide (r.name = x)) l k = firstOf l x k
  | [], _, h => by simp at h
  | r :: l, k, h => by
    simp only [findI, firstOf, decide_eq_true_eq]
    split
    · rfl
    · rename_i hn
      refine find_first x l (k + 1) ?_
      obtain ⟨r', h1, h2⟩ := h
      rcases List.mem_cons.1 h1 with rfl | h1
      · exact absurd h2 hn
      · exact ⟨r', h1, h2⟩
theorem SetsM.at_ {m : List (ByteArray × Value)} {rs : List DRule} (h : SetsM m rs) (x : ByteArray) : ∃ A c, (mget m x).getD (.slice none 0 0) = .slice A (ofB rs x).length c ∧ (∀ w, SetsAt m rs w → RdSl w A c DRule.enc 11 (ofB rs x)) ∧ (mget m x).isSome = !decide ((ofB rs x).length = 0) := by
  have := h x
  cases hm : mget m x with
  | none =>
    rw [hm] at this
    rw [this]
    exact ⟨none, 0, rfl, fun _ _ => rdNil _ _ _, rfl⟩
  | some v =>
    rw [hm] at this
    obtain ⟨h1, A, c, rfl⟩ := this
    refine ⟨A, c, rfl, fun w hw => hw x A _ c hm, ?_⟩
    have : (ofB rs x).length ≠ 0 := fun h => h1 (List.length_eq_zero_iff.1 h)
    simp [this]
theorem takenB_eq (x : ByteArray) (a : DSource) : memB x (takenL a) = takenB x a := by
  rw [takenL, takenB]
  generalize a.zones.map (·.name) = l
  induction l with
  | nil => rfl
  | cons y l ih => simp [memB, ih, Bool.or_assoc]

theorem cellOf {w w' : World} {b : Nat} {cs : List Value} {t : TypeId} {v : Value} (h : (It.blk b cs t).sat w) (hw : Below w.heap.size w w') (hv : cs[0]? = some v) : w'.cell? ⟨b, 0, none⟩ = some v := by
  have h1 : w.cell? ⟨b, 0, none⟩ = some v := by rw [blk_cell h, hv]
  exact (hw.cell (World.block_lt_of_cell? w _ h1)).trans h1
def placeOf (o : Option DPlace) : DPlace := o.getD ⟨0, 0, 0⟩
def errOf (o : Option DPlace) : Int := if o.isSome then 10 else 0

theorem check_spec (Ar Az Al As : Option Addr) (cr cz cl cs : Nat) (a : DSource) (Br Bz Bl Bs : Option Addr) (dr dz dl ds : Nat) (b : DSource) (w : World) (hA : RdSource w Ar Az Al As cr cz cl cs a) (hB : RdSource w Br Bz Bl Bs dr dz dl ds b)
    (hn : Fits a) (hm : Fits b) :
    Does Tryd.prog 18 [srcV Ar Az Al As cr cz cl cs a, srcV Br Bz Bl Bs dr dz dl ds b] w (fun v O => v = .tuple #[.agg (placeOf (chkB a b)).enc.toArray, .int .i64 (errOf (chkB a b))] ∧ O = []) := by
  obtain ⟨hnr, hnz, hnl, hns, hne⟩ := hn
  obtain ⟨hmr, hmz, hml, hms, hme⟩ := hm
  generalize hres : chkB a b = res
  refine Does_of_W Tryd.func18 rfl rfl rfl rfl ?_
  repeat (first | (apply RL_st0; (first | (apply Stp_call (h := fun w' hw _ => sets_spec Ar Az Al As cr cz cl cs a w' (hA.up hw) hnr); rfl; rintro v O' ⟨b1, m1, S1, rfl, rfl, hm1⟩) | (apply Stp_call (h := fun w' hw _ => sets_spec Br Bz Bl Bs dr dz dl ds b w' (hB.up hw) hmr); rfl; rintro v O' ⟨b2, m2, S2, rfl, rfl, hm2⟩) | (apply Stp_call (h := fun w' hw _ => names_spec Br Bz Bl Bs dr dz dl ds b w' (hB.up hw) hmr); rfl; rintro v O' ⟨An, cn, rfl, rfl⟩))) | (apply RL_st; rfl; (first | (apply Stp_call (h := fun w' hw _ => sets_spec Ar Az Al As cr cz cl cs a w' (hA.up hw) hnr); rfl; rintro v O' ⟨b1, m1, S1, rfl, rfl, hm1⟩) | (apply Stp_call (h := fun w' hw _ => sets_spec Br Bz Bl Bs dr dz dl ds b w' (hB.up hw) hmr); rfl; rintro v O' ⟨b2, m2, S2, rfl, rfl, hm2⟩) | (apply Stp_call (h := fun w' hw _ => names_spec Br Bz Bl Bs dr dz dl ds b w' (hB.up hw) hmr); rfl; rintro v O' ⟨An, cn, rfl, rfl⟩) | (apply Stp_boxNf; rfl; (focus repeat (first | exact Nf.nil | apply Nf.cons)); intro bk) | (apply Stp_alloc; intro bk))) | refine walk ?_ | (refine RD_G0w ?_; intro F; (first | (apply Stp_call (h := fun w' hw _ => sets_spec Ar Az Al As cr cz cl cs a w' (hA.up hw) hnr); rfl; rintro v O' ⟨b1, m1, S1, rfl, rfl, hm1⟩) | (apply Stp_call (h := fun w' hw _ => sets_spec Br Bz Bl Bs dr dz dl ds b w' (hB.up hw) hmr); rfl; rintro v O' ⟨b2, m2, S2, rfl, rfl, hm2⟩) | (apply Stp_call (h := fun w' hw _ => names_spec Br Bz Bl Bs dr dz dl ds b w' (hB.up hw) hmr); rfl; rintro v O' ⟨An, cn, rfl, rfl⟩)); refine ⟨_, EndsA, SubO.right _ _, ?_⟩) | (refine RD_Lw ?_; intro F; (first | (apply Stp_call (h := fun w' hw _ => sets_spec Ar Az Al As cr cz cl cs a w' (hA.up hw) hnr); rfl; rintro v O' ⟨b1, m1, S1, rfl, rfl, hm1⟩) | (apply Stp_call (h := fun w' hw _ => sets_spec Br Bz Bl Bs dr dz dl ds b w' (hB.up hw) hmr); rfl; rintro v O' ⟨b2, m2, S2, rfl, rfl, hm2⟩) | (apply Stp_call (h := fun w' hw _ => names_spec Br Bz Bl Bs dr dz dl ds b w' (hB.up hw) hmr); rfl; rintro v O' ⟨An, cn, rfl, rfl⟩) | (apply Stp_boxNf; rfl; (focus repeat (first | exact Nf.nil | apply Nf.cons)); intro bk) | (apply Stp_alloc; intro bk) | (apply Stp_storeNf; rfl; rfl; (focus repeat' constructor); (focus repeat (first | exact Nf.nil | apply Nf.cons)); rfl; rfl; rfl; (focus repeat' constructor)) | (apply Stp_pu; exact PuA)); refine ⟨_, EndsA, QFA, ?_⟩) | (apply RD_W; rfl; intro bk))
  have hnl1 : (namesB b.rules []).length ≤ b.rules.length := by simpa using namesB_len b.rules []
  have hmem : ∀ x ∈ namesB b.rules [], findI (fun r => decide (r.name = x)) b.rules 0 = firstOf b.rules x 0 := fun x hx => by
    rcases namesB_mem x _ _ hx with h | h
    · simp at h
    · exact find_first x _ 0 h
  simp only [chkB] at hres
  generalize hnn : namesB b.rules [] = nn at *
  refine W_loopF [(2, _), (3, _), (4, _), (6, _), (7, _), (23, _), (24, _)] [_, _, _, _, _, _, _, _] (fun k : Nat => [(25, .int .i64 k)]) (fun _ => []) (fun k => k ≤ nn.length ∧ badSet a b (nn.drop k) = badSet a b nn) (fun k => nn.length - k) 0 ⟨rfl, rfl, rfl, rfl, rfl, rfl, rfl, rfl, trivial⟩ (.refl _) ⟨by simp, by simp⟩ ?_
  rintro k ⟨hk, hi⟩
  repeat (first | (apply RL_st; rfl; (first | (apply Stp_boxNf; rfl; (focus repeat (first | exact Nf.nil | apply Nf.cons)); intro bk) | (apply Stp_alloc; intro bk))) | refine walk ?_ | (refine RD_Lw ?_; intro F; (first | (apply Stp_boxNf; rfl; (focus repeat (first | exact Nf.nil | apply Nf.cons)); intro bk) | (apply Stp_alloc; intro bk) | (apply Stp_storeNf; rfl; rfl; (focus repeat' constructor); (focus repeat (first | exact Nf.nil | apply Nf.cons)); rfl; rfl; rfl; (focus repeat' constructor)) | (apply Stp_pu; exact PuA)); refine ⟨_, EndsA, QFA, ?_⟩) | (apply RD_W; rfl; intro bk))
  refine W_cond rfl (fun hc => ?_) (fun hc => ?_)
  · simp only [decide_eq_true_eq, Int.ofNat_lt] at hc
    refine W_fact (fun w' _ hO => row_some (hO.of (A := rowS An cn nn) (by (focus repeat' constructor))) (by omega)) (fun hna => ?_)
    have hnb := hna
    rw [drop_cons hc, badSet] at hi
    have hg : (nn.flatMap strEnc)[(k : Int).toNat * 1]? = some (.string nn[k]) := flat_get strEnc.len nn k _ 0 _ (List.getElem?_eq_getElem hc) rfl
    have hx := hmem _ (List.getElem_mem hc)
    generalize nn[k] = x at *
    obtain ⟨A1, c1, hv1, hr1, hs1⟩ := hm1.at_ x
    obtain ⟨A2, c2, hv2, hr2, hs2⟩ := hm2.at_ x
    repeat (first | (apply RL_pu; rfl; (first | (apply Pu_indexAddr; rfl; rfl; omega; omega; (first | exact hna | exact hnb)) | (apply Pu_loadR; rfl; (focus repeat' constructor); exact hg) | (apply Pu_lookupOkC; rfl; rfl; (focus repeat' constructor); exact hv1; exact hs1))) | (apply RL_st; rfl; (first | (apply Stp_boxNf; rfl; (focus repeat (first | exact Nf.nil | apply Nf.cons)); intro bk) | (apply Stp_alloc; intro bk))) | (apply RD_Q; rfl; rfl; decide +kernel; rfl; rfl; (first | (apply Qy_y; rfl; (first | (apply Pu_indexAddr; rfl; rfl; omega; omega; (first | exact hna | exact hnb)) | (apply Pu_loadR; rfl; (focus repeat' constructor); exact hg) | (apply Pu_lookupOkC; rfl; rfl; (focus repeat' constructor); exact hv1; exact hs1))) | exact QyA)) | refine walk1 ?_ | (refine RD_Lw ?_; intro F; (first | (apply Stp_boxNf; rfl; (focus repeat (first | exact Nf.nil | apply Nf.cons)); intro bk) | (apply Stp_alloc; intro bk) | (apply Stp_storeNf; rfl; rfl; (focus repeat' constructor); (focus repeat (first | exact Nf.nil | apply Nf.cons)); rfl; rfl; rfl; (focus repeat' constructor)) | (apply Stp_pu; first | (apply Pu_indexAddr; rfl; rfl; omega; omega; (first | exact hna | exact hnb)) | (apply Pu_loadR; rfl; (focus repeat' constructor); exact hg) | (apply Pu_lookupOkC; rfl; rfl; (focus repeat' constructor); exact hv1; exact hs1) | exact PuA)); refine ⟨_, EndsA, (by repeat (first | exact QF.nil | (apply QF.mk; rfl; rfl; decide +kernel; (first | (apply Qy_y; rfl; (first | (apply Pu_indexAddr; rfl; rfl; omega; omega; (first | exact hna | exact hnb)) | (apply Pu_loadR; rfl; (focus repeat' constructor); exact hg) | (apply Pu_lookupOkC; rfl; rfl; (focus repeat' constructor); exact hv1; exact hs1))) | exact QyA)))), ?_⟩) | (apply RD_W; rfl; intro bk))
    refine RD_split 36 rfl (fun h1 => ?_) (fun h1 => ?_)
    · repeat (first | (apply RL_pu; rfl; (apply Pu_lookupC; rfl; rfl; (focus repeat' constructor); exact hv2)) | (apply RL_st0; (apply Stp_call (h := fun w' hw hO => equalR_spec A1 A2 c1 c2 (ofB a.rules x) (ofB b.rules x) w' (hr1 w' (fact_at (hO.of (A := .fact S1 _) (by (focus repeat' constructor))))) (hr2 w' (fact_at (hO.of (A := .fact S2 _) (by (focus repeat' constructor)))))); rfl; rintro v O' ⟨rfl, rfl⟩)) | (apply RL_st; rfl; (first | (apply Stp_call (h := fun w' hw hO => equalR_spec A1 A2 c1 c2 (ofB a.rules x) (ofB b.rules x) w' (hr1 w' (fact_at (hO.of (A := .fact S1 _) (by (focus repeat' constructor))))) (hr2 w' (fact_at (hO.of (A := .fact S2 _) (by (focus repeat' constructor)))))); rfl; rintro v O' ⟨rfl, rfl⟩) | (apply Stp_boxNf; rfl; (focus repeat (first | exact Nf.nil | apply Nf.cons)); intro bk) | (apply Stp_alloc; intro bk))) | (apply RD_Q; rfl; rfl; decide +kernel; rfl; rfl; (first | (apply Qy_y; rfl; (apply Pu_lookupC; rfl; rfl; (focus repeat' constructor); exact hv2)) | exact QyA)) | refine walk1 ?_ | (refine RD_G0w ?_; intro F; (apply Stp_call (h := fun w' hw hO => equalR_spec A1 A2 c1 c2 (ofB a.rules x) (ofB b.rules x) w' (hr1 w' (fact_at (hO.of (A := .fact S1 _) (by (focus repeat' constructor))))) (hr2 w' (fact_at (hO.of (A := .fact S2 _) (by (focus repeat' constructor)))))); rfl; rintro v O' ⟨rfl, rfl⟩); refine ⟨_, EndsA, SubO.right _ _, ?_⟩) | (refine RD_Lw ?_; intro F; (first | (apply Stp_call (h := fun w' hw hO => equalR_spec A1 A2 c1 c2 (ofB a.rules x) (ofB b.rules x) w' (hr1 w' (fact_at (hO.of (A := .fact S1 _) (by (focus repeat' constructor))))) (hr2 w' (fact_at (hO.of (A := .fact S2 _) (by (focus repeat' constructor)))))); rfl; rintro v O' ⟨rfl, rfl⟩) | (apply Stp_boxNf; rfl; (focus repeat (first | exact Nf.nil | apply Nf.cons)); intro bk) | (apply Stp_alloc; intro bk) | (apply Stp_storeNf; rfl; rfl; (focus repeat' constructor); (focus repeat (first | exact Nf.nil | apply Nf.cons)); rfl; rfl; rfl; (focus repeat' constructor)) | (apply Stp_pu; first | (apply Pu_lookupC; rfl; rfl; (focus repeat' constructor); exact hv2) | exact PuA)); refine ⟨_, EndsA, (by repeat (first | exact QF.nil | (apply QF.mk; rfl; rfl; decide +kernel; (first | (apply Qy_y; rfl; (apply Pu_lookupC; rfl; rfl; (focus repeat' constructor); exact hv2)) | exact QyA)))), ?_⟩) | (apply RD_W; rfl; intro bk))
      refine RD_split 43 rfl (fun h2 => ?_) (fun h2 => ?_)
      · rw [if_neg (by simp only [Bool.not_eq_true', decide_eq_false_iff_not] at h1 h2; simp [alikeB, h1, h2])] at hi
        repeat (first | (apply RL_st0; (apply Stp_call (h := fun w' hw hO => indexFunc_spec Br dr b.rules 35 [] [.pointer (some ⟨bk, 0, none⟩)] (fun r => decide (r.name = x)) w' (hB.up hw).r (fun r w'' hw2 => checkFn_spec r x ⟨bk, 0, none⟩ w'' (cellOf (cs := [.string x]) (hO.of (by (focus repeat' constructor))) hw2 rfl))); rfl; rintro v O' ⟨rfl, rfl⟩)) | (apply RL_st; rfl; (first | (apply Stp_call (h := fun w' hw hO => indexFunc_spec Br dr b.rules 35 [] [.pointer (some ⟨bk, 0, none⟩)] (fun r => decide (r.name = x)) w' (hB.up hw).r (fun r w'' hw2 => checkFn_spec r x ⟨bk, 0, none⟩ w'' (cellOf (cs := [.string x]) (hO.of (by (focus repeat' constructor))) hw2 rfl))); rfl; rintro v O' ⟨rfl, rfl⟩) | (apply Stp_boxNf; rfl; (focus repeat (first | exact Nf.nil | apply Nf.cons)); intro bk) | (apply Stp_alloc; intro bk))) | refine walk ?_ | (refine RD_G0w ?_; intro F; (apply Stp_call (h := fun w' hw hO => indexFunc_spec Br dr b.rules 35 [] [.pointer (some ⟨bk, 0, none⟩)] (fun r => decide (r.name = x)) w' (hB.up hw).r (fun r w'' hw2 => checkFn_spec r x ⟨bk, 0, none⟩ w'' (cellOf (cs := [.string x]) (hO.of (by (focus repeat' constructor))) hw2 rfl))); rfl; rintro v O' ⟨rfl, rfl⟩); refine ⟨_, EndsA, SubO.right _ _, ?_⟩) | (refine RD_Lw ?_; intro F; (first | (apply Stp_call (h := fun w' hw hO => indexFunc_spec Br dr b.rules 35 [] [.pointer (some ⟨bk, 0, none⟩)] (fun r => decide (r.name = x)) w' (hB.up hw).r (fun r w'' hw2 => checkFn_spec r x ⟨bk, 0, none⟩ w'' (cellOf (cs := [.string x]) (hO.of (by (focus repeat' constructor))) hw2 rfl))); rfl; rintro v O' ⟨rfl, rfl⟩) | (apply Stp_boxNf; rfl; (focus repeat (first | exact Nf.nil | apply Nf.cons)); intro bk) | (apply Stp_alloc; intro bk) | (apply Stp_storeNf; rfl; rfl; (focus repeat' constructor); (focus repeat (first | exact Nf.nil | apply Nf.cons)); rfl; rfl; rfl; (focus repeat' constructor)) | (apply Stp_pu; exact PuA)); refine ⟨_, EndsA, QFA, ?_⟩) | (apply RD_W; rfl; intro bk))
        refine ret_2 _ _ [] (.cellB rfl (by (focus repeat' constructor)) rfl rfl) (.tmp rfl) .nil ⟨?_, rfl⟩
        rw [← hi] at hres
        subst hres
        dsimp only
        rw [← hx]
        rfl
      repeat (first | (apply RL_st0; (first | (apply Stp_call (h := fun w' hw _ => contains_spec As cs a.shifts x w' (hA.up hw).s); rfl; rintro v O' ⟨rfl, rfl⟩) | (apply Stp_call (h := fun w' hw _ => contains_spec Bs ds b.shifts x w' (hB.up hw).s); rfl; rintro v O' ⟨rfl, rfl⟩))) | (apply RL_st; rfl; (first | (apply Stp_call (h := fun w' hw _ => contains_spec As cs a.shifts x w' (hA.up hw).s); rfl; rintro v O' ⟨rfl, rfl⟩) | (apply Stp_call (h := fun w' hw _ => contains_spec Bs ds b.shifts x w' (hB.up hw).s); rfl; rintro v O' ⟨rfl, rfl⟩) | (apply Stp_boxNf; rfl; (focus repeat (first | exact Nf.nil | apply Nf.cons)); intro bk) | (apply Stp_alloc; intro bk))) | refine walk ?_ | (refine RD_G0w ?_; intro F; (first | (apply Stp_call (h := fun w' hw _ => contains_spec As cs a.shifts x w' (hA.up hw).s); rfl; rintro v O' ⟨rfl, rfl⟩) | (apply Stp_call (h := fun w' hw _ => contains_spec Bs ds b.shifts x w' (hB.up hw).s); rfl; rintro v O' ⟨rfl, rfl⟩)); refine ⟨_, EndsA, SubO.right _ _, ?_⟩) | (refine RD_Lw ?_; intro F; (first | (apply Stp_call (h := fun w' hw _ => contains_spec As cs a.shifts x w' (hA.up hw).s); rfl; rintro v O' ⟨rfl, rfl⟩) | (apply Stp_call (h := fun w' hw _ => contains_spec Bs ds b.shifts x w' (hB.up hw).s); rfl; rintro v O' ⟨rfl, rfl⟩) | (apply Stp_boxNf; rfl; (focus repeat (first | exact Nf.nil | apply Nf.cons)); intro bk) | (apply Stp_alloc; intro bk) | (apply Stp_storeNf; rfl; rfl; (focus repeat' constructor); (focus repeat (first | exact Nf.nil | apply Nf.cons)); rfl; rfl; rfl; (focus repeat' constructor)) | (apply Stp_pu; exact PuA)); refine ⟨_, EndsA, QFA, ?_⟩) | (apply RD_W; rfl; intro bk))
      refine W_cond rfl (fun h3 => ?_) (fun h3 => ?_)
      · rw [if_neg (by simp only [Bool.not_eq_true', decide_eq_false_iff_not, Bool.not_eq_false', decide_eq_true_eq] at h1 h2 h3; simp [alikeB, h1, h3])] at hi
        repeat (first | (apply RL_st0; (apply Stp_call (h := fun w' hw hO => indexFunc_spec Br dr b.rules 35 [] [.pointer (some ⟨bk, 0, none⟩)] (fun r => decide (r.name = x)) w' (hB.up hw).r (fun r w'' hw2 => checkFn_spec r x ⟨bk, 0, none⟩ w'' (cellOf (cs := [.string x]) (hO.of (by (focus repeat' constructor))) hw2 rfl))); rfl; rintro v O' ⟨rfl, rfl⟩)) | (apply RL_st; rfl; (first | (apply Stp_call (h := fun w' hw hO => indexFunc_spec Br dr b.rules 35 [] [.pointer (some ⟨bk, 0, none⟩)] (fun r => decide (r.name = x)) w' (hB.up hw).r (fun r w'' hw2 => checkFn_spec r x ⟨bk, 0, none⟩ w'' (cellOf (cs := [.string x]) (hO.of (by (focus repeat' constructor))) hw2 rfl))); rfl; rintro v O' ⟨rfl, rfl⟩) | (apply Stp_boxNf; rfl; (focus repeat (first | exact Nf.nil | apply Nf.cons)); intro bk) | (apply Stp_alloc; intro bk))) | refine walk ?_ | (refine RD_G0w ?_; intro F; (apply Stp_call (h := fun w' hw hO => indexFunc_spec Br dr b.rules 35 [] [.pointer (some ⟨bk, 0, none⟩)] (fun r => decide (r.name = x)) w' (hB.up hw).r (fun r w'' hw2 => checkFn_spec r x ⟨bk, 0, none⟩ w'' (cellOf (cs := [.string x]) (hO.of (by (focus repeat' constructor))) hw2 rfl))); rfl; rintro v O' ⟨rfl, rfl⟩); refine ⟨_, EndsA, SubO.right _ _, ?_⟩) | (refine RD_Lw ?_; intro F; (first | (apply Stp_call (h := fun w' hw hO => indexFunc_spec Br dr b.rules 35 [] [.pointer (some ⟨bk, 0, none⟩)] (fun r => decide (r.name = x)) w' (hB.up hw).r (fun r w'' hw2 => checkFn_spec r x ⟨bk, 0, none⟩ w'' (cellOf (cs := [.string x]) (hO.of (by (focus repeat' constructor))) hw2 rfl))); rfl; rintro v O' ⟨rfl, rfl⟩) | (apply Stp_boxNf; rfl; (focus repeat (first | exact Nf.nil | apply Nf.cons)); intro bk) | (apply Stp_alloc; intro bk) | (apply Stp_storeNf; rfl; rfl; (focus repeat' constructor); (focus repeat (first | exact Nf.nil | apply Nf.cons)); rfl; rfl; rfl; (focus repeat' constructor)) | (apply Stp_pu; exact PuA)); refine ⟨_, EndsA, QFA, ?_⟩) | (apply RD_W; rfl; intro bk))
        refine ret_2 _ _ [] (.cellB rfl (by (focus repeat' constructor)) rfl rfl) (.tmp rfl) .nil ⟨?_, rfl⟩
        rw [← hi] at hres
        subst hres
        dsimp only
        rw [← hx]
        rfl
      rw [if_pos (by simp only [Bool.not_eq_true', decide_eq_false_iff_not, Bool.not_eq_false', decide_eq_true_eq] at h1 h2 h3; simp [alikeB, h2, h3])] at hi
      repeat (first | (apply RL_st; rfl; (first | (apply Stp_boxNf; rfl; (focus repeat (first | exact Nf.nil | apply Nf.cons)); intro bk) | (apply Stp_alloc; intro bk))) | refine walk ?_ | (refine RD_Lw ?_; intro F; (first | (apply Stp_boxNf; rfl; (focus repeat (first | exact Nf.nil | apply Nf.cons)); intro bk) | (apply Stp_alloc; intro bk) | (apply Stp_storeNf; rfl; rfl; (focus repeat' constructor); (focus repeat (first | exact Nf.nil | apply Nf.cons)); rfl; rfl; rfl; (focus repeat' constructor)) | (apply Stp_pu; exact PuA)); refine ⟨_, EndsA, QFA, ?_⟩) | (apply RD_W; rfl; intro bk))
      exact ⟨k + 1, (by first | omega | (dsimp only; omega)), ⟨(by first | omega | (dsimp only; omega)), hi⟩, (by repeat (first | exact trivial | refine ⟨rfl, ?_⟩)), (by first | exact .refl _ | focus repeat (first | exact SubO.nil | (apply SubO.cons; focus repeat' constructor)))⟩
    rw [if_pos (by simp only [Bool.not_eq_false', decide_eq_true_eq] at h1; simp [alikeB, h1])] at hi
    repeat (first | (apply RL_st; rfl; (first | (apply Stp_boxNf; rfl; (focus repeat (first | exact Nf.nil | apply Nf.cons)); intro bk) | (apply Stp_alloc; intro bk))) | refine walk ?_ | (refine RD_Lw ?_; intro F; (first | (apply Stp_boxNf; rfl; (focus repeat (first | exact Nf.nil | apply Nf.cons)); intro bk) | (apply Stp_alloc; intro bk) | (apply Stp_storeNf; rfl; rfl; (focus repeat' constructor); (focus repeat (first | exact Nf.nil | apply Nf.cons)); rfl; rfl; rfl; (focus repeat' constructor)) | (apply Stp_pu; exact PuA)); refine ⟨_, EndsA, QFA, ?_⟩) | (apply RD_W; rfl; intro bk))
    exact ⟨k + 1, (by first | omega | (dsimp only; omega)), ⟨(by first | omega | (dsimp only; omega)), hi⟩, (by repeat (first | exact trivial | refine ⟨rfl, ?_⟩)), (by first | exact .refl _ | focus repeat (first | exact SubO.nil | (apply SubO.cons; focus repeat' constructor)))⟩
  simp only [decide_eq_false_iff_not, Int.ofNat_lt] at hc
  rw [List.drop_eq_nil_of_le (by omega), badSet] at hi
  rw [← hi] at hres
  clear hk hc hi
  dsimp only at hres
  repeat (first | (apply RL_st0; (apply Stp_call (h := fun w' hw _ => mnames_spec Ar Az Al As cr cz cl cs a w' (hA.up hw) hnz hnl); rfl; rintro v O' ⟨b3, m3, rfl, rfl, hm3⟩)) | (apply RL_st; rfl; (first | (apply Stp_call (h := fun w' hw _ => mnames_spec Ar Az Al As cr cz cl cs a w' (hA.up hw) hnz hnl); rfl; rintro v O' ⟨b3, m3, rfl, rfl, hm3⟩) | (apply Stp_boxNf; rfl; (focus repeat (first | exact Nf.nil | apply Nf.cons)); intro bk) | (apply Stp_alloc; intro bk))) | refine walk ?_ | (refine RD_G0w ?_; intro F; (apply Stp_call (h := fun w' hw _ => mnames_spec Ar Az Al As cr cz cl cs a w' (hA.up hw) hnz hnl); rfl; rintro v O' ⟨b3, m3, rfl, rfl, hm3⟩); refine ⟨_, EndsA, SubO.right _ _, ?_⟩) | (refine RD_Lw ?_; intro F; (first | (apply Stp_call (h := fun w' hw _ => mnames_spec Ar Az Al As cr cz cl cs a w' (hA.up hw) hnz hnl); rfl; rintro v O' ⟨b3, m3, rfl, rfl, hm3⟩) | (apply Stp_boxNf; rfl; (focus repeat (first | exact Nf.nil | apply Nf.cons)); intro bk) | (apply Stp_alloc; intro bk) | (apply Stp_storeNf; rfl; rfl; (focus repeat' constructor); (focus repeat (first | exact Nf.nil | apply Nf.cons)); rfl; rfl; rfl; (focus repeat' constructor)) | (apply Stp_pu; exact PuA)); refine ⟨_, EndsA, QFA, ?_⟩) | (apply RD_W; rfl; intro bk))
  refine W_loopF [(3, _), (4, _), (13, _), (65, _), (66, _)] [_, _, _, _, _, _, _, _, _] (fun k : Nat => [(67, .int .i64 k)]) (fun _ => []) (fun k => k ≤ b.zones.length ∧ badName a ((b.zones.drop k).map (·.name)) k = badName a (b.zones.map (·.name)) 0) (fun k => b.zones.length - k) 0 ⟨rfl, rfl, rfl, rfl, rfl, rfl, trivial⟩ (.refl _) ⟨by simp, by simp⟩ ?_
  rintro k ⟨hk, hi⟩
  repeat (first | (apply RL_st; rfl; (first | (apply Stp_boxNf; rfl; (focus repeat (first | exact Nf.nil | apply Nf.cons)); intro bk) | (apply Stp_alloc; intro bk))) | refine walk ?_ | (refine RD_Lw ?_; intro F; (first | (apply Stp_boxNf; rfl; (focus repeat (first | exact Nf.nil | apply Nf.cons)); intro bk) | (apply Stp_alloc; intro bk) | (apply Stp_storeNf; rfl; rfl; (focus repeat' constructor); (focus repeat (first | exact Nf.nil | apply Nf.cons)); rfl; rfl; rfl; (focus repeat' constructor)) | (apply Stp_pu; exact PuA)); refine ⟨_, EndsA, QFA, ?_⟩) | (apply RD_W; rfl; intro bk))
  refine W_cond rfl (fun hc => ?_) (fun hc => ?_)
  · simp only [decide_eq_true_eq, Int.ofNat_lt] at hc
    obtain ⟨hna, cs1, ⟨Ae, ce, _, rfl⟩, hca⟩ := hB.z k _ (List.getElem?_eq_getElem hc)
    have hnb := hna
    have hcb := hca
    rw [drop_cons hc, List.map_cons, badName] at hi
    generalize b.zones[k] = z at *
    repeat (first | (apply RL_pu; rfl; (first | (apply Pu_indexAddr; rfl; rfl; omega; omega; (first | exact hna | exact hnb)) | (apply Pu_loadON; rfl; (first | exact hca | exact hcb); rfl) | (apply Pu_loadO1'; rfl; (first | exact hca | exact hcb); rfl) | (apply Pu_loadO1; rfl; (first | exact hca 0 _ rfl | exact hcb 0 _ rfl)) | (apply Pu_lookupC; rfl; rfl; (focus repeat' constructor); exact (hm3 _).trans (congrArg Value.bool (takenB_eq _ _))))) | (apply RL_st; rfl; (first | (apply Stp_boxNf; rfl; (focus repeat (first | exact Nf.nil | apply Nf.cons)); intro bk) | (apply Stp_alloc; intro bk))) | (apply RD_Q; rfl; rfl; decide +kernel; rfl; rfl; (first | (apply Qy_y; rfl; (first | (apply Pu_indexAddr; rfl; rfl; omega; omega; (first | exact hna | exact hnb)) | (apply Pu_loadON; rfl; (first | exact hca | exact hcb); rfl) | (apply Pu_loadO1'; rfl; (first | exact hca | exact hcb); rfl) | (apply Pu_loadO1; rfl; (first | exact hca 0 _ rfl | exact hcb 0 _ rfl)) | (apply Pu_lookupC; rfl; rfl; (focus repeat' constructor); exact (hm3 _).trans (congrArg Value.bool (takenB_eq _ _))))) | exact QyA)) | refine walk1 ?_ | (refine RD_Lw ?_; intro F; (first | (apply Stp_boxNf; rfl; (focus repeat (first | exact Nf.nil | apply Nf.cons)); intro bk) | (apply Stp_alloc; intro bk) | (apply Stp_storeNf; rfl; rfl; (focus repeat' constructor); (focus repeat (first | exact Nf.nil | apply Nf.cons)); rfl; rfl; rfl; (focus repeat' constructor)) | (apply Stp_pu; first | (apply Pu_indexAddr; rfl; rfl; omega; omega; (first | exact hna | exact hnb)) | (apply Pu_loadON; rfl; (first | exact hca | exact hcb); rfl) | (apply Pu_loadO1'; rfl; (first | exact hca | exact hcb); rfl) | (apply Pu_loadO1; rfl; (first | exact hca 0 _ rfl | exact hcb 0 _ rfl)) | (apply Pu_lookupC; rfl; rfl; (focus repeat' constructor); exact (hm3 _).trans (congrArg Value.bool (takenB_eq _ _))) | exact PuA)); refine ⟨_, EndsA, (by repeat (first | exact QF.nil | (apply QF.mk; rfl; rfl; decide +kernel; (first | (apply Qy_y; rfl; (first | (apply Pu_indexAddr; rfl; rfl; omega; omega; (first | exact hna | exact hnb)) | (apply Pu_loadON; rfl; (first | exact hca | exact hcb); rfl) | (apply Pu_loadO1'; rfl; (first | exact hca | exact hcb); rfl) | (apply Pu_loadO1; rfl; (first | exact hca 0 _ rfl | exact hcb 0 _ rfl)) | (apply Pu_lookupC; rfl; rfl; (focus repeat' constructor); exact (hm3 _).trans (congrArg Value.bool (takenB_eq _ _))))) | exact QyA)))), ?_⟩) | (apply RD_W; rfl; intro bk))
    refine W_cond rfl (fun h3 => ?_) (fun h3 => ?_)
    · rw [if_pos h3] at hi
      repeat (first | (apply RL_st; rfl; (first | (apply Stp_boxNf; rfl; (focus repeat (first | exact Nf.nil | apply Nf.cons)); intro bk) | (apply Stp_alloc; intro bk))) | refine walk ?_ | (refine RD_Lw ?_; intro F; (first | (apply Stp_boxNf; rfl; (focus repeat (first | exact Nf.nil | apply Nf.cons)); intro bk) | (apply Stp_alloc; intro bk) | (apply Stp_storeNf; rfl; rfl; (focus repeat' constructor); (focus repeat (first | exact Nf.nil | apply Nf.cons)); rfl; rfl; rfl; (focus repeat' constructor)) | (apply Stp_pu; exact PuA)); refine ⟨_, EndsA, QFA, ?_⟩) | (apply RD_W; rfl; intro bk))
      refine ret_2 _ _ [] (.cellB rfl (by (focus repeat' constructor)) rfl rfl) (.tmp rfl) .nil ⟨?_, rfl⟩
      rw [← hi] at hres
      subst hres
      rfl
    rw [if_neg (by rw [h3]; simp)] at hi
    repeat (first | (apply RL_st; rfl; (first | (apply Stp_boxNf; rfl; (focus repeat (first | exact Nf.nil | apply Nf.cons)); intro bk) | (apply Stp_alloc; intro bk))) | refine walk ?_ | (refine RD_Lw ?_; intro F; (first | (apply Stp_boxNf; rfl; (focus repeat (first | exact Nf.nil | apply Nf.cons)); intro bk) | (apply Stp_alloc; intro bk) | (apply Stp_storeNf; rfl; rfl; (focus repeat' constructor); (focus repeat (first | exact Nf.nil | apply Nf.cons)); rfl; rfl; rfl; (focus repeat' constructor)) | (apply Stp_pu; exact PuA)); refine ⟨_, EndsA, QFA, ?_⟩) | (apply RD_W; rfl; intro bk))
    exact ⟨k + 1, (by first | omega | (dsimp only; omega)), ⟨(by first | omega | (dsimp only; omega)), hi⟩, (by repeat (first | exact trivial | refine ⟨rfl, ?_⟩)), (by first | exact .refl _ | focus repeat (first | exact SubO.nil | (apply SubO.cons; focus repeat' constructor)))⟩
  simp only [decide_eq_false_iff_not, Int.ofNat_lt] at hc
  rw [List.drop_eq_nil_of_le (by omega), List.map_nil, badName] at hi
  rw [← hi] at hres
  clear hk hc hi
  dsimp only at hres
  repeat (first | (apply RL_st; rfl; (first | (apply Stp_boxNf; rfl; (focus repeat (first | exact Nf.nil | apply Nf.cons)); intro bk) | (apply Stp_alloc; intro bk))) | refine walk ?_ | (refine RD_Lw ?_; intro F; (first | (apply Stp_boxNf; rfl; (focus repeat (first | exact Nf.nil | apply Nf.cons)); intro bk) | (apply Stp_alloc; intro bk) | (apply Stp_storeNf; rfl; rfl; (focus repeat' constructor); (focus repeat (first | exact Nf.nil | apply Nf.cons)); rfl; rfl; rfl; (focus repeat' constructor)) | (apply Stp_pu; exact PuA)); refine ⟨_, EndsA, QFA, ?_⟩) | (apply RD_W; rfl; intro bk))
  refine W_loopF [(3, _), (4, _), (13, _), (80, _), (81, _)] [_, _, _, _, _, _, _, _, _] (fun k : Nat => [(82, .int .i64 k)]) (fun _ => []) (fun k => k ≤ b.links.length ∧ badName a ((b.links.drop k).map (·.name)) k = badName a (b.links.map (·.name)) 0) (fun k => b.links.length - k) 0 ⟨rfl, rfl, rfl, rfl, rfl, rfl, trivial⟩ (.refl _) ⟨by simp, by simp⟩ ?_
  rintro k ⟨hk, hi⟩
  repeat (first | (apply RL_st; rfl; (first | (apply Stp_boxNf; rfl; (focus repeat (first | exact Nf.nil | apply Nf.cons)); intro bk) | (apply Stp_alloc; intro bk))) | refine walk ?_ | (refine RD_Lw ?_; intro F; (first | (apply Stp_boxNf; rfl; (focus repeat (first | exact Nf.nil | apply Nf.cons)); intro bk) | (apply Stp_alloc; intro bk) | (apply Stp_storeNf; rfl; rfl; (focus repeat' constructor); (focus repeat (first | exact Nf.nil | apply Nf.cons)); rfl; rfl; rfl; (focus repeat' constructor)) | (apply Stp_pu; exact PuA)); refine ⟨_, EndsA, QFA, ?_⟩) | (apply RD_W; rfl; intro bk))
  refine W_cond rfl (fun hc => ?_) (fun hc => ?_)
  · simp only [decide_eq_true_eq, Int.ofNat_lt] at hc
    obtain ⟨hna, hca⟩ := hB.l.rd k _ (List.getElem?_eq_getElem hc)
    have hnb := hna
    have hcb := hca
    rw [drop_cons hc, List.map_cons, badName] at hi
    generalize b.links[k] = z at *
    repeat (first | (apply RL_pu; rfl; (first | (apply Pu_indexAddr; rfl; rfl; omega; omega; (first | exact hna | exact hnb)) | (apply Pu_loadON; rfl; (first | exact hca | exact hcb); rfl) | (apply Pu_loadO1'; rfl; (first | exact hca | exact hcb); rfl) | (apply Pu_loadO1; rfl; (first | exact hca 0 _ rfl | exact hcb 0 _ rfl)) | (apply Pu_lookupC; rfl; rfl; (focus repeat' constructor); exact (hm3 _).trans (congrArg Value.bool (takenB_eq _ _))))) | (apply RL_st; rfl; (first | (apply Stp_boxNf; rfl; (focus repeat (first | exact Nf.nil | apply Nf.cons)); intro bk) | (apply Stp_alloc; intro bk))) | (apply RD_Q; rfl; rfl; decide +kernel; rfl; rfl; (first | (apply Qy_y; rfl; (first | (apply Pu_indexAddr; rfl; rfl; omega; omega; (first | exact hna | exact hnb)) | (apply Pu_loadON; rfl; (first | exact hca | exact hcb); rfl) | (apply Pu_loadO1'; rfl; (first | exact hca | exact hcb); rfl) | (apply Pu_loadO1; rfl; (first | exact hca 0 _ rfl | exact hcb 0 _ rfl)) | (apply Pu_lookupC; rfl; rfl; (focus repeat' constructor); exact (hm3 _).trans (congrArg Value.bool (takenB_eq _ _))))) | exact QyA)) | refine walk1 ?_ | (refine RD_Lw ?_; intro F; (first | (apply Stp_boxNf; rfl; (focus repeat (first | exact Nf.nil | apply Nf.cons)); intro bk) | (apply Stp_alloc; intro bk) | (apply Stp_storeNf; rfl; rfl; (focus repeat' constructor); (focus repeat (first | exact Nf.nil | apply Nf.cons)); rfl; rfl; rfl; (focus repeat' constructor)) | (apply Stp_pu; first | (apply Pu_indexAddr; rfl; rfl; omega; omega; (first | exact hna | exact hnb)) | (apply Pu_loadON; rfl; (first | exact hca | exact hcb); rfl) | (apply Pu_loadO1'; rfl; (first | exact hca | exact hcb); rfl) | (apply Pu_loadO1; rfl; (first | exact hca 0 _ rfl | exact hcb 0 _ rfl)) | (apply Pu_lookupC; rfl; rfl; (focus repeat' constructor); exact (hm3 _).trans (congrArg Value.bool (takenB_eq _ _))) | exact PuA)); refine ⟨_, EndsA, (by repeat (first | exact QF.nil | (apply QF.mk; rfl; rfl; decide +kernel; (first | (apply Qy_y; rfl; (first | (apply Pu_indexAddr; rfl; rfl; omega; omega; (first | exact hna | exact hnb)) | (apply Pu_loadON; rfl; (first | exact hca | exact hcb); rfl) | (apply Pu_loadO1'; rfl; (first | exact hca | exact hcb); rfl) | (apply Pu_loadO1; rfl; (first | exact hca 0 _ rfl | exact hcb 0 _ rfl)) | (apply Pu_lookupC; rfl; rfl; (focus repeat' constructor); exact (hm3 _).trans (congrArg Value.bool (takenB_eq _ _))))) | exact QyA)))), ?_⟩) | (apply RD_W; rfl; intro bk))
    refine W_cond rfl (fun h3 => ?_) (fun h3 => ?_)
    · rw [if_pos h3] at hi
      repeat (first | (apply RL_st; rfl; (first | (apply Stp_boxNf; rfl; (focus repeat (first | exact Nf.nil | apply Nf.cons)); intro bk) | (apply Stp_alloc; intro bk))) | refine walk ?_ | (refine RD_Lw ?_; intro F; (first | (apply Stp_boxNf; rfl; (focus repeat (first | exact Nf.nil | apply Nf.cons)); intro bk) | (apply Stp_alloc; intro bk) | (apply Stp_storeNf; rfl; rfl; (focus repeat' constructor); (focus repeat (first | exact Nf.nil | apply Nf.cons)); rfl; rfl; rfl; (focus repeat' constructor)) | (apply Stp_pu; exact PuA)); refine ⟨_, EndsA, QFA, ?_⟩) | (apply RD_W; rfl; intro bk))
      refine ret_2 _ _ [] (.cellB rfl (by (focus repeat' constructor)) rfl rfl) (.tmp rfl) .nil ⟨?_, rfl⟩
      rw [← hi] at hres
      subst hres
      rfl
    rw [if_neg (by rw [h3]; simp)] at hi
    repeat (first | (apply RL_st; rfl; (first | (apply Stp_boxNf; rfl; (focus repeat (first | exact Nf.nil | apply Nf.cons)); intro bk) | (apply Stp_alloc; intro bk))) | refine walk ?_ | (refine RD_Lw ?_; intro F; (first | (apply Stp_boxNf; rfl; (focus repeat (first | exact Nf.nil | apply Nf.cons)); intro bk) | (apply Stp_alloc; intro bk) | (apply Stp_storeNf; rfl; rfl; (focus repeat' constructor); (focus repeat (first | exact Nf.nil | apply Nf.cons)); rfl; rfl; rfl; (focus repeat' constructor)) | (apply Stp_pu; exact PuA)); refine ⟨_, EndsA, QFA, ?_⟩) | (apply RD_W; rfl; intro bk))
    exact ⟨k + 1, (by first | omega | (dsimp only; omega)), ⟨(by first | omega | (dsimp only; omega)), hi⟩, (by repeat (first | exact trivial | refine ⟨rfl, ?_⟩)), (by first | exact .refl _ | focus repeat (first | exact SubO.nil | (apply SubO.cons; focus repeat' constructor)))⟩
  simp only [decide_eq_false_iff_not, Int.ofNat_lt] at hc
  rw [List.drop_eq_nil_of_le (by omega), List.map_nil, badName] at hi
  rw [← hi] at hres
  subst hres
  repeat (first | (apply RL_st; rfl; (first | (apply Stp_boxNf; rfl; (focus repeat (first | exact Nf.nil | apply Nf.cons)); intro bk) | (apply Stp_alloc; intro bk))) | refine walk ?_ | (refine RD_Lw ?_; intro F; (first | (apply Stp_boxNf; rfl; (focus repeat (first | exact Nf.nil | apply Nf.cons)); intro bk) | (apply Stp_alloc; intro bk) | (apply Stp_storeNf; rfl; rfl; (focus repeat' constructor); (focus repeat (first | exact Nf.nil | apply Nf.cons)); rfl; rfl; rfl; (focus repeat' constructor)) | (apply Stp_pu; exact PuA)); refine ⟨_, EndsA, QFA, ?_⟩) | (apply RD_W; rfl; intro bk))
  exact ret_2 _ _ [] (.cellB rfl (by (focus repeat' constructor)) rfl rfl) (.tmp rfl) .nil ⟨rfl, rfl⟩
end Go.Proofs.YtfhjfpikngcknaaDoor
