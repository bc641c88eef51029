/- Contract: slices.DeleteFunc at rules. Contract: ruleset.last. Contract: ruleset.Check. Contracts: checked.Add, until.seconds, Check, Nominal. -/
import Derived.Test.YtonjepladadmhaaGreatDoorR24
import Derived.Test.YtonjepladadmhaaGreatDoorR17
import Derived.Test.YtonjepladadmhaaGreatDoorR18
set_option maxHeartbeats 4000000
set_option linter.unusedVariables false
set_option linter.unusedSimpArgs false
namespace Go.Wk
open Go Go.RowKit
theorem zeros_one (z : Array Value) (k : Nat) (h : z.toList.all Value.oneCell' = true) (h0 : 0 < z.size) : (Builtin.zeroCells z k).toList.all Value.oneCell' = true := by
 rw [List.all_eq_true] at h ⊢
 intro x hx
 unfold Builtin.zeroCells at hx
 rw [Array.toList_map, List.mem_map] at hx
 obtain ⟨i, hi, rfl⟩ := hx
 have hlt := Nat.mod_lt i h0
 rw [getElem!_pos z (i % z.size) hlt]
 exact h _ (by simp)
theorem lay_outA : ∀ (vs xs : List Value) (j : Nat), xs.length ≤ j → lay xs j vs = xs
 | [], _, _, _ => rfl
 | v :: r, xs, j, h => by rw [lay, List.set_eq_of_length_le h, lay_outA r xs (j + 1) (by omega)]
theorem lay_at : ∀ (vs pre cs post : List Value), cs.length = vs.length → lay (pre ++ cs ++ post) pre.length vs = pre ++ vs ++ post
 | [], pre, cs, post, h => by
  have : cs = [] := List.eq_nil_of_length_eq_zero h
  rw [this]; rfl
 | v :: r, pre, [], post, h => by simp at h
 | v :: r, pre, c :: cs, post, h => by
  have := lay_at r (pre ++ [v]) cs post (by simpa using h)
  rw [lay]
  rw [show (pre ++ c :: cs ++ post).set pre.length v = pre ++ [v] ++ cs ++ post by simp]
  rw [List.length_append] at this
  simpa using this
end Go.Wk
namespace Go.Proofs.YtonjepladadmhaaGreatDoor
open Go Go.RowKit Go.Wk
attribute [local irreducible] W RL Does thenQ blockQ retQ Calls Pu Stp RD Qy Ay DoesIn nameB
theorem findI_cases {α : Type} (p : α → Bool) : ∀ (l : List α) (k : Nat), (findI p l k = -1 ∧ l.filter (fun r => !p r) = l) ∨ ∃ i, findI p l k = ((k + i : Nat) : Int) ∧ i < l.length ∧ (l.take (i + 1)).filter (fun r => !p r) = l.take i
 | [], k => .inl ⟨rfl, rfl⟩
 | x :: l, k => by
  rw [findI]
  by_cases h : p x = true
  ·rw [if_pos h]
   exact .inr ⟨0, rfl, by simp, by simp [h]⟩
  ·rw [if_neg h]
   rcases findI_cases p l (k + 1) with ⟨h1, h2⟩ | ⟨i, h1, h2, h3⟩
   ·exact .inl ⟨h1, by rw [List.filter_cons, if_pos (by simp [h]), h2]⟩
   ·refine .inr ⟨i + 1, by rw [h1]; omega, by simpa using h2, ?_⟩
    rw [List.take_succ_cons, List.filter_cons, if_pos (by simp [h]), h3, List.take_succ_cons]
theorem rowR_rd {base : Nat} {A : Option Addr} {c : Nat} {l : List DRule} {w : World} {O R : List It} (h : Holds base O w) (hp : Pick (rowR A c l) O R) (hlc : l.length ≤ c) (hcm : c ≤ maxLen) : RdSl w A c DRule.enc 11 l :=
 ⟨hlc, hcm, fun k x hk => by
  have hs := h.sat _ (hp.perm.mem_iff.2 List.mem_cons_self)
  have hlt := (List.getElem?_eq_some_iff.1 hk).1
  refine ⟨row_some hs (by omega), fun j v hj => ?_⟩
  rw [add_of_add]
  exact (row_cell hs (flat_get DRule.len l k x j v hk hj)).2⟩
instance zeroRule : ZeroV Tryz.prog 27 (.agg #[.string ByteArray.empty, .int .i64 0, .int .i64 0, .int .i64 0, .int .i64 0, .int .i64 0, .int .i64 0, .int .i64 0, .int .i64 0, .int .i64 0, .string ByteArray.empty]) := ⟨by kernel_rfl⟩
structure DG where
 j : Nat
 C : List DRule
set_option maxHeartbeats 2000000 in
theorem delete_spec (A : Option Addr) (c : Nat) (l : List DRule) (f : FuncId) [Body Tryz.prog f] (p : DRule → Bool) (wr : World) (hn : l.length ≤ 1000000) (hlc : l.length ≤ c) (hcm : c ≤ maxLen) (hAn : 0 < l.length → A ≠ none) (hf : ∀ r w', Does Tryz.prog f [.agg (DRule.enc r).toArray] w' (fun v O => v = .bool (p r) ∧ O = [])) :
  DoesIn Tryz.prog 196 [.slice A l.length c, .func (.func f) #[] #[]] wr [rowR A c l] (fun v O => v = .slice A (l.filter fun r => !p r).length c ∧ O = [rowR A c (l.filter fun r => !p r)]) := by
 have hidx := fun w' (hH : Holds wr.heap.size [rowR A c l] w') => indexFunc_spec A c l f [] [] p w' (rowR_rd hH .here hlc hcm) fun r w2 _ => hf r w2
 unfold maxLen at hcm
 generalize hres : (l.filter fun r => !p r) = res
 rcases findI_cases p l 0 with ⟨h1, h2⟩ | ⟨i, h1, h2, h3⟩
 ·rw [h1] at hidx
  rw [h2] at hres
  subst hres
  refine DoesIn_of_W Tryz.func196 rfl rfl rfl rfl ?_
  repeat (first | (refine js ?_; (first | (apply Stp_call (h := fun w' _ hH => hidx w' hH); rfl; rintro v O' ⟨rfl, rfl⟩) | (refine bx ?_; intro bk))) | refine walk ?_)
  exact ret_1 _ _ (.tmp rfl) (.refl _) ⟨rfl, rfl⟩
 ·rw [h1, Nat.zero_add] at hidx
  have hA := hAn (by omega)
  obtain ⟨ad, rfl⟩ : ∃ ad, A = some ad := by
   cases A with
   | none => exact absurd rfl hA
   | some ad => exact ⟨ad, rfl⟩
  clear hA hAn
  refine DoesIn_of_W Tryz.func196 rfl rfl rfl rfl ?_
  repeat (first | (refine js ?_; (first | (apply Stp_call (h := fun w' _ hH => hidx w' hH); rfl; rintro v O' ⟨rfl, rfl⟩) | (refine bx ?_; intro bk))) | refine walkB ?_)
  refine W_post (fun fr' O' => Go.Wk.Sub [(0, .slice (some ad) l.length c), (5, .int .i64 res.length)] fr' ∧ SubO [.row (.slice (some ad) l.length c) 27 11 l.length ((res ++ l.drop res.length).flatMap DRule.enc)] O') ?_ ?_
  ·apply W_block
   refine W_loopF [(0, _), (1, _)] [] (fun g : DG => [(5, .int .i64 g.C.length), (6, .int .i64 g.j)]) (fun g => [.row (.slice (some ad) l.length c) 27 11 l.length ((g.C ++ l.drop g.C.length).flatMap DRule.enc)])
    (fun g => g.C = (l.take g.j).filter (fun r => !p r) ∧ g.C.length + 1 ≤ g.j ∧ g.j ≤ l.length) (fun g => l.length - g.j) ⟨i + 1, l.take i⟩ (by dsimp only; rw [List.length_take, Nat.min_eq_left (by omega)]; exact ⟨rfl, rfl, rfl, rfl, trivial⟩) (by dsimp only; rw [List.length_take, Nat.min_eq_left (by omega), List.take_append_drop]; exact .refl _) ⟨h3.symm, by show (l.take i).length + 1 ≤ i + 1; rw [List.length_take]; omega, by show i + 1 ≤ l.length; omega⟩ ?_
   rintro ⟨j, C⟩ ⟨hC, hCj, hj⟩
   dsimp only at hC hCj hj ⊢
   have hLl : (C ++ l.drop C.length).length = l.length := by rw [List.length_append, List.length_drop]; omega
   repeat (first | (refine js ?_; (refine bx ?_; intro bk)) | refine walk ?_)
   refine W_cond rfl (fun g => ?_) (fun g => ?_)
   ·have hjl : j < l.length := by simpa using g
    have hx : ∀ q v, (DRule.enc l[j])[q]? = some v → ((C ++ l.drop C.length).flatMap DRule.enc)[(j : Int).toNat * 11 + q]? = some v := fun q v hv => by
     refine flat_get DRule.len _ j l[j] q v ?_ hv
     rw [List.getElem?_append_right (by omega), List.getElem?_drop, show C.length + (j - C.length) = j from by omega, List.getElem?_eq_getElem hjl]
    have hst : (l.take (j + 1)).filter (fun r => !p r) = C ++ (if p l[j] then [] else [l[j]]) := by
     rw [List.take_succ_eq_append_getElem hjl, List.filter_append, ← hC]
     by_cases hp : p l[j] = true
     ·simp [hp]
     ·simp [hp]
    have hput : lay ((C ++ l.drop C.length).flatMap DRule.enc) (C.length * 11) (DRule.enc l[j]) = ((C ++ [l[j]]) ++ l.drop (C.length + 1)).flatMap DRule.enc := by
     have hlt : C.length < l.length := by omega
     rw [drop_cons hlt, show C ++ l[C.length] :: l.drop (C.length + 1) = C ++ [l[C.length]] ++ l.drop (C.length + 1) by simp, List.flatMap_append, List.flatMap_append, List.flatMap_append, List.flatMap_append, List.flatMap_singleton, List.flatMap_singleton]
     have := lay_at (DRule.enc l[j]) (C.flatMap DRule.enc) (DRule.enc l[C.length]) ((l.drop (C.length + 1)).flatMap DRule.enc) rfl
     rw [flat_len DRule.len] at this
     exact this
    generalize l[j] = r at *
    obtain ⟨nm, fr, to, mo, ⟨dk, dw, dd⟩, ⟨cs, cb⟩, sv, le⟩ := r
    have hfr := hf ⟨nm, fr, to, mo, ⟨dk, dw, dd⟩, ⟨cs, cb⟩, sv, le⟩
    generalize p ⟨nm, fr, to, mo, ⟨dk, dw, dd⟩, ⟨cs, cb⟩, sv, le⟩ = b at *
    simp only [DRule.enc] at hx hput hfr
    repeat (first | (apply RL_pu; rfl; (first | (apply Pu_indexAddr; rfl; rfl; omega; omega; nofun) | (apply Pu_loadRN; rfl; (focus repeat' constructor); exact hx; rfl))) | (refine js ?_; (first | (apply Stp_callV (f := f) (us := []) (cs := []) (vs := [.agg #[.string nm, .int .i64 fr, .int .i64 to, .int .i64 mo, .int .i64 dk, .int .i64 dw, .int .i64 dd, .int .i64 cs, .int .i64 cb, .int .i64 sv, .string le]]) (h := fun w' hw _ => hfr w'); rfl; rfl; rintro v O' ⟨rfl, rfl⟩) | (refine bx ?_; intro bk))) | refine walk1 ?_)
    refine W_cond rfl (fun g2 => ?_) (fun g2 => ?_)
    ·have hb : b = false := by simpa using g2
     rw [hb, if_neg (by decide)] at hst
     have hfl : ((C ++ l.drop C.length).flatMap DRule.enc).length = l.length * 11 := by rw [flat_len DRule.len, hLl]
     repeat (first | (apply RL_pu; rfl; (apply Pu_indexAddr; rfl; rfl; omega; omega; nofun)) | (refine js ?_; (first | (apply Stp_storeR (vs := [.string nm, .int .i64 fr, .int .i64 to, .int .i64 mo, .int .i64 dk, .int .i64 dw, .int .i64 dd, .int .i64 cs, .int .i64 cb, .int .i64 sv, .string le]); rfl; rfl; (focus repeat' constructor); rfl; rfl; rfl; (rw [hfl]; omega); decide; exact hput) | (refine bx ?_; intro bk))) | refine walk1 ?_)
     refine ⟨⟨j + 1, _⟩, OA, ⟨hst.symm, by dsimp only; rw [List.length_append, List.length_singleton]; omega, OA⟩, ?_, ?_⟩
     ·dsimp only
      rw [List.length_append, List.length_singleton]
      exact SFA
     ·dsimp only
      rw [List.length_append, List.length_singleton]
      exact SOA
    ·have hb : b = true := by simpa using g2
     rw [hb, if_pos rfl, List.append_nil] at hst
     repeat (first | (refine js ?_; (refine bx ?_; intro bk)) | refine walk ?_)
     exact ⟨⟨j + 1, C⟩, OA, ⟨hst.symm, OA, OA⟩, SFA, SOA⟩
   ·have hjl : j = l.length := by
     have := of_decide_eq_false g
     omega
    rw [hjl, List.take_length, hres] at hC
    subst hC
    repeat (first | (refine js ?_; (refine bx ?_; intro bk)) | refine walk ?_)
    exact ⟨rfl, SFA, SOA⟩
  rintro fr' O' ⟨hf1, hO⟩
  apply thenQ_n
  refine W_sub hf1 hO ?_
  clear hf1 hO fr' O'
  have hrl : res.length < l.length := by
   have h4 : l.take (i + 1) ++ l.drop (i + 1) = l := List.take_append_drop _ _
   have h5 : res = l.take i ++ (l.drop (i + 1)).filter (fun r => !p r) := by rw [← hres, ← h3, ← List.filter_append, h4]
   have h6 := List.length_filter_le (fun r => !p r) (l.drop (i + 1))
   rw [List.length_drop] at h6
   have h7 := congrArg List.length h5
   rw [List.length_append, List.length_take] at h7
   omega
  have hLl : ((res ++ l.drop res.length).flatMap DRule.enc).length = l.length * 11 := by rw [flat_len DRule.len, List.length_append, List.length_drop]; congr 1; omega
  have htk : ∀ vs, (lay ((res ++ l.drop res.length).flatMap DRule.enc) ((res.length : Int).toNat * 11) vs).take (res.length * 11) = res.flatMap DRule.enc := fun vs => by
   rw [lay_take, List.flatMap_append, List.take_left' (by rw [flat_len DRule.len])]
   exact lay_outA _ _ _ (by rw [flat_len DRule.len]; omega)
  repeat (first | ((apply RL_st0; apply Stp_clearR (p := (res.length : Int).toNat * 11) (k := l.length - (res.length : Int).toNat); rfl; (focus repeat' constructor); exact zeros_one _ _ rfl (by decide); omega; (rw [hLl]; omega)); refine RL_shrink (m := l.length) res.length (by omega) (by repeat' constructor) ?_; rw [htk]) | (apply RL_pu; rfl; (apply Pu_sliceL; rfl; rfl; omega; omega; omega)) | (refine js ?_; (refine bx ?_; intro bk)) | refine walk1 ?_)
  exact ret_1 _ _ (.tmp rfl) (.refl _) ⟨rfl, rfl⟩
end Go.Proofs.YtonjepladadmhaaGreatDoor
namespace Go.Proofs.YtonjepladadmhaaGreatDoor
open Go Go.RowKit Go.Wk
attribute [local irreducible] W RL Does thenQ blockQ retQ Calls Pu Stp RD Qy Ay DoesIn nameB posixB
def NewRow (l : List DRule) (v : Value) (O : List It) : Prop := ∃ A c, v = .slice A l.length c ∧ O = [rowR A c l] ∧ l.length ≤ c ∧ c ≤ maxLen ∧ (0 < l.length → A ≠ none)
theorem cloneRow_spec (A : Option Addr) (c : Nat) (x : List DRule) (w : World) (hA : RdSl w A c DRule.enc 11 x) (hn : x.length ≤ 1000000) :
  Does Tryz.prog 197 [.slice A x.length c] w (NewRow x) :=
 (cloneR_spec A c x w hA hn).monoH fun v O base w' ⟨A, c, h1, h2⟩ hH => by
  subst h2
  obtain ⟨A2, c2, e1, h3, h4, h5, _⟩ := row_form (hH.sat _ List.mem_cons_self)
  injection e1 with e2 _ e3
  subst e2 e3
  exact ⟨_, ⟨A, c, h1, rfl, h3, h4, h5⟩, hH⟩
theorem PuRsD0 {G : Prop} (h : G := by (first | (apply Pu_indexAddr; rfl; rfl; (first | decide | omega); (first | decide | omega); nofun) | (apply Pu_loadRN; rfl; (focus repeat' constructor); exact hx1; rfl) | (apply Pu_loadRN; rfl; (focus repeat' constructor); exact hx2; rfl))) : G := h
theorem QyRsD0 {G : Prop} (h : G := by first | (apply Qy_y; rfl; exact PuRsD0) | exact QyA) : G := h
theorem QFRsD0 {G : Prop} (h : G := by repeat (first | exact QF.nil | (apply QF.mk; rfl; rfl; decide +kernel; exact QyRsD0))) : G := h
theorem last_spec (A : Option Addr) (c : Nat) (l : List DRule) (w : World) (hA : RdSl w A c DRule.enc 11 l) (hn : l.length ≤ 1000000) :
  Does Tryz.prog 161 [.slice A l.length c] w (fun v O => v = .bool (lastB l) ∧ O = []) := by
 have hfl : (l.filter fun r => !(!decide (r.to = 1048576))) = l.filter fun r => decide (r.to = 1048576) := by
  congr 1; funext r; rw [Bool.not_not]
 have hlen := List.length_filter_le (fun r : DRule => decide (r.to = 1048576)) l
 obtain ⟨res, hres⟩ : ∃ res, lastB l = res := ⟨_, rfl⟩
 rw [hres]
 unfold lastB at hres
 refine Does_of_W Tryz.func161 rfl rfl rfl rfl ?_
 repeat (first | refine walk ?_ | (refine jg ?_; (try intro F); (first | (apply Stp_call (h := fun w' hw _ => cloneRow_spec A c l w' (hA.up hw) hn); rfl; rintro v O' ⟨B, d, rfl, rfl, hb1, hb2, hb3⟩) | (refine bx ?_; intro bk) | (refine stA ?_)); refine fin ?_) | (refine jn ?_; (try intro F); (first | (refine bx ?_; intro bk) | (refine stA ?_) | (apply Stp_pu; exact PuA)); refine fin ?_) | (apply RD_W; rfl; intro bk))
 have hdel := delete_spec B d l 198 (fun r => !decide (r.to = 1048576)) w hn hb1 hb2 hb3 last1_spec
 rw [hfl] at hdel
 generalize (l.filter fun r => decide (r.to = 1048576)) = F at *
 repeat (first | refine walk ?_ | (refine RD_G0w ?_; intro F; (apply Stp_callIn (h := hdel); rfl; exact .refl _; rintro v O' ⟨rfl, rfl⟩); refine ⟨_, EndsA, SubO.right _ _, ?_⟩) | (refine jn ?_; (try intro F); (first | (apply Stp_callIn (h := hdel); rfl; exact .refl _; rintro v O' ⟨rfl, rfl⟩) | (refine bx ?_; intro bk) | (refine stA ?_) | (apply Stp_pu; exact PuA)); refine fin ?_) | (apply RD_W; rfl; intro bk))
 rcases F with _ | ⟨a, _ | ⟨b, _ | ⟨x, F⟩⟩⟩
 ·repeat (first | refine walk ?_ | (refine jn ?_; (try intro F); (first | (refine bx ?_; intro bk) | (refine stA ?_) | (apply Stp_pu; exact PuA)); refine fin ?_) | (apply RD_W; rfl; intro bk))
  exact ret_1 _ [] (.tmp rfl) .nil ⟨by rw [← hres], rfl⟩
 ·repeat (first | refine walk ?_ | (refine jn ?_; (try intro F); (first | (refine bx ?_; intro bk) | (refine stA ?_) | (apply Stp_pu; exact PuA)); refine fin ?_) | (apply RD_W; rfl; intro bk))
  exact ret_1 _ [] (.tmp rfl) .nil ⟨by rw [← hres], rfl⟩
 ·have hB := hb3 (by simp at hlen; omega)
  obtain ⟨ad, rfl⟩ : ∃ ad, B = some ad := by
   cases B with
   | none => exact absurd rfl hB
   | some ad => exact ⟨ad, rfl⟩
  dsimp only at hres
  have hpa := posix_spec a
  have hpb := posix_spec b
  generalize posixB a = pa at *
  generalize posixB b = pb at *
  have hx1 : ∀ q v, (DRule.enc a)[q]? = some v → ([a, b].flatMap DRule.enc)[(0 : Int).toNat * 11 + q]? = some v := fun q v hv => flat_get DRule.len _ 0 a q v rfl hv
  have hx2 : ∀ q v, (DRule.enc b)[q]? = some v → ([a, b].flatMap DRule.enc)[(1 : Int).toNat * 11 + q]? = some v := fun q v hv => flat_get DRule.len _ 1 b q v rfl hv
  simp only [rowR, List.length_cons, List.length_nil, Nat.zero_add, Nat.reduceAdd]
  generalize hxs : [a, b].flatMap DRule.enc = xs at *
  clear hxs
  obtain ⟨nm, fr, to, mo, ⟨dk, dw, dd⟩, ⟨cs, cb⟩, sv, le⟩ := a
  obtain ⟨nm2, fr2, to2, mo2, ⟨dk2, dw2, dd2⟩, ⟨cs2, cb2⟩, sv2, le2⟩ := b
  simp only [DRule.enc] at hx1 hx2 hpa hpb
  repeat (first | (apply RL_pu; rfl; exact PuRsD0) | (apply RD_Q; rfl; rfl; decide +kernel; rfl; rfl; exact QyRsD0) | refine walk1 ?_ | (refine jn ?_; (try intro F); (first | (refine bx ?_; intro bk) | (refine stA ?_) | (apply Stp_pu; first | exact PuRsD0 | exact PuA)); first | refine ⟨_, EndsA, QFRsD0, ?_⟩ | refine fin ?_) | (apply RD_W; rfl; intro bk))
  repeat' (first | (refine js ?_; (first | (refine callE (fun w' _ => hpa w') ?_) | (refine callE (fun w' _ => hpb w') ?_) | (refine bx ?_; intro bk))) | refine walk ?_ | (refine RD_G0w ?_; intro F; (first | (refine callE (fun w' _ => hpa w') ?_) | (refine callE (fun w' _ => hpb w') ?_)); refine ⟨_, EndsA, SubO.right _ _, ?_⟩) | (refine RD_Lw ?_; intro F; (first | (refine callE (fun w' _ => hpa w') ?_) | (refine callE (fun w' _ => hpb w') ?_) | (refine bx ?_; intro bk) | (refine stA ?_) | (apply Stp_pu; exact PuA)); refine ⟨_, EndsA, QFA, ?_⟩) | (apply RD_W; rfl; intro bk) | refine und ?_ | (refine RL_gsplit rfl rfl rfl (fun hc => ?_) (fun hc => ?_)) | (refine RD_gsplit rfl rfl rfl (fun hc => ?_) (fun hc => ?_)) | (refine W_cond rfl (fun hc => ?_) (fun hc => ?_)))
  all_goals clear hx1 hx2 hpa hpb hdel hA hb1 hb2
  all_goals subst hres
  all_goals exact clo1
 ·repeat (first | refine walk ?_ | (refine jn ?_; (try intro F); (first | (refine bx ?_; intro bk) | (refine stA ?_) | (apply Stp_pu; exact PuA)); refine fin ?_) | (apply RD_W; rfl; intro bk))
  exact ret_1 _ [] (.tmp rfl) .nil ⟨by rw [← hres], rfl⟩
end Go.Proofs.YtonjepladadmhaaGreatDoor
namespace Go.Proofs.YtonjepladadmhaaGreatDoor
open Go Go.RowKit Go.Wk
attribute [local irreducible] W RL Does thenQ blockQ retQ Calls Pu Stp RD Qy Ay DoesIn nameB posixB RW
def tailR (l : List DRule) : Nat × Int :=
 if (l.any fun r => decide (r.save = 0)) = false ∨ (leastD l < 0 ∧ (l.any fun r => !decide (r.save = 0) && !decide (r.save = leastD l)) = true) then (0, 14)
 else if lastB l = false then (0, 16)
 else (0, 0)
def outR (l : List DRule) : Option (Nat × Int) → Nat × Int
 | some x => x
 | none => tailR l
theorem rsChk_eq (l : List DRule) : rsChk l = outR l (firstBad (leastD l) l 0) := by
 unfold rsChk outR tailR
 cases firstBad (leastD l) l 0 <;> rfl
theorem ruleErr_eq (r : DRule) (least : Int) : ruleErr r least = if condB r least 0 = false then 3 else if condB r least 1 = false then 12 else if condB r least 2 = false then 3 else if condB r least 3 = false then 3 else if condB r least 4 = false then 14 else if condB r least 5 = false then 15 else 0 := by
 by_cases h : r.to < r.from_
 ·have e : condB r least 1 = false := decide_eq_false (by omega)
  rw [e, if_pos rfl, ruleErr, if_pos h]; rfl
 ·have e : condB r least 1 = true := decide_eq_true (by omega)
  rw [e, if_neg (show ¬ true = false by decide), ruleErr, if_neg h]; rfl
theorem leastD_go (l : List DRule) : ∀ m : Int, -4611686018427387904 ≤ m → m ≤ 4611686018427387904 → (∀ r ∈ l, -4611686018427387904 ≤ r.save ∧ r.save ≤ 4611686018427387904) → -4611686018427387904 ≤ l.foldl (fun m r => min m r.save) m ∧ l.foldl (fun m r => min m r.save) m ≤ 4611686018427387904 := by
 induction l with
 | nil => intro m h1 h2 _; exact ⟨h1, h2⟩
 | cons r l ih =>
  intro m h1 h2 h
  have hr := h r List.mem_cons_self
  exact ih (min m r.save) (by omega) (by omega) fun x hx => h x (List.mem_cons_of_mem _ hx)
theorem leastD_go64 (l : List DRule) : ∀ m : Int, -9223372036854775808 ≤ m → m ≤ 0 → (∀ r ∈ l, -9223372036854775808 ≤ r.save ∧ r.save ≤ 9223372036854775807) → -9223372036854775808 ≤ l.foldl (fun m r => min m r.save) m ∧ l.foldl (fun m r => min m r.save) m ≤ 0 := by
 induction l with
 | nil => intro m h1 h2 _; exact ⟨h1, h2⟩
 | cons r l ih =>
  intro m h1 h2 h
  have hr := h r List.mem_cons_self
  exact ih (min m r.save) (by omega) (by omega) fun x hx => h x (List.mem_cons_of_mem _ hx)
def condFn (j : Nat) : FuncId := if j = 0 then 299 else if j = 1 then 301 else if j = 2 then 302 else if j = 3 then 304 else if j = 4 then 306 else 307
def errN (j : Nat) : Int := if j = 0 then 3 else if j = 1 then 12 else if j = 2 then 3 else if j = 3 then 3 else if j = 4 then 14 else 15
def errFrom (b : Nat → Bool) : Nat → Int
 | 0 => 0
 | n + 1 => if b (5 - n) = false then errN (5 - n) else errFrom b n
theorem ruleErr_from (r : DRule) (least : Int) : ruleErr r least = errFrom (condB r least) 6 := ruleErr_eq r least
theorem cond_cells (j : Nat) (hj : j < 6) : (condCells.drop (((j : Int)).toNat * 2)).take 2 = [fnV (condFn j), .int .i64 (errN j)] := by
 have h : j = 0 ∨ j = 1 ∨ j = 2 ∨ j = 3 ∨ j = 4 ∨ j = 5 := by omega
 rcases h with rfl | rfl | rfl | rfl | rfl | rfl <;> rfl
theorem conds_spec (j : Nat) (hj : j < 6) (r : DRule) (least : Int) (w : World) (hG : Glob w) (hl : -9223372036854775808 ≤ least ∧ least ≤ 0) (hs : (r.letter.size : Int) ≤ 9223372036854775807) :
  Does Tryz.prog (condFn j) [.agg (DRule.enc r).toArray, .int .i64 least] w (fun v O => v = .bool (condB r least j) ∧ O = []) := by
 have h : j = 0 ∨ j = 1 ∨ j = 2 ∨ j = 3 ∨ j = 4 ∨ j = 5 := by omega
 rcases h with rfl | rfl | rfl | rfl | rfl | rfl
 ·exact cond1_spec r least w
 ·exact cond2_spec r least w
 ·exact cond3_spec r least w hG
 ·exact cond4_spec r least hl w
 ·exact cond5_spec r least w
 ·exact cond6_spec r least hs w
theorem condFn_body (j : Nat) : Body Tryz.prog (condFn j) := by
 unfold condFn
 split
 ·infer_instance
 split
 ·infer_instance
 split
 ·infer_instance
 split
 ·infer_instance
 split <;> infer_instance
theorem PuRsE0 {G : Prop} (h : G := by (first | exact PuI | (apply Pu_loadON; rfl; exact hG.con; rfl))) : G := h
theorem QyRsE0 {G : Prop} (h : G := by first | (apply Qy_y; rfl; exact PuRsE0) | exact QyA) : G := h
theorem QFRsE0 {G : Prop} (h : G := by repeat (first | exact QF.nil | (apply QF.mk; rfl; rfl; decide +kernel; exact QyRsE0))) : G := h
theorem PuRsE1 {G : Prop} (h : G := by (apply Pu_indexArrN; rfl; rfl; omega; omega; exact hcc)) : G := h
theorem QyRsE1 {G : Prop} (h : G := by first | (apply Qy_y; rfl; exact PuRsE1) | exact QyA) : G := h
theorem QFRsE1 {G : Prop} (h : G := by repeat (first | exact QF.nil | (apply QF.mk; rfl; rfl; decide +kernel; exact QyRsE1))) : G := h
theorem rscheck_spec (A : Option Addr) (c : Nat) (l : List DRule) (w : World) (hG : Glob w) (hA : RdSl w A c DRule.enc 11 l) (hn : l.length ≤ 1000000) (hR : ∀ r ∈ l, (-9223372036854775808 ≤ r.save ∧ r.save ≤ 9223372036854775807) ∧ (r.letter.size : Int) ≤ 9223372036854775807) :
  Does Tryz.prog 107 [.slice A l.length c] w (fun v O => v = .tuple #[.int .i64 (rsChk l).1, .int .i64 (rsChk l).2] ∧ O = []) := by
 have hls := leastD_go64 l 0 (by omega) (by omega) fun r hr => (hR r hr).1
 have hlast := fun w' (hw : Bel w.heap.size w w') => last_spec A c l w' (hA.up hw) hn
 have hany1 := fun w' (hw : Bel w.heap.size w w') => containsFn_spec A c l 158 [] [] (fun r => decide (r.save = 0)) w' (hA.up hw) fun r w2 _ => chk1_spec r w2
 have hany2 := fun (b : Nat) w' (hw : Bel w.heap.size w w') (hc : CellsAt w' ⟨b, 0, none⟩ [.int .i64 (leastD l)]) => containsFn_spec A c l 159 [] [.pointer (some ⟨b, 0, none⟩)] (fun r => !decide (r.save = 0) && !decide (r.save = leastD l)) w' (hA.up hw) fun r w2 h2 => chk2_spec r ⟨b, 0, none⟩ (leastD l) w2 ((hc.up h2 (Nat.le_refl _)) 0 _ rfl)
 have hlst := fun w' (hw : Bel w.heap.size w w') => least_spec A c l w' (hA.up hw)
 obtain ⟨res, hres⟩ : ∃ res, rsChk l = res := ⟨_, rfl⟩
 rw [hres]
 rw [rsChk_eq] at hres
 have htl : ∃ t, tailR l = t := ⟨_, rfl⟩
 change -9223372036854775808 ≤ leastD l ∧ leastD l ≤ 0 at hls
 refine Does_of_W Tryz.func107 rfl rfl rfl rfl ?_
 repeat (first | refine walk ?_ | (refine jg ?_; (try intro F); (first | (refine callE hlst ?_) | (refine bx ?_; intro bk) | (refine stA ?_)); refine fin ?_) | (refine jn ?_; (try intro F); (first | (refine bx ?_; intro bk) | (refine stA ?_) | (apply Stp_pu; exact PuA)); refine fin ?_) | (apply RD_W; rfl; intro bk))
 refine W_loopF [(0, .slice A l.length c), (4, .pointer (some ⟨bk, 0, none⟩)), (13, .slice A l.length c), (14, .int .i64 l.length)] [.blk bk [.int .i64 (leastD l)] 2] (fun k : Nat => [(15, .int .i64 k)]) (fun _ => []) (fun k => k ≤ l.length ∧ outR l (firstBad (leastD l) (l.drop k) k) = res) (fun k => l.length - k) 0 SFA SOA ⟨Nat.zero_le _, hres⟩ ?_
 rintro k ⟨hk, hi⟩
 repeat (first | refine walk ?_ | (refine jn ?_; (try intro F); (first | (refine bx ?_; intro bk) | (refine stA ?_) | (apply Stp_pu; exact PuA)); refine fin ?_) | (apply RD_W; rfl; intro bk))
 refine W_cond rfl (fun h => ?_) (fun h => ?_)
 ·have hlt : k < l.length := by simpa using h
  obtain ⟨hna, hca⟩ := hA.rd k _ (List.getElem?_eq_getElem hlt)
  have hRr := hR l[k] (List.getElem_mem hlt)
  rw [drop_cons hlt, firstBad, ruleErr_from] at hi
  generalize l[k] = r at *
  have hcs := fun j (hj : j < 6) w' (hw : Bel w.heap.size w w') => conds_spec j hj r (leastD l) w' (hG.up hw) hls hRr.2
  generalize condB r (leastD l) = bb at *
  obtain ⟨nm, fr, to, mo, ⟨dk, dw, dd⟩, ⟨cs, cb⟩, sv, le⟩ := r
  simp only [DRule.enc] at hca hcs
  obtain ⟨b4, hb4⟩ : ∃ b4, bk = b4 := ⟨_, rfl⟩
  rw [hb4] at *
  clear hb4 bk
  repeat (first | (apply RL_pu; rfl; exact PuRsE0) | (apply RD_Q; rfl; rfl; decide +kernel; rfl; rfl; exact QyRsE0) | refine walk1 ?_ | (refine jn ?_; (try intro F); (first | (refine bx ?_; intro bk) | (refine stA ?_) | (apply Stp_pu; first | exact PuRsE0 | exact PuA)); first | refine ⟨_, EndsA, QFRsE0, ?_⟩ | refine fin ?_) | (apply RD_W; rfl; intro bk))
  refine W_loopF [(20, .agg condCells.toArray), (6, .pointer (some ⟨bk, 0, none⟩)), (5, .int .i64 k), (15, .int .i64 k), (0, .slice A l.length c), (4, .pointer (some ⟨b4, 0, none⟩)), (13, .slice A l.length c), (14, .int .i64 l.length)] [.blk bk [.string nm, .int .i64 fr, .int .i64 to, .int .i64 mo, .int .i64 dk, .int .i64 dw, .int .i64 dd, .int .i64 cs, .int .i64 cb, .int .i64 sv, .string le] 27, .blk b4 [.int .i64 (leastD l)] 2] (fun j : Nat => [(21, .int .i64 j)]) (fun _ => []) (fun j => j ≤ 6 ∧ errFrom bb (6 - j) = errFrom bb 6) (fun j => 6 - j) 0 SFA SOA ⟨Nat.zero_le _, rfl⟩ ?_
  rintro j ⟨hj, he⟩
  repeat (first | refine walk ?_ | (refine jn ?_; (try intro F); (first | (refine bx ?_; intro bk) | (refine stA ?_) | (apply Stp_pu; exact PuA)); refine fin ?_) | (apply RD_W; rfl; intro bk))
  refine W_cond rfl (fun h2 => ?_) (fun h2 => ?_)
  ·have hj6 : j < 6 := by have := of_decide_eq_true h2; omega
   have hcj := hcs j hj6
   have hcc := cond_cells j hj6
   haveI := condFn_body j
   rw [show 6 - j = (5 - j) + 1 by omega, errFrom, show 5 - (5 - j) = j by omega] at he
   have hne : errN j ≠ 0 := by
    unfold errN
    repeat' split
    all_goals decide
   generalize condFn j = cf at *
   generalize bb j = bj at *
   generalize errN j = ej at *
   repeat (first | (apply RL_pu; rfl; exact PuRsE1) | (apply RD_Q; rfl; rfl; decide +kernel; rfl; rfl; exact QyRsE1) | refine walk1 ?_ | (refine jg ?_; (try intro F); (first | (apply Stp_callV (f := cf) (us := []) (cs := []) (vs := [.agg #[.string nm, .int .i64 fr, .int .i64 to, .int .i64 mo, .int .i64 dk, .int .i64 dw, .int .i64 dd, .int .i64 cs, .int .i64 cb, .int .i64 sv, .string le], .int .i64 (leastD l)]) (h := fun w' hw _ => hcj w' hw); rfl; rfl; rintro v O' ⟨rfl, rfl⟩) | (refine bx ?_; intro bk) | (refine stA ?_)); first | refine ⟨_, EndsA, QFRsE1, ?_⟩ | refine fin ?_) | (refine jn ?_; (try intro F); (first | (refine bx ?_; intro bk) | (refine stA ?_) | (apply Stp_pu; first | exact PuRsE1 | exact PuA)); first | refine ⟨_, EndsA, QFRsE1, ?_⟩ | refine fin ?_) | (apply RD_W; rfl; intro bk))
   refine W_cond rfl (fun h3 => ?_) (fun h3 => ?_)
   ·have hb : bj = false := by simpa using h3
    rw [if_pos hb] at he
    rw [← he, if_neg hne] at hi
    repeat (first | refine walk ?_ | (refine jn ?_; (try intro F); (first | (refine bx ?_; intro bk) | (refine stA ?_) | (apply Stp_pu; exact PuA)); refine fin ?_) | (apply RD_W; rfl; intro bk))
    exact ret_2 _ _ [] (.tmp rfl) (.tmp rfl) .nil ⟨by rw [← hi]; rfl, rfl⟩
   ·have hb : bj = true := by simpa using h3
    rw [if_neg (by rw [hb]; decide)] at he
    repeat (first | refine walk ?_ | (refine jn ?_; (try intro F); (first | (refine bx ?_; intro bk) | (refine stA ?_) | (apply Stp_pu; exact PuA)); refine fin ?_) | (apply RD_W; rfl; intro bk))
    exact ⟨j + 1, OA, ⟨OA, by rw [show 6 - (j + 1) = 5 - j by omega]; exact he⟩, SFA, SOA⟩
  ·have hj6 : j = 6 := by have := of_decide_eq_false h2; omega
   subst hj6
   rw [show errFrom bb (6 - 6) = 0 from rfl] at he
   rw [← he, if_pos rfl] at hi
   repeat (first | refine walk ?_ | (refine jn ?_; (try intro F); (first | (refine bx ?_; intro bk) | (refine stA ?_) | (apply Stp_pu; exact PuA)); refine fin ?_) | (apply RD_W; rfl; intro bk))
   exact ⟨k + 1, OA, ⟨OA, hi⟩, SFA, SOA⟩
 ·have hkl : k = l.length := by
   have := of_decide_eq_false h
   omega
  subst hkl
  rw [List.drop_length, firstBad, outR, tailR] at hi
  generalize l.any (fun r => decide (r.save = 0)) = a1 at *
  generalize l.any (fun r => !decide (r.save = 0) && !decide (r.save = leastD l)) = a2 at *
  generalize lastB l = a3 at *
  have hany3 := hany2 bk
  clear hany2 hlst
  repeat' (first | (refine js ?_; (first | (refine callE hany1 ?_) | (apply Stp_call (h := fun w' hw hH => hany3 w' hw (hH.cells (by repeat' constructor))); rfl; rintro v O' ⟨rfl, rfl⟩) | (refine callE hlast ?_) | (refine bx ?_; intro bk))) | refine walk ?_ | (refine RD_G0w ?_; intro F; (first | (refine callE hany1 ?_) | (apply Stp_call (h := fun w' hw hH => hany3 w' hw (hH.cells (by repeat' constructor))); rfl; rintro v O' ⟨rfl, rfl⟩) | (refine callE hlast ?_)); refine ⟨_, EndsA, SubO.right _ _, ?_⟩) | (refine RD_Lw ?_; intro F; (first | (refine callE hany1 ?_) | (apply Stp_call (h := fun w' hw hH => hany3 w' hw (hH.cells (by repeat' constructor))); rfl; rintro v O' ⟨rfl, rfl⟩) | (refine callE hlast ?_) | (refine bx ?_; intro bk) | (refine stA ?_) | (apply Stp_pu; exact PuA)); refine ⟨_, EndsA, QFA, ?_⟩) | (apply RD_W; rfl; intro bk) | refine und ?_ | (refine RL_gsplit rfl rfl rfl (fun hc => ?_) (fun hc => ?_)) | (refine RD_gsplit rfl rfl rfl (fun hc => ?_) (fun hc => ?_)) | (refine W_cond rfl (fun hc => ?_) (fun hc => ?_)))
  all_goals clear hany1 hany3 hlast hG hA hR
  all_goals subst hi
  all_goals try (have h0 : ¬ leastD l < 0 := of_decide_eq_false (by assumption); simp only [h0, false_and, or_false])
  all_goals exact clo2
end Go.Proofs.YtonjepladadmhaaGreatDoor
namespace Go.Proofs.YtonjepladadmhaaGreatDoor
open Go Go.RowKit Go.Wk
attribute [local irreducible] W RL Does thenQ blockQ retQ Calls Pu Stp RD Qy Ay DoesIn
theorem PuUntil0 {G : Prop} (h : G := by (apply Pu_mul; rfl; rfl; (constructor <;> omega))) : G := h
theorem onD_bd (y m : Int) (d : DDay) : -2000000000000 ≤ (onD y m d).1 ∧ (onD y m d).1 ≤ 2000000000000 := by
 unfold onD
 split
 ·exact ⟨by decide, by decide⟩
 ·rename_i h1
  split
  ·exact ⟨by decide, by decide⟩
  ·rename_i h2
   split
   ·exact ⟨by decide, by decide⟩
   ·simp only [Bool.not_eq_false] at h1 h2
    have hb := dayNo_bd h1
    have hl := lenM_bd y m
    have hd := dayChk_bd h2
    simp only [findD, behindW, beforeW]
    repeat' split
    all_goals omega
theorem seconds_spec (u : DUntil) (hc : -604799 ≤ u.at_.sec ∧ u.at_.sec ≤ 604799) (w : World) (hG : Glob w) : Does Tryz.prog 128 [.agg (DUntil.enc u).toArray] w (fun v O => v = .int .i64 (86400 * (onD u.year u.month u.day).1 + u.at_.sec) ∧ O = []) := by
 have ho := fun w' (hw : Bel w.heap.size w w') => on_spec u.year u.month u.day w' (hG.up hw)
 have hb := onD_bd u.year u.month u.day
 generalize onD u.year u.month u.day = x at *
 obtain ⟨x1, x2⟩ := x
 obtain ⟨is, yr, mo, ⟨dk, dw, dd⟩, ⟨cs, cb⟩⟩ := u
 simp only at *
 show Does _ _ [.agg #[.bool is, .int .i64 yr, .int .i64 mo, .int .i64 dk, .int .i64 dw, .int .i64 dd, .int .i64 cs, .int .i64 cb]] w _
 refine Does_of_W Tryz.func128 rfl rfl rfl rfl ?_
 repeat' (first | (apply RL_pu; rfl; exact PuUntil0) | (refine js ?_; (first | (refine callE ho ?_) | (refine bx ?_; intro bk))) | refine walk1 ?_ | (refine W_cond rfl (fun hc => ?_) (fun hc => ?_)))
 all_goals exact clo1
theorem PuUntil1 {G : Prop} (h : G := by (apply Pu_add; rfl; rfl; (constructor <;> (simp only [decide_eq_false_iff_not, decide_eq_true_eq] at *; omega)))) : G := h
theorem ucheck_spec (u : DUntil) (least : Int) (w : World) (hG : Glob w) : Does Tryz.prog 172 [.agg (DUntil.enc u).toArray, .int .i64 least] w (fun v O => v = .int .i64 (untilChk u least) ∧ O = []) := by
 have ho := fun w' (hw : Bel w.heap.size w w') => on_spec u.year u.month u.day w' (hG.up hw)
 have hcc := ccheck_spec u.at_
 have hcb : clkChk u.at_ = true → -604799 ≤ u.at_.sec ∧ u.at_.sec ≤ 604799 := fun hc => by
  simp only [clkChk, Bool.and_eq_true, decide_eq_true_eq] at hc
  omega
 unfold untilChk
 generalize onD u.year u.month u.day = x at *
 generalize clkChk u.at_ = y at *
 obtain ⟨x1, x2⟩ := x
 obtain ⟨is, yr, mo, ⟨dk, dw, dd⟩, ⟨cs, cb⟩⟩ := u
 simp only at *
 cases y
 ·clear hcb
  show Does _ _ [.agg #[.bool is, .int .i64 yr, .int .i64 mo, .int .i64 dk, .int .i64 dw, .int .i64 dd, .int .i64 cs, .int .i64 cb], .int .i64 least] w _
  refine Does_of_W Tryz.func172 rfl rfl rfl rfl ?_
  repeat' (first | (apply RL_pu; rfl; exact PuUntil1) | (refine js ?_; (first | (refine callE (fun w' hw => hcc w') ?_) | (refine bx ?_; intro bk))) | refine walk1 ?_ | refine und ?_ | (refine RL_gsplit rfl rfl rfl (fun hc => ?_) (fun hc => ?_)) | (refine RD_gsplit rfl rfl rfl (fun hc => ?_) (fun hc => ?_)) | (refine W_cond rfl (fun hc => ?_) (fun hc => ?_)))
  all_goals clear ho hcc hG
  all_goals exact clo1
 ·have hb := hcb rfl
  clear hcb
  show Does _ _ [.agg #[.bool is, .int .i64 yr, .int .i64 mo, .int .i64 dk, .int .i64 dw, .int .i64 dd, .int .i64 cs, .int .i64 cb], .int .i64 least] w _
  refine Does_of_W Tryz.func172 rfl rfl rfl rfl ?_
  repeat' (first | (apply RL_pu; rfl; exact PuUntil1) | (refine js ?_; (first | (refine callE (fun w' hw => hcc w') ?_) | (refine callE ho ?_) | (refine bx ?_; intro bk))) | refine walk1 ?_ | refine und ?_ | (refine RL_gsplit rfl rfl rfl (fun hc => ?_) (fun hc => ?_)) | (refine RD_gsplit rfl rfl rfl (fun hc => ?_) (fun hc => ?_)) | (refine W_cond rfl (fun hc => ?_) (fun hc => ?_)))
  all_goals clear ho hcc hG
  all_goals exact clo1
theorem untilChk_ok {u : DUntil} {least : Int} (h : untilChk u least = 0) : (-10800 ≤ least ∧ least ≤ 0) ∧ -604799 ≤ u.at_.sec ∧ u.at_.sec ≤ 604799 := by
 unfold untilChk at h
 split at h
 ·cases h
 split at h
 ·cases h
 split at h
 ·cases h
 ·rename_i h1 _ h2
  have hc : clkChk u.at_ = true := by
   cases hc : clkChk u.at_
   ·exact absurd (.inr (.inr hc)) h2
   ·rfl
  simp only [clkChk, Bool.and_eq_true, decide_eq_true_eq] at hc
  omega
theorem nominal_spec (u : DUntil) (least : Int) (w : World) (hG : Glob w) : Does Tryz.prog 125 [.agg (DUntil.enc u).toArray, .int .i64 least] w (fun v O => v = .tuple #[.int .i64 (nominalU u least).1, .int .i64 (nominalU u least).2] ∧ O = []) := by
 have hcu := fun w' (hw : Bel w.heap.size w w') => ucheck_spec u least w' (hG.up hw)
 unfold nominalU
 by_cases he : untilChk u least = 0
 ·obtain ⟨hl, hc⟩ := untilChk_ok he
  have hs := fun w' (hw : Bel w.heap.size w w') => seconds_spec u hc w' (hG.up hw)
  have hb := onD_bd u.year u.month u.day
  rw [if_neg (by simpa using he)]
  rw [he] at hcu
  generalize onD u.year u.month u.day = x at *
  obtain ⟨x1, x2⟩ := x
  clear he
  obtain ⟨is, yr, mo, ⟨dk, dw, dd⟩, ⟨cs, cb⟩⟩ := u
  simp only at *
  show Does _ _ [.agg #[.bool is, .int .i64 yr, .int .i64 mo, .int .i64 dk, .int .i64 dw, .int .i64 dd, .int .i64 cs, .int .i64 cb], .int .i64 least] w _
  refine Does_of_W Tryz.func125 rfl rfl rfl rfl ?_
  repeat' (first | (apply RL_pu; rfl; exact PuUntil1) | (refine js ?_; (first | (refine callE hcu ?_) | (refine callE hs ?_) | (refine bx ?_; intro bk))) | refine walk1 ?_ | (refine W_cond rfl (fun hc => ?_) (fun hc => ?_)))
  all_goals clear hs hcu hG
  all_goals exact clo2
 ·rw [if_pos he]
  generalize untilChk u least = x at *
  obtain ⟨is, yr, mo, ⟨dk, dw, dd⟩, ⟨cs, cb⟩⟩ := u
  simp only at *
  show Does _ _ [.agg #[.bool is, .int .i64 yr, .int .i64 mo, .int .i64 dk, .int .i64 dw, .int .i64 dd, .int .i64 cs, .int .i64 cb], .int .i64 least] w _
  refine Does_of_W Tryz.func125 rfl rfl rfl rfl ?_
  repeat (first | (apply RL_pu; rfl; exact PuUntil1) | (refine js ?_; (first | (refine callE hcu ?_) | (refine bx ?_; intro bk))) | refine walkB1 ?_)
  refine W_cond rfl (fun h1 => ?_) (fun h1 => ?_)
  ·repeat (first | (refine js ?_; (refine bx ?_; intro bk)) | refine walk ?_)
   exact rtB
  ·exact absurd (by simpa using h1) he
end Go.Proofs.YtonjepladadmhaaGreatDoor
