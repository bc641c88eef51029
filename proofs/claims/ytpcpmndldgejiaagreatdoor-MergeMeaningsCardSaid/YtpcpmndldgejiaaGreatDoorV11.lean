/- Parts of the proof. -/
import Derived.Test.YtpcpmndldgejiaaGreatDoorV10
import Derived.Test.YtpcpmndldgejiaaGreatDoorV09
set_option maxHeartbeats 4000000
set_option linter.unusedVariables false
set_option linter.unusedSimpArgs false
namespace Go.Proofs.YtpcpmndldgejiaaGreatDoor
open Go Go.RowKit Go.Wk
attribute [local irreducible] W RL Does Zat Zak retQ Calls Pu Stp RD Qy Ay
def emptyS : Zaf := ⟨[], [], [], []⟩
def ZaD (a b : Zaf) : Zaf := ⟨a.rules ++ b.rules.filter (fun r => decide ((ofB a.rules r.name).length = 0)), a.zones ++ b.zones, a.links ++ b.links, a.shifts ++ b.shifts.filter (fun x => !memB x a.shifts)⟩
def resS (a b : Zaf) : Zaf := if (chkB a b).isSome then emptyS else ZaD a b
def MergeOut (a b : Zaf) (v : Value) (O : List It) : Prop := ∃ v1, v = .tuple #[v1, .agg (placeOf (chkB a b)).enc.toArray, .int .i64 (errOf (chkB a b))] ∧ NewSrc (resS a b) v1 O
theorem zeOf {w : World} {A : Option Addr} : ∀ (zs : List ZaN) (off : Nat), (∀ k z, zs[k]? = some z → A ≠ none ∧ ∃ cs, RdZone w z cs ∧ Zap w ((adr A).add ((off + k) * 2)) cs) →
  ∃ Zs : List ZE, Zs.map ZE.z = zs ∧ (∀ k q, Zs[k]? = some q → A ≠ none ∧ Zap w ((adr A).add ((off + k) * 2)) q.enc) ∧ ZaH Zs w
 | [], _, _ => ⟨[], rfl, fun _ _ h => by simp at h, fun _ h => by simp at h⟩
 | z :: zs, off, h => by
  obtain ⟨h1, cs, ⟨A', c', h2, rfl⟩, h3⟩ := h 0 z rfl
  obtain ⟨Zs, h4, h5, h6⟩ := zeOf (A := A) zs (off + 1) fun k z' hz => by
   have := h (k + 1) z' (by simpa using hz)
   rwa [show off + (k + 1) = off + 1 + k from by omega] at this
  refine ⟨⟨z, A', c'⟩ :: Zs, by simp [h4], fun k q hq => ?_, fun q hq => ?_⟩
  ·cases k with
   | zero =>
    simp only [List.getElem?_cons_zero, Option.some.injEq] at hq
    subst hq
    exact ⟨h1, h3⟩
   | succ k =>
    have := h5 k q (by simpa using hq)
    rwa [show off + 1 + k = off + (k + 1) from by omega] at this
  ·rcases List.mem_cons.1 hq with rfl | hq
   ·exact h2
   ·exact h6 q hq
theorem srcZe {w : World} {Ar Az Al As : Option Addr} {cr cz cl cs : Nat} {s : Zaf} (h : Zao w Ar Az Al As cr cz cl cs s) : ∃ Zs : List ZE, Zs.map ZE.z = s.zones ∧ RdSl w Az cz ZE.enc 2 Zs ∧ ZaH Zs w := by
 obtain ⟨Zs, h1, h2, h3⟩ := zeOf s.zones 0 (fun k z hz => by simpa using h.z k z hz)
 exact ⟨Zs, h1, ⟨by rw [← List.length_map (f := ZE.z), h1]; exact h.zle, h.zcap, fun k q hq => by simpa using h2 k q hq⟩, h3⟩
theorem blkRd {α : Type} {enc : α → List Value} {sz c b : Nat} {t : TypeId} {l : List α} {w : World} (hsz : ∀ x, (enc x).length = sz) (h1 : l.length ≤ c) (h2 : c ≤ maxLen) (h : (It.blk b (l.flatMap enc) t).sat w) : RdSl w (some ⟨b, 0, none⟩) c enc sz l :=
 ⟨h1, h2, fun k x hx => ⟨by simp, fun j v hv => by
  rw [Zba]
  exact (Za1 h _ v (ZaG hsz l k x j v hx hv)).2⟩⟩
theorem MergeOut_ok {a b : Zaf} (h : (chkB a b).isSome = false) : MergeOut a b = fun v O => ∃ v1, v = .tuple #[v1, .agg (⟨0, 0, 0⟩ : Zax).enc.toArray, .int .i64 0] ∧ NewSrc (ZaD a b) v1 O := by
 have h' : chkB a b = none := by simpa using h
 funext v O
 rw [MergeOut, resS, h']
 rfl
theorem two2 {w : World} {p q : SE ZaC} (h1 : RdSl w p.A p.c ZaC.enc 2 p.l) (h2 : RdSl w q.A q.c ZaC.enc 2 q.l) : ∀ x ∈ [p, q], RdSl w x.A x.c ZaC.enc 2 x.l := fun x hx => by
 rcases List.mem_cons.1 hx with rfl | hx
 ·exact h1
 ·rw [List.mem_singleton.1 hx]; exact h2
theorem two2Z {w : World} {p q : SE ZE} (h1 : RdSl w p.A p.c ZE.enc 2 p.l) (h2 : RdSl w q.A q.c ZE.enc 2 q.l) : ∀ x ∈ [p, q], RdSl w x.A x.c ZE.enc 2 x.l := fun x hx => by
 rcases List.mem_cons.1 hx with rfl | hx
 ·exact h1
 ·rw [List.mem_singleton.1 hx]; exact h2
theorem Pu_cast {P : Program} {n : Nat} {wr : World} {fr : Fr} {O : List It} {op : Op} {ty : TypeId} {v v' : Value} (h : Pu P n wr fr O op ty v) (e : v = v') : Pu P n wr fr O op ty v' := e ▸ h
theorem Zdf {G G' : Prop} (k : G') (h : Hold G' → G := by intro k9; (first | refine walk ?_ | (refine jn ?_; (try intro F); (first | (refine stA ?_) | (apply Zae; exact PuA)); refine fin ?_)); exact k9.out) : G := h ⟨k⟩
theorem PuMerge0 {G : Prop} (h : G := by (first | exact PuI | (apply Zbk; rfl; rfl; (focus repeat' constructor); exact hv1; exact hs1))) : G := h
theorem PuMerge1 {G : Prop} (h : G := by (apply Pu_cast; (apply Pu_loadB1; rfl; (focus repeat' constructor); rfl); (first | exact hca | exact hcb))) : G := h
theorem PuMerge2 {G : Prop} (h : G := by (first | exact PuI | (apply Zd7 (cs := q.enc); rfl; rfl; (intro w' _ hO; exact ((Za3 ZE.len (hO.of (A := rowZ A4 c4 ZZ) (by repeat' constructor))).rd k _ hq).2)))) : G := h
theorem QyMerge2 {G : Prop} (h : G := by first | (apply Qy_y; rfl; exact PuMerge2) | exact QyA) : G := h
theorem QFMerge2 {G : Prop} (h : G := by repeat (first | exact QF.nil | (apply QF.mk; rfl; rfl; decide +kernel; exact QyMerge2))) : G := h
theorem merge_spec (Ar Az Al As : Option Addr) (cr cz cl cs : Nat) (a : Zaf) (Br Bz Bl Bs : Option Addr) (dr dz dl ds : Nat) (b : Zaf) (w : World) (hA : Zao w Ar Az Al As cr cz cl cs a) (hB : Zao w Br Bz Bl Bs dr dz dl ds b)
  (hn : Fits a) (hm : Fits b) :
  Does Tryz.prog 20 [srcV Ar Az Al As cr cz cl cs a, srcV Br Bz Bl Bs dr dz dl ds b] w (MergeOut a b) := by
 obtain ⟨Za, hZa, hZa2, hZa3⟩ := srcZe hA
 obtain ⟨Zb, hZb, hZb2, hZb3⟩ := srcZe hB
 refine Zab Tryz.func20 rfl rfl rfl rfl ?_
 repeat (first | refine walk ?_ | (refine jg ?_; (try intro F); (first | (refine Zad (fun w' hw => check_spec Ar Az Al As cr cz cl cs a Br Bz Bl Bs dr dz dl ds b w' (hA.up hw) (hB.up hw) hn hm) ?_) | (refine bx ?_; intro bk) | (refine stA ?_)); refine fin ?_) | (refine jn ?_; (try intro F); (first | (refine bx ?_; intro bk) | (refine stA ?_) | (apply Zae; exact PuA)); refine fin ?_) | (apply RD_W; rfl; intro bk))
 obtain ⟨hnr, hnz, hnl, hns, hne⟩ := hn
 obtain ⟨hmr, hmz, hml, hms, hme⟩ := hm
 refine Zag rfl (fun h1 => ?_) (fun h1 => ?_)
 ·have h2 : (chkB a b).isSome = true := by
   cases h : (chkB a b).isSome with
   | true => rfl
   | false => simp [errOf, h] at h1
  refine Zcd 9 1 (Zcd 56 2 (Zcd 54 2 (Zcd 118 11 (ZcO [] _ (ZaH []) (.refl _) (fun _ _ q hq => by simp at hq) ?_))))
  repeat (first | refine Zdf ?_ | (refine jn ?_; (try intro F); (refine bx ?_; intro bk); refine fin ?_) | (apply RD_W; rfl; intro bk))
  exact ret_3 _ _ _ [rowR none 0 [], rowZ none 0 [], rowL none 0 [], rowS none 0 [], .fact _ (ZaH [])] (.cellB rfl (by repeat' constructor) rfl rfl) (.cellB rfl (by repeat' constructor) rfl rfl) (.tmp rfl) SOA ⟨_, rfl, by rw [resS, if_pos h2]; exact ⟨none, 0, none, 0, none, 0, none, 0, [], _, rfl, rfl, rfl⟩⟩
 have h2 : (chkB a b).isSome = false := by
  cases h : (chkB a b).isSome with
  | false => rfl
  | true => simp [errOf, h] at h1
 rw [MergeOut_ok h2]
 repeat (first | refine walk ?_ | (refine jg ?_; (try intro F); (first | (apply Zah (h := fun w' hw _ => cloneR_spec Ar cr a.rules w' (hA.up hw).r hnr); rfl; rintro v O' ⟨A1, c1, rfl, rfl⟩) | (apply Zah (h := fun w' hw _ => cloneS_spec As cs a.shifts w' (hA.up hw).s hns); rfl; rintro v O' ⟨A3, c3, rfl, rfl⟩) | (apply Zah (h := fun w' hw hO => concatL_spec (some ⟨bk, 0, none⟩) 2 [⟨a.links, Al, cl⟩, ⟨b.links, Bl, dl⟩] w' (blkRd SE.len (Nat.le_refl 2) (by decide) (hO.of (A := .blk bk _ _) (by repeat' constructor))) (two2 (hA.up hw).l (hB.up hw).l) (by simp only [tot]; omega) (by simp)); rfl; rintro v O' ⟨A2, c2, rfl, rfl⟩) | (apply Zah (h := fun w' hw _ => sets_spec Ar Az Al As cr cz cl cs a w' (hA.up hw) hnr); rfl; rintro v O' ⟨b1, m1, S1, rfl, rfl, hm1⟩) | (refine bx ?_; intro bk) | (refine stA ?_)); refine fin ?_) | (refine jn ?_; (try intro F); (first | (refine bx ?_; intro bk) | (refine stA ?_) | (apply Zae; exact PuA)); refine fin ?_) | (apply RD_W; rfl; intro bk))
 have hLL : ZeB [⟨a.links, Al, cl⟩, ⟨b.links, Bl, dl⟩] = a.links ++ b.links := by simp [ZeB]
 generalize ZeB [(⟨a.links, Al, cl⟩ : SE ZaC), ⟨b.links, Bl, dl⟩] = LL at *
 refine Zal [(2, _), (3, _), (4, _), (5, _), (9, _), (10, _), (46, _), (47, _)] _ (fun g : AG Zaa => [(48, .int .i64 g.k)]) (fun g => [.blk bk [.slice g.A g.m g.c, .slice none 0 0, .slice A2 LL.length c2, .slice A3 a.shifts.length c3] 34, .row (.slice g.A g.m g.c) 118 11 g.m g.xs])
  (fun g => g.k ≤ b.rules.length ∧ g.m = g.acc.length ∧ g.xs = g.acc.flatMap Zaa.enc ∧ g.m ≤ 1000000 + g.k ∧ g.acc ++ (b.rules.drop g.k).filter (fun r => decide ((ofB a.rules r.name).length = 0)) = (ZaD a b).rules)
  (fun g => b.rules.length - g.k) ⟨0, A1, c1, a.rules.length, _, a.rules⟩ ⟨rfl, rfl, rfl, rfl, rfl, rfl, rfl, rfl, rfl, trivial⟩ (.cons (by repeat' constructor) (.cons (by repeat' constructor) (.refl _))) ⟨by simp, rfl, rfl, by dsimp only; omega, rfl⟩ ?_
 rintro ⟨k, A, c, m, xs, acc⟩ ⟨hk, hm, hx, hmk, hi⟩
 dsimp only at hk hm hx hmk hi ⊢
 repeat (first | refine Zdf ?_ | (refine jn ?_; (try intro F); (refine bx ?_; intro bk); refine fin ?_) | (apply RD_W; rfl; intro bk))
 refine Zag rfl (fun hc => ?_) (fun hc => ?_)
 ·simp only [decide_eq_true_eq, Int.ofNat_lt] at hc
  obtain ⟨hna, hca⟩ := hB.r.rd k _ (List.getElem?_eq_getElem hc)
  have hnb := hna
  have hcb := hca
  rw [Zai hc, List.filter_cons] at hi
  generalize b.rules[k] = r at *
  obtain ⟨Ax, cx, hv1, hr1, hs1⟩ := hm1.at_ r.name
  repeat (first | (apply RL_pu; rfl; exact PuMerge0) | (apply RD_Q; rfl; rfl; decide +kernel; rfl; rfl; exact QyMerge0) | refine walk1 ?_ | (refine jn ?_; (try intro F); (first | (refine bx ?_; intro bk) | (refine stA ?_) | (apply Zae; first | exact PuMerge0 | exact PuA)); first | refine ⟨_, EndsA, QFMerge0, ?_⟩ | refine fin ?_) | (apply RD_W; rfl; intro bk))
  refine Zag rfl (fun h3 => ?_) (fun h3 => ?_)
  ·rw [if_pos (by simpa using h3)] at hi
   repeat (first | refine walk ?_ | (refine jn ?_; (try intro F); (first | (apply Zaq; rfl; rfl; (intro A' c'; (focus repeat' constructor)); (intro w' _ hO; exact Za1 (hO.of (by repeat' constructor))); rfl; rfl; (simp only [maxLen]; omega); omega; intro A' c' hc1 hc2 hc3) | (refine bx ?_; intro bk) | (refine stA ?_) | (apply Zae; exact PuA)); refine fin ?_) | (apply RD_W; rfl; intro bk))
   exact ⟨⟨k + 1, A', c', m + 1, xs ++ r.enc, acc ++ [r]⟩, OA, ⟨OA, by simp [hm], by rw [hx]; exact Zb9 acc r, OA, by rw [← hi]; simp⟩, SFA, SOA⟩
  rw [if_neg (by simpa using h3)] at hi
  repeat (first | refine Zdf ?_ | (refine jn ?_; (try intro F); (refine bx ?_; intro bk); refine fin ?_) | (apply RD_W; rfl; intro bk))
  exact ⟨⟨k + 1, A, c, m, xs, acc⟩, OA, ⟨OA, hm, hx, OA, hi⟩, SFA, SOA⟩
 simp only [decide_eq_false_iff_not, Int.ofNat_lt] at hc
 rw [List.drop_eq_nil_of_le (by omega), List.filter_nil, List.append_nil] at hi
 subst hm hx
 clear hk hmk hc
 generalize bk = b9
 have hla : Za.length = a.zones.length := by rw [← hZa, List.length_map]
 have hlb : Zb.length = b.zones.length := by rw [← hZb, List.length_map]
 have hca : Value.slice Az a.zones.length cz = .slice Az Za.length cz := by rw [hla]
 have hcb : Value.slice Bz b.zones.length dz = .slice Bz Zb.length dz := by rw [hlb]
 repeat (first | (apply RL_pu; rfl; exact PuMerge1) | (apply RD_Q; rfl; rfl; decide +kernel; rfl; rfl; exact QyMerge1) | refine walk1 ?_ | (refine jg ?_; (try intro F); (first | (apply Zah (h := fun w' hw hO => concatZ_spec (some ⟨bk, 0, none⟩) 2 [⟨Za, Az, cz⟩, ⟨Zb, Bz, dz⟩] w' (blkRd SE.len (Nat.le_refl 2) (by decide) (hO.of (A := .blk bk _ _) (by repeat' constructor))) (two2Z (hZa2.up hw) (hZb2.up hw)) (by simp only [tot]; omega) (by simp)); rfl; rintro v O' ⟨A4, c4, rfl, rfl⟩) | (refine bx ?_; intro bk) | (refine stA ?_)); first | refine ⟨_, EndsA, QFMerge1, ?_⟩ | refine fin ?_) | (refine jn ?_; (try intro F); (first | (refine bx ?_; intro bk) | (refine stA ?_) | (apply Zae; first | exact PuMerge1 | exact PuA)); first | refine ⟨_, EndsA, QFMerge1, ?_⟩ | refine fin ?_) | (apply RD_W; rfl; intro bk))
 have hZZ : ZeB [⟨Za, Az, cz⟩, ⟨Zb, Bz, dz⟩] = Za ++ Zb := by simp [ZeB]
 generalize ZeB [(⟨Za, Az, cz⟩ : SE ZE), ⟨Zb, Bz, dz⟩] = ZZ at *
 have hZe : ZaH ZZ w := hZZ ▸ hZa3.append hZb3
 have hZm : ZZ.map ZE.z = a.zones ++ b.zones := by rw [hZZ, List.map_append, hZa, hZb]
 have hZl : ZZ.length ≤ 2000000 := by rw [hZZ, List.length_append]; omega
 have hZb : ∀ q ∈ ZZ, q.z.eras.length ≤ 1000000 := fun q hq => by
  have : q.z ∈ a.zones ++ b.zones := hZm ▸ List.mem_map_of_mem hq
  rcases List.mem_append.1 this with h | h
  ·exact hne _ h
  ·exact hme _ h
 clear hca hcb
 refine Zcd 54 2 (Zcd 74 13 (ZcO [] _ (ZaH []) (.refl _) (fun _ _ q hq => by simp at hq) ?_))
 refine Zal [(2, _), (3, _), (4, _), (5, _), (9, _), (73, _), (74, _)] _ (fun g : CG => [(75, .int .i64 g.k)]) (fun g => [.fact g.S g.p, .row (.slice g.Ae g.me g.ce) 74 13 g.me g.xe, .row (.slice g.Az g.m g.cz) 54 2 g.m g.xs, rowZ A4 c4 ZZ, .blk b9 [.slice A acc.length c, .slice g.Az g.m g.cz, .slice A2 LL.length c2, .slice A3 a.shifts.length c3] 34])
  (fun g => g.k ≤ ZZ.length ∧ g.m = g.Zs.length ∧ g.xs = g.Zs.flatMap ZE.enc ∧ g.Zs.map ZE.z = (ZZ.take g.k).map ZE.z ∧ ∀ w', g.p w' → (It.row (.slice g.Ae g.me g.ce) 74 13 g.me g.xe).sat w' → ZaH g.Zs w')
  (fun g => ZZ.length - g.k) ⟨0, none, 0, 0, [], [], none, 0, 0, [], foot [], ZaH []⟩ ⟨rfl, rfl, rfl, rfl, rfl, rfl, rfl, rfl, trivial⟩ (.cons .here (.cons .here (.cons .here (.cons .here (.cons (by repeat' constructor) (.refl _)))))) ⟨by simp, rfl, rfl, by simp, fun _ h _ => h⟩ ?_
 rintro ⟨k, Az', cz', m, xs, Zs, Ae', ce', me, xe, S, p⟩ ⟨hk, hm, hx, hz, hp⟩
 dsimp only at hk hm hx hz hp ⊢
 refine ZcO [.fact S p, .row (.slice Ae' me ce') 74 13 me xe] _ (ZaH Zs) (.cons .here (.cons .here (.refl _))) (fun w' hi => hp w' (ZaQ (S := S) (hi (.fact S p) (by simp))) (hi _ (List.mem_cons_of_mem _ List.mem_cons_self))) ?_
 repeat (first | refine Zdf ?_ | (refine jn ?_; (try intro F); (refine bx ?_; intro bk); refine fin ?_) | (apply RD_W; rfl; intro bk))
 refine Zag rfl (fun hc => ?_) (fun hc => ?_)
 ·simp only [decide_eq_true_eq, Int.ofNat_lt] at hc
  refine W_fact (fun w' _ hO => ZbE (hO.of (A := rowZ A4 c4 ZZ) (by repeat' constructor)) (by omega)) (fun hna => ?_)
  have hnb := hna
  have hq := List.getElem?_eq_getElem hc
  have hE := hZe _ (List.getElem_mem hc)
  have ht := congrArg (List.map ZE.z) (List.take_append_getElem hc)
  have hl := hZb _ (List.getElem_mem hc)
  have hzl : Zs.length = k := by rw [← List.length_map (f := ZE.z), hz, List.length_map, List.length_take]; omega
  generalize ZZ[k] = q at *
  repeat (first | (apply RL_pu; rfl; exact PuMerge2) | (apply RD_Q; rfl; rfl; decide +kernel; rfl; rfl; exact QyMerge2) | refine walk1 ?_ | (refine jg ?_; (try intro F); (first | (apply Zah (h := fun w' hw _ => cloneE_spec q.A q.c q.z.eras w' (hE.up hw) hl); rfl; rintro v O' ⟨Ae2, ce2, rfl, rfl⟩) | (apply Zaq; rfl; rfl; (intro A' c'; (focus repeat' constructor)); (intro w' _ hO; exact Za1 (hO.of (by repeat' constructor))); rfl; rfl; (simp only [maxLen]; omega); omega; intro A' c' hc1 hc2 hc3) | (refine bx ?_; intro bk) | (refine stA ?_)); first | refine ⟨_, EndsA, QFMerge2, ?_⟩ | refine fin ?_) | (refine jn ?_; (try intro F); (first | (apply Zaq; rfl; rfl; (intro A' c'; (focus repeat' constructor)); (intro w' _ hO; exact Za1 (hO.of (by repeat' constructor))); rfl; rfl; (simp only [maxLen]; omega); omega; intro A' c' hc1 hc2 hc3) | (refine bx ?_; intro bk) | (refine stA ?_) | (apply Zae; first | exact PuMerge2 | exact PuA)); first | refine ⟨_, EndsA, QFMerge2, ?_⟩ | refine fin ?_) | (apply RD_W; rfl; intro bk))
  exact ⟨⟨k + 1, A', c', m + 1, xs ++ ZE.enc ⟨q.z, Ae2, ce2⟩, Zs ++ [⟨q.z, Ae2, ce2⟩], Ae2, ce2, q.z.eras.length, q.z.eras.flatMap DEra.enc, _, ZaH Zs⟩, OA, ⟨OA, by simp [hm], by rw [hx]; exact Zb9 Zs _, by rw [List.map_append, hz, ← ht, List.map_append]; rfl, fun w' h1 h2 => ZaH.snoc h1 (Za3 DEra.len h2)⟩, SFA, SOA⟩
 simp only [decide_eq_false_iff_not, Int.ofNat_lt] at hc
 rw [List.take_of_length_le (by omega), hZm] at hz
 subst hm hx
 clear hk hc
 repeat (first | refine Zdf ?_ | (refine jn ?_; (try intro F); (refine bx ?_; intro bk); refine fin ?_) | (apply RD_W; rfl; intro bk))
 refine Zal [(2, _), (3, _), (4, _), (5, _), (9, _), (92, _), (93, _)] _ (fun g : AG ByteArray => [(94, .int .i64 g.k)]) (fun g => [.blk b9 [.slice A acc.length c, .slice Az' Zs.length cz', .slice A2 LL.length c2, .slice g.A g.m g.c] 34, .row (.slice g.A g.m g.c) 9 1 g.m g.xs])
  (fun g => g.k ≤ b.shifts.length ∧ g.m = g.acc.length ∧ g.xs = g.acc.flatMap Zau ∧ g.m ≤ 1000000 + g.k ∧ g.acc ++ (b.shifts.drop g.k).filter (fun x => !memB x a.shifts) = (ZaD a b).shifts)
  (fun g => b.shifts.length - g.k) ⟨0, A3, c3, a.shifts.length, _, a.shifts⟩ ⟨rfl, rfl, rfl, rfl, rfl, rfl, rfl, rfl, trivial⟩ (.cons (by repeat' constructor) (.cons (by repeat' constructor) (.refl _))) ⟨by simp, rfl, rfl, by dsimp only; omega, rfl⟩ ?_
 rintro ⟨k, A5, c5, m, xs, ac⟩ ⟨hk, hm, hx, hmk, hj⟩
 dsimp only at hk hm hx hmk hj ⊢
 repeat (first | refine Zdf ?_ | (refine jn ?_; (try intro F); (refine bx ?_; intro bk); refine fin ?_) | (apply RD_W; rfl; intro bk))
 refine Zag rfl (fun hc => ?_) (fun hc => ?_)
 ·simp only [decide_eq_true_eq, Int.ofNat_lt] at hc
  obtain ⟨hna, hca⟩ := hB.s.rd k _ (List.getElem?_eq_getElem hc)
  have hnb := hna
  have hcb := hca
  rw [Zai hc, List.filter_cons] at hj
  generalize b.shifts[k] = x at *
  repeat (first | (apply RL_pu; rfl; exact PuI) | (apply RD_Q; rfl; rfl; decide +kernel; rfl; rfl; exact QyI) | refine walk1 ?_ | (refine jg ?_; (try intro F); (first | (refine Zad (fun w' hw => ZcL As cs a.shifts x w' (hA.up hw).s) ?_) | (refine bx ?_; intro bk) | (refine stA ?_)); first | refine ⟨_, EndsA, QFI, ?_⟩ | refine fin ?_) | (refine jn ?_; (try intro F); (first | (refine bx ?_; intro bk) | (refine stA ?_) | (apply Zae; first | exact PuI | exact PuA)); first | refine ⟨_, EndsA, QFI, ?_⟩ | refine fin ?_) | (apply RD_W; rfl; intro bk))
  refine Zag rfl (fun h3 => ?_) (fun h3 => ?_)
  ·rw [if_pos h3] at hj
   repeat (first | refine walk ?_ | (refine jn ?_; (try intro F); (first | (apply Zaq; rfl; rfl; (intro A' c'; (focus repeat' constructor)); (intro w' _ hO; exact Za1 (hO.of (by repeat' constructor))); rfl; rfl; (simp only [maxLen]; omega); omega; intro A' c' hc1 hc2 hc3) | (refine bx ?_; intro bk) | (refine stA ?_) | (apply Zae; exact PuA)); refine fin ?_) | (apply RD_W; rfl; intro bk))
   exact ⟨⟨k + 1, A', c', m + 1, xs ++ Zau x, ac ++ [x]⟩, OA, ⟨OA, by simp [hm], by rw [hx]; exact Zb9 ac x, OA, by rw [← hj]; simp⟩, SFA, SOA⟩
  rw [if_neg (by rw [h3]; simp)] at hj
  repeat (first | refine Zdf ?_ | (refine jn ?_; (try intro F); (refine bx ?_; intro bk); refine fin ?_) | (apply RD_W; rfl; intro bk))
  exact ⟨⟨k + 1, A5, c5, m, xs, ac⟩, OA, ⟨OA, hm, hx, OA, hj⟩, SFA, SOA⟩
 simp only [decide_eq_false_iff_not, Int.ofNat_lt] at hc
 rw [List.drop_eq_nil_of_le (by omega), List.filter_nil, List.append_nil] at hj
 subst hm hx
 repeat (first | refine Zdf ?_ | (refine jn ?_; (try intro F); (refine bx ?_; intro bk); refine fin ?_) | (apply RD_W; rfl; intro bk))
 have hzl : Zs.length = (ZaD a b).zones.length := by rw [← List.length_map (f := ZE.z), hz]; rfl
 refine ret_3 _ _ _ [rowR A c acc, rowZ Az' cz' Zs, rowL A2 c2 LL, rowS A5 c5 ac, .fact _ (ZaH Zs)] (.cellB rfl (by repeat' constructor) rfl rfl) (.cellB rfl (by repeat' constructor) rfl rfl) (.tmp rfl) SOA ⟨_, rfl, A, c, Az', cz', A2, c2, A5, c5, Zs, foot [.fact S p, .row (.slice Ae' me ce') 74 13 me xe], ?_, hz, ?_⟩
 ·rw [srcV, ← hzl, ← hi, ← hj, show (ZaD a b).links = LL from hLL.symm]
  rfl
 ·rw [← hi, ← hj, show (ZaD a b).links = LL from hLL.symm]
end Go.Proofs.YtpcpmndldgejiaaGreatDoor
namespace Go.Proofs.YtpcpmndldgejiaaGreatDoor
open Go Go.RowKit Go.Wk
theorem memB_iff (x : ByteArray) : ∀ l : List ByteArray, memB x l = true ↔ x ∈ l
 | [] => by simp [memB]
 | y :: l => by
  simp only [memB, Bool.or_eq_true, decide_eq_true_eq, memB_iff x l, List.mem_cons]
  constructor
  ·rintro (h | h)
   ·exact .inl h.symm
   ·exact .inr h
  ·rintro (h | h)
   ·exact .inl h.symm
   ·exact .inr h
theorem badSet_none {a b : Zaf} : ∀ l : List ByteArray, ZeF a b l = none ↔ ∀ x ∈ l, alikeB a b x = true
 | [] => by simp [ZeF]
 | x :: l => by
  simp only [ZeF, List.mem_cons, forall_eq_or_imp]
  cases h : alikeB a b x with
  | true => simp [badSet_none l]
  | false => simp
theorem ZeG {a : Zaf} : ∀ (l : List ByteArray) (k : Nat), Zbu a l k = none ↔ ∀ x ∈ l, takenB x a = false
 | [], _ => by simp [Zbu]
 | x :: l, k => by
  simp only [Zbu, List.mem_cons, forall_eq_or_imp]
  cases h : takenB x a with
  | true => simp
  | false => simp [ZeG l]
theorem ZeS (x : ByteArray) : ∀ (l : List Zaa) (acc : List ByteArray), x ∈ Za0 l acc ↔ x ∈ acc ∨ ∃ r ∈ l, r.name = x
 | [], acc => by simp [Za0]
 | r :: l, acc => by
  simp only [Za0]
  split
  ·rename_i h
   rw [ZeS x l acc]
   have hm := (memB_iff r.name acc).1 h
   constructor
   ·rintro (h | ⟨q, h1, h2⟩)
    ·exact .inl h
    ·exact .inr ⟨q, List.mem_cons_of_mem _ h1, h2⟩
   ·rintro (h | ⟨q, h1, h2⟩)
    ·exact .inl h
    ·rcases List.mem_cons.1 h1 with rfl | h1
     ·exact .inl (h2 ▸ hm)
     ·exact .inr ⟨q, h1, h2⟩
  ·rw [ZeS x l _]
   constructor
   ·rintro (h | ⟨q, h1, h2⟩)
    ·rcases List.mem_append.1 h with h | h
     ·exact .inl h
     ·exact .inr ⟨r, List.mem_cons_self, (List.mem_singleton.1 h).symm⟩
    ·exact .inr ⟨q, List.mem_cons_of_mem _ h1, h2⟩
   ·rintro (h | ⟨q, h1, h2⟩)
    ·exact .inl (List.mem_append_left _ h)
    ·rcases List.mem_cons.1 h1 with rfl | h1
     ·exact .inl (List.mem_append_right _ (List.mem_singleton.2 h2.symm))
     ·exact .inr ⟨q, h1, h2⟩
def nms (s : Zaf) : List ByteArray := s.zones.map (·.name) ++ s.links.map (·.name)
theorem takenB_iff (x : ByteArray) (s : Zaf) : takenB x s = true ↔ x ∈ nms s := by
 simp only [takenB, nms, Bool.or_eq_true, memB_iff, List.mem_append]
theorem chk_none {a b : Zaf} : chkB a b = none ↔ (∀ r ∈ b.rules, alikeB a b r.name = true) ∧ ∀ x ∈ nms b, x ∉ nms a := by
 have key : chkB a b = none ↔ ZeF a b (Za0 b.rules []) = none ∧ Zbu a (b.zones.map (·.name)) 0 = none ∧ Zbu a (b.links.map (·.name)) 0 = none := by
  unfold chkB
  cases ZeF a b (Za0 b.rules []) <;> cases Zbu a (b.zones.map (·.name)) 0 <;> cases Zbu a (b.links.map (·.name)) 0 <;> simp
 rw [key, badSet_none, ZeG, ZeG]
 have ht : ∀ x, takenB x a = false ↔ x ∉ nms a := fun x => by rw [← takenB_iff, Bool.not_eq_true]
 constructor
 ·rintro ⟨h1, h2, h3⟩
  refine ⟨fun r hr => h1 _ ((ZeS _ _ _).2 (.inr ⟨r, hr, rfl⟩)), fun x hx => ?_⟩
  rcases List.mem_append.1 hx with hx | hx
  ·exact (ht x).1 (h2 x hx)
  ·exact (ht x).1 (h3 x hx)
 ·rintro ⟨h1, h2⟩
  refine ⟨fun x hx => ?_, fun x hx => (ht x).2 (h2 x (List.mem_append_left _ hx)), fun x hx => (ht x).2 (h2 x (List.mem_append_right _ hx))⟩
  rcases (ZeS _ _ _).1 hx with h | ⟨r, hr, rfl⟩
  ·cases h
  ·exact h1 r hr
theorem alike_iff {a b : Zaf} (ha : a.shifts = []) (hb : b.shifts = []) (x : ByteArray) : alikeB a b x = true ↔ ofB a.rules x = [] ∨ ofB a.rules x = ofB b.rules x := by
 simp [alikeB, ha, hb, memB]
theorem ofB_nil (l : List Zaa) (x : ByteArray) : ofB l x = [] ↔ ∀ r ∈ l, r.name ≠ x := by
 simp [ofB, List.filter_eq_nil_iff]
theorem ofB_append (l l' : List Zaa) (x : ByteArray) : ofB (l ++ l') x = ofB l x ++ ofB l' x := by simp [ofB]
def rulesM (a b : List Zaa) : List Zaa := a ++ b.filter fun r => decide ((ofB a r.name).length = 0)
theorem ofB_rulesM (a b : List Zaa) (x : ByteArray) : ofB (rulesM a b) x = if ofB a x = [] then ofB b x else ofB a x := by
 rw [rulesM, ofB_append]
 have : ofB (b.filter fun r => decide ((ofB a r.name).length = 0)) x = if ofB a x = [] then ofB b x else [] := by
  show List.filter (fun r => decide (r.name = x)) (b.filter fun r => decide ((ofB a r.name).length = 0)) = _
  rw [List.filter_filter]
  by_cases h : ofB a x = []
  ·rw [if_pos h]
   show _ = List.filter (fun r => decide (r.name = x)) b
   congr 1
   funext r
   by_cases hr : r.name = x
   ·rw [hr, h]
    simp
   ·simp [hr]
  ·rw [if_neg h, List.filter_eq_nil_iff]
   intro r _
   by_cases hr : r.name = x
   ·rw [hr]
    simpa using h
   ·simp [hr]
 rw [this]
 split
 ·rename_i h
  rw [h]; rfl
 ·simp
theorem ZaO {a b : Zaf} (ha : a.shifts = []) (hb : b.shifts = []) : ZaD a b = ⟨rulesM a.rules b.rules, a.zones ++ b.zones, a.links ++ b.links, []⟩ := by
 simp [ZaD, rulesM, ha, hb]
theorem nms_merge {a b : Zaf} (ha : a.shifts = []) (hb : b.shifts = []) (x : ByteArray) : x ∈ nms (ZaD a b) ↔ x ∈ nms a ∨ x ∈ nms b := by
 rw [ZaO ha hb]
 simp only [nms, List.map_append, List.mem_append]
 constructor
 ·rintro ((h | h) | (h | h))
  ·exact .inl (.inl h)
  ·exact .inr (.inl h)
  ·exact .inl (.inr h)
  ·exact .inr (.inr h)
 ·rintro ((h | h) | (h | h))
  ·exact .inl (.inl h)
  ·exact .inr (.inl h)
  ·exact .inl (.inr h)
  ·exact .inr (.inr h)
def xX : ByteArray := ⟨#[120]⟩
def zNames (k : Nat) : List ByteArray := (List.range k).map fun i : Nat => sZ ++ dig i
def lNames (k : Nat) : List ByteArray := (List.range k).map fun i : Nat => sL ++ dig i
theorem zones23_names (s : Int) (zs : List (List E23)) : ∀ k, (Za8 s zs k).map (·.name) = zNames k
 | 0 => rfl
 | k + 1 => by
  rw [Za8, List.map_append, zones23_names s zs k, zNames, zNames, List.range_succ, List.map_append]
  rfl
theorem links23_names (nz : Nat) (l : List Int) : ∀ k, (ZaZ nz l k).map (·.name) = lNames k
 | 0 => rfl
 | k + 1 => by
  rw [ZaZ, List.map_append, links23_names nz l k, lNames, lNames, List.range_succ, List.map_append]
  rfl
def DD23.nz (d : DD23) : Nat := (zl23 d.zones).length
def DD23.nl (d : DD23) : Nat := (d.links.take 4).length
theorem DD23.nl_le (d : DD23) : d.nl ≤ 4 := by unfold DD23.nl; rw [List.length_take]; omega
theorem made23_zn (d : DD23) : (Zan d).zones.map (·.name) = zNames d.nz := zones23_names _ _ _
theorem made23_ln (d : DD23) : (Zan d).links.map (·.name) = lNames d.nl := links23_names _ _ _
def allN : List ByteArray := zNames 3 ++ lNames 4
theorem sub_range {f : Nat → ByteArray} {k n : Nat} (h : k ≤ n) : ∀ x ∈ (List.range k).map f, x ∈ (List.range n).map f := fun x hx => by
 obtain ⟨i, hi, rfl⟩ := List.mem_map.1 hx
 exact List.mem_map.2 ⟨i, List.mem_range.2 (by have := List.mem_range.1 hi; omega), rfl⟩
theorem zn_all (d : DD23) : ∀ x ∈ (Zan d).zones.map (·.name), x ∈ allN := fun x hx => by
 rw [made23_zn] at hx
 exact List.mem_append_left _ (sub_range (ZcI d.zones).2 x hx)
theorem ln_all (d : DD23) : ∀ x ∈ (Zan d).links.map (·.name), x ∈ allN := fun x hx => by
 rw [made23_ln] at hx
 exact List.mem_append_right _ (sub_range d.nl_le x hx)
theorem apartX : ∀ x ∈ allN, ∀ y ∈ allN, x ++ xX ≠ y := by decide +kernel
theorem nms_all (d : DD23) : ∀ x ∈ nms (Zan d), x ∈ allN := fun x hx => by
 rcases List.mem_append.1 hx with hx | hx
 ·exact zn_all d x hx
 ·exact ln_all d x hx
theorem made23_zpos (d : DD23) : 1 ≤ (Zan d).zones.length := by
 rw [Zan]
 dsimp only
 rw [ZbS]
 exact (ZcI d.zones).1
theorem dig_le (i : Int) : (dig i).size ≤ 1 := by
 unfold dig
 rw [ByteArray.size_extract]
 omega
theorem made17_name (l : List Int) (x : ByteArray) : ∀ r ∈ ZbJ l x, r.name = x := fun r hr => by
 rw [ZbJ] at hr
 obtain ⟨q, _, rfl⟩ := List.mem_map.1 hr
 rfl
theorem rules23_name (sets : List (List Int)) : ∀ k, ∀ r ∈ ZaL sets k, ∃ i : Nat, r.name = sR ++ dig i
 | 0, r, h => by simp [ZaL] at h
 | k + 1, r, h => by
  rw [ZaL] at h
  rcases List.mem_append.1 h with h | h
  ·exact rules23_name sets k r h
  ·exact ⟨k, made17_name _ _ r h⟩
theorem eras23_set (sets : Int) (l : List E23) : ∀ k, ∀ e ∈ (ZaK sets l k).1, e.set.size ≤ 2
 | 0, e, h => by simp [ZaK] at h
 | k + 1, e, h => by
  rw [ZaK] at h
  rcases List.mem_append.1 h with h | h
  ·exact eras23_set sets l k e h
  ·rw [List.mem_singleton.1 h]
   simp only [era23, set23]
   split
   ·have := dig_le ((l.getD k e23Z).set % sets)
    rw [ByteArray.size_append]
    have h2 : sR.size = 1 := rfl
    omega
   ·decide
theorem zones23_mem (sets : Int) (zs : List (List E23)) : ∀ k, ∀ z ∈ Za8 sets zs k, ∃ (i : Nat) (l : List E23), z = zone23 sets i l
 | 0, z, h => by simp [Za8] at h
 | k + 1, z, h => by
  rw [Za8] at h
  rcases List.mem_append.1 h with h | h
  ·exact zones23_mem sets zs k z h
  ·exact ⟨k, _, List.mem_singleton.1 h⟩
theorem links23_mem (nz : Nat) (l : List Int) : ∀ k, ∀ x ∈ ZaZ nz l k, ∃ (n : Int) (i : Nat), x = link23 nz n i
 | 0, z, h => by simp [ZaZ] at h
 | k + 1, z, h => by
  rw [ZaZ] at h
  rcases List.mem_append.1 h with h | h
  ·exact links23_mem nz l k z h
  ·exact ⟨_, k, List.mem_singleton.1 h⟩
theorem short23 (d : DD23) : Short (Zan d) := by
 refine ⟨fun x hx => ?_, fun x hx => ?_, fun x hx => ?_, fun x hx => ?_⟩
 ·obtain ⟨i, e⟩ := rules23_name _ _ x hx
  have := dig_le i
  have h2 : sR.size = 1 := rfl
  rw [e, ByteArray.size_append]
  omega
 ·obtain ⟨i, l, rfl⟩ := zones23_mem _ _ _ x hx
  refine ⟨?_, fun e he => Nat.le_trans (eras23_set _ _ _ e he) (by decide)⟩
  have := dig_le i
  have h2 : sZ.size = 6 := rfl
  simp only [zone23]
  rw [ByteArray.size_append]
  omega
 ·obtain ⟨n, i, rfl⟩ := links23_mem _ _ _ x hx
  have h1 := dig_le i
  have h2 := dig_le (n % (((zl23 d.zones).length : Int) + i) - (zl23 d.zones).length)
  have h3 := dig_le (n % ((zl23 d.zones).length : Int))
  have h4 : sZ.size = 6 := rfl
  have h5 : sL.size = 5 := rfl
  simp only [link23]
  refine ⟨by rw [ByteArray.size_append]; omega, ?_⟩
  split <;> rw [ByteArray.size_append] <;> omega
 ·simp [Zan] at hx
theorem eras23_l4 (sets : Int) (l : List E23) : (ZaK sets (el23 l) (el23 l).length).1.length ≤ 4 := by rw [ZdG]; exact (el23_len l).2
theorem small23 (d : DD23) : (Zan d).rules.length ≤ 15 ∧ (Zan d).zones.length ≤ 3 ∧ (Zan d).links.length ≤ 4 ∧ ∀ z ∈ (Zan d).zones, z.eras.length ≤ 4 := by
 refine ⟨?_, ?_, ?_, fun z hz => ?_⟩
 ·have := Zcm d.sets d.ns
  have h2 : d.ns ≤ 3 := by unfold DD23.ns; omega
  rw [Zan]; dsimp only; omega
 ·rw [Zan]; dsimp only; rw [ZbS]; exact (ZcI d.zones).2
 ·rw [Zan]; dsimp only; rw [Zco, List.length_take]; omega
 ·obtain ⟨i, l, rfl⟩ := zones23_mem _ _ _ z hz
  exact eras23_l4 _ _
theorem fits23 (d : DD23) : Fits (Zan d) := by
 obtain ⟨h1, h2, h3, h4⟩ := small23 d
 exact ⟨by omega, by omega, by omega, by simp [Zan], fun z hz => by have := h4 z hz; omega⟩
theorem set_merged {a b : Zaf} (ha : a.shifts = []) (hb : b.shifts = []) (h : chkB a b = none) (x : ByteArray) : ((∃ r ∈ a.rules, r.name = x) → ofB (ZaD a b).rules x = ofB a.rules x) ∧ ((∃ r ∈ b.rules, r.name = x) → ofB (ZaD a b).rules x = ofB b.rules x) := by
 have e : (ZaD a b).rules = rulesM a.rules b.rules := by rw [ZaO ha hb]
 rw [e, ofB_rulesM]
 constructor
 ·rintro ⟨r, h1, rfl⟩
  rw [if_neg]
  intro h2
  exact (ofB_nil _ _).1 h2 r h1 rfl
 ·rintro ⟨r, h1, rfl⟩
  split
  ·rfl
  ·rename_i hne
   rcases (alike_iff ha hb r.name).1 ((chk_none.1 h).1 r h1) with h2 | h2
   ·exact absurd h2 hne
   ·exact h2
theorem merged_len (a b : Zaf) : (ZaD a b).rules.length = a.rules.length + (b.rules.filter fun r => decide ((ofB a.rules r.name).length = 0)).length := by
 rw [ZaD, List.length_append]
def ZcA (d f : DD23) (common : Bool) : DD23 := if common then { f with sets := d.sets } else f
def secD (d f : DD23) (common : Bool) : Zaf := renD (Zan (ZcA d f common)) xX (!common)
def rNames : List ByteArray := (List.range 3).map fun i : Nat => sR ++ dig i
theorem rules23_in (sets : List (List Int)) : ∀ k, ∀ r ∈ ZaL sets k, ∃ i : Nat, i < k ∧ r.name = sR ++ dig i
 | 0, r, h => by simp [ZaL] at h
 | k + 1, r, h => by
  rw [ZaL] at h
  rcases List.mem_append.1 h with h | h
  ·obtain ⟨i, h1, h2⟩ := rules23_in sets k r h
   exact ⟨i, by omega, h2⟩
  ·exact ⟨k, by omega, made17_name _ _ r h⟩
theorem rn_all (d : DD23) : ∀ r ∈ (Zan d).rules, r.name ∈ rNames := fun r hr => by
 obtain ⟨i, h1, h2⟩ := rules23_in _ _ r hr
 have h3 : d.ns ≤ 3 := by unfold DD23.ns; omega
 exact List.mem_map.2 ⟨i, List.mem_range.2 (by omega), h2.symm⟩
theorem apartR : ∀ x ∈ rNames, ∀ y ∈ rNames, x ++ xX ≠ y := by decide +kernel
theorem nms_ren (a : Zaf) (b : Bool) : ∀ x ∈ nms (renD a xX b), ∃ y ∈ nms a, x = y ++ xX := fun x hx => by
 rcases List.mem_append.1 hx with hx | hx
 ·obtain ⟨z, h1, rfl⟩ := List.mem_map.1 hx
  obtain ⟨y, h2, rfl⟩ := List.mem_map.1 h1
  exact ⟨_, List.mem_append_left _ (List.mem_map_of_mem h2), rfl⟩
 ·obtain ⟨z, h1, rfl⟩ := List.mem_map.1 hx
  obtain ⟨y, h2, rfl⟩ := List.mem_map.1 h1
  exact ⟨_, List.mem_append_right _ (List.mem_map_of_mem h2), rfl⟩
theorem sec_shifts (d f : DD23) (common : Bool) : (secD d f common).shifts = [] := by
 rw [secD, renD]
 cases common <;> rfl
theorem sec_chk (d f : DD23) (common : Bool) : chkB (Zan d) (secD d f common) = none := by
 refine chk_none.2 ⟨fun r hr => ?_, fun x hx hx2 => ?_⟩
 ·refine (alike_iff rfl (sec_shifts d f common) r.name).2 ?_
  cases common with
  | true =>
   refine .inr ?_
   have : (secD d f true).rules = (Zan d).rules := rfl
   rw [this]
  | false =>
   refine .inl ((ofB_nil _ _).2 fun q hq he => ?_)
   obtain ⟨y, h1, rfl⟩ := List.mem_map.1 (show r ∈ (Zan f).rules.map (rnR xX) from hr)
   exact apartR _ (rn_all f y h1) _ (rn_all d q hq) he.symm
 ·obtain ⟨y, h1, rfl⟩ := nms_ren _ _ x hx
  exact apartX _ (nms_all _ y h1) _ (nms_all d _ hx2) rfl
theorem sec_small (d f : DD23) (common : Bool) : (secD d f common).rules.length ≤ 15 ∧ (secD d f common).zones.length ≤ 3 ∧ (secD d f common).links.length ≤ 4 ∧ ∀ z ∈ (secD d f common).zones, z.eras.length ≤ 4 := by
 obtain ⟨h1, h2, h3, h4⟩ := small23 (ZcA d f common)
 refine ⟨?_, ?_, ?_, fun z hz => ?_⟩
 ·rw [secD, renD]; dsimp only; rw [Zdo]; exact h1
 ·rw [secD, renD]; dsimp only; rw [List.length_map]; exact h2
 ·rw [secD, renD]; dsimp only; rw [List.length_map]; exact h3
 ·obtain ⟨y, hy, rfl⟩ := List.mem_map.1 hz
  rw [rnZ]; dsimp only; rw [Zdo]; exact h4 y hy
attribute [local irreducible] W RL Does Zat Zak retQ Calls Pu Stp RD Qy Ay
def ruleS (save : Int) : Zaa := ⟨⟨#[82]⟩, 1900, 1900, 1, ⟨1, 0, 1⟩, ⟨0, 0⟩, save, ByteArray.empty⟩
def eraS : DEra := ⟨0, 0, 0, ByteArray.empty, ⟨#[71, 77, 84]⟩, ⟨false, 0, 0, ⟨0, 0, 0⟩, ⟨0, 0⟩⟩⟩
def Zbw (save : Int) (zone : ByteArray) (shifts : List ByteArray) : Zaf := ⟨[ruleS save], [⟨zone, [eraS]⟩], [], shifts⟩
def SmallOut (save : Int) (zone : ByteArray) (As : Option Addr) (cs : Nat) (shifts : List ByteArray) (v : Value) (O : List It) : Prop :=
 ∃ b1 b2 b3, v = srcV (some ⟨b1, 0, none⟩) (some ⟨b2, 0, none⟩) none As 1 1 0 cs (Zbw save zone shifts) ∧ O = [.blk b1 (ruleS save).enc 118, .blk b2 [.string zone, .slice (some ⟨b3, 0, none⟩) 1 1] 54, .blk b3 eraS.enc 74]
theorem Zck (save : Int) (zone : ByteArray) (As : Option Addr) (cs : Nat) (shifts : List ByteArray) (w : World) :
  Does Tryz.prog 55 [.int .i64 save, .string zone, .slice As shifts.length cs] w (SmallOut save zone As cs shifts) := by
 refine Zab Tryz.func55 rfl rfl rfl rfl ?_
 repeat (first | (refine js ?_; (refine bx ?_; intro bk)) | refine walk ?_)
 rename_i b1 b3
 exact ret_1 _ [.blk b1 (ruleS save).enc 118, .blk bk [.string zone, .slice (some ⟨b3, 0, none⟩) 1 1] 54, .blk b3 eraS.enc 74] (.cellB rfl (by repeat' constructor) rfl rfl) SOA ⟨_, _, _, rfl, rfl⟩
theorem small_rd {w : World} {save : Int} {zone : ByteArray} {As : Option Addr} {cs : Nat} {shifts : List ByteArray} {b1 b2 b3 : Nat} (h1 : (It.blk b1 (ruleS save).enc 118).sat w) (h2 : (It.blk b2 [.string zone, .slice (some ⟨b3, 0, none⟩) 1 1] 54).sat w) (h3 : (It.blk b3 eraS.enc 74).sat w) (hs : RdSl w As cs Zau 1 shifts) :
  Zao w (some ⟨b1, 0, none⟩) (some ⟨b2, 0, none⟩) none As 1 1 0 cs (Zbw save zone shifts) := by
 have e1 : (It.blk b1 ([ruleS save].flatMap Zaa.enc) 118).sat w := h1
 have e2 : (It.blk b2 ([(⟨⟨zone, [eraS]⟩, some ⟨b3, 0, none⟩, 1⟩ : ZE)].flatMap ZE.enc) 54).sat w := h2
 have e3 : (It.blk b3 ([eraS].flatMap DEra.enc) 74).sat w := h3
 exact ⟨blkRd Zaa.len (Nat.le_refl 1) (by decide) e1, Nat.le_refl 1, by decide, zones_rd (blkRd (c := 1) (l := [(⟨⟨zone, [eraS]⟩, some ⟨b3, 0, none⟩, 1⟩ : ZE)]) ZE.len (Nat.le_refl 1) (by decide) e2) (fun q hq => by rw [List.mem_singleton.1 hq]; exact blkRd (l := [eraS]) DEra.len (Nat.le_refl 1) (show 1 ≤ maxLen by decide) e3), rdNil _ _ _, hs⟩
def failsB (a b : Zaf) (part index : Int) : Bool := decide (errOf (chkB a b) = 10) && (decide (placeOf (chkB a b) = ⟨part, index, 0⟩) && decide (resS a b = emptyS))
theorem rdEmpty (w : World) : Zao w none none none none 0 0 0 0 emptyS := ⟨rdNil _ _ _, Nat.le_refl _, Nat.zero_le _, fun _ _ h => by simp [emptyS] at h, rdNil _ _ _, rdNil _ _ _⟩
theorem ZdE (Ar Az Al As : Option Addr) (cr cz cl cs : Nat) (a : Zaf) (Br Bz Bl Bs : Option Addr) (dr dz dl ds : Nat) (b : Zaf) (part index : Int) (w : World) (hA : Zao w Ar Az Al As cr cz cl cs a) (hB : Zao w Br Bz Bl Bs dr dz dl ds b)
  (hn : Fits a) (hm : Fits b) :
  Does Tryz.prog 57 [srcV Ar Az Al As cr cz cl cs a, srcV Br Bz Bl Bs dr dz dl ds b, .int .i64 part, .int .i64 index] w (fun v O => v = .bool (failsB a b part index) ∧ O = []) := by
 refine Zab Tryz.func57 rfl rfl rfl rfl ?_
 repeat (first | (refine js ?_; (first | (apply Zah (h := fun w' hw _ => merge_spec Ar Az Al As cr cz cl cs a Br Bz Bl Bs dr dz dl ds b w' (hA.up hw) (hB.up hw) hn hm); rfl; rintro v O' ⟨v1, rfl, R1, r1, Z1, z1, L1, l1, H1, h1, Zs1, S1, rfl, hZ1, rfl⟩) | (refine bx ?_; intro bk))) | refine walk ?_)
 refine Zdj 21 rfl (fun g1 => ?_) (fun g1 => ?_)
 ·repeat (first | (apply RL_pu; rfl; (apply Pu_eqlE (i := placeOf (chkB a b)) (j := ⟨part, index, 0⟩); rfl; rfl)) | (refine js ?_; (refine bx ?_; intro bk)) | refine walk1 ?_)
  refine Zdj 28 rfl (fun g2 => ?_) (fun g2 => ?_)
  ·repeat (first | (refine js ?_; (first | (refine ZaW (fun w' hw hO => same_spec R1 Z1 L1 H1 r1 z1 l1 h1 (resS a b) none none none none 0 0 0 0 emptyS w' (src_rd hZ1 (hO.of (by repeat' constructor)) (hO.of (by repeat' constructor)) (hO.of (by repeat' constructor)) (hO.of (by repeat' constructor)) (hO.of (A := .fact S1 (ZaH Zs1)) (by repeat' constructor))) (rdEmpty w')) ?_) | (refine bx ?_; intro bk))) | refine walk ?_)
   exact ret_1 _ [] (.tmp rfl) .nil ⟨by rw [failsB, g1, g2]; rfl, rfl⟩
  repeat (first | (refine js ?_; (refine bx ?_; intro bk)) | refine walk ?_)
  exact ret_1 _ [] (.tmp rfl) .nil ⟨by rw [failsB, g1, g2]; rfl, rfl⟩
 repeat (first | (refine js ?_; (refine bx ?_; intro bk)) | refine walk ?_)
 exact ret_1 _ [] (.tmp rfl) .nil ⟨by rw [failsB, g1]; rfl, rfl⟩
def nR : ByteArray := ⟨#[82]⟩
def nA : ByteArray := ⟨#[65]⟩
def nB : ByteArray := ⟨#[66]⟩
theorem rdR {w : World} {b : Nat} (h : (It.blk b [.string nR] 9).sat w) : RdSl w (some ⟨b, 0, none⟩) 1 Zau 1 [nR] :=
 blkRd (l := [nR]) Zau.len (Nat.le_refl 1) (by decide) h
theorem ZbL (save : Int) (z : ByteArray) (l : List ByteArray) (h : l.length ≤ 1000000) : Fits (Zbw save z l) :=
 ⟨by simp [Zbw], by simp [Zbw], by simp [Zbw], h, fun z hz => by rw [Zbw] at hz; rw [List.mem_singleton.1 hz]; simp⟩
def zoneS (z : ByteArray) : ZaN := ⟨z, [eraS]⟩
def wantD : Zaf := ⟨[ruleS 0], [zoneS nA, zoneS nB], [], [nR]⟩
def twoD : Zaf := ⟨[ruleS 0], [zoneS nB, zoneS nA], [], [nR]⟩
def linkD : Zaf := ⟨[ruleS 0], [zoneS nB], [⟨nB, nA⟩], [nR]⟩
theorem two_rd {w : World} {x y : ByteArray} {b1 b3 c3 k dd : Nat} {D : Option Addr} (h1 : (It.blk b1 (ruleS 0).enc 118).sat w) (h2 : (It.row (.slice D (1 + 1) dd) 54 2 (1 + 1) ([.string x, .slice (some ⟨b3, 0, none⟩) 1 1] ++ [.string y, .slice (some ⟨c3, 0, none⟩) 1 1])).sat w) (h3 : (It.blk b3 eraS.enc 74).sat w) (h4 : (It.blk c3 eraS.enc 74).sat w) (h5 : (It.blk k [.string nR] 9).sat w) :
  Zao w (some ⟨b1, 0, none⟩) D none (some ⟨k, 0, none⟩) 1 dd 0 1 ⟨[ruleS 0], [zoneS x, zoneS y], [], [nR]⟩ := by
 have e1 : (It.blk b1 ([ruleS 0].flatMap Zaa.enc) 118).sat w := h1
 have e3 : ∀ b, (It.blk b eraS.enc 74).sat w → RdSl w (some ⟨b, 0, none⟩) 1 DEra.enc 13 [eraS] := fun b h => blkRd (l := [eraS]) DEra.len (Nat.le_refl 1) (show 1 ≤ maxLen by decide) h
 have e2 := Za3 (l := [(⟨zoneS x, some ⟨b3, 0, none⟩, 1⟩ : ZE), ⟨zoneS y, some ⟨c3, 0, none⟩, 1⟩]) ZE.len h2
 refine ⟨blkRd Zaa.len (Nat.le_refl 1) (by decide) e1, e2.le, e2.cap, zones_rd e2 (fun q hq => ?_), rdNil _ _ _, rdR h5⟩
 rcases List.mem_cons.1 hq with rfl | hq
 ·exact e3 _ h3
 ·rw [List.mem_singleton.1 hq]; exact e3 _ h4
theorem link_rd {w : World} {b1 b2 b3 k kl : Nat} (h1 : (It.blk b1 (ruleS 0).enc 118).sat w) (h2 : (It.blk b2 [.string nB, .slice (some ⟨b3, 0, none⟩) 1 1] 54).sat w) (h3 : (It.blk b3 eraS.enc 74).sat w) (h4 : (It.blk kl [.string nB, .string nA] 56).sat w) (h5 : (It.blk k [.string nR] 9).sat w) :
  Zao w (some ⟨b1, 0, none⟩) (some ⟨b2, 0, none⟩) (some ⟨kl, 0, none⟩) (some ⟨k, 0, none⟩) 1 1 1 1 linkD := by
 have h := small_rd (save := 0) (zone := nB) h1 h2 h3 (rdR h5)
 exact ⟨h.r, h.zle, h.zcap, h.z, blkRd (l := [(⟨nB, nA⟩ : ZaC)]) ZaC.len (Nat.le_refl 1) (by decide) h4, h.s⟩
theorem fitsLink : Fits linkD := ⟨by decide, by decide, by decide, by decide, fun z hz => by rw [linkD] at hz; rw [List.mem_singleton.1 hz]; decide⟩
theorem fitsTwo : Fits twoD := ⟨by decide, by decide, by decide, by decide, fun z hz => by
 rw [twoD] at hz
 rcases List.mem_cons.1 hz with rfl | hz
 ·decide
 ·rw [List.mem_singleton.1 hz]; decide⟩
theorem PuWorks20 {G : Prop} (h : G := by (apply Pu_eqlE (i := placeOf (chkB (Zbw 0 nA [nR]) (Zbw 0 nB [nR]))) (j := ⟨0, 0, 0⟩); rfl; rfl)) : G := h
theorem QyWorks20 {G : Prop} (h : G := by first | (apply Qy_y; rfl; exact PuWorks20) | exact QyA) : G := h
set_option maxHeartbeats 1000000 in
theorem works_spec (w : World) : Does Tryz.prog 23 [] w (fun v O => v = .bool true ∧ O = []) := by
 refine Zab Tryz.func23 rfl rfl rfl rfl ?_
 repeat (first | refine walk ?_ | (refine jg ?_; (try intro F); (first | (apply ZbN; rfl; rfl; rfl; intro kA) | (apply Zah (h := fun w' _ _ => Zck 0 nA (some ⟨kA, 0, none⟩) 1 [nR] w'); rfl; rintro v O' ⟨a1, a2, a3, rfl, rfl⟩) | (refine bx ?_; intro bk) | (refine stA ?_)); refine fin ?_) | (refine jn ?_; (try intro F); (first | (apply ZbN; rfl; rfl; rfl; intro kA) | (refine bx ?_; intro bk) | (refine stA ?_) | (apply Zae; exact PuA)); refine fin ?_) | (apply RD_W; rfl; intro bk))
 rename_i k1
 generalize kA = k2
 have rdA : ∀ w', (It.blk a1 (ruleS 0).enc 118).sat w' → (It.blk a2 [.string nA, .slice (some ⟨a3, 0, none⟩) 1 1] 54).sat w' → (It.blk a3 eraS.enc 74).sat w' → (It.blk k1 [.string nR] 9).sat w' → Zao w' (some ⟨a1, 0, none⟩) (some ⟨a2, 0, none⟩) none (some ⟨k1, 0, none⟩) 1 1 0 1 (Zbw 0 nA [nR]) := fun w' h1 h2 h3 h4 => small_rd h1 h2 h3 (rdR h4)
 repeat (first | refine walk ?_ | (refine jg ?_; (try intro F); (first | (apply Zah (h := fun w' _ _ => Zck 0 nB (some ⟨k2, 0, none⟩) 1 [nR] w'); rfl; rintro v O' ⟨c1, c2, c3, rfl, rfl⟩) | (refine bx ?_; intro bk) | (refine stA ?_)); refine fin ?_) | (refine jn ?_; (try intro F); (first | (refine bx ?_; intro bk) | (refine stA ?_) | (apply Zae; exact PuA)); refine fin ?_) | (apply RD_W; rfl; intro bk))
 rename_i t1
 generalize bk = t2
 repeat (first | refine walk ?_ | (refine jg ?_; (try intro F); (first | (apply Zah (h := fun w' _ hO => merge_spec (some ⟨a1, 0, none⟩) (some ⟨a2, 0, none⟩) none (some ⟨k1, 0, none⟩) 1 1 0 1 (Zbw 0 nA [nR]) (some ⟨c1, 0, none⟩) (some ⟨c2, 0, none⟩) none (some ⟨k2, 0, none⟩) 1 1 0 1 (Zbw 0 nB [nR]) w' (rdA w' (hO.of (by repeat' constructor)) (hO.of (by repeat' constructor)) (hO.of (by repeat' constructor)) (hO.of (by repeat' constructor))) (small_rd (hO.of (A := .blk c1 (ruleS 0).enc _) (by repeat' constructor)) (hO.of (A := .blk c2 [.string nB, .slice (some ⟨c3, 0, none⟩) 1 1] _) (by repeat' constructor)) (hO.of (A := .blk c3 _ _) (by repeat' constructor)) (rdR (hO.of (A := .blk k2 _ _) (by repeat' constructor)))) (ZbL _ _ _ (by decide)) (ZbL _ _ _ (by decide))); rfl; rintro v O' ⟨v1, rfl, R1, r1, Z1, z1, L1, l1, H1, h1, Zs1, S1, rfl, hZ1, rfl⟩) | (refine bx ?_; intro bk) | (refine stA ?_)); refine fin ?_) | (refine jn ?_; (try intro F); (first | (refine bx ?_; intro bk) | (refine stA ?_) | (apply Zae; exact PuA)); refine fin ?_) | (apply RD_W; rfl; intro bk))
 rename_i s3 s4
 generalize bk = k3
 have e0 : chkB (Zbw 0 nA [nR]) (Zbw 0 nB [nR]) = none := by decide +kernel
 repeat (first | refine walk ?_ | (refine jg ?_; (try intro F); (first | (apply Zah (h := fun w' _ _ => Zck 0 nA (some ⟨k3, 0, none⟩) 1 [nR] w'); rfl; rintro v O' ⟨d1, d2, d3, rfl, rfl⟩) | (refine bx ?_; intro bk) | (refine stA ?_)); refine fin ?_) | (refine jn ?_; (try intro F); (first | (refine bx ?_; intro bk) | (refine stA ?_) | (apply Zae; exact PuA)); refine fin ?_) | (apply RD_W; rfl; intro bk))
 refine RL_toRow (b := d2) (m := 1) (cs := [.string nA, .slice (some ⟨d3, 0, none⟩) 1 1]) (t := 54) 2 (by repeat' constructor) rfl (by decide) ?_
 repeat (first | refine walk ?_ | (refine jn ?_; (try intro F); (first | (apply Zaq (m := 1) (k := 1) (xs := [.string nA, .slice (some ⟨d3, 0, none⟩) 1 1]); rfl; rfl; (intro A' c'; (focus repeat' constructor)); (intro w' _ hO; exact Za1 (hO.of (A := .blk c2 [.string nB, .slice (some ⟨c3, 0, none⟩) 1 1] _) (by repeat' constructor))); rfl; rfl; (simp only [maxLen]; omega); omega; intro D2 dd hq1 hq2 hq3) | (refine bx ?_; intro bk) | (refine stA ?_) | (apply Zae; exact PuA)); refine fin ?_) | (apply RD_W; rfl; intro bk))
 rename_i t6
 generalize bk = k4
 repeat (first | refine walk ?_ | (refine jg ?_; (try intro F); (first | (apply Zah (h := fun w' _ _ => Zck 0 nB (some ⟨k4, 0, none⟩) 1 [nR] w'); rfl; rintro v O' ⟨e1, e2, e3, rfl, rfl⟩) | (refine bx ?_; intro bk) | (refine stA ?_)); refine fin ?_) | (refine jn ?_; (try intro F); (first | (refine bx ?_; intro bk) | (refine stA ?_) | (apply Zae; exact PuA)); refine fin ?_) | (apply RD_W; rfl; intro bk))
 rename_i t7 kl
 generalize bk = k5
 repeat (first | refine walk ?_ | (refine jg ?_; (try intro F); (first | (apply Zah (h := fun w' _ _ => Zck 0 nB (some ⟨k5, 0, none⟩) 1 [nR] w'); rfl; rintro v O' ⟨f1, f2, f3, rfl, rfl⟩) | (refine bx ?_; intro bk) | (refine stA ?_)); refine fin ?_) | (refine jn ?_; (try intro F); (first | (refine bx ?_; intro bk) | (refine stA ?_) | (apply Zae; exact PuA)); refine fin ?_) | (apply RD_W; rfl; intro bk))
 generalize bk = t8
 refine RL_toRow (b := f2) (m := 1) (cs := [.string nB, .slice (some ⟨f3, 0, none⟩) 1 1]) (t := 54) 2 (by repeat' constructor) rfl (by decide) ?_
 repeat (first | refine walk ?_ | (refine jn ?_; (try intro F); (first | (apply Zaq (m := 1) (k := 1) (xs := [.string nB, .slice (some ⟨f3, 0, none⟩) 1 1]); rfl; rfl; (intro A' c'; (focus repeat' constructor)); (intro w' _ hO; exact Za1 (hO.of (A := .blk a2 [.string nA, .slice (some ⟨a3, 0, none⟩) 1 1] _) (by repeat' constructor))); rfl; rfl; (simp only [maxLen]; omega); omega; intro F2 ff hf1 hf2 hf3) | (refine bx ?_; intro bk) | (refine stA ?_) | (apply Zae; exact PuA)); refine fin ?_) | (apply RD_W; rfl; intro bk))
 refine Zce 43 rfl (fun _ => ?_) (fun h => absurd h (by rw [e0]; decide))
 repeat (first | (apply RL_pu; rfl; exact PuWorks20) | (apply RD_Q; rfl; rfl; decide +kernel; rfl; rfl; exact QyWorks20) | refine walk1 ?_ | (refine jn ?_; (try intro F); (first | (refine bx ?_; intro bk) | (refine stA ?_) | (apply Zae; first | exact PuWorks20 | exact PuA)); first | refine ⟨_, EndsA, QFWorks20, ?_⟩ | refine fin ?_) | (apply RD_W; rfl; intro bk))
 refine Zce 48 rfl (fun _ => ?_) (fun h => absurd h (by rw [e0]; decide))
 repeat (first | refine walk ?_ | (refine jg ?_; (try intro F); (first | (refine ZaW (fun w' _ hO => same_spec R1 Z1 L1 H1 r1 z1 l1 h1 (resS (Zbw 0 nA [nR]) (Zbw 0 nB [nR])) (some ⟨d1, 0, none⟩) D2 none (some ⟨k3, 0, none⟩) 1 dd 0 1 wantD w' (src_rd hZ1 (hO.of (by repeat' constructor)) (hO.of (by repeat' constructor)) (hO.of (by repeat' constructor)) (hO.of (by repeat' constructor)) (hO.of (A := .fact S1 (ZaH Zs1)) (by repeat' constructor))) (two_rd (hO.of (by repeat' constructor)) (hO.of (by repeat' constructor)) (hO.of (A := .blk d3 _ _) (by repeat' constructor)) (hO.of (A := .blk c3 _ _) (by repeat' constructor)) (hO.of (by repeat' constructor)))) ?_) | (refine bx ?_; intro bk) | (refine stA ?_)); refine fin ?_) | (refine jn ?_; (try intro F); (first | (refine bx ?_; intro bk) | (refine stA ?_) | (apply Zae; exact PuA)); refine fin ?_) | (apply RD_W; rfl; intro bk))
 refine Zce 53 rfl (fun _ => ?_) (fun h => absurd h (by decide +kernel))
 repeat (first | refine walk ?_ | (refine jg ?_; (try intro F); (first | (apply Zah (h := fun w' _ _ => Zck 0 nB none 0 [] w'); rfl; rintro v O' ⟨g1, g2, g3, rfl, rfl⟩) | (refine ZaW (fun w' _ hO => ZdE (some ⟨a1, 0, none⟩) (some ⟨a2, 0, none⟩) none (some ⟨k1, 0, none⟩) 1 1 0 1 (Zbw 0 nA [nR]) (some ⟨g1, 0, none⟩) (some ⟨g2, 0, none⟩) none none 1 1 0 0 (Zbw 0 nB []) 1 0 w' (rdA w' (hO.of (by repeat' constructor)) (hO.of (by repeat' constructor)) (hO.of (by repeat' constructor)) (hO.of (by repeat' constructor))) (small_rd (hO.of (A := .blk g1 (ruleS 0).enc _) (by repeat' constructor)) (hO.of (A := .blk g2 [.string nB, .slice (some ⟨g3, 0, none⟩) 1 1] _) (by repeat' constructor)) (hO.of (A := .blk g3 _ _) (by repeat' constructor)) (rdNil _ _ _)) (ZbL _ _ _ (by decide)) (ZbL _ _ _ (by decide))) ?_) | (refine bx ?_; intro bk) | (refine stA ?_)); refine fin ?_) | (refine jn ?_; (try intro F); (first | (refine bx ?_; intro bk) | (refine stA ?_) | (apply Zae; exact PuA)); refine fin ?_) | (apply RD_W; rfl; intro bk))
 generalize bk = kM
 refine Zce 58 rfl (fun _ => ?_) (fun h => absurd h (by decide +kernel))
 repeat (first | refine walk ?_ | (refine jg ?_; (try intro F); (first | (apply Zah (h := fun w' _ _ => Zck 60 nB (some ⟨kM, 0, none⟩) 1 [nR] w'); rfl; rintro v O' ⟨m1, m2, m3, rfl, rfl⟩) | (refine ZaW (fun w' _ hO => ZdE (some ⟨a1, 0, none⟩) (some ⟨a2, 0, none⟩) none (some ⟨k1, 0, none⟩) 1 1 0 1 (Zbw 0 nA [nR]) (some ⟨m1, 0, none⟩) (some ⟨m2, 0, none⟩) none (some ⟨kM, 0, none⟩) 1 1 0 1 (Zbw 60 nB [nR]) 1 0 w' (rdA w' (hO.of (by repeat' constructor)) (hO.of (by repeat' constructor)) (hO.of (by repeat' constructor)) (hO.of (by repeat' constructor))) (small_rd (hO.of (A := .blk m1 (ruleS 60).enc _) (by repeat' constructor)) (hO.of (A := .blk m2 [.string nB, .slice (some ⟨m3, 0, none⟩) 1 1] _) (by repeat' constructor)) (hO.of (A := .blk m3 _ _) (by repeat' constructor)) (rdR (hO.of (A := .blk kM _ _) (by repeat' constructor)))) (ZbL _ _ _ (by decide)) (ZbL _ _ _ (by decide))) ?_) | (refine bx ?_; intro bk) | (refine stA ?_)); refine fin ?_) | (refine jn ?_; (try intro F); (first | (refine bx ?_; intro bk) | (refine stA ?_) | (apply Zae; exact PuA)); refine fin ?_) | (apply RD_W; rfl; intro bk))
 refine Zce 64 rfl (fun _ => ?_) (fun h => absurd h (by decide +kernel))
 repeat (first | refine walk ?_ | (refine jg ?_; (try intro F); (first | (refine ZaW (fun w' _ hO => ZdE (some ⟨a1, 0, none⟩) (some ⟨a2, 0, none⟩) none (some ⟨k1, 0, none⟩) 1 1 0 1 (Zbw 0 nA [nR]) (some ⟨e1, 0, none⟩) (some ⟨e2, 0, none⟩) (some ⟨kl, 0, none⟩) (some ⟨k4, 0, none⟩) 1 1 1 1 linkD 3 0 w' (rdA w' (hO.of (by repeat' constructor)) (hO.of (by repeat' constructor)) (hO.of (by repeat' constructor)) (hO.of (by repeat' constructor))) (link_rd (hO.of (by repeat' constructor)) (hO.of (A := .blk e2 [.string nB, .slice (some ⟨e3, 0, none⟩) 1 1] _) (by repeat' constructor)) (hO.of (A := .blk e3 _ _) (by repeat' constructor)) (hO.of (by repeat' constructor)) (hO.of (by repeat' constructor))) (ZbL _ _ _ (by decide)) fitsLink) ?_) | (refine bx ?_; intro bk) | (refine stA ?_)); refine fin ?_) | (refine jn ?_; (try intro F); (first | (refine bx ?_; intro bk) | (refine stA ?_) | (apply Zae; exact PuA)); refine fin ?_) | (apply RD_W; rfl; intro bk))
 refine Zce 69 rfl (fun _ => ?_) (fun h => absurd h (by decide +kernel))
 repeat (first | refine walk ?_ | (refine jg ?_; (try intro F); (first | (refine ZaW (fun w' _ hO => ZdE (some ⟨a1, 0, none⟩) (some ⟨a2, 0, none⟩) none (some ⟨k1, 0, none⟩) 1 1 0 1 (Zbw 0 nA [nR]) (some ⟨f1, 0, none⟩) F2 none (some ⟨k5, 0, none⟩) 1 ff 0 1 twoD 2 1 w' (rdA w' (hO.of (by repeat' constructor)) (hO.of (by repeat' constructor)) (hO.of (by repeat' constructor)) (hO.of (by repeat' constructor))) (two_rd (hO.of (by repeat' constructor)) (hO.of (by repeat' constructor)) (hO.of (A := .blk f3 _ _) (by repeat' constructor)) (hO.of (A := .blk a3 _ _) (by repeat' constructor)) (hO.of (by repeat' constructor))) (ZbL _ _ _ (by decide)) fitsTwo) ?_) | (refine bx ?_; intro bk) | (refine stA ?_)); refine fin ?_) | (refine jn ?_; (try intro F); (first | (refine bx ?_; intro bk) | (refine stA ?_) | (apply Zae; exact PuA)); refine fin ?_) | (apply RD_W; rfl; intro bk))
 refine Zce 74 rfl (fun _ => ?_) (fun h => absurd h (by decide +kernel))
 repeat (first | refine walk ?_ | (refine jg ?_; (try intro F); (first | (refine ZaW (fun w' _ hO => ZdE (some ⟨a1, 0, none⟩) (some ⟨a2, 0, none⟩) none (some ⟨k1, 0, none⟩) 1 1 0 1 (Zbw 0 nA [nR]) (some ⟨a1, 0, none⟩) (some ⟨a2, 0, none⟩) none (some ⟨k1, 0, none⟩) 1 1 0 1 (Zbw 0 nA [nR]) 2 0 w' (rdA w' (hO.of (by repeat' constructor)) (hO.of (by repeat' constructor)) (hO.of (by repeat' constructor)) (hO.of (by repeat' constructor))) (rdA w' (hO.of (by repeat' constructor)) (hO.of (by repeat' constructor)) (hO.of (by repeat' constructor)) (hO.of (by repeat' constructor))) (ZbL _ _ _ (by decide)) (ZbL _ _ _ (by decide))) ?_) | (refine bx ?_; intro bk) | (refine stA ?_)); refine fin ?_) | (refine jn ?_; (try intro F); (first | (refine bx ?_; intro bk) | (refine stA ?_) | (apply Zae; exact PuA)); refine fin ?_) | (apply RD_W; rfl; intro bk))
 exact ret_1 _ [] (.tmp rfl) .nil ⟨congrArg Value.bool (by decide +kernel), rfl⟩
end Go.Proofs.YtpcpmndldgejiaaGreatDoor
