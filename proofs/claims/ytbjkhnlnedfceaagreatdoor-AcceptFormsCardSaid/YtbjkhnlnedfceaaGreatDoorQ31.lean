/- Contract: accept.looker.sets. Contract: accept.looker.shifts. Contracts: accept.hours, unused, looker.set, states, era$1. Contracts: slices.ContainsFunc at states, accept.unused, looker.era$1. -/
import Derived.Test.YtbjkhnlnedfceaaGreatDoorQ30
import Derived.Test.YtbjkhnlnedfceaaGreatDoorQ20
import Derived.Test.YtbjkhnlnedfceaaGreatDoorQ12
import Derived.Test.YtbjkhnlnedfceaaGreatDoorQ23
set_option maxHeartbeats 4000000
set_option linter.unusedVariables false
set_option linter.unusedSimpArgs false
namespace Go.Proofs.YtbjkhnlnedfceaaGreatDoor
open Go Go.RowKit Go.Wk
attribute [local irreducible] W RL Does thenQ blockQ retQ Calls Pu Stp RD Qy Ay DoesIn
theorem rsChk_ok (l : List DRule) : (rsChk l).1 ≤ l.length := by
 unfold rsChk
 split
 ·rename_i x h
  obtain ⟨j, e⟩ := x
  have := firstBad_ok _ l 0 j e h
  simp only at this ⊢
  omega
 ·repeat' split
  all_goals exact Nat.zero_le _
theorem PuAccC0 {G : Prop} (h : G := by (first | (apply Pu_indexAddrH; rfl; rfl; omega; omega; (intro w' _ hO; exact (row_cell (hO.of (A := .row (.slice An N.length cn) 9 1 N.length (N.flatMap strEnc)) (by repeat' constructor)) hg1).1)) | (apply Pu_loadR; rfl; (focus repeat' constructor); exact hg1))) : G := h
theorem lsets_spec (Ar Az Al As : Option Addr) (cr cz cl cs : Nat) (a : DSource) (w : World) (hG : Glob w) (hA : RdSource w Ar Az Al As cr cz cl cs a) (hS : SrcOk a) (hV : SavI a) :
  Does Tryz.prog 43 [srcV Ar Az Al As cr cz cl cs a] w (fun v O => v = ptV (setsD a) ∧ O = []) := by
 have hn := hS.nr
 have hnm := fun w' (hw : Bel w.heap.size w w') => names_spec Ar Az Al As cr cz cl cs a w' (hA.up hw) hn
 have hNm := namesB_mem a.rules []
 have hNl := namesB_len a.rules []
 unfold setsD
 generalize namesB a.rules [] = N at *
 simp only [List.length_nil, Nat.zero_add] at hNl
 obtain ⟨res, hres⟩ : ∃ res, setsGo a.rules N = res := ⟨_, rfl⟩
 rw [hres]
 refine Does_of_W Tryz.func43 rfl rfl rfl rfl ?_
 repeat (first | (refine js ?_; (first | (apply Stp_call (h := fun w' hw _ => hnm w' hw); rfl; rintro v O' ⟨An, cn, rfl, rfl⟩) | (refine bx ?_; intro bk))) | refine walk ?_)
 rename_i b1
 obtain ⟨b2, hb2⟩ : ∃ b2, bk = b2 := ⟨_, rfl⟩
 rw [hb2]
 clear hb2 bk
 refine W_loopF [(1, .pointer (some ⟨b1, 0, none⟩)), (2, .pointer (some ⟨b2, 0, none⟩)), (12, .slice An N.length cn), (13, .int .i64 N.length)] [.row (.slice An N.length cn) 9 1 N.length (N.flatMap strEnc), .blk b2 [.int .i64 0, .int .i64 0, .int .i64 0] 54, .blk b1 [.slice Ar a.rules.length cr, .slice Az a.zones.length cz, .slice Al a.links.length cl, .slice As a.shifts.length cs] 97]
  (fun k : Nat => [(14, .int .i64 k)]) (fun _ => []) (fun k => k ≤ N.length ∧ setsGo a.rules (N.drop k) = res) (fun k => N.length - k) 0 SFA SOA ⟨Nat.zero_le _, hres⟩ ?_
 clear hnm hres
 rintro k ⟨hk, hi⟩
 repeat (first | (refine js ?_; (refine bx ?_; intro bk)) | refine walk ?_)
 refine W_cond rfl (fun hc => ?_) (fun hc => ?_)
 ·simp only [decide_eq_true_eq, Int.ofNat_lt] at hc
  have hg1 : (N.flatMap strEnc)[k * 1]? = some (.string N[k]) := by
   have := flat_get (enc := strEnc) (fun _ => rfl) N k _ 0 (.string N[k]) (List.getElem?_eq_getElem hc) rfl
   simpa using this
  have hxm := hNm _ (List.getElem_mem hc)
  rw [drop_cons hc, setsGo] at hi
  generalize N[k] = x at *
  have hxs : x.size ≤ 1000000000 := by
   rcases hxm with h | ⟨r, hr, rfl⟩
   ·cases h
   ·exact (hS.rs r hr).1
  have hof := fun w' (hw : Bel w.heap.size w w') => ofN_spec Ar Az Al As cr cz cl cs a x w' (hA.up hw) hn
  have hset := fun w' => set_spec x (by omega) w'
  have hRs : ∀ r ∈ ofB a.rules x, r ∈ a.rules := fun r h => ofB_sub h
  have hRl := ofB_len a.rules x
  have hck := fun A3 c3 w' (hw : Bel w.heap.size w w') h => rscheck_spec A3 c3 (ofB a.rules x) w' (hG.up hw) h (by omega) (fun r hr => ⟨hV r (hRs r hr), by have := (hS.rs r (hRs r hr)).2; omega⟩)
  have hap := fun (hz : (rsChk (ofB a.rules x)).2 = 0) A3 c3 w' (hw : Bel w.heap.size w w') h => apart_spec A3 c3 (ofB a.rules x) w' (hG.up hw) h (by omega) (fun r hr => (rsChk_sav hz r hr).1)
  have hru0 := fun (i : Nat) (hi : i ≤ 1000000) w' (hw : Bel w.heap.size w w') => rule_spec Ar Az Al As cr cz cl cs a x i w' (hA.up hw) hn hi
  have hcl := rsChk_ok (ofB a.rules x)
  have har := apartD_rule (ofB a.rules x)
  unfold setFault at hi
  generalize ofB a.rules x = R at *
  cases hsb : setB x with
  | false =>
   rw [hsb] at hi hset
   rw [if_pos rfl] at hi
   dsimp only at hi
   have hru := hru0 0 (Nat.zero_le _)
   generalize ruleAt x a.rules 0 0 = pl at *
   obtain ⟨p1, p2, p3⟩ := pl
   simp only [plV, DPlace.enc] at hru
   subst hi
   simp only [ptV, plV, DPlace.enc]
   repeat (first | (apply RL_pu; rfl; exact PuAccC0) | (refine js ?_; (first | (apply Stp_call (h := fun w' hw _ => hof w' hw); rfl; rintro v O' ⟨A3, c3, rfl, rfl⟩) | (refine callE (fun w' hw => hset w') ?_) | (refine callE hru ?_) | (refine bx ?_; intro bk))) | refine walk1 ?_)
   exact rtC
  | true =>
   rw [hsb] at hi hset
   rw [if_neg (by decide)] at hi
   generalize rsChk R = rc at *
   obtain ⟨ci, ce⟩ := rc
   dsimp only at hi hck hcl hap
   by_cases hce : ce = 0
   ·subst hce
    replace hap := hap rfl
    rw [if_neg (fun h => h rfl)] at hi
    generalize apartD R = ap at *
    cases ap with
    | none =>
     simp only [apV, DEvent.enc, dEv0] at hap
     dsimp only at hi
     repeat (first | (apply RL_pu; rfl; exact PuAccC0) | (refine js ?_; (first | (apply Stp_call (h := fun w' hw _ => hof w' hw); rfl; rintro v O' ⟨A3, c3, rfl, rfl⟩) | (refine callE (fun w' hw => hset w') ?_) | (refine callO (fun w' hw hO => hck A3 c3 w' hw (rowRd DRule.len (hO.of (A := .row (.slice A3 R.length c3) 39 11 R.length (R.flatMap DRule.enc)) (by repeat' constructor)))) ?_) | (refine callO (fun w' hw hO => hap A3 c3 w' hw (rowRd DRule.len (hO.of (A := .row (.slice A3 R.length c3) 39 11 R.length (R.flatMap DRule.enc)) (by repeat' constructor)))) ?_) | (refine bx ?_; intro bk))) | refine walk1 ?_)
     exact ⟨k + 1, OA, ⟨OA, hi⟩, SFA, SOA⟩
    | some e =>
     obtain ⟨j, hj, hjl⟩ := har e rfl
     obtain ⟨ey, er, en⟩ := e
     dsimp only at hj
     subst hj
     simp only [apV, DEvent.enc] at hap
     simp only [Int.toNat_natCast] at hi
     have hru := hru0 j (by omega)
     generalize ruleAt x a.rules j 0 = pl at *
     obtain ⟨p1, p2, p3⟩ := pl
     simp only [plV, DPlace.enc] at hru
     subst hi
     simp only [ptV, plV, DPlace.enc]
     repeat (first | (apply RL_pu; rfl; exact PuAccC0) | (refine js ?_; (first | (apply Stp_call (h := fun w' hw _ => hof w' hw); rfl; rintro v O' ⟨A3, c3, rfl, rfl⟩) | (refine callE (fun w' hw => hset w') ?_) | (refine callO (fun w' hw hO => hck A3 c3 w' hw (rowRd DRule.len (hO.of (A := .row (.slice A3 R.length c3) 39 11 R.length (R.flatMap DRule.enc)) (by repeat' constructor)))) ?_) | (refine callO (fun w' hw hO => hap A3 c3 w' hw (rowRd DRule.len (hO.of (A := .row (.slice A3 R.length c3) 39 11 R.length (R.flatMap DRule.enc)) (by repeat' constructor)))) ?_) | (refine callE hru ?_) | (refine bx ?_; intro bk))) | refine walk1 ?_)
     exact rtC
   ·rw [if_pos hce] at hi
    dsimp only at hi
    have hb : decide (ce = 0) = false := decide_eq_false hce
    have hb2 : (!decide (ce = 0)) = true := by rw [hb]; rfl
    have hru := hru0 ci (by omega)
    generalize ruleAt x a.rules ci 0 = pl at *
    obtain ⟨p1, p2, p3⟩ := pl
    simp only [plV, DPlace.enc] at hru
    subst hi
    simp only [ptV, plV, DPlace.enc]
    repeat (first | (apply RL_pu; rfl; (first | exact PuAccC0 | (apply Pu_eqlB; rfl; rfl; exact hb) | (apply Pu_neqB'; rfl; rfl; exact hb2))) | (refine js ?_; (first | (apply Stp_call (h := fun w' hw _ => hof w' hw); rfl; rintro v O' ⟨A3, c3, rfl, rfl⟩) | (refine callE (fun w' hw => hset w') ?_) | (refine callO (fun w' hw hO => hck A3 c3 w' hw (rowRd DRule.len (hO.of (A := .row (.slice A3 R.length c3) 39 11 R.length (R.flatMap DRule.enc)) (by repeat' constructor)))) ?_) | (refine callE hru ?_) | (refine bx ?_; intro bk))) | refine walk1 ?_)
    exact rtC
 ·simp only [decide_eq_false_iff_not, Int.ofNat_lt] at hc
  rw [List.drop_eq_nil_of_le (by omega), setsGo] at hi
  subst hi
  repeat (first | (refine js ?_; (refine bx ?_; intro bk)) | refine walk ?_)
  exact rtC
theorem rdTake {α : Type} {w : World} {A : Option Addr} {c sz : Nat} {enc : α → List Value} {l : List α} (h : RdSl w A c enc sz l) (k : Nat) : RdSl w A c enc sz (l.take k) where
 le := by have := h.le; rw [List.length_take]; omega
 cap := h.cap
 rd := fun j x hj => h.rd j x (by
  rw [List.getElem?_take] at hj
  split at hj
  ·exact hj
  ·cases hj)
theorem PuAccD0 {G : Prop} (h : G := by (first | exact PuI | (apply Pu_eqlB; rfl; rfl; exact hb))) : G := h
theorem PuAccD1 {G : Prop} (h : G := by (first | exact PuAccD0 | (apply Pu_sliceH; rfl; rfl; omega; omega))) : G := h
theorem wkAccD0 {G G' : Prop} (k : G') (h : Hold G' → G := by intro k9; (first | (apply RL_pu; rfl; exact PuAccD1) | (refine js ?_; (first | (refine callO (fun w' hw hO => hot A3 c3 w' (rowRd DRule.len (hO.of (A := .row (.slice A3 R.length c3) 39 11 R.length (R.flatMap DRule.enc)) (by repeat' constructor)))) ?_) | (refine callE hco ?_) | (refine callO (fun w' hw hO => hle A3 c3 w' (rowRd DRule.len (hO.of (A := .row (.slice A3 R.length c3) 39 11 R.length (R.flatMap DRule.enc)) (by repeat' constructor)))) ?_))) | refine walk1 ?_); exact k9.out) : G := h ⟨k⟩
theorem lshifts_spec (Ar Az Al As : Option Addr) (cr cz cl cs : Nat) (a : DSource) (w : World) (hA : RdSource w Ar Az Al As cr cz cl cs a) (hS : SrcOk a) :
  Does Tryz.prog 44 [srcV Ar Az Al As cr cz cl cs a] w (fun v O => v = ptV (shiftsGo a a.shifts [] 0) ∧ O = []) := by
 have hn := hS.nr
 have hns := hS.ns
 have hcap := hA.s.le
 obtain ⟨res, hres⟩ : ∃ res, shiftsGo a a.shifts [] 0 = res := ⟨_, rfl⟩
 rw [hres]
 refine Does_of_W Tryz.func44 rfl rfl rfl rfl ?_
 repeat (first | (refine js ?_; (refine bx ?_; intro bk)) | refine walk ?_)
 rename_i b1
 obtain ⟨b2, hb2⟩ : ∃ b2, bk = b2 := ⟨_, rfl⟩
 rw [hb2]
 clear hb2 bk
 refine W_loopF [(1, .pointer (some ⟨b1, 0, none⟩)), (2, .pointer (some ⟨b2, 0, none⟩)), (12, .slice As a.shifts.length cs), (13, .int .i64 a.shifts.length)] [.blk b2 [.int .i64 0, .int .i64 0, .int .i64 0] 54, .blk b1 [.slice Ar a.rules.length cr, .slice Az a.zones.length cz, .slice Al a.links.length cl, .slice As a.shifts.length cs] 97]
  (fun k : Nat => [(14, .int .i64 k)]) (fun _ => []) (fun k => k ≤ a.shifts.length ∧ shiftsGo a (a.shifts.drop k) (a.shifts.take k) k = res) (fun k => a.shifts.length - k) 0 SFA SOA ⟨Nat.zero_le _, hres⟩ ?_
 clear hres
 rintro k ⟨hk, hi⟩
 repeat (first | (refine js ?_; (refine bx ?_; intro bk)) | refine walk ?_)
 refine W_cond rfl (fun hc => ?_) (fun hc => ?_)
 ·simp only [decide_eq_true_eq, Int.ofNat_lt] at hc
  obtain ⟨hna, hca⟩ := hA.s.rd k _ (List.getElem?_eq_getElem hc)
  have htk := List.take_append_getElem hc
  have hco := fun w' (hw : Bel w.heap.size w w') => contains_spec As cs (a.shifts.take k) a.shifts[k] w' ((rdTake hA.s k).up hw)
  rw [show (a.shifts.take k).length = k by rw [List.length_take]; omega] at hco
  rw [drop_cons hc, shiftsGo] at hi
  rw [htk] at hi
  generalize a.shifts[k] = x at *
  have hof := fun w' (hw : Bel w.heap.size w w') => ofN_spec Ar Az Al As cr cz cl cs a x w' (hA.up hw) hn
  have hot := fun A3 c3 w' h => other_spec A3 c3 (ofB a.rules x) w' h
  have hle := fun A3 c3 w' h => least_spec A3 c3 (ofB a.rules x) w' h
  generalize ofB a.rules x = R at *
  generalize otherD R = od at *
  obtain ⟨ox, ob⟩ := od
  dsimp only at hi hot
  by_cases hR : R = []
  ·rw [if_pos hR] at hi
   subst hi
   have hb : decide ((R.length : Int) = 0) = true := by rw [hR]; rfl
   simp only [ptV, plV, DPlace.enc]
   repeat (first | (apply RL_pu; rfl; exact PuAccD0) | (refine js ?_; (first | (apply Stp_call (h := fun w' hw _ => hof w' hw); rfl; rintro v O' ⟨A3, c3, rfl, rfl⟩) | (refine callO (fun w' hw hO => hot A3 c3 w' (rowRd DRule.len (hO.of (A := .row (.slice A3 R.length c3) 39 11 R.length (R.flatMap DRule.enc)) (by repeat' constructor)))) ?_) | (refine bx ?_; intro bk))) | refine walk1 ?_)
   exact rtC
  rw [if_neg hR] at hi
  have hb : decide ((R.length : Int) = 0) = false := decide_eq_false (fun h => hR (List.eq_nil_of_length_eq_zero (by omega)))
  cases hm : memB x (a.shifts.take k) with
  | true =>
   rw [hm] at hi hco
   rw [if_pos rfl] at hi
   subst hi
   simp only [ptV, plV, DPlace.enc]
   repeat (first | (apply RL_pu; rfl; exact PuAccD1) | (refine js ?_; (first | (apply Stp_call (h := fun w' hw _ => hof w' hw); rfl; rintro v O' ⟨A3, c3, rfl, rfl⟩) | (refine callO (fun w' hw hO => hot A3 c3 w' (rowRd DRule.len (hO.of (A := .row (.slice A3 R.length c3) 39 11 R.length (R.flatMap DRule.enc)) (by repeat' constructor)))) ?_) | (refine callE hco ?_) | (refine bx ?_; intro bk))) | refine walk1 ?_)
   exact rtC
  | false =>
   rw [hm] at hi hco
   rw [if_neg (by decide)] at hi
   generalize leastD R = lt at *
   by_cases hl : lt = 0
   ·subst hl
    cases ob with
    | false =>
     rw [if_pos (.inr rfl)] at hi
     subst hi
     simp only [ptV, plV, DPlace.enc]
     repeat (first | refine wkAccD0 ?_ | (refine js ?_; (first | (apply Stp_call (h := fun w' hw _ => hof w' hw); rfl; rintro v O' ⟨A3, c3, rfl, rfl⟩) | (refine bx ?_; intro bk))))
     exact rtC
    | true =>
     rw [if_neg (by rintro (h | h); exact h rfl; cases h)] at hi
     repeat (first | refine wkAccD0 ?_ | (refine js ?_; (first | (apply Stp_call (h := fun w' hw _ => hof w' hw); rfl; rintro v O' ⟨A3, c3, rfl, rfl⟩) | (refine bx ?_; intro bk))))
     exact ⟨k + 1, OA, ⟨OA, hi⟩, SFA, SOA⟩
   ·rw [if_pos (.inl hl)] at hi
    subst hi
    have hb2 : (!decide (lt = 0)) = true := by rw [decide_eq_false hl]; rfl
    simp only [ptV, plV, DPlace.enc]
    repeat (first | (apply RL_pu; rfl; (first | exact PuAccD1 | (apply Pu_neqB'; rfl; rfl; exact hb2))) | (refine js ?_; (first | (apply Stp_call (h := fun w' hw _ => hof w' hw); rfl; rintro v O' ⟨A3, c3, rfl, rfl⟩) | (refine callO (fun w' hw hO => hot A3 c3 w' (rowRd DRule.len (hO.of (A := .row (.slice A3 R.length c3) 39 11 R.length (R.flatMap DRule.enc)) (by repeat' constructor)))) ?_) | (refine callE hco ?_) | (refine callO (fun w' hw hO => hle A3 c3 w' (rowRd DRule.len (hO.of (A := .row (.slice A3 R.length c3) 39 11 R.length (R.flatMap DRule.enc)) (by repeat' constructor)))) ?_) | (refine bx ?_; intro bk))) | refine walk1 ?_)
    exact rtC
 ·simp only [decide_eq_false_iff_not, Int.ofNat_lt] at hc
  rw [List.drop_eq_nil_of_le (by omega), shiftsGo] at hi
  subst hi
  repeat (first | (refine js ?_; (refine bx ?_; intro bk)) | refine walk ?_)
  exact rtC
theorem PuAccE0 {G : Prop} (h : G := by (apply Pu_geqB; rfl; rfl; exact b1)) : G := h
theorem hours_spec (off save : Int) (ho : I64 off) (hs : I64 save) (w : World) : Does Tryz.prog 124 [.int .i64 off, .int .i64 save] w (fun v O => v = .bool (hoursB off save) ∧ O = []) := by
 have hsm := fun w' => addAny_spec off save ho hs w'
 refine Does_of_W Tryz.func124 rfl rfl rfl rfl ?_
 cases hok : i64ok (off + save) with
 | false =>
  rw [hok] at hsm
  have hb : hoursB off save = false := by
   unfold hoursB
   by_cases h1 : -54000 ≤ off + save
   ·by_cases h2 : off + save ≤ 54000
    ·exfalso
     have : i64ok (off + save) = true := by unfold i64ok; rw [decide_eq_true (by omega), decide_eq_true (by omega)]; rfl
     rw [this] at hok
     cases hok
    ·rw [decide_eq_false h2, Bool.and_false]
   ·rw [decide_eq_false h1, Bool.false_and]
  rw [hb]
  repeat (first | refine und ?_ | (refine js ?_; (refine callE (fun w' hw => hsm w') ?_)) | refine walk ?_)
  exact rtA
 | true =>
  rw [hok, if_pos rfl] at hsm
  unfold hoursB
  generalize off + save = x at *
  by_cases h1 : -54000 ≤ x
  ·have b1 : decide (-54000 ≤ x) = true := decide_eq_true h1
   rw [b1]
   repeat (first | refine und ?_ | (apply RL_pu; rfl; exact PuAccE0) | (refine js ?_; (refine callE (fun w' hw => hsm w') ?_)) | refine walk1 ?_)
   exact rtA
  ·have b1 : decide (-54000 ≤ x) = false := decide_eq_false h1
   rw [b1]
   repeat (first | refine und ?_ | (apply RL_pu; rfl; exact PuAccE0) | (refine js ?_; (refine callE (fun w' hw => hsm w') ?_)) | refine walk1 ?_)
   exact rtA
theorem lset_spec (Ar Az Al As : Option Addr) (cr cz cl cs : Nat) (a : DSource) (e : DEra) (w : World) (hA : RdSource w Ar Az Al As cr cz cl cs a) (hn : a.rules.length ≤ 1000000) :
  Does Tryz.prog 125 [srcV Ar Az Al As cr cz cl cs a, .agg e.enc.toArray] w (NewSl 39 11 DRule.enc (setOf a.rules e)) := by
 have hof := fun w' (hw : Bel w.heap.size w w') => ofN_spec Ar Az Al As cr cz cl cs a e.set w' (hA.up hw) hn
 unfold setOf
 obtain ⟨off, kind, save, set, format, til⟩ := e
 dsimp only at hof ⊢
 simp only [DEra.enc]
 refine Does_of_W Tryz.func125 rfl rfl rfl rfl ?_
 by_cases hk : kind = 2
 ·subst hk
  rw [if_pos rfl]
  generalize ofB a.rules set = R at *
  repeat (first | (refine js ?_; (first | (apply Stp_call (h := fun w' hw _ => hof w' hw); rfl; rintro v O' ⟨A3, c3, rfl, rfl⟩) | (refine bx ?_; intro bk))) | refine walk ?_)
  exact ret_1 _ [.row (.slice A3 R.length c3) 39 11 R.length (R.flatMap DRule.enc)] (.tmp rfl) SOA ⟨A3, c3, rfl, rfl⟩
 ·rw [if_neg hk]
  have hb : (!decide (kind = 2)) = true := by rw [decide_eq_false hk]; rfl
  refine W_nil 39 11 ?_
  repeat (first | (apply RL_pu; rfl; (apply Pu_neqB'; rfl; rfl; exact hb)) | (refine js ?_; (refine bx ?_; intro bk)) | refine walk1 ?_)
  exact ret_1 _ [.row (.slice none 0 0) 39 11 0 []] (.tmp rfl) SOA ⟨none, 0, rfl, rfl⟩
def stEnc (x : Int × ByteArray) : List Value := [.int .i64 x.1, .string x.2]
theorem stEnc.len (x : Int × ByteArray) : (stEnc x).length = 2 := rfl
structure StG where
 k : Nat
 A : Option Addr
 c : Nat
 m : Nat
 ys : List Value
def StR (l : List (Int × ByteArray)) (v : Value) (O : List It) : Prop := NewSl 72 2 stEnc l v O ∨ ∃ b x, l = [x] ∧ v = .slice (some ⟨b, 0, none⟩) 1 1 ∧ O = [.blk b (stEnc x) 72]
theorem PuAccE2 {G : Prop} (h : G := by (apply Pu_eqlB; rfl; rfl; exact b1)) : G := h
theorem states0_spec (Ar Az Al As : Option Addr) (cr cz cl cs : Nat) (a : DSource) (e : DEra) (w : World) (hA : RdSource w Ar Az Al As cr cz cl cs a) (hn : a.rules.length ≤ 1000000) :
  Does Tryz.prog 127 [srcV Ar Az Al As cr cz cl cs a, .agg e.enc.toArray] w (StR (statesOf a.rules e)) := by
 have hst := fun w' (hw : Bel w.heap.size w w') => lset_spec Ar Az Al As cr cz cl cs a e w' (hA.up hw) hn
 have hRl : (setOf a.rules e).length ≤ 1000000 := by
  unfold setOf
  split
  ·exact Nat.le_trans (ofB_len _ _) hn
  ·exact Nat.zero_le _
 unfold statesOf
 generalize setOf a.rules e = R at *
 obtain ⟨off, kind, save, set, format, til⟩ := e
 dsimp only at hst ⊢
 simp only [DEra.enc] at hst ⊢
 refine Does_of_W Tryz.func127 rfl rfl rfl rfl ?_
 by_cases hk1 : kind = 1
 ·subst hk1
  rw [if_pos rfl]
  repeat (first | (refine js ?_; (refine bx ?_; intro bk)) | refine walk ?_)
  exact ret_1 _ [.blk bk [.int .i64 save, .string ByteArray.empty] 72] (.tmp rfl) SOA (.inr ⟨bk, (save, ByteArray.empty), rfl, rfl, rfl⟩)
 have b1 : decide (kind = 1) = false := decide_eq_false hk1
 rw [if_neg hk1]
 by_cases hk2 : kind = 2
 ·subst hk2
  rw [if_pos rfl]
  repeat (first | (apply RL_pu; rfl; exact PuAccE2) | (refine js ?_; (first | (apply Stp_call (h := fun w' hw _ => hst w' hw); rfl; rintro v O' ⟨A3, c3, rfl, rfl⟩) | (refine bx ?_; intro bk))) | refine walk1 ?_)
  refine W_nil 72 2 ?_
  refine W_loopF [(20, .slice A3 R.length c3), (21, .int .i64 R.length)] [.row (.slice A3 R.length c3) 39 11 R.length (R.flatMap DRule.enc)] (fun g : StG => [(5, .slice g.A g.m g.c), (22, .int .i64 g.k)]) (fun g => [.row (.slice g.A g.m g.c) 72 2 g.m g.ys])
   (fun g => g.k ≤ R.length ∧ g.m = g.k ∧ g.ys = ((R.take g.k).map fun r => (r.save, r.letter)).flatMap stEnc) (fun g => R.length - g.k) ⟨0, none, 0, 0, []⟩ SFA SOA ⟨Nat.zero_le _, rfl, rfl⟩ ?_
  rintro ⟨k, A1, c1, m, ys⟩ ⟨hkl, hm, hy⟩
  dsimp only at hkl hm hy ⊢
  repeat (first | (refine js ?_; (refine bx ?_; intro bk)) | refine walk ?_)
  refine W_cond rfl (fun hc => ?_) (fun hc => ?_)
  ·simp only [decide_eq_true_eq, Int.ofNat_lt] at hc
   have hg1 := flat_get DRule.len R k _ 0 _ (List.getElem?_eq_getElem hc) rfl
   have hgn : ∀ j v, (DRule.enc R[k])[j]? = some v → (R.flatMap DRule.enc)[k * 11 + j]? = some v := fun j v hj => flat_get DRule.len R k _ j v (List.getElem?_eq_getElem hc) hj
   have htk := List.take_append_getElem hc
   generalize R[k] = r at *
   simp only [DRule.enc] at hgn hg1
   repeat (first | (apply RL_pu; rfl; (first | (apply Pu_indexAddrH; rfl; rfl; omega; omega; (intro w' _ hO; exact (row_cell (hO.of (A := .row (.slice A3 R.length c3) 39 11 R.length (R.flatMap DRule.enc)) (by repeat' constructor)) hg1).1)) | (apply Pu_loadRN; rfl; (focus repeat' constructor); exact hgn; rfl))) | (refine js ?_; (first | (apply Stp_append; rfl; rfl; (intro A' c'; (focus repeat' constructor)); (intro w' _ hO; exact blkRaw (hO.of (by repeat' constructor))); rfl; rfl; (simp only [maxLen]; omega); omega; intro A' c' hc1 hc2 hc3) | (refine bx ?_; intro bk))) | refine walk1 ?_)
   exact ⟨⟨k + 1, A', c', m + 1, ys ++ [.int .i64 r.save, .string r.letter]⟩, OA, ⟨OA, OA, by dsimp only; rw [hy, ← htk]; simp [stEnc]⟩, SFA, SOA⟩
  ·obtain rfl : k = R.length := by simp only [decide_eq_false_iff_not, Int.ofNat_lt] at hc; omega
   rw [List.take_length] at hy
   subst hm hy
   repeat (first | (refine js ?_; (refine bx ?_; intro bk)) | refine walk ?_)
   exact ret_1 _ [.row (.slice A1 R.length c1) 72 2 R.length ((R.map fun r => (r.save, r.letter)).flatMap stEnc)] (.tmp rfl) SOA (.inl ⟨A1, c1, by rw [List.length_map], by rw [List.length_map]⟩)
 have b2 : decide (kind = 2) = false := decide_eq_false hk2
 rw [if_neg hk2]
 repeat (first | (apply RL_pu; rfl; (first | exact PuAccE2 | (apply Pu_eqlB; rfl; rfl; exact b2))) | (refine js ?_; (refine bx ?_; intro bk)) | refine walk1 ?_)
 exact ret_1 _ [.blk bk [.int .i64 0, .string ByteArray.empty] 72] (.tmp rfl) SOA (.inr ⟨bk, (0, ByteArray.empty), rfl, rfl, rfl⟩)
theorem states_spec (Ar Az Al As : Option Addr) (cr cz cl cs : Nat) (a : DSource) (e : DEra) (w : World) (hA : RdSource w Ar Az Al As cr cz cl cs a) (hn : a.rules.length ≤ 1000000) :
  Does Tryz.prog 127 [srcV Ar Az Al As cr cz cl cs a, .agg e.enc.toArray] w (NewSl 72 2 stEnc (statesOf a.rules e)) :=
 (states0_spec Ar Az Al As cr cz cl cs a e w hA hn).monoH fun v O base w' hR hH => by
  rcases hR with h | ⟨b, x, hl, rfl, rfl⟩
  ·exact ⟨O, h, hH⟩
  ·rw [hl]
   exact ⟨_, ⟨some ⟨b, 0, none⟩, 1, rfl, rfl⟩, hH.toRow (m := 1) 2 rfl (by decide) (by simpa using Upd.here)⟩
end Go.Proofs.YtbjkhnlnedfceaaGreatDoor
namespace Go.Wk
open Go Go.RowKit
theorem Pu_neqEB {P : Program} {n : Nat} {wr : World} {fr : Fr} {O : List It} {ty t t' : TypeId} {α : Type} [DecidableEq α] {enc : α → List Value} {x y : Operand} {i j : α} {b : Bool} [hE : EqE P t α enc] (hx : ev fr x = some (.agg (enc i).toArray)) (hy : ev fr y = some (.agg (enc j).toArray)) (h : (!decide (i = j)) = b) :
  Pu P n wr fr O (.binOp .neq t x y t') ty (.bool b) := h ▸ Pu_neqE hx hy
end Go.Wk
namespace Go.Proofs.YtbjkhnlnedfceaaGreatDoor
open Go Go.RowKit Go.Wk
attribute [local irreducible] W RL Does thenQ blockQ retQ Calls Pu Stp RD Qy Ay DoesIn
theorem indexSt_spec (A : Option Addr) (c : Nat) (l : List (Int × ByteArray)) (f : FuncId) [Body Tryz.prog f] (us cs : List Value) (p : Int × ByteArray → Bool) (w : World) (hA : RdSl w A c stEnc 2 l)
  (hf : ∀ r ∈ l, ∀ w', Bel w.heap.size w w' → Does Tryz.prog f (us ++ [.agg (stEnc r).toArray] ++ cs) w' (fun v O => v = .bool (p r) ∧ O = [])) :
  Does Tryz.prog 151 [.slice A l.length c, .func (.func f) us.toArray cs.toArray] w (fun v O => v = .int .i64 (findI p l 0) ∧ O = []) := by
 have hs1 := hA.le
 have hs2 := hA.cap
 unfold maxLen at hs2
 generalize hres : findI p l 0 = res
 refine Does_of_W Tryz.func151 rfl rfl rfl rfl ?_
 repeat (first | refine walk ?_)
 refine W_loopF [(0, _), (1, _), (4, _), (7, _)] _ (fun k : Nat => [(8, .int .i64 k)]) (fun _ => []) (fun k => k ≤ l.length ∧ findI p (l.drop k) k = res) (fun k => l.length - k) 0 ⟨rfl, rfl, rfl, rfl, rfl, trivial⟩ (.refl _) ⟨by omega, by simpa using hres⟩ ?_
 rintro k ⟨hk, hi⟩
 repeat (first | refine walk ?_)
 refine W_cond rfl (fun hc => ?_) (fun hc => ?_)
 ·simp only [decide_eq_true_eq, Int.ofNat_lt] at hc
  obtain ⟨hna, hca⟩ := hA.rd k _ (List.getElem?_eq_getElem hc)
  have hnb := hna
  have hcb := hca
  rw [drop_cons hc, findI] at hi
  have hrm := List.getElem_mem hc
  generalize l[k] = r at *
  repeat (first | (apply RL_pu; rfl; exact PuI) | (refine js ?_; (refine callV (fun w' hw _ => hf r hrm w' hw) ?_)) | refine walk1 ?_)
  refine W_cond rfl (fun h3 => ?_) (fun h3 => ?_)
  ·repeat (first | refine walk ?_)
   rw [if_pos h3] at hi
   exact ret_1 _ [] (.tmp rfl) .nil ⟨by rw [← hi], rfl⟩
  repeat (first | refine walk ?_)
  rw [h3] at hi
  exact ⟨k + 1, by omega, ⟨by omega, hi⟩, SFA, SOA⟩
 simp only [decide_eq_false_iff_not, Int.ofNat_lt] at hc
 repeat (first | refine walk ?_)
 exact ret_1 _ [] (.tmp rfl) .nil ⟨by rw [← hi, List.drop_eq_nil_of_le (by omega)]; rfl, rfl⟩
theorem containsSt_spec (A : Option Addr) (c : Nat) (l : List (Int × ByteArray)) (f : FuncId) [Body Tryz.prog f] (us cs : List Value) (p : Int × ByteArray → Bool) (w : World) (hA : RdSl w A c stEnc 2 l)
  (hf : ∀ r ∈ l, ∀ w', Bel w.heap.size w w' → Does Tryz.prog f (us ++ [.agg (stEnc r).toArray] ++ cs) w' (fun v O => v = .bool (p r) ∧ O = [])) :
  Does Tryz.prog 126 [.slice A l.length c, .func (.func f) us.toArray cs.toArray] w (fun v O => v = .bool (l.any p) ∧ O = []) := by
 have h := fun w' (hw : Bel w.heap.size w w') => indexSt_spec A c l f us cs p w' (hA.up hw) fun r hr w2 h2 => hf r hr w2 (hw.trans (h2.mono hw.size))
 rw [← findI_any p l 0]
 generalize findI p l 0 = k at *
 refine Does_of_W Tryz.func126 rfl rfl rfl rfl ?_
 repeat (first | (refine js ?_; (refine callE h ?_)) | refine walk ?_)
 exact rtA
theorem era1_spec (x : Int × ByteArray) (ad : Addr) (off : Int) (w : World) (h : w.cell? ad = some (.int .i64 off)) (ho : I64 off) (hx : I64 x.1) : Does Tryz.prog 123 [.agg (stEnc x).toArray, .pointer (some ad)] w (fun v O => v = .bool (!hoursB off x.1) ∧ O = []) := by
 obtain ⟨sv, lt⟩ := x
 dsimp only at hx ⊢
 have hh := fun w' => hours_spec off sv ho hx w'
 generalize hoursB off sv = hb at *
 simp only [stEnc]
 refine Does_of_W Tryz.func123 rfl rfl rfl rfl ?_
 repeat (first | (apply RL_pu; rfl; (apply Pu_loadO1; rfl; exact h)) | (refine js ?_; (first | (refine callE (fun w' hw => hh w') ?_) | (refine bx ?_; intro bk))) | refine walk1 ?_)
 exact rtA
instance : EqE Tryz.prog 46 DUntil DUntil.enc where
 h r s w := by
  unfold DUntil.enc
  simp [go_sem, toList_inj]
  rcases r with ⟨_, _, _, ⟨_, _, _⟩, ⟨_, _⟩⟩
  rcases s with ⟨_, _, _, ⟨_, _, _⟩, ⟨_, _⟩⟩
  simp only [ok_ite, Result.ok.injEq, and_true]
  rw [Bool.eq_iff_iff]
  simp [and_assoc]
 g := by kernel_rfl
theorem unused_spec (e : DEra) (w : World) : Does Tryz.prog 128 [.agg e.enc.toArray] w (fun v O => v = .bool (unusedB e) ∧ O = []) := by
 obtain ⟨off, kind, save, set, format, til⟩ := e
 unfold unusedB
 dsimp only
 obtain ⟨is, year, month, ⟨dk, dw, dd⟩, ⟨cs, cb⟩⟩ := til
 dsimp only
 obtain ⟨n1, e1⟩ : ∃ b, (!decide (kind = 1)) = b := ⟨_, rfl⟩
 obtain ⟨n2, e2⟩ : ∃ b, (!decide (save = 0)) = b := ⟨_, rfl⟩
 obtain ⟨n3, e3⟩ : ∃ b, (!decide (kind = 2)) = b := ⟨_, rfl⟩
 obtain ⟨n4, e4⟩ : ∃ b, (!decide (set = ByteArray.empty)) = b := ⟨_, rfl⟩
 obtain ⟨n5, e5⟩ : ∃ b, (!decide ((⟨false, year, month, ⟨dk, dw, dd⟩, ⟨cs, cb⟩⟩ : DUntil) = dU0)) = b := ⟨_, rfl⟩
 rw [e1, e2, e3, e4, e5]
 simp only [DEra.enc]
 refine Does_of_W Tryz.func128 rfl rfl rfl rfl ?_
 repeat' (first | (apply RL_pu; rfl; (first | (apply Pu_neqB'; rfl; rfl; exact e1) | (apply Pu_neqB'; rfl; rfl; exact e2) | (apply Pu_neqB'; rfl; rfl; exact e3) | (apply Pu_neqSB; rfl; rfl; exact e4) | (apply Pu_neqEB (i := (⟨false, year, month, ⟨dk, dw, dd⟩, ⟨cs, cb⟩⟩ : DUntil)) (j := dU0) (enc := DUntil.enc); rfl; rfl; exact e5))) | (refine js ?_; (refine bx ?_; intro bk)) | refine walk1 ?_ | refine und ?_ | (refine RL_gsplit rfl rfl rfl (fun hc => ?_) (fun hc => ?_)) | (refine RD_gsplit rfl rfl rfl (fun hc => ?_) (fun hc => ?_)) | (refine W_cond rfl (fun hc => ?_) (fun hc => ?_)))
 all_goals exact clo1
end Go.Proofs.YtbjkhnlnedfceaaGreatDoor
