/- Contracts: state.Initial, Before, Instant. Contract: state.Instant. Plain law: the date of a rule of a draft is the instant of its event (layer 38). Contract: analemmalaw38.FooterEvents. Contract: analemmalaw23.Draft: Made. Arguments opened: drafts of sources (analemmalaw23). Arguments opened: rules and numbers. The way from a contract 'Does' to a given row that lists package-level variables. -/
import Derived.Test.YtonjepladadmhaaGreatDoorR41
import Derived.Test.YtonjepladadmhaaGreatDoorR39
import Derived.Test.YtonjepladadmhaaGreatDoorR17
import Derived.Test.YtonjepladadmhaaGreatDoorR26
import Derived.Test.YtonjepladadmhaaGreatDoorR19
import Derived.Test.YtonjepladadmhaaGreatDoorR20
import Derived.Test.YtonjepladadmhaaGreatDoorR05
import Derived.LaidHandle
import Derived.LaidLaws
import Derived.LaidSub
import Derived.Stop.Joined
set_option maxHeartbeats 4000000
set_option linter.unusedVariables false
set_option linter.unusedSimpArgs false
namespace Go.Proofs.YtonjepladadmhaaGreatDoor
open Go Go.RowKit Go.Wk
attribute [local irreducible] W RL Does thenQ blockQ retQ Calls Pu Stp RD Qy Ay DoesIn
structure RsSm (l : List DRule) : Prop where
 n : l.length ≤ 1000000
 s : ∀ r ∈ l, -1000000000 ≤ r.save ∧ r.save ≤ 1000000000
 f : ∀ r ∈ l, r.from_ ≤ 4611686018427387904
 t : ∀ r ∈ l, -4611686018427387904 ≤ r.to
theorem RsSm.r {l : List DRule} (h : RsSm l) : ∀ r ∈ l, -4611686018427387904 ≤ r.save ∧ r.save ≤ 4611686018427387904 := fun r hr => by have := h.s r hr; omega
theorem RsSm.b {l : List DRule} (h : RsSm l) : RsOkB l := fun r hr => ⟨h.r r hr, h.f r hr, h.t r hr⟩
theorem first19_spec (A : Option Addr) (c : Nat) (l : List DRule) (all : Bool) (but : Int) (w : World) (hG : Glob w) (hA : RdSl w A c DRule.enc 11 l) (h : RsSm l) :
  Does Tryz.prog 121 [.slice A l.length c, .bool all, .int .i64 but] w (fun v O => v = .tuple #[evV (fstD l all but), .bool (fstD l all but).isSome] ∧ O = []) := by
 have := first19_in A c l all but w hG hA h.n h.r h.f
 unfold DoesIn at this
 unfold Does
 exact this w (Bel.refl _ _) (Holds.nil _ _)
def EvAt (N : Nat) (o : Option DEvent) : Prop := ∀ e, o = some e → 0 ≤ e.rule ∧ e.rule < N
theorem onR_rule {least : Int} {r : DRule} {i y : Int} {e : DEvent} (h : onR least r i y = some e) : e.rule = i := by
 unfold onR at h
 split at h
 ·cases h
 ·split at h
  ·cases h
  ·cases h; rfl
theorem beIn_rule {least nominal : Int} {r : DRule} {i : Int} {e : DEvent} : ∀ (k : Nat) (y : Int), beIn least nominal r i y k = some e → e.rule = i
 | 0, _, h => by cases h
 | k + 1, y, h => by
  rw [beIn] at h
  split at h
  ·rename_i x hx
   split at h
   ·cases h; exact onR_rule hx
   ·exact beIn_rule k _ h
  ·exact beIn_rule k _ h
theorem fiIn_rule {least : Int} {r : DRule} {i : Int} {e : DEvent} : ∀ (k : Nat) (y : Int), fiIn least r i y k = some e → e.rule = i
 | 0, _, h => by cases h
 | k + 1, y, h => by
  rw [fiIn] at h
  split at h
  ·rename_i x hx
   cases h; exact onR_rule hx
  ·exact fiIn_rule k _ h
theorem befGo_at {least nominal yr : Int} {N : Nat} : ∀ (l : List DRule) (i : Nat) (b : Option DEvent), i + l.length ≤ N → EvAt N b → EvAt N (befGo least nominal yr l i b)
 | [], _, _, _, h => h
 | r :: l, i, b, hi, h => by
  rw [List.length_cons] at hi
  rw [befGo]
  refine befGo_at l (i + 1) _ (by omega) ?_
  have hb : EvAt N (beIn least nominal r i (min (lastY r) (yr + 2)) 20) := fun e he => by
   have := beIn_rule 20 _ he
   omega
  generalize beIn least nominal r i (min (lastY r) (yr + 2)) 20 = o at *
  cases o with
  | none => exact h
  | some x =>
   cases b with
   | none => exact hb
   | some y =>
    dsimp only
    split
    ·exact hb
    ·exact h
theorem befD_at (l : List DRule) (nominal : Int) : EvAt l.length (befD l nominal) := befGo_at l 0 none (by omega) fun e h => by cases h
theorem firL_at {least : Int} {N : Nat} : ∀ (l : List DRule) (i : Nat), i + l.length ≤ N → ∀ e ∈ firL least l i, 0 ≤ e.rule ∧ e.rule < N
 | [], _, _, e, h => by cases h
 | r :: l, i, hi, e, h => by
  rw [List.length_cons] at hi
  rw [firL] at h
  rcases List.mem_append.1 h with h | h
  ·cases ho : fiIn least r i (max r.from_ (-2000000000)) 9 with
   | none => rw [ho] at h; cases h
   | some x =>
    rw [ho] at h
    simp only [Option.toList, List.mem_singleton] at h
    subst h
    have := fiIn_rule 9 _ ho
    omega
  ·exact firL_at l (i + 1) (by omega) e h
theorem fst_at {l : List DRule} {all : Bool} {but : Int} {N : Nat} : ∀ (L : List DEvent) (b : Option DEvent), (∀ e ∈ L, 0 ≤ e.rule ∧ e.rule < N) → EvAt N b → EvAt N (L.foldl (fstB l all but) b)
 | [], _, _, h => h
 | x :: L, b, hL, h => by
  rw [List.foldl_cons]
  refine fst_at L _ (fun e he => hL e (List.mem_cons_of_mem _ he)) ?_
  have key : ∀ q : Bool, EvAt N (if q = true then b else some x) := fun q => by
   cases q
   ·intro e he
    cases he
    exact hL x List.mem_cons_self
   ·exact h
  unfold fstB
  exact key _
theorem fstD_at (l : List DRule) (all : Bool) (but : Int) : EvAt l.length (fstD l all but) := fst_at _ none (firL_at l 0 (by omega)) fun e h => by cases h
theorem PuStJ0 {G : Prop} (h : G := by (first | exact PuI | (apply Pu_loadO1; rfl; exact hca 9 _ rfl))) : G := h
theorem initial_spec (A : Option Addr) (c : Nat) (l : List DRule) (w : World) (hG : Glob w) (hA : RdSl w A c DRule.enc 11 l) (h : RsSm l) : Does Tryz.prog 69 [.slice A l.length c] w (fun v O => v = stV (iniS l) ∧ O = []) := by
 have h1 := fun w' (hw : Bel w.heap.size w w') => first19_spec A c l true 0 w' (hG.up hw) (hA.up hw) h
 have hat := fstD_at l true 0
 have hle := hA.le
 have hcp := hA.cap
 simp only [maxLen] at hcp
 unfold iniS
 generalize fstD l true 0 = o at *
 rcases o with _ | ⟨ey, er, en⟩
 ·simp only [evV, DEvent.enc, dEv0, Option.isSome] at h1
  refine Does_of_W Tryz.func69 rfl rfl rfl rfl ?_
  repeat (first | (refine js ?_; (first | (refine callE h1 ?_) | (refine bx ?_; intro bk))) | refine walk ?_)
  exact ret_1 _ [] (.cellB rfl (by repeat' constructor) rfl rfl) .nil ⟨rfl, rfl⟩
 ·simp only [evV, DEvent.enc, Option.isSome] at h1 ⊢
  obtain ⟨e0, e1⟩ := hat _ rfl
  dsimp only at e0 e1
  obtain ⟨ru, hru⟩ : ∃ ru, l[er.toNat]? = some ru := ⟨_, List.getElem?_eq_getElem (by omega)⟩
  obtain ⟨hna, hca⟩ := hA.rd _ _ hru
  rw [show ruE l ⟨ey, er, en⟩ = ru from ruE_at hru]
  have h2 := fun w' (hw : Bel w.heap.size w w') => first19_spec A c l false ru.save w' (hG.up hw) (hA.up hw) h
  have hat2 := fstD_at l false ru.save
  generalize fstD l false ru.save = o2 at *
  rcases o2 with _ | ⟨fy, frr, fn⟩
  ·simp only [evV, DEvent.enc, dEv0, Option.isSome] at h2 ⊢
   have hb := fun w' (hw : Bel w.heap.size w w') => behind_spec19 A c l ⟨ey, er, en⟩ w' (hA.up hw) ⟨e0, e1⟩
   unfold stV at hb ⊢
   generalize behS l ⟨ey, er, en⟩ = st at *
   refine Does_of_W Tryz.func69 rfl rfl rfl rfl ?_
   repeat (first | (apply RL_pu; rfl; exact PuStJ0) | (refine js ?_; (first | (refine callE h1 ?_) | (refine callE hb ?_) | (refine callE h2 ?_) | (refine bx ?_; intro bk))) | refine walk1 ?_)
   exact ret_1 _ [] (.cellB rfl (by repeat' constructor) rfl rfl) .nil ⟨rfl, rfl⟩
  ·simp only [evV, DEvent.enc, Option.isSome] at h2 ⊢
   have hb := fun w' (hw : Bel w.heap.size w w') => behind_spec19 A c l ⟨fy, frr, fn⟩ w' (hA.up hw) (hat2 _ rfl)
   unfold stV at hb ⊢
   generalize behS l ⟨fy, frr, fn⟩ = st at *
   refine Does_of_W Tryz.func69 rfl rfl rfl rfl ?_
   repeat (first | (apply RL_pu; rfl; exact PuStJ0) | (refine js ?_; (first | (refine callE h1 ?_) | (refine callE hb ?_) | (refine callE h2 ?_) | (refine bx ?_; intro bk))) | refine walk1 ?_)
   exact ret_1 _ [] (.cellB rfl (by repeat' constructor) rfl rfl) .nil ⟨rfl, rfl⟩
theorem stBefore_spec (A : Option Addr) (c : Nat) (l : List DRule) (nominal : Int) (w : World) (hG : Glob w) (hA : RdSl w A c DRule.enc 11 l) (h : RsSm l) (ht : -4611686018427387904 ≤ nominal ∧ nominal ≤ 4611686018427387904) :
  Does Tryz.prog 27 [.slice A l.length c, .int .i64 nominal] w (fun v O => v = stV (befS l nominal) ∧ O = []) := by
 have h1 := fun w' (hw : Bel w.heap.size w w') => evBefore_spec A c l nominal w' (hG.up hw) (hA.up hw) h.n h.b ht
 have hat := befD_at l nominal
 unfold befS
 generalize befD l nominal = o at *
 rcases o with _ | ⟨ey, er, en⟩
 ·simp only [evV, DEvent.enc, dEv0, Option.isSome] at h1 ⊢
  have hb := fun w' (hw : Bel w.heap.size w w') => initial_spec A c l w' (hG.up hw) (hA.up hw) h
  unfold stV at hb ⊢
  generalize iniS l = st at *
  refine Does_of_W Tryz.func27 rfl rfl rfl rfl ?_
  repeat (first | (refine js ?_; (first | (refine callE h1 ?_) | (refine callE hb ?_) | (refine bx ?_; intro bk))) | refine walk ?_)
  exact ret_1 _ [] (.cellB rfl (by repeat' constructor) rfl rfl) .nil ⟨rfl, rfl⟩
 ·simp only [evV, DEvent.enc, Option.isSome] at h1 ⊢
  have hb := fun w' (hw : Bel w.heap.size w w') => behind_spec19 A c l ⟨ey, er, en⟩ w' (hA.up hw) (hat _ rfl)
  unfold stV at hb ⊢
  generalize behS l ⟨ey, er, en⟩ = st at *
  refine Does_of_W Tryz.func27 rfl rfl rfl rfl ?_
  repeat (first | (refine js ?_; (first | (refine callE h1 ?_) | (refine callE hb ?_) | (refine bx ?_; intro bk))) | refine walk ?_)
  exact ret_1 _ [] (.cellB rfl (by repeat' constructor) rfl rfl) .nil ⟨rfl, rfl⟩
theorem ruE_bd {l : List DRule} (h : RsSm l) (e : DEvent) : -1000000000 ≤ (ruE l e).save ∧ (ruE l e).save ≤ 1000000000 := by
 unfold ruE
 rw [List.getD_eq_getElem?_getD]
 cases hx : l[e.rule.toNat]? with
 | none => exact ⟨by decide, by decide⟩
 | some r => exact h.s r (List.mem_of_getElem? hx)
theorem iniS_bd {l : List DRule} (h : RsSm l) : -1000000000 ≤ (iniS l).1 ∧ (iniS l).1 ≤ 1000000000 := by
 unfold iniS
 cases fstD l true 0 with
 | none =>
  dsimp only
  exact ⟨by decide, by decide⟩
 | some e =>
  dsimp only
  cases fstD l false (ruE l e).save with
  | none => exact ruE_bd h e
  | some o => exact ruE_bd h o
theorem befS_bd {l : List DRule} (h : RsSm l) (n : Int) : -1000000000 ≤ (befS l n).1 ∧ (befS l n).1 ≤ 1000000000 := by
 unfold befS
 cases befD l n with
 | none => exact iniS_bd h
 | some e => exact ruE_bd h e
theorem PuStK1 {G : Prop} (h : G := by (apply Pu_eqlB; rfl; rfl; first | exact q0 | exact q1)) : G := h
set_option maxHeartbeats 4000000 in
theorem inst_spec (A : Option Addr) (c : Nat) (l : List DRule) (e : DEvent) (off : Int) (w : World) (hG : Glob w) (hA : RdSl w A c DRule.enc 11 l) (h : RsSm l) (he : 0 ≤ e.rule ∧ e.rule < l.length) (hnm : -1000000000000000000 ≤ e.nominal ∧ e.nominal ≤ 1000000000000000000) (ho : -1000000000 ≤ off ∧ off ≤ 1000000000) :
  Does Tryz.prog 29 [.slice A l.length c, .agg e.enc.toArray, .int .i64 off] w (fun v O => v = .int .i64 (instE l e off) ∧ O = []) := by
 have hle := hA.le
 have hcp := hA.cap
 simp only [maxLen] at hcp
 obtain ⟨ru, hru⟩ : ∃ ru, l[e.rule.toNat]? = some ru := ⟨_, List.getElem?_eq_getElem (by omega)⟩
 obtain ⟨hna, hca⟩ := hA.rd _ _ hru
 have hba := fun w' (hw : Bel w.heap.size w w') => base19_spec A c l w' (hA.up hw)
 have hbf := fun w' (hw : Bel w.heap.size w w') => stBefore_spec A c l e.nominal w' (hG.up hw) (hA.up hw) h (by omega)
 have hbd := befS_bd h e.nominal
 have hld := leastD_le l h.r
 have hld2 : -1000000000 ≤ max (leastD l) (-10800) ∧ max (leastD l) (-10800) ≤ 0 := by omega
 unfold instE
 rw [ruE_at hru]
 obtain ⟨ey, er, en⟩ := e
 dsimp only at he hnm hru hca hbf hbd ⊢
 have b1 : decide (er < 0) = false := decide_eq_false (by omega)
 have b2 : decide ((l.length : Int) ≤ er) = false := decide_eq_false (by omega)
 have hcb : w.cell? ((((adr A).add (er.toNat * 11)).add 7).add 1) = some (.int .i64 ru.at_.base) := by
  rw [add_of_add]
  exact hca 8 _ rfl
 clear hru hca
 generalize ru.at_.base = rb at *
 generalize max (leastD l) (-10800) = mb at *
 unfold stV at hbf
 generalize befS l en = st at *
 obtain ⟨sv, sl⟩ := st
 dsimp only at hbd hbf ⊢
 show Does _ _ [_, .agg #[.int .i64 ey, .int .i64 er, .int .i64 en], _] w _
 refine Does_of_W Tryz.func29 rfl rfl rfl rfl ?_
 repeat (first | refine und ?_ | (apply RL_pu; rfl; (first | (apply Pu_lssB; rfl; rfl; exact b1) | (apply Pu_geqB; rfl; rfl; exact b2) | exact PuI | (apply Pu_loadO1; rfl; exact hcb))) | (refine js ?_; (refine bx ?_; intro bk)) | refine walk1 ?_)
 rename_i b4 b7
 generalize bk = b8
 refine W_cond rfl (fun hc => ?_) (fun hc => ?_)
 ·obtain rfl : rb = 1 := of_decide_eq_true hc
  rw [if_pos rfl]
  obtain ⟨x1, hx1⟩ : ∃ x1, mb = x1 := ⟨_, rfl⟩
  rw [hx1] at hba hld2 ⊢
  repeat (first | (refine js ?_; (first | (refine callE hba ?_) | (apply Stp_callVIn (f := 72) (us := []) (vs := [.int .i64 x1]) (cs := [.pointer (some ⟨b7, 0, none⟩), .pointer (some ⟨b8, 0, none⟩)]) (h := inst1_spec (.blk b4 [.int .i64 ey, .int .i64 er, .int .i64 en] 84) x1 en b7 b8 w (by omega) (by omega)); rfl; rfl; exact SOA; rintro v O' ⟨rfl, rfl⟩) | (apply Stp_callVIn (f := 72) (us := []) (vs := [.int .i64 off]) (cs := [.pointer (some ⟨b7, 0, none⟩), .pointer (some ⟨b8, 0, none⟩)]) (h := inst1_spec (.blk b4 [.int .i64 ey, .int .i64 er, .int .i64 en] 84) off (en - x1) b7 b8 w (by omega) (by omega)); rfl; rfl; exact SOA; rintro v O' ⟨rfl, rfl⟩) | (refine bx ?_; intro bk))) | refine walk ?_)
  exact rtA
 ·have hn1 : ¬ rb = 1 := of_decide_eq_false hc
  have q1 : decide (rb = 1) = false := decide_eq_false hn1
  rw [if_neg hn1]
  by_cases h0 : rb = 0
  ·have q0 : decide (rb = 0) = true := decide_eq_true h0
   rw [if_pos h0]
   obtain ⟨x1, hx1⟩ : ∃ x1, sv = x1 := ⟨_, rfl⟩
   rw [hx1] at hbf hbd ⊢
   repeat (first | (apply RL_pu; rfl; exact PuStK1) | (refine js ?_; (first | (refine callE hbf ?_) | (apply Stp_callVIn (f := 72) (us := []) (vs := [.int .i64 x1]) (cs := [.pointer (some ⟨b7, 0, none⟩), .pointer (some ⟨b8, 0, none⟩)]) (h := inst1_spec (.blk b4 [.int .i64 ey, .int .i64 er, .int .i64 en] 84) x1 en b7 b8 w (by omega) (by omega)); rfl; rfl; exact SOA; rintro v O' ⟨rfl, rfl⟩) | (apply Stp_callVIn (f := 72) (us := []) (vs := [.int .i64 off]) (cs := [.pointer (some ⟨b7, 0, none⟩), .pointer (some ⟨b8, 0, none⟩)]) (h := inst1_spec (.blk b4 [.int .i64 ey, .int .i64 er, .int .i64 en] 84) off (en - x1) b7 b8 w (by omega) (by omega)); rfl; rfl; exact SOA; rintro v O' ⟨rfl, rfl⟩) | (refine bx ?_; intro bk))) | refine walk1 ?_)
   exact rtA
  ·have q0 : decide (rb = 0) = false := decide_eq_false h0
   rw [if_neg h0]
   repeat (first | (apply RL_pu; rfl; exact PuStK1) | (refine js ?_; (refine bx ?_; intro bk)) | refine walk1 ?_)
   exact rtA
end Go.Proofs.YtonjepladadmhaaGreatDoor
namespace Go.Proofs.YtonjepladadmhaaGreatDoor
open Go Go.RowKit Go.Wk
theorem drRule_clk {r : DRule} (h : DrRule r) : clkChk r.at_ = true := by
 have := h.clk
 unfold clkChk
 simp
 omega
theorem day2001_bd : ∀ k : Fin 13, 0 ≤ dayNo 2001 k.val 1 ∧ dayNo 2001 k.val 1 ≤ 20000 := by decide +kernel
theorem dateF_bd {d : DDay} (h : DrDay d) {m : Int} (h0 : 1 ≤ m) (h1 : m ≤ 12) : (-1000000 ≤ (dateF m d).1.day ∧ (dateF m d).1.day ≤ 1000000) ∧ (-1000000 ≤ (dateF m d).1.week ∧ (dateF m d).1.week ≤ 1000000) := by
 obtain ⟨k, w, n⟩ := d
 simp only [DrDay] at h
 rcases h with ⟨rfl, a1, a2, rfl⟩ | ⟨rfl, a1, a2, a3, a4, a5⟩ | ⟨rfl, rfl, a3, a4⟩
 ·rw [show dateF m ⟨2, w, 0⟩ = (⟨3, w, m, 5, 0⟩, true) from rfl]
  dsimp only
  omega
 ·rw [show (dateF m ⟨3, w, n⟩).1 = ⟨3, w, m, n / 7 + 1, 0⟩ from rfl]
  dsimp only
  omega
 ·rw [show (dateF m ⟨1, 0, n⟩).1 = ⟨1, (if daysOk 2001 m n then dayNo 2001 m n else 0) - dayNo 2001 1 1 + 1, 0, 0, 0⟩ from rfl]
  have hb := day2001_bd ⟨m.toNat, by omega⟩
  have hb1 := day2001_bd 1
  have hd := dayNo_d 2001 m n
  dsimp only at hb hb1 ⊢
  rw [show ((m.toNat : Nat) : Int) = m by omega] at hb
  change 0 ≤ dayNo 2001 1 1 ∧ dayNo 2001 1 1 ≤ 20000 at hb1
  split <;> omega
theorem fe_not {r : DRule} (h : r.to ≠ 1048576) (n b : Int) : dateD r n b = (dt0, 2) := by
 unfold dateD
 have : noDate r = true := by
  unfold noDate
  rw [decide_eq_false h]
  rfl
 rw [if_pos this]
theorem fe_ever {l : List DRule} {i : Nat} {r : DRule} (hr : DrRule r) (hi : l[i]? = some r) (hto : r.to = 1048576) {y n : Int} (hy : 2000 ≤ y ∧ y ≤ 100000) (hn : -40000 ≤ n ∧ n ≤ 40000) (hy0 : r.from_ ≤ y)
  (hb : ∀ t, -20000 ≤ (befS l t).1 ∧ (befS l t).1 ≤ 20000) :
  ∃ e, onR (leastD l) r i y = some e ∧ ∃ x, dateD r n (befS l e.nominal).1 = (x, 0) ∧ (-1000000 ≤ x.day ∧ x.day ≤ 1000000) ∧ (-1000000 ≤ x.week ∧ x.week ≤ 1000000) ∧ (-1000000 ≤ x.sec ∧ x.sec ≤ 1000000) ∧ (meansF x y).2 = true ∧
   (-2000000000000 ≤ (meansF x y).1 ∧ (meansF x y).1 ≤ 2000000000000) ∧ 86400 * (meansF x y).1 + x.sec - n - (befS l e.nominal).1 = instE l e n := by
 have hm := hr.mon12
 have hin : inY y = true := by unfold inY; rw [decide_eq_true (by omega), decide_eq_true (by omega)]; rfl
 have hon := hr.day.on hin hm.1 hm.2
 obtain ⟨d1, d2⟩ := means_on hr.day hin hm.1 hm.2
 have hc := hr.clk
 have hck := drRule_clk hr
 have hl : lastY r = 2000000000 := if_pos hto
 have hev : onR (leastD l) r i y = some ⟨y, i, 86400 * (onD y r.month r.day).1 + r.at_.sec + (if r.at_.base = 1 then max (leastD l) (-10800) else 0)⟩ := by
  unfold onR
  rw [if_neg (by rw [hl, hck]; rintro (q | q | q); omega; omega; cases q), if_neg (by rw [hon.1]; decide)]
 refine ⟨_, hev, ?_⟩
 have hru : ruE l ⟨y, i, 86400 * (onD y r.month r.day).1 + r.at_.sec + (if r.at_.base = 1 then max (leastD l) (-10800) else 0)⟩ = r := by
  unfold ruE
  rw [List.getD_eq_getElem?_getD]
  dsimp only
  rw [show ((i : Nat) : Int).toNat = i from rfl, hi]
  rfl
 have hbe := hb (86400 * (onD y r.month r.day).1 + r.at_.sec + (if r.at_.base = 1 then max (leastD l) (-10800) else 0))
 unfold instE
 rw [hru]
 dsimp only
 generalize (befS l _).1 = bf at *
 have hnd : noDate r = false := by
  unfold noDate
  rw [decide_eq_true hto, decide_eq_false (show ¬ r.month < 1 by omega), decide_eq_false (show ¬ 12 < r.month by omega), hr.day.chk, hck]
  rfl
 have hsb : -1000000 ≤ secD r n bf ∧ secD r n bf ≤ 1000000 := by
  unfold secD
  split <;> split <;> omega
 have hsc : inClk (secD r n bf) = true := by
  have : -604799 ≤ secD r n bf ∧ secD r n bf ≤ 604799 := by
   unfold secD
   split <;> split <;> omega
  unfold inClk
  rw [decide_eq_true this.1, decide_eq_true this.2]
  rfl
 have hi1 : inClk n = true := by unfold inClk; rw [decide_eq_true (by omega), decide_eq_true (by omega)]; rfl
 have hi2 : inClk bf = true := by unfold inClk; rw [decide_eq_true (by omega), decide_eq_true (by omega)]; rfl
 have hdt : dateD r n bf = ({ (dateF r.month r.day).1 with sec := secD r n bf }, 0) := by
  unfold dateD
  rw [hnd, if_neg (by decide), d1, if_neg (by decide), hi1, hi2, if_neg (by decide), hsc, if_pos rfl]
 have hms := d2 (secD r n bf)
 have hob := onD_bd y r.month r.day
 have hdd : (-1000000 ≤ (dateF r.month r.day).1.day ∧ (dateF r.month r.day).1.day ≤ 1000000) ∧ (-1000000 ≤ (dateF r.month r.day).1.week ∧ (dateF r.month r.day).1.week ≤ 1000000) := dateF_bd hr.day hm.1 hm.2
 refine ⟨_, hdt, hdd.1, hdd.2, hsb, by rw [hms], ?_, ?_⟩
 ·rw [hms]
  exact hob
 ·rw [hms]
  dsimp only
  unfold secD
  have hcb : r.at_.base = 0 ∨ r.at_.base = 1 ∨ r.at_.base = 2 := by omega
  rcases hcb with h | h | h <;> rw [h] <;> simp only [Int.reduceEq, if_true, if_false, or_true, true_or, or_self, or_false, false_or] <;> omega
theorem pairB_from {l : List Int} {i a b save : Int} {r : DRule} (h : r ∈ pairB l i a b save) : r.from_ = a := by
 unfold pairB at h
 split at h
 ·rcases List.mem_cons.1 h with rfl | h
  ·rfl
  ·rw [List.mem_singleton.1 h]; rfl
 ·rcases List.mem_cons.1 h with rfl | h
  ·rfl
  ·rw [List.mem_singleton.1 h]; rfl
theorem made17_from (l : List Int) (x : ByteArray) : ∀ r ∈ made17 l x, r.from_ ≤ 2000 := by
 intro r hr
 obtain ⟨r0, h0, rfl⟩ := List.mem_map.1 hr
 show r0.from_ ≤ 2000
 have h1 := atB_range l 1 80 (by decide)
 have hm1 := m1_rng l
 have hm2 := m2_rng l (m1 l).1 (m1 l).2 hm1.1 hm1.2.1 hm1.2.2
 unfold m3 at h0
 rcases List.mem_append.1 h0 with h0 | h0
 ·unfold m2 at h0
  split at h0
  ·rcases List.mem_append.1 h0 with h0 | h0
   ·unfold m1 at h0
    split at h0
    ·rw [List.mem_singleton.1 h0]
     show 1900 + atB l 1 80 ≤ 2000
     omega
    ·cases h0
   ·rw [pairB_from h0]
    omega
  ·unfold m1 at h0
   split at h0
   ·rw [List.mem_singleton.1 h0]
    show 1900 + atB l 1 80 ≤ 2000
    omega
   ·cases h0
 ·rw [pairB_from h0]
  omega
theorem ruE_in {l : List DRule} {a b : Int} (h : ∀ r ∈ l, a ≤ r.save ∧ r.save ≤ b) (h0 : a ≤ 0 ∧ 0 ≤ b) (e : DEvent) : a ≤ (ruE l e).save ∧ (ruE l e).save ≤ b := by
 unfold ruE
 rw [List.getD_eq_getElem?_getD]
 cases hx : l[e.rule.toNat]? with
 | none => exact h0
 | some r => exact h r (List.mem_of_getElem? hx)
theorem befS_in {l : List DRule} {a b : Int} (h : ∀ r ∈ l, a ≤ r.save ∧ r.save ≤ b) (h0 : a ≤ 0 ∧ 0 ≤ b) (n : Int) : a ≤ (befS l n).1 ∧ (befS l n).1 ≤ b := by
 unfold befS
 cases befD l n with
 | some e => exact ruE_in h h0 e
 | none =>
  dsimp only
  unfold iniS
  cases fstD l true 0 with
  | none => exact h0
  | some e =>
   dsimp only
   cases fstD l false (ruE l e).save with
   | none => exact ruE_in h h0 e
   | some o => exact ruE_in h h0 o
attribute [local irreducible] W RL Does thenQ blockQ retQ Calls Pu Stp RD Qy Ay DoesIn made17
theorem PuFtV0 {G : Prop} (h : G := by (apply Pu_mul; rfl; rfl; (constructor <;> omega))) : G := h
theorem QyFtV0 {G : Prop} (h : G := by first | (apply Qy_y; rfl; exact PuFtV0) | exact QyA) : G := h
theorem QFFtV0 {G : Prop} (h : G := by repeat (first | exact QF.nil | (apply QF.mk; rfl; rfl; decide +kernel; exact QyFtV0))) : G := h
theorem PuFtV1 {G : Prop} (h : G := by (first | (apply Pu_indexAddrH; rfl; rfl; omega; omega; (intro w' _ hO; exact (row_cell (hO.of (A := .row (.slice A3 L.length c3) 27 11 L.length (L.flatMap DRule.enc)) (by repeat' constructor)) hg2).1)) | (apply Pu_loadRN; rfl; (focus repeat' constructor); exact hgn; exact DRule.len r) | (apply Pu_loadRF; rfl; (focus repeat' constructor); exact hg2) | (apply Pu_neqB'; rfl; rfl; exact c2) | (apply Pu_mul; rfl; rfl; (constructor <;> omega)) | (apply Pu_neqB'; rfl; rfl; exact n1))) : G := h
theorem QyFtV1 {G : Prop} (h : G := by first | (apply Qy_y; rfl; exact PuFtV1) | exact QyA) : G := h
theorem QFFtV1 {G : Prop} (h : G := by repeat (first | exact QF.nil | (apply QF.mk; rfl; rfl; decide +kernel; exact QyFtV1))) : G := h
theorem PuFtV2 {G : Prop} (h : G := by (first | (apply Pu_indexAddrH; rfl; rfl; omega; omega; (intro w' _ hO; exact (row_cell (hO.of (A := .row (.slice A3 L.length c3) 27 11 L.length (L.flatMap DRule.enc)) (by repeat' constructor)) hg2).1)) | (apply Pu_loadRN; rfl; (focus repeat' constructor); exact hgn; exact DRule.len r) | (apply Pu_loadRF; rfl; (focus repeat' constructor); exact hg2) | (apply Pu_neqB'; rfl; rfl; exact c2) | (apply Pu_mul; rfl; rfl; (constructor <;> omega)))) : G := h
theorem QyFtV2 {G : Prop} (h : G := by first | (apply Qy_y; rfl; exact PuFtV2) | exact QyA) : G := h
theorem QFFtV2 {G : Prop} (h : G := by repeat (first | exact QF.nil | (apply QF.mk; rfl; rfl; decide +kernel; exact QyFtV2))) : G := h
theorem wkFtV0 {G G' : Prop} (k : G') (h : Hold G' → G := by intro k9; (first | refine und ?_ | (apply RL_pu; rfl; exact PuFtV2) | (apply RD_Q; rfl; rfl; decide +kernel; rfl; rfl; exact QyFtV2) | refine walk1 ?_ | (refine jg ?_; (try intro F); (first | (refine callO (fun w' hw hO => hon w' hw (rowRd DRule.len (hO.of (A := .row (.slice A3 L.length c3) 27 11 L.length (L.flatMap DRule.enc)) (by repeat' constructor)))) ?_) | (refine callO (fun w' hw hO => hbf w' hw (rowRd DRule.len (hO.of (A := .row (.slice A3 L.length c3) 27 11 L.length (L.flatMap DRule.enc)) (by repeat' constructor)))) ?_) | (refine callE hdt ?_) | (refine stA ?_)); first | refine ⟨_, EndsA, QFFtV2, ?_⟩ | refine fin ?_) | (refine jn ?_; (try intro F); (first | (refine stA ?_) | (apply Stp_pu; first | exact PuFtV2 | exact PuA)); first | refine ⟨_, EndsA, QFFtV2, ?_⟩ | refine fin ?_)); exact k9.out) : G := h ⟨k⟩
set_option maxHeartbeats 8000000 in
theorem footerEvents_spec (B : Option Addr) (c : Nat) (l : List Int) (off y : Int) (w : World) (hL : LibW w) (hG : Glob w) (hF : FtG w) (hB : RdSl w B c byEnc 1 l) (hbl : ∀ x ∈ l, inR .u8 x) (hof : inR .i16 off) (hy : inR .u16 y) :
  Does Tryz.prog 6 [.slice B l.length c, .int .i16 off, .int .u16 y] w (fun v O => v = .bool true ∧ O = []) := by
 have hwk := fun w' (hw : Bel w.heap.size w w') => works38_spec w' (hL.up hw) (hG.up hw) (hF.up hw)
 have hmk := fun w' (hw : Bel w.heap.size w w') => made17_spec B c l ⟨#[82]⟩ w' (hB.up hw) hbl
 have hset := made17_set l ⟨#[82]⟩
 have hfr := made17_from l ⟨#[82]⟩
 have hlen := made17_len l ⟨#[82]⟩
 generalize made17 l ⟨#[82]⟩ = L at *
 have ho : -32768 ≤ off ∧ off ≤ 32767 := hof
 rw [inR_u16] at hy
 have hdr := hset.rule
 have hsm : RsSm L := ⟨by omega, fun r hr => by have := (hdr r hr).save; omega, fun r hr => by have := (hdr r hr).f1; omega, fun r hr => by have h1 := (hdr r hr).f0; have h2 := (hdr r hr).ft; omega⟩
 have hbs : ∀ t, -20000 ≤ (befS L t).1 ∧ (befS L t).1 ≤ 20000 := befS_in (fun r hr => by have := (hdr r hr).save; omega) ⟨by decide, by decide⟩
 have hld := leastD_le L hsm.r
 obtain ⟨yr, hyr⟩ : ∃ yr, 2000 + y = yr := ⟨_, rfl⟩
 refine Does_of_W Tryz.func6 rfl rfl rfl rfl ?_
 repeat (first | (apply RL_pu; rfl; exact PuFtV0) | (apply RD_Q; rfl; rfl; decide +kernel; rfl; rfl; exact QyFtV0) | refine walk1 ?_ | (refine jg ?_; (try intro F); (first | (apply Stp_call (h := fun w' hw _ => hmk w' hw); rfl; rintro v O' ⟨A3, c3, rfl, rfl⟩) | (refine bx ?_; intro bk) | (refine stA ?_)); first | refine ⟨_, EndsA, QFFtV0, ?_⟩ | refine fin ?_) | (refine jn ?_; (try intro F); (first | (refine bx ?_; intro bk) | (refine stA ?_) | (apply Stp_pu; first | exact PuFtV0 | exact PuA)); first | refine ⟨_, EndsA, QFFtV0, ?_⟩ | refine fin ?_) | (apply RD_W; rfl; intro bk))
 rw [hyr]
 clear hB hbl hmk
 refine W_loopF [(7, .slice A3 L.length c3), (8, .int .i64 off), (9, .int .i64 yr)] [.row (.slice A3 L.length c3) 27 11 L.length (L.flatMap DRule.enc)] (fun k : Nat => [(10, .int .i64 k)]) (fun _ => []) (fun k => k ≤ L.length) (fun k => L.length - k) 0 SFA SOA (Nat.zero_le _) ?_
 intro k hk
 repeat (first | refine walk ?_ | (refine jn ?_; (try intro F); (first | (refine bx ?_; intro bk) | (refine stA ?_) | (apply Stp_pu; exact PuA)); refine fin ?_) | (apply RD_W; rfl; intro bk))
 refine W_cond rfl (fun h => ?_) (fun h => ?_)
 ·have hk2 : k < L.length := by simpa using h
  obtain ⟨r, hr⟩ : ∃ r, L[k]? = some r := ⟨_, List.getElem?_eq_getElem hk2⟩
  have hrm := List.mem_of_getElem? hr
  have hg2 : (L.flatMap DRule.enc)[(k : Int).toNat * 11 + 2]? = some (.int .i64 r.to) := flat_get DRule.len L k _ 2 _ hr rfl
  have hgn : ∀ j v, (DRule.enc r)[j]? = some v → (L.flatMap DRule.enc)[(k : Int).toNat * 11 + j]? = some v := fun j v hj => flat_get DRule.len L k _ j v hr hj
  have hon := fun w' (hw : Bel w.heap.size w w') (hA : RdSl w' A3 c3 DRule.enc 11 L) => evOn_spec A3 c3 L k yr r w' (hG.up hw) hA hr (by omega) hsm.r
  by_cases hto : r.to = 1048576
  ·have c2 : (!decide (r.to = 1048576)) = false := by rw [decide_eq_true hto]; rfl
   obtain ⟨e, q1, x, q2, q3, q4, q5, q6, q7, q8⟩ := fe_ever (hdr r hrm) hr hto (y := yr) (n := off) (by omega) (by omega) (by have := hfr r hrm; omega) hbs
   have hnm := onR_bd (leastD L) hld.2 r k yr e q1
   have her := onR_rule q1
   rw [q1] at hon
   have hbf := fun w' (hw : Bel w.heap.size w w') (hA : RdSl w' A3 c3 DRule.enc 11 L) => stBefore_spec A3 c3 L e.nominal w' (hG.up hw) hA hsm (by omega)
   have hin := fun w' (hw : Bel w.heap.size w w') (hA : RdSl w' A3 c3 DRule.enc 11 L) => inst_spec A3 c3 L e off w' (hG.up hw) hA hsm (by omega) (by omega) (by omega)
   have hb := hbs e.nominal
   unfold stV at hbf
   have hme := fun w' (hw : Bel w.heap.size w w') => means_spec x yr w' (hG.up hw) (by unfold inY; rw [decide_eq_true (by omega), decide_eq_true (by omega)]; rfl) q3 q4
   generalize instE L e off = I at *
   generalize befS L e.nominal = st at *
   obtain ⟨bf, bl⟩ := st
   dsimp only at q2 q8 hb hbf
   have hdt := fun w' (hw : Bel w.heap.size w w') => fdateT r off bf x 0 w' (hG.up hw) (hF.up hw) q2
   rw [q6] at hme
   generalize (meansF x yr).1 = dy at *
   have n1 : (!decide (86400 * dy + x.sec - off - bf = I)) = false := by rw [decide_eq_true q8]; rfl
   obtain ⟨x1, x2, x3, x4, x5⟩ := x
   obtain ⟨ey, er, en⟩ := e
   simp only [evV, DEvent.enc, Option.isSome] at hon
   dsimp only at q5 n1 hnm
   change ∀ w', Bel w.heap.size w w' → Does _ _ _ w' (fun v O => v = .tuple #[.agg #[.int .i64 x1, .int .i64 x2, .int .i64 x3, .int .i64 x4, .int .i64 x5], .int .i64 0] ∧ O = []) at hdt
   repeat (first | refine und ?_ | (apply RL_pu; rfl; exact PuFtV1) | (apply RD_Q; rfl; rfl; decide +kernel; rfl; rfl; exact QyFtV1) | refine walk1 ?_ | (refine jg ?_; (try intro F); (first | (refine callO (fun w' hw hO => hon w' hw (rowRd DRule.len (hO.of (A := .row (.slice A3 L.length c3) 27 11 L.length (L.flatMap DRule.enc)) (by repeat' constructor)))) ?_) | (refine callO (fun w' hw hO => hbf w' hw (rowRd DRule.len (hO.of (A := .row (.slice A3 L.length c3) 27 11 L.length (L.flatMap DRule.enc)) (by repeat' constructor)))) ?_) | (refine callE hdt ?_) | (refine callE hme ?_) | (refine callO (fun w' hw hO => hin w' hw (rowRd DRule.len (hO.of (A := .row (.slice A3 L.length c3) 27 11 L.length (L.flatMap DRule.enc)) (by repeat' constructor)))) ?_) | (refine bx ?_; intro bk) | (refine stA ?_)); first | refine ⟨_, EndsA, QFFtV1, ?_⟩ | refine fin ?_) | (refine jn ?_; (try intro F); (first | (refine bx ?_; intro bk) | (refine stA ?_) | (apply Stp_pu; first | exact PuFtV1 | exact PuA)); first | refine ⟨_, EndsA, QFFtV1, ?_⟩ | refine fin ?_) | (apply RD_W; rfl; intro bk))
   exact ⟨k + 1, by omega, by omega, SFA, SOA⟩
  ·have c2 : (!decide (r.to = 1048576)) = true := by rw [decide_eq_false hto]; rfl
   have hnm := onR_bd (leastD L) hld.2 r k yr
   generalize onR (leastD L) r k yr = o at *
   rcases o with _ | ⟨ey, er, en⟩
   ·simp only [evV, DEvent.enc, dEv0, Option.isSome] at hon
    have hbf := fun w' (hw : Bel w.heap.size w w') (hA : RdSl w' A3 c3 DRule.enc 11 L) => stBefore_spec A3 c3 L 0 w' (hG.up hw) hA hsm (by omega)
    unfold stV at hbf
    generalize befS L 0 = st at *
    obtain ⟨bf, bl⟩ := st
    have hdt : ∀ w', Bel w.heap.size w w' → Does Tryz.prog 12 [.agg r.enc.toArray, .int .i64 off, .int .i64 bf] w' (fun v O => v = .tuple #[.agg #[.int .i64 0, .int .i64 0, .int .i64 0, .int .i64 0, .int .i64 0], .int .i64 2] ∧ O = []) := fun w' hw => fdateT r off bf dt0 2 w' (hG.up hw) (hF.up hw) (fe_not hto off bf)
    repeat (first | refine wkFtV0 ?_ | (refine jg ?_; (try intro F); (refine bx ?_; intro bk); first | refine ⟨_, EndsA, QFFtV2, ?_⟩ | refine fin ?_) | (refine jn ?_; (try intro F); (refine bx ?_; intro bk); first | refine ⟨_, EndsA, QFFtV2, ?_⟩ | refine fin ?_) | (apply RD_W; rfl; intro bk))
    exact ⟨k + 1, by omega, by omega, SFA, SOA⟩
   ·simp only [evV, DEvent.enc, Option.isSome] at hon
    have hen := hnm _ rfl
    dsimp only at hen
    have hbf := fun w' (hw : Bel w.heap.size w w') (hA : RdSl w' A3 c3 DRule.enc 11 L) => stBefore_spec A3 c3 L en w' (hG.up hw) hA hsm (by omega)
    unfold stV at hbf
    generalize befS L en = st at *
    obtain ⟨bf, bl⟩ := st
    have hdt : ∀ w', Bel w.heap.size w w' → Does Tryz.prog 12 [.agg r.enc.toArray, .int .i64 off, .int .i64 bf] w' (fun v O => v = .tuple #[.agg #[.int .i64 0, .int .i64 0, .int .i64 0, .int .i64 0, .int .i64 0], .int .i64 2] ∧ O = []) := fun w' hw => fdateT r off bf dt0 2 w' (hG.up hw) (hF.up hw) (fe_not hto off bf)
    repeat (first | refine wkFtV0 ?_ | (refine jg ?_; (try intro F); (refine bx ?_; intro bk); first | refine ⟨_, EndsA, QFFtV2, ?_⟩ | refine fin ?_) | (refine jn ?_; (try intro F); (refine bx ?_; intro bk); first | refine ⟨_, EndsA, QFFtV2, ?_⟩ | refine fin ?_) | (apply RD_W; rfl; intro bk))
    exact ⟨k + 1, by omega, by omega, SFA, SOA⟩
 clear h hk
 repeat (first | refine walk ?_ | (refine jg ?_; (try intro F); (first | (refine callE hwk ?_) | (refine bx ?_; intro bk) | (refine stA ?_)); refine fin ?_) | (refine jn ?_; (try intro F); (first | (refine bx ?_; intro bk) | (refine stA ?_) | (apply Stp_pu; exact PuA)); refine fin ?_) | (apply RD_W; rfl; intro bk))
 exact rtA
end Go.Proofs.YtonjepladadmhaaGreatDoor
namespace Go.Proofs.YtonjepladadmhaaGreatDoor
open Go Go.RowKit Go.Wk
attribute [local irreducible] W RL Does thenQ blockQ retQ Calls Pu Stp RD Qy Ay DoesIn made17
structure Pl (α : Type) where
 l : List α
 B : Option Addr
 c : Nat
structure RdLF {α : Type} (w : World) (A : Option Addr) (enc : α → List Value) (sz : Nat) (pl : List (Pl α)) : Prop where
 rd : ∀ k p, pl[k]? = some p → A ≠ none ∧ RdSl w p.B p.c enc sz p.l ∧ CellsAt w ((adr A).add (k * 1)) [.slice p.B p.l.length p.c]
theorem RdLF.up {α : Type} {w w' : World} {A : Option Addr} {enc : α → List Value} {sz : Nat} {pl : List (Pl α)} (h : RdLF w A enc sz pl) (hb : Bel w.heap.size w w') : RdLF w' A enc sz pl :=
 ⟨fun k p hk => ⟨(h.rd k p hk).1, (h.rd k p hk).2.1.up hb, (h.rd k p hk).2.2.up hb (Nat.le_refl _)⟩⟩
theorem RdLL.places {α : Type} {w : World} {A : Option Addr} {c : Nat} {enc : α → List Value} {sz : Nat} {ll : List (List α)} (h : RdLL w A c enc sz ll) : ∃ pl : List (Pl α), pl.map Pl.l = ll ∧ RdLF w A enc sz pl ∧ ∀ p ∈ pl, p.l.length ≤ p.c ∧ p.c ≤ maxLen := by
 have key : ∀ i : Fin ll.length, ∃ p : Pl α, p.l = ll[i] ∧ A ≠ none ∧ RdSl w p.B p.c enc sz p.l ∧ CellsAt w ((adr A).add (i.val * 1)) [.slice p.B p.l.length p.c] := fun i => by
  obtain ⟨h1, B, cb, h2, h3⟩ := h.rd i.val ll[i] (List.getElem?_eq_getElem i.isLt)
  exact ⟨⟨ll[i], B, cb⟩, rfl, h1, h2, h3⟩
 obtain ⟨f, hf⟩ := Classical.axiomOfChoice key
 have hget : ∀ k p, (List.ofFn f)[k]? = some p → ∃ hk : k < ll.length, p = f ⟨k, hk⟩ := fun k p hp => by
  have hk := (List.getElem?_eq_some_iff.1 hp).1
  rw [List.length_ofFn] at hk
  rw [List.getElem?_ofFn, dif_pos hk] at hp
  exact ⟨hk, (Option.some.inj hp).symm⟩
 refine ⟨List.ofFn f, ?_, ⟨fun k p hp => ?_⟩, fun p hp => ?_⟩
 ·apply List.ext_getElem
  ·simp
  ·intro k h1 h2
   simp [(hf ⟨k, h2⟩).1]
 ·obtain ⟨hk, rfl⟩ := hget k p hp
  exact (hf ⟨k, hk⟩).2
 ·obtain ⟨k, hk⟩ := List.getElem?_of_mem hp
  obtain ⟨hk1, rfl⟩ := hget k p hk
  exact ⟨(hf ⟨k, hk1⟩).2.2.1.le, (hf ⟨k, hk1⟩).2.2.1.cap⟩
end Go.Proofs.YtonjepladadmhaaGreatDoor
namespace Go.Proofs.YtonjepladadmhaaGreatDoor
open Go Go.RowKit Go.Wk Go.ChangeShapes Go.WideShapes Go.ChangeAt
section
variable {H : Type} {enc : TypeId × Value → H} {w : World} {sp : Nat → Bool} {held : Bool}
theorem o23_by {n : Nat} {cs : List Value} {y : DataW H × List MemPlace} (h : DataW.trod enc Tryz.prog w 0 sp held n 5 cs = some y) : ∃ d : Int, cs = byEnc d ∧ inR .u8 d := by
 obtain ⟨x, e, _, b⟩ := DataW.trod_int Tryz.underlying5 h
 exact ⟨x, e, inR_of b⟩
end
section
variable {H : Type} {enc : TypeId × Value → H} {w : World} {sp : Nat → Bool} {held : Bool}
set_option maxRecDepth 100000 in
theorem open_i16 {v : Value} {r : Reach} {b0 : Nat} {d : DataW H} {ps : List MemPlace} (hv : Value.okWide Tryz.prog w r b0 80 v) (h : DataW.Trod enc Tryz.prog w 0 sp held 80 v d ps) : ∃ x : Int, v = .int .i16 x ∧ inR .i16 x := by
 obtain ⟨n, rfl⟩ := okWide_int Tryz.underlying80 hv
 obtain ⟨fuel, h⟩ := h
 have h2 : DataW.trod enc Tryz.prog w 0 sp held fuel 80 [.int .i16 n] = some (d, ps) := h
 obtain ⟨x, e, _, b⟩ := DataW.trod_int Tryz.underlying80 h2
 simp only [List.cons.injEq, and_true] at e
 exact ⟨x, e, inR_of b⟩
set_option maxRecDepth 100000 in
theorem open_u16 {v : Value} {r : Reach} {b0 : Nat} {d : DataW H} {ps : List MemPlace} (hv : Value.okWide Tryz.prog w r b0 81 v) (h : DataW.Trod enc Tryz.prog w 0 sp held 81 v d ps) : ∃ x : Int, v = .int .u16 x ∧ inR .u16 x := by
 obtain ⟨n, rfl⟩ := okWide_int Tryz.underlying81 hv
 obtain ⟨fuel, h⟩ := h
 have h2 : DataW.trod enc Tryz.prog w 0 sp held fuel 81 [.int .u16 n] = some (d, ps) := h
 obtain ⟨x, e, _, b⟩ := DataW.trod_int Tryz.underlying81 h2
 simp only [List.cons.injEq, and_true] at e
 exact ⟨x, e, inR_of b⟩
set_option maxRecDepth 100000 in
theorem open_d17 {v : Value} {r : Reach} {b0 : Nat} {d : DataW H} {ps : List MemPlace} (hv : Value.okWide Tryz.prog w r b0 79 v) (h : DataW.Trod enc Tryz.prog w 0 sp held 79 v d ps) :
  ∃ B c l, v = .slice B l.length c ∧ RdSl w B c byEnc 1 l ∧ ∀ x ∈ l, inR .u8 x := by
 obtain ⟨a, len, cap, rfl⟩ := okWide_slice Tryz.underlying79 hv
 obtain ⟨fuel, h⟩ := h
 have h2 : DataW.trod enc Tryz.prog w 0 sp held fuel 79 [.slice a len cap] = some (d, ps) := h
 obtain ⟨B, l, cb, e, h3, h4⟩ := slice_rd Tryz.underlying79 byEnc (inR .u8) (sz := 1) (by kernel_rfl) (fun n cs y h => o23_by h) h2
 exact ⟨B, cb, l, e, h3, h4⟩
end
end Go.Proofs.YtonjepladadmhaaGreatDoor
namespace Go.Wk
open Go Go.RowKit Go.ChangeShapes Go.WideShapes Go.ChangeAt
section
variable {H : Type} {enc : TypeId × Value → H}
def cellsOfD : DataW Unit → List Value
 | .agg l => l.map fun | .lit (.int k n) => .int k n | _ => undef
 | .lit (.int k n) => [.int k n]
 | _ => []
end
end Go.Wk
