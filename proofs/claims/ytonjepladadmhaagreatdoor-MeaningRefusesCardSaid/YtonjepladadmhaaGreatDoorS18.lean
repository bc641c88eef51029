/- Engine: regions that draw, in a round of a range over a function or beside deferred calls. Contracts: state.first, Initial. Contracts: state.Initial, Before, Instant. -/
import Derived.OrdersIn
import Derived.Test.YtonjepladadmhaaGreatDoorS15
import Derived.Test.YtonjepladadmhaaGreatDoorS17
set_option maxHeartbeats 4000000
set_option linter.unusedVariables false
set_option linter.unusedSimpArgs false
namespace Go.Wk
open Go Go.RowKit
def calmOp : Op → Bool
 | .move _ | .assign _ | .pick .. | .alloc _ | .box .. | .build .. | .load .. | .store .. | .binOp .. | .unOp .. | .convert .. | .fieldAddr .. | .field .. | .indexAddr .. | .index .. => true
 | _ => false
theorem calm_v {P : Program} (s : Sem Value) (w : World) : calm ((do pure (.value (← s)) : Sem Next).run P w) := by
 simp only [Sem.run_bind]
 generalize s.run P w = r
 cases r <;> simp [calm, Result.andThen]
theorem calm_u {P : Program} (s : Sem Unit) (w : World) : calm ((do s; pure .skip : Sem Next).run P w) := by
 simp only [Sem.run_bind]
 generalize s.run P w = r
 cases r <;> simp [calm, Result.andThen]
theorem calm_of {P : Program} {ρ : Operand → Value} {o : Oper} (h : calmOp o.op = true) (w : World) : calm ((execOp ρ o).run P w) := by
 obtain ⟨dst, op, ty, pos, af, g⟩ := o
 cases op <;> first | (cases h; done) | exact calm_v _ w | exact calm_u _ w | skip
 case move x => simp [execOp, calm]
 case assign x => simp [execOp, calm]
 case pick c a b =>
  simp only [execOp, Sem.run_bind]
  generalize (asBool _).run P w = r
  cases r <;> simp [calm, Result.andThen]
theorem calmOp_defer {o : Oper} (h : calmOp o.op = true) : ∀ c, o.op ≠ .defer c := by
 intro c hc
 rw [hc] at h
 cases h
theorem wp_toInN {F : Fence} (hF : WF F) {n : Nat} {P : Program} {o : Oper} {a a2 : Act} {w : World} {K K2 : Act → World → Prop} {Q Q2 : Exit → Act → World → Prop} (he : a2.eval = a.eval) (hd : ∀ c, o.op ≠ .defer c) (hc : calm ((execOp a.eval o).run P w)) (h : o.wp P a w K Q) (hQ : ∀ e a w, Q e a w → e = .normal)
  (hK : ∀ v w', K (a.put o.dst v) w' → K2 (a2.put o.dst v) w') : o.wpIn F n P a2 w K2 Q2 := by
 refine ⟨fun f _ => hF.fn f, ?_⟩
 rw [Oper.semAt_eq _ _ _ hd, he]
 unfold Oper.wp at h
 generalize (execOp a.eval o).run P w = r at *
 cases r with
 | ok nx w' =>
  cases nx with
  | value v => exact hK _ _ h
  | skip => exact hK _ _ h
  | enter f args =>
   rw [Oper.upon_enter] at h
   rw [Oper.uponIn_enter]
   refine ⟨fun hh => (by rw [hF.depth] at hh; cases hh), (hF.calls h).mono ?_⟩
   intro e w'' he
   cases e with
   | returned v => exact hK _ _ he
   | panicked c => cases hQ _ _ _ he
   | outgrown => exact he.elim fun a h => h.elim fun w h => (by cases hQ _ _ _ h)
  | _ => exact hc.elim
 | halt x w' =>
  cases x with
  | panic v => cases hQ _ _ _ h
  | _ => exact h.elim
section
variable {F : Fence} {P : Program} {n : Nat} {wr : World} {ops : Array Oper} {K : Fr → List It → Prop} {fr : Fr} {O : List It} {D : List Deferred}
theorem any_toIn (hF : WF F) (hc : ∀ o ∈ ops.toList, calmOp o.op = true) {Q Q2 : Exit → Act → World → Prop} (hQ : ∀ e a w, Q e a w → e = .normal) (hK : ∀ a w, Q .normal a w → Q2 .normal (actD D a) w) :
  ∀ (m : Nat) (listed : Array Bool) (a : Act) (w : World), wpAny P .any ops Q m listed a w → wpAnyIn F 0 P .any ops Q2 m listed (actD D a) w := by
 intro m
 induction m with
 | zero => intro listed a w h; exact ⟨h.1, hK _ _ h.2⟩
 | succ m ih =>
  intro listed a w h
  refine ⟨fun hr => hK _ _ (h.1 hr), fun i hi => ?_⟩
  have h1 := h.2 i hi
  unfold wpOp at h1
  unfold wpOpIn
  cases ho : ops[i]? with
  | none => rw [ho] at h1; exact ih _ _ _ h1
  | some o =>
   rw [ho] at h1
   have hco : calmOp o.op = true := hc o (by
    rw [Array.mem_toList_iff]
    exact Array.mem_of_getElem? ho)
   dsimp only at h1 ⊢
   rw [show (actD D a).tmps = a.tmps from rfl]
   by_cases hw : Region.wanted o (yielded ops a.tmps) = true
   ·rw [if_pos hw] at h1 ⊢
    rcases h1 with h1 | ⟨_, h1⟩
    ·exact wp_toInN (a := a) hF rfl (calmOp_defer hco) (calm_of hco w) h1 hQ fun v w' hk => by
      rw [actD_put]
      exact ih _ _ _ hk
    ·obtain ⟨_, _, h2⟩ := h1
     cases hQ _ _ _ h2
   ·rw [if_neg hw] at h1 ⊢
    refine ⟨fun f _ => hF.fn f, ?_⟩
    rw [actD_put]
    exact ih _ _ _ h1
theorem any_of_RD {l : List Oper} (hac : acyc l.toArray = true) (h : RD P n wr l.toArray (enum 0 l) [] [] K fr O) {a : Act} {w : World} (hs : St n wr fr O a w) :
  wpAny P .any l.toArray (regQF n wr [] K) l.toArray.size (Array.replicate l.toArray.size false) a { w with drawn := w.drawn + 1 } := by
 have h1 := h ⟨by simp [enum_idx, List.nodup_range'], by simp, trivial, trivial, fun p hp => by simpa using (enum_mem l 0 p hp).2⟩ l.length [] [] [] [] a { w with drawn := w.drawn + 1 } (List.Sublist.refl _) (by simp)
  (by have h := hs.drawn (m := w.drawn + 1) (Nat.le_succ _); rw [show O ++ (yItems [] ++ []) = O from by simp [yItems]]; exact h) (by simp [enum_len]) (fun k o hk hn => absurd (by
   have hlt : k < l.length := by have := (Array.getElem?_eq_some_iff.1 hk).1; simpa using this
   have : k ∈ (enum 0 l).map (·.1) := by rw [enum_idx]; simp; exact hlt
   obtain ⟨p, hp, rfl⟩ := List.mem_map.1 this
   exact .inl ⟨p, hp, rfl⟩) hn)
 refine wpAny_of_T hac _ _ _ _ _ (by simp) ?_ (by simpa using h1)
 intro j
 unfold Tof
 constructor
 ·rintro (⟨p, hp, rfl⟩ | ⟨_, hh, _⟩ | ⟨_, hh, _⟩)
  ·have := (List.getElem?_eq_some_iff.1 (enum_mem l 0 p hp).2).1
   have h2 : p.1 < l.length := by omega
   simp [Array.getD_eq_getD_getElem?, h2]
  ·cases hh
  ·cases hh
 ·intro hj
  have hlt : j < l.length := by
   rcases Nat.lt_or_ge j l.length with h0 | h0
   ·exact h0
   ·rw [Array.getD_eq_getD_getElem?, Array.getElem?_eq_none (by simpa using h0)] at hj
    simp at hj
  have : j ∈ (enum 0 l).map (·.1) := by rw [enum_idx]; simp; exact hlt
  obtain ⟨p, hp, rfl⟩ := List.mem_map.1 this
  exact .inl ⟨p, hp, rfl⟩
theorem WI_draw {Q : Exit → Fr → List It → Prop} {id : Nat} {l : List Oper} (hF : WF F) (hm : P.follows .mixedOrders = true) (hac : acyc l.toArray = true) (hc : l.all (fun o => calmOp o.op) = true) (h : RD P n wr l.toArray (enum 0 l) [] [] (Q .normal) fr O) : WI F D P n wr (.region id l.toArray true) Q fr O := by
 intro a w hs
 have h1 := any_of_RD hac h hs
 refine wpIn_region_any hm (any_toIn hF (fun o ho => List.all_eq_true.1 hc o (by simpa using ho)) (fun e a w he => he.1) ?_ _ _ _ _ h1)
 rintro a' w' ⟨_, fr', O', hs', hq⟩
 refine ⟨rfl, fr', O', ?_, hq⟩
 have hs2 : St n wr fr' O' a' w' := by simpa using hs'
 rw [actD_nil hs2]
 exact hs2
theorem yields_roundA {l p : Nat} {r : Loop} {v : Value} {a0 : Act} {R : Bool → List It → Prop} (hp : r.params = #[p]) (hr : r.state = .ready) (ht : r.tmps = a0.tmps) (hsim : Sim n fr a0) (hpn : Nat.ble (p + 1) n = true)
  (hmem : LoopIt l r ∈ O) {id : Nat} {la : List Oper} (hass : r.assign = .region id la.toArray false)
  (hb : RLI (Fence.wide.inRound l) [] P n wr la.toArray la (fun fr' O' => ∃ O1, Upd O' (LoopIt l r) (LoopIt l { r with state := .busy }) O1 ∧ WI (Fence.wide.inRound l) [] P n wr r.body (roundQ l r R) fr' O1) ((p, v) :: fr) O) : YieldsTo P l v wr O R := by
 intro w hB hH
 have hl := LoopIt.at (hH.sat _ hmem)
 have hy := run_yield (P := P) (args := #[v]) hl (by rw [hp]; rfl)
 rw [hp, ht] at hy
 refine ⟨r.fn, _, r.assign, r.body, hy, roundIn_of_wpIn trivial ?_⟩
 have hst : St n wr ((p, v) :: fr) O { tmps := a0.tmps.setIfInBounds p v, defers := [] } w := by
  have := hsim.put hpn v
  refine ⟨?_, hB, hH⟩
  have e : ({ tmps := a0.tmps.setIfInBounds p v, defers := [] } : Act) = a0.put (some p) v := by
   have := hsim.defers
   simp [Act.put, this]
  rw [e]
  exact this
 rw [hass, show Array.foldl (fun tmps (x : Tmp × Value) => match x with | (t, a) => tmps.setIfInBounds t a) a0.tmps (#[p].zip #[v]) = a0.tmps.setIfInBounds p v by simp]
 refine wpIn_mono (wpIn_region_lit (hb _ w hst)) ?_
 rintro e a' w' ⟨rfl, hd, fr', O', hs', O1, hu, hW⟩
 have hl' := LoopIt.at (hs'.own.sat _ hu.mem)
 refine ⟨_, run_beginRound hl' hr, ?_⟩
 have hs2 := turn_loop hs' hu
 have h3 := hW _ _ hs2
 rw [actD_back hd] at h3
 refine wpIn_mono h3 ?_
 rintro e2 a2 w2 ⟨hd2, fr2, O2, hs3, hq⟩
 cases e2 with
 | normal =>
  obtain ⟨O3, hu3, hR⟩ := hq
  have hl3 := LoopIt.at (hs3.own.sat _ hu3.mem)
  have hs4 := turn_loop hs3 hu3
  exact ⟨_, _, run_endRound none hl3, true, O3, rfl, hs4.old, hs4.own, hR⟩
 | ret =>
  obtain ⟨O3, hu3, hR⟩ := hq
  have hl3 := LoopIt.at (hs3.own.sat _ hu3.mem)
  have hs4 := turn_loop hs3 hu3
  exact ⟨_, _, run_endRound (some .ret) hl3, false, O3, rfl, hs4.old, hs4.own, hR⟩
 | exit id => exact hq.elim
 | goto t => exact hq.elim
 | panic ch => exact hq.elim
 | outgrown => exact hq.elim
theorem WI_exit {Q : Exit → Fr → List It → Prop} {id : Nat} (h : Q (.exit id) fr O) : WI F D P n wr (.exit id) Q fr O := fun a _ hs => wpIn_exit ⟨rfl, fr, O, by rw [actD_nil hs]; exact hs, h⟩
end
end Go.Wk
set_option maxHeartbeats 4000000
set_option maxRecDepth 20000
namespace Go.Proofs.YtonjepladadmhaaGreatDoor
open Go Go.RowKit Go.Wk
attribute [local irreducible] W RL Does thenQ blockQ retQ Calls Pu Stp RD Qy Ay DoesIn RLI WI
abbrev fiO (A : Option Addr) (c : Nat) (n : Nat) (all : Bool) (but : Int) (b3 b4 b5 b6 b8 b9 ll D : Nat) (r : Loop) (s : Option DEvent) : List It :=
 [LoopIt ll r, DefIt D, .blk b3 [.slice A n c] 40, .blk b4 [.bool all] 4, .blk b5 [.int .i64 but] 2, .blk b6 [.int .i64 0, .int .i64 0, .int .i64 0] 84, .blk b8 (evC s) 84, .blk b9 [.bool s.isSome] 4]
theorem evV_C (o : Option DEvent) : evV o = .agg (evC o).toArray := by cases o <;> rfl
theorem evC_len (o : Option DEvent) : (evC o).length = 3 := by cases o <;> rfl
def fiR (o : Option DEvent) (wr : World) : Ending → World → Prop := fun e w' => ∃ v O', e = .returned v ∧ Bel wr.heap.size wr w' ∧ Holds wr.heap.size O' w' ∧ (v = .tuple #[evV o, .bool o.isSome] ∧ O' = [])
theorem fi_leave (o : Option DEvent) (wr : World) {a : Act} {w' : World} {D b6 : Nat} (hs : St 39 wr [(6, .pointer (some ⟨b6, 0, none⟩)), (7, .bool o.isSome)] [DefIt D, .blk b6 (evC o) 84] a w') :
  bodyPostM Fence.wide 0 Tryz.prog Tryz.f121 (fiR o wr) .ret (actD (markD D) a) w' := by
 have hK := DefIt.at (hs.own.sat _ List.mem_cons_self)
 have hs2 := turn_def hs
 refine ⟨by simp, .inl ⟨_, _, rfl, run_takeDeferred hK, ?_⟩⟩
 refine ⟨.tuple #[evV o, .bool o.isSome], ?_, _, [], rfl, hs2.old, hs2.own.sub .nil, rfl, rfl⟩
 have hres : Tryz.f121.results = [ResultVar.cell 6 84, ResultVar.tmp 7].toArray := rfl
 show (results Tryz.f121 a.tmps).run Tryz.prog _ = _
 unfold results
 rw [hres, List.mapM_toArray]
 simp only [Sem.run_bind, Sem.run_map]
 rw [run_results (P := Tryz.prog) hs2 _ (fun _ => rfl) (fun _ _ => rfl) [ResultVar.cell 6 84, ResultVar.tmp 7] [.agg (evC o).toArray, .bool o.isSome] ⟨_, _, rfl, .cellB (sz := 3) rfl .here (by rw [List.take_of_length_le (by rw [evC_len]; exact Nat.le_refl 3)]) (evC_len o), _, [], rfl, rfl, rfl⟩]
 simp only [Result.andThen_ok, Sem.run_pure]
 rw [evV_C]
 rfl
theorem PuStI0 {G : Prop} (h : G := by (first | exact PuI | (apply Pu_loadO1; rfl; exact hca 9 _ rfl))) : G := h
theorem QyStI0 {G : Prop} (h : G := by first | (apply Qy_y; rfl; exact PuStI0) | exact QyA) : G := h
theorem QFStI0 {G : Prop} (h : G := by repeat (first | exact QF.nil | (apply QF.mk; rfl; rfl; decide +kernel; exact QyStI0))) : G := h
theorem PuStI1 {G : Prop} (h : G := by (first | exact PuStI0 | (apply Pu_eqlB; rfl; rfl; exact q1))) : G := h
theorem QyStI1 {G : Prop} (h : G := by first | (apply Qy_y; rfl; exact PuStI1) | exact QyA) : G := h
theorem QFStI1 {G : Prop} (h : G := by repeat (first | exact QF.nil | (apply QF.mk; rfl; rfl; decide +kernel; exact QyStI1))) : G := h
theorem wkStI0 {G G' : Prop} (k : G') (h : Hold G' → G := by intro k9; (first | (apply RL_pu; rfl; exact PuStI1) | (apply RD_Q; rfl; rfl; decide +kernel; rfl; rfl; exact QyStI1) | refine walk1 ?_ | (refine jn ?_; (try intro F); (first | (refine stA ?_) | (apply Stp_pu; first | exact PuStI1 | exact PuA)); first | refine ⟨_, EndsA, QFStI1, ?_⟩ | refine fin ?_)); exact k9.out) : G := h ⟨k⟩
theorem PuStI2 {G : Prop} (h : G := by (first | exact PuStI0 | (apply Pu_leqB; rfl; rfl; exact q2))) : G := h
theorem QyStI2 {G : Prop} (h : G := by first | (apply Qy_y; rfl; exact PuStI2) | exact QyA) : G := h
theorem QFStI2 {G : Prop} (h : G := by repeat (first | exact QF.nil | (apply QF.mk; rfl; rfl; decide +kernel; exact QyStI2))) : G := h
theorem PuStI3 {G : Prop} (h : G := by (first | exact PuStI1 | (apply Pu_leqB; rfl; rfl; exact q2))) : G := h
theorem QyStI3 {G : Prop} (h : G := by first | (apply Qy_y; rfl; exact PuStI3) | exact QyA) : G := h
theorem QFStI3 {G : Prop} (h : G := by repeat (first | exact QF.nil | (apply QF.mk; rfl; rfl; decide +kernel; exact QyStI3))) : G := h
theorem first19_in (A : Option Addr) (c : Nat) (l : List DRule) (all : Bool) (but : Int) (wr : World) (hG : Glob wr) (hA : RdSl wr A c DRule.enc 11 l) (hn : l.length ≤ 1000000) (hR : ∀ r ∈ l, -4611686018427387904 ≤ r.save ∧ r.save ≤ 4611686018427387904) (hF : ∀ r ∈ l, r.from_ ≤ 4611686018427387904) :
  DoesIn Tryz.prog 121 [.slice A l.length c, .bool all, .int .i64 but] wr [] (fun v O => v = .tuple #[evV (fstD l all but), .bool (fstD l all but).isSome] ∧ O = []) := by
 unfold DoesIn
 intro w0 hB0 hH0
 refine DoesIn_marks Tryz.func121 rfl rfl rfl hB0 hH0 ?_
 intro a0 hst
 -- Does_of_W Tryz.func121
 refine pre_seq (fun fr' O' => ∃ b3 b4 b5 b6, Sub [(3, .pointer (some ⟨b3, 0, none⟩)), (4, .pointer (some ⟨b4, 0, none⟩)), (5, .pointer (some ⟨b5, 0, none⟩)), (6, .pointer (some ⟨b6, 0, none⟩))] fr' ∧ SubO [.blk b3 [.slice A l.length c] 40, .blk b4 [.bool all] 4, .blk b5 [.int .i64 but] 2, .blk b6 [.int .i64 0, .int .i64 0, .int .i64 0] 84] O') ?_ ?_ a0 w0 hst
 ·repeat (first | refine walk ?_ | (refine jn ?_; (try intro F); (first | (refine bx ?_; intro bk) | (refine stA ?_) | (apply Stp_pu; exact PuA)); refine fin ?_) | (apply RD_W; rfl; intro bk))
  rename_i b3 b4 b5
  exact ⟨rfl, b3, b4, b5, bk, SFA, SOA⟩
 rintro a1 w1 fr1 O1 hs0 ⟨b3, b4, b5, b6, hf1, hO1⟩
 have hs1 := hs0.sub hf1 hO1
 clear hf1 hO1 hs0 hst a0 fr1 O1
 refine pre_seq (fun fr' O' => ∃ b8, Sub [(3, .pointer (some ⟨b3, 0, none⟩)), (4, .pointer (some ⟨b4, 0, none⟩)), (5, .pointer (some ⟨b5, 0, none⟩)), (6, .pointer (some ⟨b6, 0, none⟩)), (8, .pointer (some ⟨b8, 0, none⟩))] fr' ∧ SubO [.blk b3 [.slice A l.length c] 40, .blk b4 [.bool all] 4, .blk b5 [.int .i64 but] 2, .blk b6 [.int .i64 0, .int .i64 0, .int .i64 0] 84, .blk b8 [.int .i64 0, .int .i64 0, .int .i64 0] 84] O') ?_ ?_ a1 w1 hs1
 ·repeat (first | refine walk ?_ | (refine jn ?_; (try intro F); (first | (refine bx ?_; intro bk) | (refine stA ?_) | (apply Stp_pu; exact PuA)); refine fin ?_) | (apply RD_W; rfl; intro bk))
  exact ⟨rfl, bk, SFA, SOA⟩
 rintro a2 w2 fr2 O2 hs0 ⟨b8, hf1, hO1⟩
 have hs2 := hs0.sub hf1 hO1
 clear hf1 hO1 hs0 hs1 a1 fr2 O2
 refine pre_seq (fun fr' O' => ∃ b9, Sub [(3, .pointer (some ⟨b3, 0, none⟩)), (4, .pointer (some ⟨b4, 0, none⟩)), (5, .pointer (some ⟨b5, 0, none⟩)), (6, .pointer (some ⟨b6, 0, none⟩)), (8, .pointer (some ⟨b8, 0, none⟩)), (9, .pointer (some ⟨b9, 0, none⟩))] fr' ∧ SubO [.blk b3 [.slice A l.length c] 40, .blk b4 [.bool all] 4, .blk b5 [.int .i64 but] 2, .blk b6 [.int .i64 0, .int .i64 0, .int .i64 0] 84, .blk b8 [.int .i64 0, .int .i64 0, .int .i64 0] 84, .blk b9 [.bool false] 4] O') ?_ ?_ a2 w2 hs2
 ·repeat (first | refine walk ?_ | (refine jn ?_; (try intro F); (first | (refine bx ?_; intro bk) | (refine stA ?_) | (apply Stp_pu; exact PuA)); refine fin ?_) | (apply RD_W; rfl; intro bk))
  exact ⟨rfl, bk, SFA, SOA⟩
 rintro a3 w3 fr3 O3 hs0 ⟨b9, hf1, hO1⟩
 have hs3 := hs0.sub hf1 hO1
 clear hf1 hO1 hs0 hs2 a2 fr3 O3
 refine wp_seq ?_
 refine pre_seq (fun fr' O' => ∃ bl, Sub [(3, .pointer (some ⟨b3, 0, none⟩)), (4, .pointer (some ⟨b4, 0, none⟩)), (5, .pointer (some ⟨b5, 0, none⟩)), (6, .pointer (some ⟨b6, 0, none⟩)), (8, .pointer (some ⟨b8, 0, none⟩)), (9, .pointer (some ⟨b9, 0, none⟩)), (12, .func (.func 203) #[] #[.pointer (some ⟨bl, 0, none⟩)])] fr' ∧ SubO [.blk bl [.slice A l.length c] 40, .blk b3 [.slice A l.length c] 40, .blk b4 [.bool all] 4, .blk b5 [.int .i64 but] 2, .blk b6 [.int .i64 0, .int .i64 0, .int .i64 0] 84, .blk b8 [.int .i64 0, .int .i64 0, .int .i64 0] 84, .blk b9 [.bool false] 4] O') ?_ ?_ a3 w3 hs3
 ·repeat (first | refine walk ?_ | (refine jg ?_; (try intro F); (first | (apply Stp_call (h := fun w' _ _ => firsts_spec A l.length c w'); rfl; rintro v O' ⟨bl, rfl, rfl⟩) | (refine bx ?_; intro bk) | (refine stA ?_)); refine fin ?_) | (refine jn ?_; (try intro F); (first | (refine bx ?_; intro bk) | (refine stA ?_) | (apply Stp_pu; exact PuA)); refine fin ?_) | (apply RD_W; rfl; intro bk))
  exact ⟨rfl, bl, SFA, SOA⟩
 rintro a4 w4 fr4 O4 hs0 ⟨bl, hf1, hO1⟩
 have hs4 := hs0.sub hf1 hO1
 clear hf1 hO1 hs0 hs3 a3 fr4 O4
 refine wp_block ?_
 refine range_wp (gf := 203) (lb := [.pointer (some ⟨bl, 0, none⟩)]) (fun jump O2 => jump = none ∧ SubO [.blk b6 [.int .i64 0, .int .i64 0, .int .i64 0] 84, .blk b8 (evC (fstD l all but)) 84, .blk b9 [.bool (fstD l all but).isSome] 4] O2) hs4 rfl ?_ ?_
 ·intro fn ll D
  generalize hr : recOf fn a4.tmps 13 _ _ D = r
  have hit := firsts1_spec ll bl A c l (fun s => fiO A c l.length all but b3 b4 b5 b6 b8 b9 ll D r s) (fun d s => s = d.foldl (fstB l all but) none) wr none rfl hG hA hn hR hF ?_
  ·refine hit.sub SOA fun v O' ⟨_, s, h1, h6⟩ => ?_
   subst h1
   exact ⟨none, _, .ready, SubO.trans (by rw [← hr]; exact SOA) h6, by decide, rfl, .refl _⟩
  ·rintro d ⟨ey, er, en⟩ s X Y ⟨k, ru, hk, her⟩ hs
   dsimp only at her
   subst her
   have hkl : k < l.length := (List.getElem?_eq_some_iff.1 hk).1
   have hrE : ruE l ⟨ey, k, en⟩ = ru := ruE_at (by dsimp only; exact hk)
   obtain ⟨hna, hca⟩ := hA.rd k _ hk
   have hle := hA.le
   have hcp := hA.cap
   simp only [maxLen] at hcp
   obtain ⟨s2, hs2⟩ : ∃ s2, fstB l all but s ⟨ey, k, en⟩ = s2 := ⟨_, rfl⟩
   have hfold : s2 = (d ++ [(⟨ey, k, en⟩ : DEvent)]).foldl (fstB l all but) none := by rw [List.foldl_append, ← hs, ← hs2]; rfl
   unfold fstB at hs2
   rw [hrE] at hs2
   refine yields_roundA (r := r) (p := 13) (fr := [(3, .pointer (some ⟨b3, 0, none⟩)), (4, .pointer (some ⟨b4, 0, none⟩)), (5, .pointer (some ⟨b5, 0, none⟩)), (6, .pointer (some ⟨b6, 0, none⟩)), (8, .pointer (some ⟨b8, 0, none⟩)), (9, .pointer (some ⟨b9, 0, none⟩))]) (a0 := a4) (by rw [← hr]; rfl) (by rw [← hr]; rfl) (by rw [← hr]; rfl) (hs4.sim.sub SFA) rfl (by simp) (by rw [← hr]; rfl) ?_
   dsimp only [DEvent.enc]
   apply RLI_st (Or.inr ⟨_, rfl⟩); (intro d hd; cases hd; rfl); (intro c h; cases h); (intro a w hs; exact calm_of rfl w)
   apply Stp_alloc; intro b10
   apply RLI_st (Or.inr ⟨_, rfl⟩); (intro d hd; cases hd); (intro c h; cases h); (intro a w hs; exact calm_of rfl w)
   (apply Stp_storeNf; rfl; rfl; (focus repeat' constructor); (focus repeat (first | exact Nf.nil | apply Nf.cons)); rfl; rfl; rfl; (focus repeat' constructor))
   refine RLI_nil ?_
   refine ⟨_, (by repeat' constructor), ?_⟩
   have hbody : ∀ Q fr O, (∀ b : Code, b = r.body → WI (Fence.wide.inRound ll) [] Tryz.prog 39 wr b Q fr O) → WI (Fence.wide.inRound ll) [] Tryz.prog 39 wr r.body Q fr O := fun Q fr O h => h _ rfl
   refine hbody _ _ _ fun b hb => ?_
   rw [← hr] at hb
   dsimp only [recOf] at hb
   subst hb
   refine WI_block (WI_seq (WI_seq (WI_draw (Or.inr ⟨_, rfl⟩) rfl (by decide +kernel) rfl ?_)))
   rcases s with _ | ⟨by_, br, bn⟩
   ·cases all with
    | true =>
     obtain rfl : some ⟨ey, k, en⟩ = s2 := by rw [← hs2]; rfl
     clear hs2
     dsimp only [fiO, evC, DEvent.enc, dEv0, Option.isSome]
     repeat (first | (apply RL_pu; rfl; exact PuStI0) | (apply RD_Q; rfl; rfl; decide +kernel; rfl; rfl; exact QyStI0) | refine walk1 ?_ | (refine jn ?_; (try intro F); (first | (refine bx ?_; intro bk) | (refine stA ?_) | (apply Stp_pu; first | exact PuStI0 | exact PuA)); first | refine ⟨_, EndsA, QFStI0, ?_⟩ | refine fin ?_) | (apply RD_W; rfl; intro bk))
     refine WI_cond rfl (fun h => (by cases h)) (fun h => ?_)
     refine WI_skip ?_
     apply thenQ_n
     refine WI_region ?_
     apply RLI_pu (Or.inr ⟨_, rfl⟩); rfl; (intro c h; cases h); (apply Pu_loadNf; rfl; (focus repeat' constructor); exact NfA; rfl)
     apply RLI_st (Or.inr ⟨_, rfl⟩); (intro d hd; cases hd); (intro c h; cases h); (intro a w hs; exact calm_of rfl w)
     (apply Stp_storeNf; rfl; rfl; (focus repeat' constructor); (focus repeat (first | exact Nf.nil | apply Nf.cons)); rfl; rfl; rfl; (focus repeat' constructor))
     apply RLI_st (Or.inr ⟨_, rfl⟩); (intro d hd; cases hd); (intro c h; cases h); (intro a w hs; exact calm_of rfl w)
     (apply Stp_storeNf; rfl; rfl; (focus repeat' constructor); (focus repeat (first | exact Nf.nil | apply Nf.cons)); rfl; rfl; rfl; (focus repeat' constructor))
     refine RLI_nil ?_
     refine blockQ_n ?_
     refine ⟨_, (by repeat' constructor), rfl, some ⟨ey, k, en⟩, hfold, ?_⟩
     dsimp only [fiO, evC, DEvent.enc, dEv0, Option.isSome]
     rw [← hr]
     exact SOA
    | false =>
     by_cases hsv : ru.save = but
     ·have q1 : decide (ru.save = but) = true := decide_eq_true hsv
      obtain rfl : none = s2 := by rw [← hs2, q1]; rfl
      clear hs2
      dsimp only [fiO, evC, DEvent.enc, dEv0, Option.isSome]
      repeat (first | refine wkStI0 ?_ | (refine jn ?_; (try intro F); (refine bx ?_; intro bk); first | refine ⟨_, EndsA, QFStI1, ?_⟩ | refine fin ?_) | (apply RD_W; rfl; intro bk))
      refine WI_cond rfl (fun h => ?_) (fun h => (by cases h))
      refine WI_exit ?_
      apply thenQ_e
      apply blockQ_hit
      refine ⟨_, (by repeat' constructor), rfl, none, hfold, ?_⟩
      dsimp only [fiO, evC, DEvent.enc, dEv0, Option.isSome]
      rw [← hr]
      exact SOA
     ·have q1 : decide (ru.save = but) = false := decide_eq_false hsv
      obtain rfl : some ⟨ey, k, en⟩ = s2 := by rw [← hs2, q1]; rfl
      clear hs2
      dsimp only [fiO, evC, DEvent.enc, dEv0, Option.isSome]
      repeat (first | refine wkStI0 ?_ | (refine jn ?_; (try intro F); (refine bx ?_; intro bk); first | refine ⟨_, EndsA, QFStI1, ?_⟩ | refine fin ?_) | (apply RD_W; rfl; intro bk))
      refine WI_cond rfl (fun h => (by cases h)) (fun h => ?_)
      refine WI_skip ?_
      apply thenQ_n
      refine WI_region ?_
      apply RLI_pu (Or.inr ⟨_, rfl⟩); rfl; (intro c h; cases h); (apply Pu_loadNf; rfl; (focus repeat' constructor); exact NfA; rfl)
      apply RLI_st (Or.inr ⟨_, rfl⟩); (intro d hd; cases hd); (intro c h; cases h); (intro a w hs; exact calm_of rfl w)
      (apply Stp_storeNf; rfl; rfl; (focus repeat' constructor); (focus repeat (first | exact Nf.nil | apply Nf.cons)); rfl; rfl; rfl; (focus repeat' constructor))
      apply RLI_st (Or.inr ⟨_, rfl⟩); (intro d hd; cases hd); (intro c h; cases h); (intro a w hs; exact calm_of rfl w)
      (apply Stp_storeNf; rfl; rfl; (focus repeat' constructor); (focus repeat (first | exact Nf.nil | apply Nf.cons)); rfl; rfl; rfl; (focus repeat' constructor))
      refine RLI_nil ?_
      refine blockQ_n ?_
      refine ⟨_, (by repeat' constructor), rfl, some ⟨ey, k, en⟩, hfold, ?_⟩
      dsimp only [fiO, evC, DEvent.enc, dEv0, Option.isSome]
      rw [← hr]
      exact SOA
   ·cases all with
    | true =>
     by_cases hle2 : bn ≤ en
     ·have q2 : decide (bn ≤ en) = true := decide_eq_true hle2
      obtain rfl : some ⟨by_, br, bn⟩ = s2 := by rw [← hs2]; simp [hle2]
      clear hs2
      dsimp only [fiO, evC, DEvent.enc, dEv0, Option.isSome]
      repeat (first | (apply RL_pu; rfl; exact PuStI2) | (apply RD_Q; rfl; rfl; decide +kernel; rfl; rfl; exact QyStI2) | refine walk1 ?_ | (refine jn ?_; (try intro F); (first | (refine bx ?_; intro bk) | (refine stA ?_) | (apply Stp_pu; first | exact PuStI2 | exact PuA)); first | refine ⟨_, EndsA, QFStI2, ?_⟩ | refine fin ?_) | (apply RD_W; rfl; intro bk))
      refine WI_cond rfl (fun h => ?_) (fun h => (by cases h))
      refine WI_exit ?_
      apply thenQ_e
      apply blockQ_hit
      refine ⟨_, (by repeat' constructor), rfl, some ⟨by_, br, bn⟩, hfold, ?_⟩
      dsimp only [fiO, evC, DEvent.enc, dEv0, Option.isSome]
      rw [← hr]
      exact SOA
     ·have q2 : decide (bn ≤ en) = false := decide_eq_false hle2
      obtain rfl : some ⟨ey, k, en⟩ = s2 := by rw [← hs2]; simp [hle2]
      clear hs2
      dsimp only [fiO, evC, DEvent.enc, dEv0, Option.isSome]
      repeat (first | (apply RL_pu; rfl; exact PuStI2) | (apply RD_Q; rfl; rfl; decide +kernel; rfl; rfl; exact QyStI2) | refine walk1 ?_ | (refine jn ?_; (try intro F); (first | (refine bx ?_; intro bk) | (refine stA ?_) | (apply Stp_pu; first | exact PuStI2 | exact PuA)); first | refine ⟨_, EndsA, QFStI2, ?_⟩ | refine fin ?_) | (apply RD_W; rfl; intro bk))
      refine WI_cond rfl (fun h => (by cases h)) (fun h => ?_)
      refine WI_skip ?_
      apply thenQ_n
      refine WI_region ?_
      apply RLI_pu (Or.inr ⟨_, rfl⟩); rfl; (intro c h; cases h); (apply Pu_loadNf; rfl; (focus repeat' constructor); exact NfA; rfl)
      apply RLI_st (Or.inr ⟨_, rfl⟩); (intro d hd; cases hd); (intro c h; cases h); (intro a w hs; exact calm_of rfl w)
      (apply Stp_storeNf; rfl; rfl; (focus repeat' constructor); (focus repeat (first | exact Nf.nil | apply Nf.cons)); rfl; rfl; rfl; (focus repeat' constructor))
      apply RLI_st (Or.inr ⟨_, rfl⟩); (intro d hd; cases hd); (intro c h; cases h); (intro a w hs; exact calm_of rfl w)
      (apply Stp_storeNf; rfl; rfl; (focus repeat' constructor); (focus repeat (first | exact Nf.nil | apply Nf.cons)); rfl; rfl; rfl; (focus repeat' constructor))
      refine RLI_nil ?_
      refine blockQ_n ?_
      refine ⟨_, (by repeat' constructor), rfl, some ⟨ey, k, en⟩, hfold, ?_⟩
      dsimp only [fiO, evC, DEvent.enc, dEv0, Option.isSome]
      rw [← hr]
      exact SOA
    | false =>
     by_cases hsv : ru.save = but
     ·have q1 : decide (ru.save = but) = true := decide_eq_true hsv
      obtain rfl : some ⟨by_, br, bn⟩ = s2 := by rw [← hs2, q1]; rfl
      clear hs2
      dsimp only [fiO, evC, DEvent.enc, dEv0, Option.isSome]
      repeat (first | refine wkStI0 ?_ | (refine jn ?_; (try intro F); (refine bx ?_; intro bk); first | refine ⟨_, EndsA, QFStI1, ?_⟩ | refine fin ?_) | (apply RD_W; rfl; intro bk))
      refine WI_cond rfl (fun h => ?_) (fun h => (by cases h))
      refine WI_exit ?_
      apply thenQ_e
      apply blockQ_hit
      refine ⟨_, (by repeat' constructor), rfl, some ⟨by_, br, bn⟩, hfold, ?_⟩
      dsimp only [fiO, evC, DEvent.enc, dEv0, Option.isSome]
      rw [← hr]
      exact SOA
     ·have q1 : decide (ru.save = but) = false := decide_eq_false hsv
      by_cases hle2 : bn ≤ en
      ·have q2 : decide (bn ≤ en) = true := decide_eq_true hle2
       obtain rfl : some ⟨by_, br, bn⟩ = s2 := by rw [← hs2]; simp [hsv, hle2]
       clear hs2
       dsimp only [fiO, evC, DEvent.enc, dEv0, Option.isSome]
       repeat (first | (apply RL_pu; rfl; exact PuStI3) | (apply RD_Q; rfl; rfl; decide +kernel; rfl; rfl; exact QyStI3) | refine walk1 ?_ | (refine jn ?_; (try intro F); (first | (refine bx ?_; intro bk) | (refine stA ?_) | (apply Stp_pu; first | exact PuStI3 | exact PuA)); first | refine ⟨_, EndsA, QFStI3, ?_⟩ | refine fin ?_) | (apply RD_W; rfl; intro bk))
       refine WI_cond rfl (fun h => ?_) (fun h => (by cases h))
       refine WI_exit ?_
       apply thenQ_e
       apply blockQ_hit
       refine ⟨_, (by repeat' constructor), rfl, some ⟨by_, br, bn⟩, hfold, ?_⟩
       dsimp only [fiO, evC, DEvent.enc, dEv0, Option.isSome]
       rw [← hr]
       exact SOA
      ·have q2 : decide (bn ≤ en) = false := decide_eq_false hle2
       obtain rfl : some ⟨ey, k, en⟩ = s2 := by rw [← hs2]; simp [hsv, hle2]
       clear hs2
       dsimp only [fiO, evC, DEvent.enc, dEv0, Option.isSome]
       repeat (first | (apply RL_pu; rfl; exact PuStI3) | (apply RD_Q; rfl; rfl; decide +kernel; rfl; rfl; exact QyStI3) | refine walk1 ?_ | (refine jn ?_; (try intro F); (first | (refine bx ?_; intro bk) | (refine stA ?_) | (apply Stp_pu; first | exact PuStI3 | exact PuA)); first | refine ⟨_, EndsA, QFStI3, ?_⟩ | refine fin ?_) | (apply RD_W; rfl; intro bk))
       refine WI_cond rfl (fun h => (by cases h)) (fun h => ?_)
       refine WI_skip ?_
       apply thenQ_n
       refine WI_region ?_
       apply RLI_pu (Or.inr ⟨_, rfl⟩); rfl; (intro c h; cases h); (apply Pu_loadNf; rfl; (focus repeat' constructor); exact NfA; rfl)
       apply RLI_st (Or.inr ⟨_, rfl⟩); (intro d hd; cases hd); (intro c h; cases h); (intro a w hs; exact calm_of rfl w)
       (apply Stp_storeNf; rfl; rfl; (focus repeat' constructor); (focus repeat (first | exact Nf.nil | apply Nf.cons)); rfl; rfl; rfl; (focus repeat' constructor))
       apply RLI_st (Or.inr ⟨_, rfl⟩); (intro d hd; cases hd); (intro c h; cases h); (intro a w hs; exact calm_of rfl w)
       (apply Stp_storeNf; rfl; rfl; (focus repeat' constructor); (focus repeat (first | exact Nf.nil | apply Nf.cons)); rfl; rfl; rfl; (focus repeat' constructor))
       refine RLI_nil ?_
       refine blockQ_n ?_
       refine ⟨_, (by repeat' constructor), rfl, some ⟨ey, k, en⟩, hfold, ?_⟩
       dsimp only [fiO, evC, DEvent.enc, dEv0, Option.isSome]
       rw [← hr]
       exact SOA
 ·rintro jump O2 D w5 ⟨rfl, hsub⟩ hs6
  obtain ⟨res, hres⟩ : ∃ res, fstD l all but = res := ⟨_, rfl⟩
  rw [hres] at hsub ⊢
  have hs5 : St 39 wr [(6, .pointer (some ⟨b6, 0, none⟩)), (8, .pointer (some ⟨b8, 0, none⟩)), (9, .pointer (some ⟨b9, 0, none⟩))] [DefIt D, .blk b6 [.int .i64 0, .int .i64 0, .int .i64 0] 84, .blk b8 (evC res) 84, .blk b9 [.bool res.isSome] 4] a4 w5 := hs6.sub SFA (.cons .here hsub)
  have key : ∀ c' Q' Q3, WI Fence.wide (markD D) Tryz.prog 39 wr c' Q' [(6, .pointer (some ⟨b6, 0, none⟩)), (8, .pointer (some ⟨b8, 0, none⟩)), (9, .pointer (some ⟨b9, 0, none⟩))] [DefIt D, .blk b6 [.int .i64 0, .int .i64 0, .int .i64 0] 84, .blk b8 (evC res) 84, .blk b9 [.bool res.isSome] 4] → (∀ e a' w', liftI (markD D) 39 wr Q' e a' w' → Q3 e a' w') → c'.wp Tryz.prog Q3 (actD (markD D) a4) w5 := fun c' Q' Q3 h hq => (wpIn_wide (n := 0)).1 (wpIn_mono (h.at hs5) hq)
  show (Code.seq _ _).wp _ _ _ _
  refine key _ (fun e fr O => e = .ret ∧ Sub [(6, .pointer (some ⟨b6, 0, none⟩)), (7, .bool res.isSome)] fr ∧ SubO [DefIt D, .blk b6 (evC res) 84] O) _ (WI_seq (WI_draw (.inl rfl) rfl (by decide +kernel) rfl ?_)) ?_
  ·rcases res with _ | ⟨ry, rr, rn⟩
   ·dsimp only [evC, DEvent.enc, dEv0, Option.isSome]
    repeat (first | refine walk ?_ | (refine jn ?_; (try intro F); (first | (refine bx ?_; intro bk) | (refine stA ?_) | (apply Stp_pu; exact PuA)); refine fin ?_) | (apply RD_W; rfl; intro bk))
    refine WI_ret ?_
    exact ⟨rfl, SFA, SOA⟩
   ·dsimp only [evC, DEvent.enc, dEv0, Option.isSome]
    repeat (first | refine walk ?_ | (refine jn ?_; (try intro F); (first | (refine bx ?_; intro bk) | (refine stA ?_) | (apply Stp_pu; exact PuA)); refine fin ?_) | (apply RD_W; rfl; intro bk))
    refine WI_ret ?_
    exact ⟨rfl, SFA, SOA⟩
  ·rintro e a' w' ⟨hd, fr', O', hs', rfl, hf, hO⟩
   have h := fi_leave res wr (hs'.sub hf hO)
   rw [actD_back hd] at h
   exact h
end Go.Proofs.YtonjepladadmhaaGreatDoor
namespace Go.Proofs.YtonjepladadmhaaGreatDoor
open Go Go.RowKit Go.Wk
attribute [local irreducible] W RL Does thenQ blockQ retQ Calls Pu Stp RD Qy Ay DoesIn
structure RsSm (l : List DRule) : Prop where
 n : l.length ≤ 1000000
 s : ∀ r ∈ l, -1000000000 ≤ r.save ∧ r.save ≤ 1000000000
 f : ∀ r ∈ l, r.from_ ≤ 4611686018427387904
 t : ∀ r ∈ l, -4611686018427387904 ≤ r.to
theorem RsSm.r {l : List DRule} (h : RsSm l) : ∀ r ∈ l, -4611686018427387904 ≤ r.save ∧ r.save ≤ 4611686018427387904 := fun r hr => by have := h.s r hr; omega
theorem RsSm.b {l : List DRule} (h : RsSm l) : RsOkB l := fun r hr => ⟨h.r r hr, h.f r hr, h.t r hr⟩
theorem first19_spec (A : Option Addr) (c : Nat) (l : List DRule) (all : Bool) (but : Int) (w : World) (hG : Glob w) (hA : RdSl w A c DRule.enc 11 l) (h : RsSm l) :
  Does Tryz.prog 121 [.slice A l.length c, .bool all, .int .i64 but] w (fun v O => v = .tuple #[evV (fstD l all but), .bool (fstD l all but).isSome] ∧ O = []) := by
 have := first19_in A c l all but w hG hA h.n h.r h.f
 unfold DoesIn at this
 unfold Does
 exact this w (Bel.refl _ _) (Holds.nil _ _)
def EvAt (N : Nat) (o : Option DEvent) : Prop := ∀ e, o = some e → 0 ≤ e.rule ∧ e.rule < N
theorem onR_rule {least : Int} {r : DRule} {i y : Int} {e : DEvent} (h : onR least r i y = some e) : e.rule = i := by
 unfold onR at h
 split at h
 ·cases h
 ·split at h
  ·cases h
  ·cases h; rfl
theorem beIn_rule {least nominal : Int} {r : DRule} {i : Int} {e : DEvent} : ∀ (k : Nat) (y : Int), beIn least nominal r i y k = some e → e.rule = i
 | 0, _, h => by cases h
 | k + 1, y, h => by
  rw [beIn] at h
  split at h
  ·rename_i x hx
   split at h
   ·cases h; exact onR_rule hx
   ·exact beIn_rule k _ h
  ·exact beIn_rule k _ h
theorem fiIn_rule {least : Int} {r : DRule} {i : Int} {e : DEvent} : ∀ (k : Nat) (y : Int), fiIn least r i y k = some e → e.rule = i
 | 0, _, h => by cases h
 | k + 1, y, h => by
  rw [fiIn] at h
  split at h
  ·rename_i x hx
   cases h; exact onR_rule hx
  ·exact fiIn_rule k _ h
theorem befGo_at {least nominal yr : Int} {N : Nat} : ∀ (l : List DRule) (i : Nat) (b : Option DEvent), i + l.length ≤ N → EvAt N b → EvAt N (befGo least nominal yr l i b)
 | [], _, _, _, h => h
 | r :: l, i, b, hi, h => by
  rw [List.length_cons] at hi
  rw [befGo]
  refine befGo_at l (i + 1) _ (by omega) ?_
  have hb : EvAt N (beIn least nominal r i (min (lastY r) (yr + 2)) 20) := fun e he => by
   have := beIn_rule 20 _ he
   omega
  generalize beIn least nominal r i (min (lastY r) (yr + 2)) 20 = o at *
  cases o with
  | none => exact h
  | some x =>
   cases b with
   | none => exact hb
   | some y =>
    dsimp only
    split
    ·exact hb
    ·exact h
theorem befD_at (l : List DRule) (nominal : Int) : EvAt l.length (befD l nominal) := befGo_at l 0 none (by omega) fun e h => by cases h
theorem firL_at {least : Int} {N : Nat} : ∀ (l : List DRule) (i : Nat), i + l.length ≤ N → ∀ e ∈ firL least l i, 0 ≤ e.rule ∧ e.rule < N
 | [], _, _, e, h => by cases h
 | r :: l, i, hi, e, h => by
  rw [List.length_cons] at hi
  rw [firL] at h
  rcases List.mem_append.1 h with h | h
  ·cases ho : fiIn least r i (max r.from_ (-2000000000)) 9 with
   | none => rw [ho] at h; cases h
   | some x =>
    rw [ho] at h
    simp only [Option.toList, List.mem_singleton] at h
    subst h
    have := fiIn_rule 9 _ ho
    omega
  ·exact firL_at l (i + 1) (by omega) e h
theorem fst_at {l : List DRule} {all : Bool} {but : Int} {N : Nat} : ∀ (L : List DEvent) (b : Option DEvent), (∀ e ∈ L, 0 ≤ e.rule ∧ e.rule < N) → EvAt N b → EvAt N (L.foldl (fstB l all but) b)
 | [], _, _, h => h
 | x :: L, b, hL, h => by
  rw [List.foldl_cons]
  refine fst_at L _ (fun e he => hL e (List.mem_cons_of_mem _ he)) ?_
  have key : ∀ q : Bool, EvAt N (if q = true then b else some x) := fun q => by
   cases q
   ·intro e he
    cases he
    exact hL x List.mem_cons_self
   ·exact h
  unfold fstB
  exact key _
theorem fstD_at (l : List DRule) (all : Bool) (but : Int) : EvAt l.length (fstD l all but) := fst_at _ none (firL_at l 0 (by omega)) fun e h => by cases h
theorem PuStJ0 {G : Prop} (h : G := by (first | exact PuI | (apply Pu_loadO1; rfl; exact hca 9 _ rfl))) : G := h
theorem initial_spec (A : Option Addr) (c : Nat) (l : List DRule) (w : World) (hG : Glob w) (hA : RdSl w A c DRule.enc 11 l) (h : RsSm l) : Does Tryz.prog 69 [.slice A l.length c] w (fun v O => v = stV (iniS l) ∧ O = []) := by
 have h1 := fun w' (hw : Bel w.heap.size w w') => first19_spec A c l true 0 w' (hG.up hw) (hA.up hw) h
 have hat := fstD_at l true 0
 have hle := hA.le
 have hcp := hA.cap
 simp only [maxLen] at hcp
 unfold iniS
 generalize fstD l true 0 = o at *
 rcases o with _ | ⟨ey, er, en⟩
 ·simp only [evV, DEvent.enc, dEv0, Option.isSome] at h1
  refine Does_of_W Tryz.func69 rfl rfl rfl rfl ?_
  repeat (first | (refine js ?_; (first | (refine callE h1 ?_) | (refine bx ?_; intro bk))) | refine walk ?_)
  exact ret_1 _ [] (.cellB rfl (by repeat' constructor) rfl rfl) .nil ⟨rfl, rfl⟩
 ·simp only [evV, DEvent.enc, Option.isSome] at h1 ⊢
  obtain ⟨e0, e1⟩ := hat _ rfl
  dsimp only at e0 e1
  obtain ⟨ru, hru⟩ : ∃ ru, l[er.toNat]? = some ru := ⟨_, List.getElem?_eq_getElem (by omega)⟩
  obtain ⟨hna, hca⟩ := hA.rd _ _ hru
  rw [show ruE l ⟨ey, er, en⟩ = ru from ruE_at hru]
  have h2 := fun w' (hw : Bel w.heap.size w w') => first19_spec A c l false ru.save w' (hG.up hw) (hA.up hw) h
  have hat2 := fstD_at l false ru.save
  generalize fstD l false ru.save = o2 at *
  rcases o2 with _ | ⟨fy, frr, fn⟩
  ·simp only [evV, DEvent.enc, dEv0, Option.isSome] at h2 ⊢
   have hb := fun w' (hw : Bel w.heap.size w w') => behind_spec19 A c l ⟨ey, er, en⟩ w' (hA.up hw) ⟨e0, e1⟩
   unfold stV at hb ⊢
   generalize behS l ⟨ey, er, en⟩ = st at *
   refine Does_of_W Tryz.func69 rfl rfl rfl rfl ?_
   repeat (first | (apply RL_pu; rfl; exact PuStJ0) | (refine js ?_; (first | (refine callE h1 ?_) | (refine callE hb ?_) | (refine callE h2 ?_) | (refine bx ?_; intro bk))) | refine walk1 ?_)
   exact ret_1 _ [] (.cellB rfl (by repeat' constructor) rfl rfl) .nil ⟨rfl, rfl⟩
  ·simp only [evV, DEvent.enc, Option.isSome] at h2 ⊢
   have hb := fun w' (hw : Bel w.heap.size w w') => behind_spec19 A c l ⟨fy, frr, fn⟩ w' (hA.up hw) (hat2 _ rfl)
   unfold stV at hb ⊢
   generalize behS l ⟨fy, frr, fn⟩ = st at *
   refine Does_of_W Tryz.func69 rfl rfl rfl rfl ?_
   repeat (first | (apply RL_pu; rfl; exact PuStJ0) | (refine js ?_; (first | (refine callE h1 ?_) | (refine callE hb ?_) | (refine callE h2 ?_) | (refine bx ?_; intro bk))) | refine walk1 ?_)
   exact ret_1 _ [] (.cellB rfl (by repeat' constructor) rfl rfl) .nil ⟨rfl, rfl⟩
theorem stBefore_spec (A : Option Addr) (c : Nat) (l : List DRule) (nominal : Int) (w : World) (hG : Glob w) (hA : RdSl w A c DRule.enc 11 l) (h : RsSm l) (ht : -4611686018427387904 ≤ nominal ∧ nominal ≤ 4611686018427387904) :
  Does Tryz.prog 27 [.slice A l.length c, .int .i64 nominal] w (fun v O => v = stV (befS l nominal) ∧ O = []) := by
 have h1 := fun w' (hw : Bel w.heap.size w w') => evBefore_spec A c l nominal w' (hG.up hw) (hA.up hw) h.n h.b ht
 have hat := befD_at l nominal
 unfold befS
 generalize befD l nominal = o at *
 rcases o with _ | ⟨ey, er, en⟩
 ·simp only [evV, DEvent.enc, dEv0, Option.isSome] at h1 ⊢
  have hb := fun w' (hw : Bel w.heap.size w w') => initial_spec A c l w' (hG.up hw) (hA.up hw) h
  unfold stV at hb ⊢
  generalize iniS l = st at *
  refine Does_of_W Tryz.func27 rfl rfl rfl rfl ?_
  repeat (first | (refine js ?_; (first | (refine callE h1 ?_) | (refine callE hb ?_) | (refine bx ?_; intro bk))) | refine walk ?_)
  exact ret_1 _ [] (.cellB rfl (by repeat' constructor) rfl rfl) .nil ⟨rfl, rfl⟩
 ·simp only [evV, DEvent.enc, Option.isSome] at h1 ⊢
  have hb := fun w' (hw : Bel w.heap.size w w') => behind_spec19 A c l ⟨ey, er, en⟩ w' (hA.up hw) (hat _ rfl)
  unfold stV at hb ⊢
  generalize behS l ⟨ey, er, en⟩ = st at *
  refine Does_of_W Tryz.func27 rfl rfl rfl rfl ?_
  repeat (first | (refine js ?_; (first | (refine callE h1 ?_) | (refine callE hb ?_) | (refine bx ?_; intro bk))) | refine walk ?_)
  exact ret_1 _ [] (.cellB rfl (by repeat' constructor) rfl rfl) .nil ⟨rfl, rfl⟩
end Go.Proofs.YtonjepladadmhaaGreatDoor
