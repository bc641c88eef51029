/- Contracts: state.first, Initial. -/
import Derived.Test.YtonjepladadmhaaGreatDoorR40
import Derived.Test.YtonjepladadmhaaGreatDoorR14
set_option maxHeartbeats 4000000
set_option linter.unusedVariables false
set_option linter.unusedSimpArgs false
set_option maxHeartbeats 4000000
set_option maxRecDepth 20000
namespace Go.Proofs.YtonjepladadmhaaGreatDoor
open Go Go.RowKit Go.Wk
attribute [local irreducible] W RL Does thenQ blockQ retQ Calls Pu Stp RD Qy Ay DoesIn RLI WI
abbrev fiO (A : Option Addr) (c : Nat) (n : Nat) (all : Bool) (but : Int) (b3 b4 b5 b6 b8 b9 ll D : Nat) (r : Loop) (s : Option DEvent) : List It :=
 [LoopIt ll r, DefIt D, .blk b3 [.slice A n c] 40, .blk b4 [.bool all] 4, .blk b5 [.int .i64 but] 2, .blk b6 [.int .i64 0, .int .i64 0, .int .i64 0] 84, .blk b8 (evC s) 84, .blk b9 [.bool s.isSome] 4]
theorem evV_C (o : Option DEvent) : evV o = .agg (evC o).toArray := by cases o <;> rfl
theorem evC_len (o : Option DEvent) : (evC o).length = 3 := by cases o <;> rfl
def fiR (o : Option DEvent) (wr : World) : Ending → World → Prop := fun e w' => ∃ v O', e = .returned v ∧ Bel wr.heap.size wr w' ∧ Holds wr.heap.size O' w' ∧ (v = .tuple #[evV o, .bool o.isSome] ∧ O' = [])
theorem fi_leave (o : Option DEvent) (wr : World) {a : Act} {w' : World} {D b6 : Nat} (hs : St 39 wr [(6, .pointer (some ⟨b6, 0, none⟩)), (7, .bool o.isSome)] [DefIt D, .blk b6 (evC o) 84] a w') :
  bodyPostM Fence.wide 0 Tryz.prog Tryz.f121 (fiR o wr) .ret (actD (markD D) a) w' := by
 have hK := DefIt.at (hs.own.sat _ List.mem_cons_self)
 have hs2 := turn_def hs
 refine ⟨by simp, .inl ⟨_, _, rfl, run_takeDeferred hK, ?_⟩⟩
 refine ⟨.tuple #[evV o, .bool o.isSome], ?_, _, [], rfl, hs2.old, hs2.own.sub .nil, rfl, rfl⟩
 have hres : Tryz.f121.results = [ResultVar.cell 6 84, ResultVar.tmp 7].toArray := rfl
 show (results Tryz.f121 a.tmps).run Tryz.prog _ = _
 unfold results
 rw [hres, List.mapM_toArray]
 simp only [Sem.run_bind, Sem.run_map]
 rw [run_results (P := Tryz.prog) hs2 _ (fun _ => rfl) (fun _ _ => rfl) [ResultVar.cell 6 84, ResultVar.tmp 7] [.agg (evC o).toArray, .bool o.isSome] ⟨_, _, rfl, .cellB (sz := 3) rfl .here (by rw [List.take_of_length_le (by rw [evC_len]; exact Nat.le_refl 3)]) (evC_len o), _, [], rfl, rfl, rfl⟩]
 simp only [Result.andThen_ok, Sem.run_pure]
 rw [evV_C]
 rfl
theorem PuStI0 {G : Prop} (h : G := by (first | exact PuI | (apply Pu_loadO1; rfl; exact hca 9 _ rfl))) : G := h
theorem QyStI0 {G : Prop} (h : G := by first | (apply Qy_y; rfl; exact PuStI0) | exact QyA) : G := h
theorem QFStI0 {G : Prop} (h : G := by repeat (first | exact QF.nil | (apply QF.mk; rfl; rfl; decide +kernel; exact QyStI0))) : G := h
theorem PuStI1 {G : Prop} (h : G := by (first | exact PuStI0 | (apply Pu_eqlB; rfl; rfl; exact q1))) : G := h
theorem QyStI1 {G : Prop} (h : G := by first | (apply Qy_y; rfl; exact PuStI1) | exact QyA) : G := h
theorem QFStI1 {G : Prop} (h : G := by repeat (first | exact QF.nil | (apply QF.mk; rfl; rfl; decide +kernel; exact QyStI1))) : G := h
theorem wkStI0 {G G' : Prop} (k : G') (h : Hold G' → G := by intro k9; (first | (apply RL_pu; rfl; exact PuStI1) | (apply RD_Q; rfl; rfl; decide +kernel; rfl; rfl; exact QyStI1) | refine walk1 ?_ | (refine jn ?_; (try intro F); (first | (refine stA ?_) | (apply Stp_pu; first | exact PuStI1 | exact PuA)); first | refine ⟨_, EndsA, QFStI1, ?_⟩ | refine fin ?_)); exact k9.out) : G := h ⟨k⟩
theorem PuStI2 {G : Prop} (h : G := by (first | exact PuStI0 | (apply Pu_leqB; rfl; rfl; exact q2))) : G := h
theorem QyStI2 {G : Prop} (h : G := by first | (apply Qy_y; rfl; exact PuStI2) | exact QyA) : G := h
theorem QFStI2 {G : Prop} (h : G := by repeat (first | exact QF.nil | (apply QF.mk; rfl; rfl; decide +kernel; exact QyStI2))) : G := h
theorem PuStI3 {G : Prop} (h : G := by (first | exact PuStI1 | (apply Pu_leqB; rfl; rfl; exact q2))) : G := h
theorem QyStI3 {G : Prop} (h : G := by first | (apply Qy_y; rfl; exact PuStI3) | exact QyA) : G := h
theorem QFStI3 {G : Prop} (h : G := by repeat (first | exact QF.nil | (apply QF.mk; rfl; rfl; decide +kernel; exact QyStI3))) : G := h
theorem first19_in (A : Option Addr) (c : Nat) (l : List DRule) (all : Bool) (but : Int) (wr : World) (hG : Glob wr) (hA : RdSl wr A c DRule.enc 11 l) (hn : l.length ≤ 1000000) (hR : ∀ r ∈ l, -4611686018427387904 ≤ r.save ∧ r.save ≤ 4611686018427387904) (hF : ∀ r ∈ l, r.from_ ≤ 4611686018427387904) :
  DoesIn Tryz.prog 121 [.slice A l.length c, .bool all, .int .i64 but] wr [] (fun v O => v = .tuple #[evV (fstD l all but), .bool (fstD l all but).isSome] ∧ O = []) := by
 unfold DoesIn
 intro w0 hB0 hH0
 refine DoesIn_marks Tryz.func121 rfl rfl rfl hB0 hH0 ?_
 intro a0 hst
 -- Does_of_W Tryz.func121
 refine pre_seq (fun fr' O' => ∃ b3 b4 b5 b6, Sub [(3, .pointer (some ⟨b3, 0, none⟩)), (4, .pointer (some ⟨b4, 0, none⟩)), (5, .pointer (some ⟨b5, 0, none⟩)), (6, .pointer (some ⟨b6, 0, none⟩))] fr' ∧ SubO [.blk b3 [.slice A l.length c] 40, .blk b4 [.bool all] 4, .blk b5 [.int .i64 but] 2, .blk b6 [.int .i64 0, .int .i64 0, .int .i64 0] 84] O') ?_ ?_ a0 w0 hst
 ·repeat (first | refine walk ?_ | (refine jn ?_; (try intro F); (first | (refine bx ?_; intro bk) | (refine stA ?_) | (apply Stp_pu; exact PuA)); refine fin ?_) | (apply RD_W; rfl; intro bk))
  rename_i b3 b4 b5
  exact ⟨rfl, b3, b4, b5, bk, SFA, SOA⟩
 rintro a1 w1 fr1 O1 hs0 ⟨b3, b4, b5, b6, hf1, hO1⟩
 have hs1 := hs0.sub hf1 hO1
 clear hf1 hO1 hs0 hst a0 fr1 O1
 refine pre_seq (fun fr' O' => ∃ b8, Sub [(3, .pointer (some ⟨b3, 0, none⟩)), (4, .pointer (some ⟨b4, 0, none⟩)), (5, .pointer (some ⟨b5, 0, none⟩)), (6, .pointer (some ⟨b6, 0, none⟩)), (8, .pointer (some ⟨b8, 0, none⟩))] fr' ∧ SubO [.blk b3 [.slice A l.length c] 40, .blk b4 [.bool all] 4, .blk b5 [.int .i64 but] 2, .blk b6 [.int .i64 0, .int .i64 0, .int .i64 0] 84, .blk b8 [.int .i64 0, .int .i64 0, .int .i64 0] 84] O') ?_ ?_ a1 w1 hs1
 ·repeat (first | refine walk ?_ | (refine jn ?_; (try intro F); (first | (refine bx ?_; intro bk) | (refine stA ?_) | (apply Stp_pu; exact PuA)); refine fin ?_) | (apply RD_W; rfl; intro bk))
  exact ⟨rfl, bk, SFA, SOA⟩
 rintro a2 w2 fr2 O2 hs0 ⟨b8, hf1, hO1⟩
 have hs2 := hs0.sub hf1 hO1
 clear hf1 hO1 hs0 hs1 a1 fr2 O2
 refine pre_seq (fun fr' O' => ∃ b9, Sub [(3, .pointer (some ⟨b3, 0, none⟩)), (4, .pointer (some ⟨b4, 0, none⟩)), (5, .pointer (some ⟨b5, 0, none⟩)), (6, .pointer (some ⟨b6, 0, none⟩)), (8, .pointer (some ⟨b8, 0, none⟩)), (9, .pointer (some ⟨b9, 0, none⟩))] fr' ∧ SubO [.blk b3 [.slice A l.length c] 40, .blk b4 [.bool all] 4, .blk b5 [.int .i64 but] 2, .blk b6 [.int .i64 0, .int .i64 0, .int .i64 0] 84, .blk b8 [.int .i64 0, .int .i64 0, .int .i64 0] 84, .blk b9 [.bool false] 4] O') ?_ ?_ a2 w2 hs2
 ·repeat (first | refine walk ?_ | (refine jn ?_; (try intro F); (first | (refine bx ?_; intro bk) | (refine stA ?_) | (apply Stp_pu; exact PuA)); refine fin ?_) | (apply RD_W; rfl; intro bk))
  exact ⟨rfl, bk, SFA, SOA⟩
 rintro a3 w3 fr3 O3 hs0 ⟨b9, hf1, hO1⟩
 have hs3 := hs0.sub hf1 hO1
 clear hf1 hO1 hs0 hs2 a2 fr3 O3
 refine wp_seq ?_
 refine pre_seq (fun fr' O' => ∃ bl, Sub [(3, .pointer (some ⟨b3, 0, none⟩)), (4, .pointer (some ⟨b4, 0, none⟩)), (5, .pointer (some ⟨b5, 0, none⟩)), (6, .pointer (some ⟨b6, 0, none⟩)), (8, .pointer (some ⟨b8, 0, none⟩)), (9, .pointer (some ⟨b9, 0, none⟩)), (12, .func (.func 203) #[] #[.pointer (some ⟨bl, 0, none⟩)])] fr' ∧ SubO [.blk bl [.slice A l.length c] 40, .blk b3 [.slice A l.length c] 40, .blk b4 [.bool all] 4, .blk b5 [.int .i64 but] 2, .blk b6 [.int .i64 0, .int .i64 0, .int .i64 0] 84, .blk b8 [.int .i64 0, .int .i64 0, .int .i64 0] 84, .blk b9 [.bool false] 4] O') ?_ ?_ a3 w3 hs3
 ·repeat (first | refine walk ?_ | (refine jg ?_; (try intro F); (first | (apply Stp_call (h := fun w' _ _ => firsts_spec A l.length c w'); rfl; rintro v O' ⟨bl, rfl, rfl⟩) | (refine bx ?_; intro bk) | (refine stA ?_)); refine fin ?_) | (refine jn ?_; (try intro F); (first | (refine bx ?_; intro bk) | (refine stA ?_) | (apply Stp_pu; exact PuA)); refine fin ?_) | (apply RD_W; rfl; intro bk))
  exact ⟨rfl, bl, SFA, SOA⟩
 rintro a4 w4 fr4 O4 hs0 ⟨bl, hf1, hO1⟩
 have hs4 := hs0.sub hf1 hO1
 clear hf1 hO1 hs0 hs3 a3 fr4 O4
 refine wp_block ?_
 refine range_wp (gf := 203) (lb := [.pointer (some ⟨bl, 0, none⟩)]) (fun jump O2 => jump = none ∧ SubO [.blk b6 [.int .i64 0, .int .i64 0, .int .i64 0] 84, .blk b8 (evC (fstD l all but)) 84, .blk b9 [.bool (fstD l all but).isSome] 4] O2) hs4 rfl ?_ ?_
 ·intro fn ll D
  generalize hr : recOf fn a4.tmps 13 _ _ D = r
  have hit := firsts1_spec ll bl A c l (fun s => fiO A c l.length all but b3 b4 b5 b6 b8 b9 ll D r s) (fun d s => s = d.foldl (fstB l all but) none) wr none rfl hG hA hn hR hF ?_
  ·refine hit.sub SOA fun v O' ⟨_, s, h1, h6⟩ => ?_
   subst h1
   exact ⟨none, _, .ready, SubO.trans (by rw [← hr]; exact SOA) h6, by decide, rfl, .refl _⟩
  ·rintro d ⟨ey, er, en⟩ s X Y ⟨k, ru, hk, her⟩ hs
   dsimp only at her
   subst her
   have hkl : k < l.length := (List.getElem?_eq_some_iff.1 hk).1
   have hrE : ruE l ⟨ey, k, en⟩ = ru := ruE_at (by dsimp only; exact hk)
   obtain ⟨hna, hca⟩ := hA.rd k _ hk
   have hle := hA.le
   have hcp := hA.cap
   simp only [maxLen] at hcp
   obtain ⟨s2, hs2⟩ : ∃ s2, fstB l all but s ⟨ey, k, en⟩ = s2 := ⟨_, rfl⟩
   have hfold : s2 = (d ++ [(⟨ey, k, en⟩ : DEvent)]).foldl (fstB l all but) none := by rw [List.foldl_append, ← hs, ← hs2]; rfl
   unfold fstB at hs2
   rw [hrE] at hs2
   refine yields_roundA (r := r) (p := 13) (fr := [(3, .pointer (some ⟨b3, 0, none⟩)), (4, .pointer (some ⟨b4, 0, none⟩)), (5, .pointer (some ⟨b5, 0, none⟩)), (6, .pointer (some ⟨b6, 0, none⟩)), (8, .pointer (some ⟨b8, 0, none⟩)), (9, .pointer (some ⟨b9, 0, none⟩))]) (a0 := a4) (by rw [← hr]; rfl) (by rw [← hr]; rfl) (by rw [← hr]; rfl) (hs4.sim.sub SFA) rfl (by simp) (by rw [← hr]; rfl) ?_
   dsimp only [DEvent.enc]
   apply RLI_st (Or.inr ⟨_, rfl⟩); (intro d hd; cases hd; rfl); (intro c h; cases h); (intro a w hs; exact calm_of rfl w)
   apply Stp_alloc; intro b10
   apply RLI_st (Or.inr ⟨_, rfl⟩); (intro d hd; cases hd); (intro c h; cases h); (intro a w hs; exact calm_of rfl w)
   (apply Stp_storeNf; rfl; rfl; (focus repeat' constructor); (focus repeat (first | exact Nf.nil | apply Nf.cons)); rfl; rfl; rfl; (focus repeat' constructor))
   refine RLI_nil ?_
   refine ⟨_, (by repeat' constructor), ?_⟩
   have hbody : ∀ Q fr O, (∀ b : Code, b = r.body → WI (Fence.wide.inRound ll) [] Tryz.prog 39 wr b Q fr O) → WI (Fence.wide.inRound ll) [] Tryz.prog 39 wr r.body Q fr O := fun Q fr O h => h _ rfl
   refine hbody _ _ _ fun b hb => ?_
   rw [← hr] at hb
   dsimp only [recOf] at hb
   subst hb
   refine WI_block (WI_seq (WI_seq (WI_draw (Or.inr ⟨_, rfl⟩) rfl (by decide +kernel) rfl ?_)))
   rcases s with _ | ⟨by_, br, bn⟩
   ·cases all with
    | true =>
     obtain rfl : some ⟨ey, k, en⟩ = s2 := by rw [← hs2]; rfl
     clear hs2
     dsimp only [fiO, evC, DEvent.enc, dEv0, Option.isSome]
     repeat (first | (apply RL_pu; rfl; exact PuStI0) | (apply RD_Q; rfl; rfl; decide +kernel; rfl; rfl; exact QyStI0) | refine walk1 ?_ | (refine jn ?_; (try intro F); (first | (refine bx ?_; intro bk) | (refine stA ?_) | (apply Stp_pu; first | exact PuStI0 | exact PuA)); first | refine ⟨_, EndsA, QFStI0, ?_⟩ | refine fin ?_) | (apply RD_W; rfl; intro bk))
     refine WI_cond rfl (fun h => (by cases h)) (fun h => ?_)
     refine WI_skip ?_
     apply thenQ_n
     refine WI_region ?_
     apply RLI_pu (Or.inr ⟨_, rfl⟩); rfl; (intro c h; cases h); (apply Pu_loadNf; rfl; (focus repeat' constructor); exact NfA; rfl)
     apply RLI_st (Or.inr ⟨_, rfl⟩); (intro d hd; cases hd); (intro c h; cases h); (intro a w hs; exact calm_of rfl w)
     (apply Stp_storeNf; rfl; rfl; (focus repeat' constructor); (focus repeat (first | exact Nf.nil | apply Nf.cons)); rfl; rfl; rfl; (focus repeat' constructor))
     apply RLI_st (Or.inr ⟨_, rfl⟩); (intro d hd; cases hd); (intro c h; cases h); (intro a w hs; exact calm_of rfl w)
     (apply Stp_storeNf; rfl; rfl; (focus repeat' constructor); (focus repeat (first | exact Nf.nil | apply Nf.cons)); rfl; rfl; rfl; (focus repeat' constructor))
     refine RLI_nil ?_
     refine blockQ_n ?_
     refine ⟨_, (by repeat' constructor), rfl, some ⟨ey, k, en⟩, hfold, ?_⟩
     dsimp only [fiO, evC, DEvent.enc, dEv0, Option.isSome]
     rw [← hr]
     exact SOA
    | false =>
     by_cases hsv : ru.save = but
     ·have q1 : decide (ru.save = but) = true := decide_eq_true hsv
      obtain rfl : none = s2 := by rw [← hs2, q1]; rfl
      clear hs2
      dsimp only [fiO, evC, DEvent.enc, dEv0, Option.isSome]
      repeat (first | refine wkStI0 ?_ | (refine jn ?_; (try intro F); (refine bx ?_; intro bk); first | refine ⟨_, EndsA, QFStI1, ?_⟩ | refine fin ?_) | (apply RD_W; rfl; intro bk))
      refine WI_cond rfl (fun h => ?_) (fun h => (by cases h))
      refine WI_exit ?_
      apply thenQ_e
      apply blockQ_hit
      refine ⟨_, (by repeat' constructor), rfl, none, hfold, ?_⟩
      dsimp only [fiO, evC, DEvent.enc, dEv0, Option.isSome]
      rw [← hr]
      exact SOA
     ·have q1 : decide (ru.save = but) = false := decide_eq_false hsv
      obtain rfl : some ⟨ey, k, en⟩ = s2 := by rw [← hs2, q1]; rfl
      clear hs2
      dsimp only [fiO, evC, DEvent.enc, dEv0, Option.isSome]
      repeat (first | refine wkStI0 ?_ | (refine jn ?_; (try intro F); (refine bx ?_; intro bk); first | refine ⟨_, EndsA, QFStI1, ?_⟩ | refine fin ?_) | (apply RD_W; rfl; intro bk))
      refine WI_cond rfl (fun h => (by cases h)) (fun h => ?_)
      refine WI_skip ?_
      apply thenQ_n
      refine WI_region ?_
      apply RLI_pu (Or.inr ⟨_, rfl⟩); rfl; (intro c h; cases h); (apply Pu_loadNf; rfl; (focus repeat' constructor); exact NfA; rfl)
      apply RLI_st (Or.inr ⟨_, rfl⟩); (intro d hd; cases hd); (intro c h; cases h); (intro a w hs; exact calm_of rfl w)
      (apply Stp_storeNf; rfl; rfl; (focus repeat' constructor); (focus repeat (first | exact Nf.nil | apply Nf.cons)); rfl; rfl; rfl; (focus repeat' constructor))
      apply RLI_st (Or.inr ⟨_, rfl⟩); (intro d hd; cases hd); (intro c h; cases h); (intro a w hs; exact calm_of rfl w)
      (apply Stp_storeNf; rfl; rfl; (focus repeat' constructor); (focus repeat (first | exact Nf.nil | apply Nf.cons)); rfl; rfl; rfl; (focus repeat' constructor))
      refine RLI_nil ?_
      refine blockQ_n ?_
      refine ⟨_, (by repeat' constructor), rfl, some ⟨ey, k, en⟩, hfold, ?_⟩
      dsimp only [fiO, evC, DEvent.enc, dEv0, Option.isSome]
      rw [← hr]
      exact SOA
   ·cases all with
    | true =>
     by_cases hle2 : bn ≤ en
     ·have q2 : decide (bn ≤ en) = true := decide_eq_true hle2
      obtain rfl : some ⟨by_, br, bn⟩ = s2 := by rw [← hs2]; simp [hle2]
      clear hs2
      dsimp only [fiO, evC, DEvent.enc, dEv0, Option.isSome]
      repeat (first | (apply RL_pu; rfl; exact PuStI2) | (apply RD_Q; rfl; rfl; decide +kernel; rfl; rfl; exact QyStI2) | refine walk1 ?_ | (refine jn ?_; (try intro F); (first | (refine bx ?_; intro bk) | (refine stA ?_) | (apply Stp_pu; first | exact PuStI2 | exact PuA)); first | refine ⟨_, EndsA, QFStI2, ?_⟩ | refine fin ?_) | (apply RD_W; rfl; intro bk))
      refine WI_cond rfl (fun h => ?_) (fun h => (by cases h))
      refine WI_exit ?_
      apply thenQ_e
      apply blockQ_hit
      refine ⟨_, (by repeat' constructor), rfl, some ⟨by_, br, bn⟩, hfold, ?_⟩
      dsimp only [fiO, evC, DEvent.enc, dEv0, Option.isSome]
      rw [← hr]
      exact SOA
     ·have q2 : decide (bn ≤ en) = false := decide_eq_false hle2
      obtain rfl : some ⟨ey, k, en⟩ = s2 := by rw [← hs2]; simp [hle2]
      clear hs2
      dsimp only [fiO, evC, DEvent.enc, dEv0, Option.isSome]
      repeat (first | (apply RL_pu; rfl; exact PuStI2) | (apply RD_Q; rfl; rfl; decide +kernel; rfl; rfl; exact QyStI2) | refine walk1 ?_ | (refine jn ?_; (try intro F); (first | (refine bx ?_; intro bk) | (refine stA ?_) | (apply Stp_pu; first | exact PuStI2 | exact PuA)); first | refine ⟨_, EndsA, QFStI2, ?_⟩ | refine fin ?_) | (apply RD_W; rfl; intro bk))
      refine WI_cond rfl (fun h => (by cases h)) (fun h => ?_)
      refine WI_skip ?_
      apply thenQ_n
      refine WI_region ?_
      apply RLI_pu (Or.inr ⟨_, rfl⟩); rfl; (intro c h; cases h); (apply Pu_loadNf; rfl; (focus repeat' constructor); exact NfA; rfl)
      apply RLI_st (Or.inr ⟨_, rfl⟩); (intro d hd; cases hd); (intro c h; cases h); (intro a w hs; exact calm_of rfl w)
      (apply Stp_storeNf; rfl; rfl; (focus repeat' constructor); (focus repeat (first | exact Nf.nil | apply Nf.cons)); rfl; rfl; rfl; (focus repeat' constructor))
      apply RLI_st (Or.inr ⟨_, rfl⟩); (intro d hd; cases hd); (intro c h; cases h); (intro a w hs; exact calm_of rfl w)
      (apply Stp_storeNf; rfl; rfl; (focus repeat' constructor); (focus repeat (first | exact Nf.nil | apply Nf.cons)); rfl; rfl; rfl; (focus repeat' constructor))
      refine RLI_nil ?_
      refine blockQ_n ?_
      refine ⟨_, (by repeat' constructor), rfl, some ⟨ey, k, en⟩, hfold, ?_⟩
      dsimp only [fiO, evC, DEvent.enc, dEv0, Option.isSome]
      rw [← hr]
      exact SOA
    | false =>
     by_cases hsv : ru.save = but
     ·have q1 : decide (ru.save = but) = true := decide_eq_true hsv
      obtain rfl : some ⟨by_, br, bn⟩ = s2 := by rw [← hs2, q1]; rfl
      clear hs2
      dsimp only [fiO, evC, DEvent.enc, dEv0, Option.isSome]
      repeat (first | refine wkStI0 ?_ | (refine jn ?_; (try intro F); (refine bx ?_; intro bk); first | refine ⟨_, EndsA, QFStI1, ?_⟩ | refine fin ?_) | (apply RD_W; rfl; intro bk))
      refine WI_cond rfl (fun h => ?_) (fun h => (by cases h))
      refine WI_exit ?_
      apply thenQ_e
      apply blockQ_hit
      refine ⟨_, (by repeat' constructor), rfl, some ⟨by_, br, bn⟩, hfold, ?_⟩
      dsimp only [fiO, evC, DEvent.enc, dEv0, Option.isSome]
      rw [← hr]
      exact SOA
     ·have q1 : decide (ru.save = but) = false := decide_eq_false hsv
      by_cases hle2 : bn ≤ en
      ·have q2 : decide (bn ≤ en) = true := decide_eq_true hle2
       obtain rfl : some ⟨by_, br, bn⟩ = s2 := by rw [← hs2]; simp [hsv, hle2]
       clear hs2
       dsimp only [fiO, evC, DEvent.enc, dEv0, Option.isSome]
       repeat (first | (apply RL_pu; rfl; exact PuStI3) | (apply RD_Q; rfl; rfl; decide +kernel; rfl; rfl; exact QyStI3) | refine walk1 ?_ | (refine jn ?_; (try intro F); (first | (refine bx ?_; intro bk) | (refine stA ?_) | (apply Stp_pu; first | exact PuStI3 | exact PuA)); first | refine ⟨_, EndsA, QFStI3, ?_⟩ | refine fin ?_) | (apply RD_W; rfl; intro bk))
       refine WI_cond rfl (fun h => ?_) (fun h => (by cases h))
       refine WI_exit ?_
       apply thenQ_e
       apply blockQ_hit
       refine ⟨_, (by repeat' constructor), rfl, some ⟨by_, br, bn⟩, hfold, ?_⟩
       dsimp only [fiO, evC, DEvent.enc, dEv0, Option.isSome]
       rw [← hr]
       exact SOA
      ·have q2 : decide (bn ≤ en) = false := decide_eq_false hle2
       obtain rfl : some ⟨ey, k, en⟩ = s2 := by rw [← hs2]; simp [hsv, hle2]
       clear hs2
       dsimp only [fiO, evC, DEvent.enc, dEv0, Option.isSome]
       repeat (first | (apply RL_pu; rfl; exact PuStI3) | (apply RD_Q; rfl; rfl; decide +kernel; rfl; rfl; exact QyStI3) | refine walk1 ?_ | (refine jn ?_; (try intro F); (first | (refine bx ?_; intro bk) | (refine stA ?_) | (apply Stp_pu; first | exact PuStI3 | exact PuA)); first | refine ⟨_, EndsA, QFStI3, ?_⟩ | refine fin ?_) | (apply RD_W; rfl; intro bk))
       refine WI_cond rfl (fun h => (by cases h)) (fun h => ?_)
       refine WI_skip ?_
       apply thenQ_n
       refine WI_region ?_
       apply RLI_pu (Or.inr ⟨_, rfl⟩); rfl; (intro c h; cases h); (apply Pu_loadNf; rfl; (focus repeat' constructor); exact NfA; rfl)
       apply RLI_st (Or.inr ⟨_, rfl⟩); (intro d hd; cases hd); (intro c h; cases h); (intro a w hs; exact calm_of rfl w)
       (apply Stp_storeNf; rfl; rfl; (focus repeat' constructor); (focus repeat (first | exact Nf.nil | apply Nf.cons)); rfl; rfl; rfl; (focus repeat' constructor))
       apply RLI_st (Or.inr ⟨_, rfl⟩); (intro d hd; cases hd); (intro c h; cases h); (intro a w hs; exact calm_of rfl w)
       (apply Stp_storeNf; rfl; rfl; (focus repeat' constructor); (focus repeat (first | exact Nf.nil | apply Nf.cons)); rfl; rfl; rfl; (focus repeat' constructor))
       refine RLI_nil ?_
       refine blockQ_n ?_
       refine ⟨_, (by repeat' constructor), rfl, some ⟨ey, k, en⟩, hfold, ?_⟩
       dsimp only [fiO, evC, DEvent.enc, dEv0, Option.isSome]
       rw [← hr]
       exact SOA
 ·rintro jump O2 D w5 ⟨rfl, hsub⟩ hs6
  obtain ⟨res, hres⟩ : ∃ res, fstD l all but = res := ⟨_, rfl⟩
  rw [hres] at hsub ⊢
  have hs5 : St 39 wr [(6, .pointer (some ⟨b6, 0, none⟩)), (8, .pointer (some ⟨b8, 0, none⟩)), (9, .pointer (some ⟨b9, 0, none⟩))] [DefIt D, .blk b6 [.int .i64 0, .int .i64 0, .int .i64 0] 84, .blk b8 (evC res) 84, .blk b9 [.bool res.isSome] 4] a4 w5 := hs6.sub SFA (.cons .here hsub)
  have key : ∀ c' Q' Q3, WI Fence.wide (markD D) Tryz.prog 39 wr c' Q' [(6, .pointer (some ⟨b6, 0, none⟩)), (8, .pointer (some ⟨b8, 0, none⟩)), (9, .pointer (some ⟨b9, 0, none⟩))] [DefIt D, .blk b6 [.int .i64 0, .int .i64 0, .int .i64 0] 84, .blk b8 (evC res) 84, .blk b9 [.bool res.isSome] 4] → (∀ e a' w', liftI (markD D) 39 wr Q' e a' w' → Q3 e a' w') → c'.wp Tryz.prog Q3 (actD (markD D) a4) w5 := fun c' Q' Q3 h hq => (wpIn_wide (n := 0)).1 (wpIn_mono (h.at hs5) hq)
  show (Code.seq _ _).wp _ _ _ _
  refine key _ (fun e fr O => e = .ret ∧ Sub [(6, .pointer (some ⟨b6, 0, none⟩)), (7, .bool res.isSome)] fr ∧ SubO [DefIt D, .blk b6 (evC res) 84] O) _ (WI_seq (WI_draw (.inl rfl) rfl (by decide +kernel) rfl ?_)) ?_
  ·rcases res with _ | ⟨ry, rr, rn⟩
   ·dsimp only [evC, DEvent.enc, dEv0, Option.isSome]
    repeat (first | refine walk ?_ | (refine jn ?_; (try intro F); (first | (refine bx ?_; intro bk) | (refine stA ?_) | (apply Stp_pu; exact PuA)); refine fin ?_) | (apply RD_W; rfl; intro bk))
    refine WI_ret ?_
    exact ⟨rfl, SFA, SOA⟩
   ·dsimp only [evC, DEvent.enc, dEv0, Option.isSome]
    repeat (first | refine walk ?_ | (refine jn ?_; (try intro F); (first | (refine bx ?_; intro bk) | (refine stA ?_) | (apply Stp_pu; exact PuA)); refine fin ?_) | (apply RD_W; rfl; intro bk))
    refine WI_ret ?_
    exact ⟨rfl, SFA, SOA⟩
  ·rintro e a' w' ⟨hd, fr', O', hs', rfl, hf, hO⟩
   have h := fi_leave res wr (hs'.sub hf hO)
   rw [actD_back hd] at h
   exact h
end Go.Proofs.YtonjepladadmhaaGreatDoor
