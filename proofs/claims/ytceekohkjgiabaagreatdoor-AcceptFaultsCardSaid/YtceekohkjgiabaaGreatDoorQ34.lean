/- Contract: the reference of layer 18: Check. -/
import Derived.Test.YtceekohkjgiabaaGreatDoorQ32
import Derived.Test.YtceekohkjgiabaaGreatDoorQ33
set_option maxHeartbeats 4000000
set_option linter.unusedVariables false
set_option linter.unusedSimpArgs false
namespace Go.Proofs.YtceekohkjgiabaaGreatDoor
open Go Go.RowKit Go.Wk
attribute [local irreducible] W RL Does thenQ blockQ retQ Calls Pu Stp RD Qy Ay DoesIn
def EvsAt (H : List EvH) (w : World) : Prop := ∀ h ∈ H, RdSl w h.A h.c DEvent.enc 3 h.l
def RowsF (Y : Nat → List DEvent) (N : Nat) (v : Value) (O : List It) : Prop := ∃ (b : Nat) (H : List EvH) (S : Nat → Prop), v = .slice (some ⟨b, 0, none⟩) N N ∧ H.length = N ∧ (∀ q, q < N → ∃ h : EvH, H[q]? = some h ∧ h.l = Y q) ∧
 O = [.row (.slice (some ⟨b, 0, none⟩) N N) 111 1 N (H.flatMap EvH.enc), .fact S (EvsAt H)]
theorem rexplF_spec (A : Option Addr) (c : Nat) (l : List DRule) (w : World) (hA : RdSl w A c DRule.enc 11 l) (hn : l.length ≤ 1000000) :
  Does Tryz.prog 102 [.slice A l.length c] w (RowsF (yearsE l) 701) :=
 (rexpl_spec A c l w hA hn).monoH fun v O base w' hR hH => by
  obtain ⟨b, hr, rfl, hl, hq, rfl⟩ := hR
  refine ⟨_, ⟨b, hr.reverse, foot (hr.map EvH.row), rfl, by rw [List.length_reverse]; exact hl, hq, rfl⟩, ?_⟩
  have h1 : Holds base (hr.map EvH.row ++ [.row (.slice (some ⟨b, 0, none⟩) 701 701) 111 1 701 (hr.reverse.flatMap EvH.enc)]) w' := hH.perm (List.perm_append_comm (l₁ := [_]))
  have h2 := h1.fact (p := EvsAt hr.reverse) (fun w2 hi q hq => rowRd DEvent.len (hi (EvH.row q) (List.mem_map.2 ⟨q, List.mem_reverse.1 hq, rfl⟩)))
  exact h2.perm (List.perm_append_comm (l₁ := [_]) (l₂ := [_]))
structure CapG where
 k : Nat
 o : Option DEvent
theorem PuRgC0 {G : Prop} (h : G := by (first | (apply Pu_indexAddrH; rfl; rfl; omega; omega; (intro w' _ hO; first | exact Option.some_ne_none _ | exact hnn w' (fact_at (S := S) (hO.of (A := .fact S (EvsAt H)) (by repeat' constructor))))) | (apply Pu_loadR; rfl; (focus repeat' constructor); first | exact hx0 | exact hx1 | exact hx2 (by omega)))) : G := h
theorem QyRgC0 {G : Prop} (h : G := by first | (apply Qy_y; rfl; exact PuRgC0) | exact QyA) : G := h
theorem QFRgC0 {G : Prop} (h : G := by repeat (first | exact QF.nil | (apply QF.mk; rfl; rfl; decide +kernel; exact QyRgC0))) : G := h
theorem PuRgC1 {G : Prop} (h : G := by (first | exact PuRgC0 | (apply Pu_gtrB; rfl; rfl; exact bd1) | (apply Pu_lssB; rfl; rfl; exact bd2))) : G := h
theorem QyRgC1 {G : Prop} (h : G := by first | (apply Qy_y; rfl; exact PuRgC1) | exact QyA) : G := h
theorem QFRgC1 {G : Prop} (h : G := by repeat (first | exact QF.nil | (apply QF.mk; rfl; rfl; decide +kernel; exact QyRgC1))) : G := h
theorem wkRgC0 {G G' : Prop} (k : G') (h : Hold G' → G := by intro k9; (first | refine und ?_ | (apply RL_pu; rfl; exact PuRgC1) | (apply RD_Q; rfl; rfl; decide +kernel; rfl; rfl; exact QyRgC1) | refine walk1 ?_ | (refine jg ?_; (try intro F); (first | (refine callO (fun w' hw hO => hc0 w' (fact_at (S := S) (hO.of (A := .fact S (EvsAt H)) (by repeat' constructor)))) ?_) | (refine callO (fun w' hw hO => hc1 w' (fact_at (S := S) (hO.of (A := .fact S (EvsAt H)) (by repeat' constructor)))) ?_) | (refine callO (fun w' hw hO => hc2e w' (fact_at (S := S) (hO.of (A := .fact S (EvsAt H)) (by repeat' constructor)))) ?_) | (refine stA ?_)); first | refine ⟨_, EndsA, QFRgC1, ?_⟩ | refine fin ?_) | (refine jn ?_; (try intro F); (first | (refine stA ?_) | (apply Stp_pu; first | exact PuRgC1 | exact PuA)); first | refine ⟨_, EndsA, QFRgC1, ?_⟩ | refine fin ?_)); exact k9.out) : G := h ⟨k⟩
set_option maxRecDepth 20000 in
set_option maxHeartbeats 4000000 in
theorem rapS : RapS := by
 intro A c l w hA hn _
 obtain ⟨N, hN⟩ : ∃ N : Nat, N = 701 := ⟨_, rfl⟩
 have hex : ∀ w', Bel w.heap.size w w' → Does Tryz.prog 102 [.slice A l.length c] w' (RowsF (yearsE l) N) := fun w' hw => by
  rw [hN]
  exact rexplF_spec A c l w' (hA.up hw) hn
 have hok := fun q : Nat => yearC_ok (leastD l) (1850 + (q : Int)) (leastD_le0 l) l 0
 change ∀ q : Nat, (yearsE l q).length ≤ l.length ∧ ∀ e ∈ yearsE l q, NomOk e at hok
 rw [← capD_eq]
 unfold capD
 rw [← hN]
 generalize yearsE l = Y at *
 obtain ⟨res, hres⟩ : ∃ res, capJ Y N N 0 none = res := ⟨_, rfl⟩
 rw [hres]
 refine Does_of_W Tryz.func57 rfl rfl rfl rfl ?_
 repeat (first | refine walk ?_ | (refine jg ?_; (try intro F); (first | (apply Stp_call (h := fun w' hw _ => hex w' hw); rfl; rintro v O' ⟨b, H, S, rfl, hHl, hH, rfl⟩) | (refine bx ?_; intro bk) | (refine stA ?_)); refine fin ?_) | (refine jn ?_; (try intro F); (first | (refine bx ?_; intro bk) | (refine stA ?_) | (apply Stp_pu; exact PuA)); refine fin ?_) | (apply RD_W; rfl; intro bk))
 rename_i b2
 obtain ⟨b5, hb5⟩ : ∃ b5, bk = b5 := ⟨_, rfl⟩
 rw [hb5]
 clear hb5 bk
 refine W_loopF [(2, .pointer (some ⟨b2, 0, none⟩)), (4, .slice (some ⟨b, 0, none⟩) N N), (5, .pointer (some ⟨b5, 0, none⟩))] [.row (.slice (some ⟨b, 0, none⟩) N N) 111 1 N (H.flatMap EvH.enc), .fact S (EvsAt H), .blk b2 [.int .i64 0, .int .i64 0, .int .i64 0] 78] (fun g : CapG => [(6, .bool g.o.isSome), (7, .int .i64 g.k)]) (fun g => [.blk b5 (evC g.o) 78])
  (fun g => g.k ≤ N ∧ capJ Y N (N - g.k) g.k g.o = res) (fun g => N - g.k) ⟨0, none⟩ SFA SOA ⟨Nat.zero_le _, hres⟩ ?_
 clear hres
 rintro ⟨k, o⟩ ⟨hk, hi⟩
 dsimp only at hk hi ⊢
 repeat (first | refine walk ?_ | (refine jn ?_; (try intro F); (first | (refine bx ?_; intro bk) | (refine stA ?_) | (apply Stp_pu; exact PuA)); refine fin ?_) | (apply RD_W; rfl; intro bk))
 refine W_cond rfl (fun hc => ?_) (fun hc => ?_)
 ·simp only [decide_eq_true_eq, Int.ofNat_lt] at hc
  obtain ⟨⟨hA0, cc0, l0⟩, hg0, hl0⟩ := hH k hc
  dsimp only at hl0
  have hok0 := hok k
  rw [← hl0] at hok0
  have hrd0 : ∀ w', EvsAt H w' → RdSl w' hA0 cc0 DEvent.enc 3 l0 := fun w' h' => h' _ (List.mem_of_getElem? hg0)
  have hx0 : (H.flatMap EvH.enc)[k * 1]? = some (.slice hA0 l0.length cc0) := flat_get EvH.len H k _ 0 _ hg0 rfl
  rw [show N - k = (N - k - 1) + 1 by omega, capJ, ← hl0] at hi
  have hlN : (l0.length : Int) ≤ 1000000 := by omega
  repeat (first | (apply RL_pu; rfl; exact PuRgC0) | (apply RD_Q; rfl; rfl; decide +kernel; rfl; rfl; exact QyRgC0) | refine walk1 ?_ | (refine jn ?_; (try intro F); (first | (refine bx ?_; intro bk) | (refine stA ?_) | (apply Stp_pu; first | exact PuRgC0 | exact PuA)); first | refine ⟨_, EndsA, QFRgC0, ?_⟩ | refine fin ?_) | (apply RD_W; rfl; intro bk))
  refine W_loopF [(2, .pointer (some ⟨b2, 0, none⟩)), (4, .slice (some ⟨b, 0, none⟩) N N), (5, .pointer (some ⟨b5, 0, none⟩)), (7, .int .i64 k)] [.row (.slice (some ⟨b, 0, none⟩) N N) 111 1 N (H.flatMap EvH.enc), .fact S (EvsAt H), .blk b2 [.int .i64 0, .int .i64 0, .int .i64 0] 78] (fun g : CapG => [(6, .bool g.o.isSome), (8, .int .i64 g.k)]) (fun g => [.blk b5 (evC g.o) 78])
   (fun g => g.k ≤ l0.length ∧ capJ Y N (N - k - 1) (k + 1) (capI (nearB Y N k) (l0.drop g.k) g.o) = res) (fun g => l0.length - g.k) ⟨0, o⟩ SFA SOA ⟨Nat.zero_le _, hi⟩ ?_
  clear hi o
  rintro ⟨i, o⟩ ⟨hil, hi⟩
  dsimp only at hil hi ⊢
  repeat (first | (apply RL_pu; rfl; exact PuRgC0) | (apply RD_Q; rfl; rfl; decide +kernel; rfl; rfl; exact QyRgC0) | refine walk1 ?_ | (refine jn ?_; (try intro F); (first | (refine bx ?_; intro bk) | (refine stA ?_) | (apply Stp_pu; first | exact PuRgC0 | exact PuA)); first | refine ⟨_, EndsA, QFRgC0, ?_⟩ | refine fin ?_) | (apply RD_W; rfl; intro bk))
  refine W_cond rfl (fun hc2 => ?_) (fun hc2 => ?_)
  ·simp only [decide_eq_true_eq, Int.ofNat_lt] at hc2
   rw [drop_cons hc2, capI] at hi
   have hei := List.getElem?_eq_getElem hc2
   have heo := hok0.2 _ (List.getElem_mem hc2)
   generalize l0[i] = e at *
   have hnn : ∀ w', EvsAt H w' → hA0 ≠ none := fun w' h' => ((hrd0 w' h').rd i e hei).1
   have hce : ∀ w', EvsAt H w' → CellsAt w' ((adr hA0).add (i * 3)) (DEvent.enc e) := fun w' h' => ((hrd0 w' h').rd i e hei).2
   have hc0 := fun w' h' => rclose_spec e hA0 cc0 l0 w' (hrd0 w' h') (by omega) heo hok0.2
   have hbf := fun b w' => rbef_spec e b w'
   have hEO : ∀ q, q < N → ∃ h : EvH, (H.flatMap EvH.enc)[q * 1]? = some (.slice h.A (Y q).length h.c) ∧ ∀ w', EvsAt H w' → Does Tryz.prog 103 [.agg e.enc.toArray, .slice h.A (Y q).length h.c] w' (fun v O => v = .bool (closeB e (Y q)) ∧ O = []) := fun q hq => by
    obtain ⟨h, h1, h2⟩ := hH q hq
    refine ⟨h, ?_, fun w' h' => ?_⟩
    ·rw [← h2]; exact flat_get EvH.len H q h 0 _ h1 rfl
    ·rw [← h2]
     have hq2 := hok q
     rw [← h2] at hq2
     exact rclose_spec e h.A h.c h.l w' (h' h (List.mem_of_getElem? h1)) (by omega) heo hq2.2
   have hnb : nearB Y N k e = (closeB e l0 || (decide (0 < k) && closeB e (Y (k - 1))) || (decide (k + 1 < N) && closeB e (Y (k + 1)))) := by rw [hl0]; rfl
   obtain ⟨q2, hq2, hq3⟩ : ∃ q2, q2 < N ∧ (k + 1 < N → q2 = k + 1) := by
    by_cases h : k + 1 < N
    ·exact ⟨k + 1, h, fun _ => rfl⟩
    ·exact ⟨k, hc, fun h' => absurd h' h⟩
   obtain ⟨A1, c1', m1, c1, hx1, hc1, he1⟩ : ∃ (A : Option Addr) (c m : Nat) (cb : Bool), (H.flatMap EvH.enc)[((k : Int) - 1).toNat * 1]? = some (.slice A m c) ∧ (∀ w', EvsAt H w' → Does Tryz.prog 103 [.agg e.enc.toArray, .slice A m c] w' (fun v O => v = .bool cb ∧ O = [])) ∧ closeB e (Y (k - 1)) = cb := by
    obtain ⟨h, h1, h2⟩ := hEO (k - 1) (by omega)
    exact ⟨h.A, h.c, _, _, by rw [show ((k : Int) - 1).toNat = k - 1 by omega]; exact h1, h2, rfl⟩
   obtain ⟨A2, c2', m2, c2, hx2, hc2e, he2⟩ : ∃ (A : Option Addr) (c m : Nat) (cb : Bool), (k + 1 < N → (H.flatMap EvH.enc)[((k : Int) + 1).toNat * 1]? = some (.slice A m c)) ∧ (∀ w', EvsAt H w' → Does Tryz.prog 103 [.agg e.enc.toArray, .slice A m c] w' (fun v O => v = .bool cb ∧ O = [])) ∧ closeB e (Y q2) = cb := by
    obtain ⟨h, h1, h2⟩ := hEO q2 hq2
    exact ⟨h.A, h.c, _, _, fun h' => by rw [show ((k : Int) + 1).toNat = q2 by rw [hq3 h']; omega]; exact h1, h2, rfl⟩
   clear hEO
   obtain ⟨D1, bd1⟩ : ∃ D, decide ((0 : Int) < (k : Int)) = D := ⟨_, rfl⟩
   obtain ⟨D2, bd2⟩ : ∃ D, decide ((k : Int) + 1 < (N : Int)) = D := ⟨_, rfl⟩
   obtain ⟨c0, he0⟩ : ∃ c0, closeB e l0 = c0 := ⟨_, rfl⟩
   have hnb2 : nearB Y N k e = (c0 || (D1 && c1) || (D2 && c2)) := by
    rw [hnb, he0, he1, show decide (0 < k) = D1 by rw [← bd1]; exact decide_eq_decide.2 (by omega), show decide (k + 1 < N) = D2 by rw [← bd2]; exact decide_eq_decide.2 (by omega)]
    cases D2 with
    | false => rfl
    | true => rw [← hq3 (by have := of_decide_eq_true bd2; omega), he2]
   rw [hnb2] at hi
   rw [he0] at hc0
   clear hnb hnb2 he0 he1 he2
   have hd : ((c0 || (D1 && c1) || (D2 && c2)) = true ∧ (c0 = true ∨ (c0 = false ∧ D1 = true ∧ c1 = true) ∨ (c0 = false ∧ D1 = true ∧ c1 = false ∧ D2 = true ∧ c2 = true) ∨ (c0 = false ∧ D1 = false ∧ D2 = true ∧ c2 = true))) ∨ ((c0 || (D1 && c1) || (D2 && c2)) = false ∧ ((c0 = false ∧ D1 = true ∧ c1 = false ∧ D2 = true ∧ c2 = false) ∨ (c0 = false ∧ D1 = true ∧ c1 = false ∧ D2 = false) ∨ (c0 = false ∧ D1 = false ∧ D2 = true ∧ c2 = false) ∨ (c0 = false ∧ D1 = false ∧ D2 = false))) := by
    cases c0 <;> cases c1 <;> cases c2 <;> cases D1 <;> cases D2 <;> simp
   obtain ⟨ey, er, en⟩ := e
   simp only [DEvent.enc] at hce hc0 hc1 hc2e hbf heo
   obtain ⟨nb, hnb3⟩ : ∃ nb, (c0 || (D1 && c1) || (D2 && c2)) = nb := ⟨_, rfl⟩
   rw [hnb3] at hi
   repeat refine walk0 ?_
   apply RL_pu
   ·rfl
   ·exact Pu_loadR rfl (by (focus repeat' constructor)) hx0
   refine walk1 ?_
   apply RL_pu
   ·rfl
   ·apply Pu_indexAddrH
    ·rfl
    ·rfl
    ·omega
    ·omega
    ·intro w' _ hO
     exact hnn w' (fact_at (S := S) (hO.of (A := .fact S (EvsAt H)) (by repeat' constructor)))
   apply RL_pu
   ·rfl
   ·apply Pu_loadN (cs := [.int .i64 ey, .int .i64 er, .int .i64 en])
    ·rfl
    ·rfl
    ·intro w' _ hO
     exact hce w' (fact_at (S := S) (hO.of (A := .fact S (EvsAt H)) (by repeat' constructor)))
   repeat (first | refine walk0 ?_ | (refine jn ?_; (try intro F); (first | (refine bx ?_; intro bk) | (refine stA ?_) | (apply Stp_pu; exact PuA)); refine fin ?_) | (apply RD_W; rfl; intro bk))
   refine W_post (fun fr' O' => Sub [(10, .bool nb), (6, .bool o.isSome), (8, .int .i64 i), (9, .pointer (some ⟨bk, 0, none⟩)), (2, .pointer (some ⟨b2, 0, none⟩)), (4, .slice (some ⟨b, 0, none⟩) N N), (5, .pointer (some ⟨b5, 0, none⟩)), (7, .int .i64 k)] fr' ∧ SubO [.blk bk [.int .i64 ey, .int .i64 er, .int .i64 en] 78, .blk b5 (evC o) 78, .row (.slice (some ⟨b, 0, none⟩) N N) 111 1 N (H.flatMap EvH.enc), .fact S (EvsAt H), .blk b2 [.int .i64 0, .int .i64 0, .int .i64 0] 78] O') ?_ ?_
   ·clear hi hbf
    rcases hd with ⟨hn1, hd⟩ | ⟨hn1, hd⟩
    ·rw [hn1] at hnb3
     subst hnb3
     clear hn1
     rcases hd with rfl | ⟨rfl, rfl, rfl⟩ | ⟨rfl, rfl, rfl, rfl, rfl⟩ | ⟨rfl, rfl, rfl, rfl⟩
     all_goals
      try have d1 : (0 : Int) < (k : Int) := of_decide_eq_true bd1
      try have d2 : (k : Int) + 1 < (N : Int) := of_decide_eq_true bd2
      repeat (first | refine wkRgC0 ?_ | (refine jg ?_; (try intro F); (refine bx ?_; intro bk); first | refine ⟨_, EndsA, QFRgC1, ?_⟩ | refine fin ?_) | (refine jn ?_; (try intro F); (refine bx ?_; intro bk); first | refine ⟨_, EndsA, QFRgC1, ?_⟩ | refine fin ?_) | (apply RD_W; rfl; intro bk))
      exact ⟨rfl, SFA, SOA⟩
    ·rw [hn1] at hnb3
     subst hnb3
     clear hn1
     rcases hd with ⟨rfl, rfl, rfl, rfl, rfl⟩ | ⟨rfl, rfl, rfl, rfl⟩ | ⟨rfl, rfl, rfl, rfl⟩ | ⟨rfl, rfl, rfl⟩
     all_goals
      try have d1 : (0 : Int) < (k : Int) := of_decide_eq_true bd1
      try have d2 : (k : Int) + 1 < (N : Int) := of_decide_eq_true bd2
      repeat (first | refine wkRgC0 ?_ | (refine jg ?_; (try intro F); (refine bx ?_; intro bk); first | refine ⟨_, EndsA, QFRgC1, ?_⟩ | refine fin ?_) | (refine jn ?_; (try intro F); (refine bx ?_; intro bk); first | refine ⟨_, EndsA, QFRgC1, ?_⟩ | refine fin ?_) | (apply RD_W; rfl; intro bk))
      exact ⟨rfl, SFA, SOA⟩
   clear hd hnb3 hc0 hc1 hc2e hx1 hx2 hx0 bd1 bd2
   rintro fr' O' ⟨hf, hO⟩
   apply thenQ_n
   refine W_sub hf hO ?_
   clear hf hO fr' O'
   cases nb with
   | false =>
    rw [Bool.false_and, if_neg (by decide)] at hi
    repeat (first | refine und ?_ | refine walk ?_ | (refine jn ?_; (try intro F); (first | (refine bx ?_; intro bk) | (refine stA ?_) | (apply Stp_pu; exact PuA)); refine fin ?_) | (apply RD_W; rfl; intro bk))
    exact ⟨⟨i + 1, o⟩, OA, ⟨OA, hi⟩, SFA, SOA⟩
   | true =>
    rw [Bool.true_and] at hi
    cases o with
    | none =>
     simp only [befE, if_true] at hi
     simp only [evC, Option.isSome, DEvent.enc, dEv0]
     repeat (first | refine und ?_ | refine walk ?_ | (refine jn ?_; (try intro F); (first | (refine bx ?_; intro bk) | (refine stA ?_) | (apply Stp_pu; exact PuA)); refine fin ?_) | (apply RD_W; rfl; intro bk))
     exact ⟨⟨i + 1, some ⟨ey, er, en⟩⟩, OA, ⟨OA, hi⟩, SFA, SOA⟩
    | some x =>
     have hbx := hbf x
     obtain ⟨xy, xr, xn⟩ := x
     simp only [evC, Option.isSome, DEvent.enc] at hbx ⊢
     obtain ⟨lt, hlt⟩ : ∃ lt, ltE ⟨ey, er, en⟩ ⟨xy, xr, xn⟩ = lt := ⟨_, rfl⟩
     rw [show befE ⟨ey, er, en⟩ (some ⟨xy, xr, xn⟩) = lt from hlt] at hi
     simp only [hlt] at hbx
     cases lt with
     | false =>
      rw [if_neg (by decide)] at hi
      repeat (first | refine und ?_ | refine walk ?_ | (refine jg ?_; (try intro F); (first | (refine callE (fun w' hw => hbx w') ?_) | (refine bx ?_; intro bk) | (refine stA ?_)); refine fin ?_) | (refine jn ?_; (try intro F); (first | (refine bx ?_; intro bk) | (refine stA ?_) | (apply Stp_pu; exact PuA)); refine fin ?_) | (apply RD_W; rfl; intro bk))
      exact ⟨⟨i + 1, some ⟨xy, xr, xn⟩⟩, OA, ⟨OA, hi⟩, SFA, SOA⟩
     | true =>
      rw [if_pos rfl] at hi
      repeat (first | refine und ?_ | refine walk ?_ | (refine jg ?_; (try intro F); (first | (refine callE (fun w' hw => hbx w') ?_) | (refine bx ?_; intro bk) | (refine stA ?_)); refine fin ?_) | (refine jn ?_; (try intro F); (first | (refine bx ?_; intro bk) | (refine stA ?_) | (apply Stp_pu; exact PuA)); refine fin ?_) | (apply RD_W; rfl; intro bk))
      exact ⟨⟨i + 1, some ⟨ey, er, en⟩⟩, OA, ⟨OA, hi⟩, SFA, SOA⟩
  ·simp only [decide_eq_false_iff_not, Int.ofNat_lt] at hc2
   rw [List.drop_eq_nil_of_le (by omega), capI] at hi
   repeat (first | refine walk ?_ | (refine jn ?_; (try intro F); (first | (refine bx ?_; intro bk) | (refine stA ?_) | (apply Stp_pu; exact PuA)); refine fin ?_) | (apply RD_W; rfl; intro bk))
   exact ⟨⟨k + 1, o⟩, OA, ⟨OA, by dsimp only; rw [show N - (k + 1) = N - k - 1 by omega]; exact hi⟩, SFA, SOA⟩
 ·simp only [decide_eq_false_iff_not, Int.ofNat_lt] at hc
  obtain rfl : k = N := by omega
  rw [Nat.sub_self, capJ] at hi
  subst hi
  cases o with
  | none =>
   simp only [evC, apV, DEvent.enc, dEv0, Option.isSome]
   repeat (first | refine walk ?_ | (refine jn ?_; (try intro F); (first | (refine bx ?_; intro bk) | (refine stA ?_) | (apply Stp_pu; exact PuA)); refine fin ?_) | (apply RD_W; rfl; intro bk))
   exact rtC
  | some e =>
   simp only [evC, apV, DEvent.enc, Option.isSome]
   repeat (first | refine walk ?_ | (refine jn ?_; (try intro F); (first | (refine bx ?_; intro bk) | (refine stA ?_) | (apply Stp_pu; exact PuA)); refine fin ?_) | (apply RD_W; rfl; intro bk))
   exact rtC
end Go.Proofs.YtceekohkjgiabaaGreatDoor
