/- Parts of the proof. -/
import Derived.Test.YtpcpmndldgejiaaGreatDoorV16
import Derived.Test.YtpcpmndldgejiaaGreatDoorV17
import Derived.OrdersIn
set_option maxHeartbeats 4000000
set_option linter.unusedVariables false
set_option linter.unusedSimpArgs false
namespace Go.Proofs.YtpcpmndldgejiaaGreatDoor
open Go Go.RowKit Go.Wk
attribute [local irreducible] W RL Does Zat Zak retQ Calls Pu Stp RD Qy Ay Zam RLI WI
def firstsR (A : Option Addr) (n c : Nat) (v : Value) (O : List It) : Prop := ∃ bl, v = .func (.func 236) #[] #[.pointer (some ⟨bl, 0, none⟩)] ∧ O = [.blk bl [.slice A n c] 29]
theorem firsts_spec (A : Option Addr) (n c : Nat) (w : World) : Does Tryz.prog 214 [.slice A n c] w (firstsR A n c) := by
 refine Zab Tryz.func214 rfl rfl rfl rfl ?_
 repeat (first | (refine js ?_; (refine bx ?_; intro bk)) | refine walk ?_)
 exact ret_1 _ [.blk bk [.slice A n c] 29] (.tmp rfl) SOA ⟨bk, rfl, rfl⟩
structure FiG (σ : Type) where
 k : Nat
 d : List Zac
 s : σ
set_option maxRecDepth 20000
theorem PuStF1 {G : Prop} (h : G := by (apply Pu_loadB1; rfl; (focus repeat' constructor); rfl)) : G := h
set_option maxHeartbeats 4000000 in
theorem firsts1_spec {σ : Type} (L bl : Nat) (A : Option Addr) (c : Nat) (l : List Zaa) (OC : σ → List It) (Inv : List Zac → σ → Prop) (wr : World) (s0 : σ) (h0 : Inv [] s0) (hG : Glob wr) (hA : RdSl wr A c Zaa.enc 11 l) (hn : l.length ≤ 1000000) (hR : ∀ r ∈ l, -4611686018427387904 ≤ r.save ∧ r.save ≤ 4611686018427387904) (hF : ∀ r ∈ l, r.from_ ≤ 4611686018427387904)
  (hY : ∀ (d : List Zac) (e : Zac) (s : σ) (X Y : It), (∃ (k : Nat) (r : Zaa), l[k]? = some r ∧ e.rule = k) → Inv d s → Zd4 Tryz.prog L (.agg e.enc.toArray) wr (X :: Y :: OC s) fun bb O' => bb = true ∧ ∃ s', Inv (d ++ [e]) s' ∧ SubO (X :: Y :: OC s') O') :
  Zam Tryz.prog 236 [.func (.yield L) #[] #[], .pointer (some ⟨bl, 0, none⟩)] wr (.blk bl [.slice A l.length c] 29 :: OC s0)
   (fun v O' => v = .tuple #[] ∧ ∃ s', Inv (firL (Zaj l) l 0) s' ∧ SubO (.blk bl [.slice A l.length c] 29 :: OC s') O') := by
 have hon := fun (i : Nat) r (hi : l[i]? = some r) y w' (hw : Bel wr.heap.size wr w') => evOn_spec A c l i y r w' (hG.up hw) (hA.up hw) hi hn hR
 have hru : ∀ (r : Zaa) (i y : Int) e, onR (Zaj l) r i y = some e → e.rule = i := fun r i y e h => by
  unfold onR at h
  split at h
  ·cases h
  ·split at h
   ·cases h
   ·cases h; rfl
 generalize Zaj l = least at *
 obtain ⟨res, hres⟩ : ∃ res, firL least l 0 = res := ⟨_, rfl⟩
 rw [hres]
 have hle := hA.le
 have hcp := hA.cap
 simp only [maxLen] at hcp
 refine ZaY Tryz.func236 rfl rfl rfl rfl ?_
 repeat (first | (refine js ?_; (refine bx ?_; intro bk)) | refine walk ?_)
 refine Zal [(0, .func (.yield L) #[] #[]), (1, .pointer (some ⟨bl, 0, none⟩)), (9, .slice A l.length c), (10, .int .i64 l.length)] [] (fun g : FiG σ => [(11, .int .i64 g.k)]) (fun g => .blk bl [.slice A l.length c] 29 :: OC g.s) (fun g => g.k ≤ l.length ∧ Inv g.d g.s ∧ g.d ++ firL least (l.drop g.k) g.k = res) (fun g => l.length - g.k) ⟨0, [], s0⟩ SFA ?_ ⟨Nat.zero_le _, h0, by dsimp only; rw [List.drop_zero, List.nil_append]; exact hres⟩ ?_
 ·rw [List.append_nil]; exact .refl _
 clear hres
 rintro ⟨k, d, s⟩ ⟨hk, hi, hd⟩
 dsimp only at hk hi hd ⊢
 rw [List.append_nil]
 repeat (first | (refine js ?_; (refine bx ?_; intro bk)) | refine walk ?_)
 refine Zag rfl (fun hc => ?_) (fun hc => ?_)
 ·have hkl : k < l.length := by simpa using hc
  have hge := List.getElem?_eq_getElem hkl
  obtain ⟨hna, hca⟩ := hA.rd k _ hge
  have hfr := hF _ (List.getElem_mem hkl)
  rw [Zai hkl, firL] at hd
  generalize l[k] = r at *
  obtain ⟨f0, hf0⟩ : ∃ f0, max r.from_ (-2000000000) = f0 := ⟨_, rfl⟩
  have hmx : (if r.from_ < -2000000000 then -2000000000 else r.from_) = f0 := by rw [← hf0]; split <;> omega
  have hfb : -2000000000 ≤ f0 ∧ f0 ≤ 4611686018427387904 := by omega
  rw [hf0] at hd
  have hon1 := hon k r hge
  obtain ⟨r1, hr1⟩ : ∃ r1, fiIn least r k f0 9 = r1 := ⟨_, rfl⟩
  rw [hr1] at hd
  obtain ⟨nm, fr, to, mo, ⟨dk, dw, dd⟩, ⟨cs, cb⟩, sv, le⟩ := r
  change Zap wr _ [.string nm, .int .i64 fr, .int .i64 to, .int .i64 mo, .int .i64 dk, .int .i64 dw, .int .i64 dd, .int .i64 cs, .int .i64 cb, .int .i64 sv, .string le] at hca
  dsimp only at hmx
  repeat (first | (refine js ?_; (refine bx ?_; intro bk)) | refine walkB ?_)
  refine W_block ?_
  repeat (first | (apply RL_pu; rfl; (first | exact PuI | (apply ZeK; rfl; rfl; exact hmx))) | (refine js ?_; (refine bx ?_; intro bk)) | refine walkB1 ?_)
  refine Zb1 (fun fr' O' => ∃ s', Inv (d ++ r1.toList) s' ∧ Sub [(0, .func (.yield L) #[] #[]), (1, .pointer (some ⟨bl, 0, none⟩)), (9, .slice A l.length c), (10, .int .i64 l.length), (11, .int .i64 k)] fr' ∧ SubO (.blk bl [.slice A l.length c] 29 :: OC s') O') ?_ ?_
  ·repeat (first | (refine js ?_; (refine bx ?_; intro bk)) | refine walk ?_)
   refine Zal [(0, .func (.yield L) #[] #[]), (1, .pointer (some ⟨bl, 0, none⟩)), (3, .int .i64 k), (5, .int .i64 f0), (9, .slice A l.length c), (10, .int .i64 l.length), (11, .int .i64 k)] [] (fun g : Nat × Int => [(6, .int .i64 g.2)]) (fun _ => .blk bl [.slice A l.length c] 29 :: OC s) (fun g => g.1 ≤ 9 ∧ g.2 = f0 + g.1 ∧ fiIn least ⟨nm, fr, to, mo, ⟨dk, dw, dd⟩, ⟨cs, cb⟩, sv, le⟩ k g.2 (9 - g.1) = r1) (fun g => 9 - g.1) (0, f0) SFA ?_ ⟨Nat.zero_le _, by simp, hr1⟩ ?_
   ·rw [List.append_nil]
    exact .drop (.refl _)
   clear hr1
   rintro ⟨j, y⟩ ⟨hj, hy, hf⟩
   dsimp only at hj hy hf ⊢
   rw [List.append_nil]
   repeat (first | (refine js ?_; (refine bx ?_; intro bk)) | refine walk ?_)
   refine Zag rfl (fun hc2 => ?_) (fun hc2 => ?_)
   ·have hj9 : j < 9 := by have := of_decide_eq_true hc2; omega
    rw [show 9 - j = (8 - j) + 1 by omega, fiIn] at hf
    have ho := hon1 y
    have hro := hru ⟨nm, fr, to, mo, ⟨dk, dw, dd⟩, ⟨cs, cb⟩, sv, le⟩ k y
    generalize onR least _ k y = o at *
    cases o with
    | none =>
     simp only [evV, Zac.enc, dEv0, Option.isSome] at ho hf
     repeat (first | (apply RL_pu; rfl; exact PuStF1) | (refine js ?_; (first | (refine Zad ho ?_) | (refine bx ?_; intro bk))) | refine walk1 ?_)
     refine ⟨(j + 1, y + 1), OA, ⟨OA, by dsimp only; omega, by dsimp only; rw [show 9 - (j + 1) = 8 - j by omega]; exact hf⟩, SFA, ?_⟩
     exact .drop (.refl _)
    | some e =>
     have her := hro e rfl
     obtain ⟨ey, er, en⟩ := e
     simp only [evV, Zac.enc, Option.isSome] at ho hf her
     subst hf
     repeat (first | (apply W_regionY; rfl; rfl; rfl; (intro c h; cases h); rfl; (apply Pu_loadNf; rfl; (focus repeat' constructor); exact NfA; rfl); rfl; rfl; exact hY d ⟨ey, er, en⟩ s _ _ ⟨k, _, hge, her⟩ hi; rintro bb O' ⟨rfl, s', hi', hO'⟩) | (apply RL_pu; rfl; exact PuStF1) | (refine js ?_; (first | (refine Zad ho ?_) | (refine bx ?_; intro bk))) | refine walk1 ?_)
     apply Zb2 (.inl rfl); rfl; (intro c h; cases h); (apply Pu_not; rfl)
     refine Za5 ?_
     apply thenQ_n
     refine Zag rfl (fun h => (by cases h)) (fun h => ?_)
     repeat (first | (refine js ?_; (refine bx ?_; intro bk)) | refine walk ?_)
     exact ⟨rfl, s', hi', SFA, SubO.trans (.drop (.refl _)) hO'⟩
   ·obtain rfl : j = 9 := by have := of_decide_eq_false hc2; omega
    obtain rfl : none = r1 := hf
    repeat (first | (refine js ?_; (refine bx ?_; intro bk)) | refine walk ?_)
    exact ⟨rfl, s, by rw [Option.toList, List.append_nil]; exact hi, SFA, .refl _⟩
  ·rintro fr' O' ⟨s', hi', hf', hO'⟩
   apply blockQ_n
   apply thenQ_n
   refine ZbV hf' hO' ?_
   repeat (first | (refine js ?_; (refine bx ?_; intro bk)) | refine walk ?_)
   exact ⟨⟨k + 1, d ++ r1.toList, s'⟩, OA, ⟨OA, hi', by dsimp only; rw [List.append_assoc]; exact hd⟩, SFA, by rw [List.append_nil]; exact .refl _⟩
 ·obtain rfl : k = l.length := by simp only [decide_eq_false_iff_not, Int.ofNat_lt] at hc; omega
  rw [List.drop_length, firL, List.append_nil] at hd
  subst hd
  repeat (first | (refine js ?_; (refine bx ?_; intro bk)) | refine walk ?_)
  exact ret_0 _ (.refl _) ⟨rfl, s, hi, .refl _⟩
end Go.Proofs.YtpcpmndldgejiaaGreatDoor
namespace Go.Wk
open Go Go.RowKit
def calmOp : Op → Bool
 | .move _ | .assign _ | .pick .. | .alloc _ | .box .. | .build .. | .load .. | .store .. | .binOp .. | .unOp .. | .convert .. | .fieldAddr .. | .field .. | .indexAddr .. | .index .. => true
 | _ => false
theorem calm_v {P : Program} (s : Sem Value) (w : World) : calm ((do pure (.value (← s)) : Sem Next).run P w) := by
 simp only [Sem.run_bind]
 generalize s.run P w = r
 cases r <;> simp [calm, Result.andThen]
theorem calm_u {P : Program} (s : Sem Unit) (w : World) : calm ((do s; pure .skip : Sem Next).run P w) := by
 simp only [Sem.run_bind]
 generalize s.run P w = r
 cases r <;> simp [calm, Result.andThen]
theorem Zdb {P : Program} {ρ : Operand → Value} {o : Oper} (h : calmOp o.op = true) (w : World) : calm ((execOp ρ o).run P w) := by
 obtain ⟨dst, op, ty, pos, af, g⟩ := o
 cases op <;> first | (cases h; done) | exact calm_v _ w | exact calm_u _ w | skip
 case move x => simp [execOp, calm]
 case assign x => simp [execOp, calm]
 case pick c a b =>
  simp only [execOp, Sem.run_bind]
  generalize (asBool _).run P w = r
  cases r <;> simp [calm, Result.andThen]
theorem calmOp_defer {o : Oper} (h : calmOp o.op = true) : ∀ c, o.op ≠ .defer c := by
 intro c hc
 rw [hc] at h
 cases h
theorem wp_toInN {F : Fence} (hF : WF F) {n : Nat} {P : Program} {o : Oper} {a a2 : Act} {w : World} {K K2 : Act → World → Prop} {Q Q2 : Exit → Act → World → Prop} (he : a2.eval = a.eval) (hd : ∀ c, o.op ≠ .defer c) (hc : calm ((execOp a.eval o).run P w)) (h : o.wp P a w K Q) (hQ : ∀ e a w, Q e a w → e = .normal)
  (hK : ∀ v w', K (a.put o.dst v) w' → K2 (a2.put o.dst v) w') : o.wpIn F n P a2 w K2 Q2 := by
 refine ⟨fun f _ => hF.fn f, ?_⟩
 rw [Oper.semAt_eq _ _ _ hd, he]
 unfold Oper.wp at h
 generalize (execOp a.eval o).run P w = r at *
 cases r with
 | ok nx w' =>
  cases nx with
  | value v => exact hK _ _ h
  | skip => exact hK _ _ h
  | enter f args =>
   rw [Oper.upon_enter] at h
   rw [Oper.uponIn_enter]
   refine ⟨fun hh => (by rw [hF.depth] at hh; cases hh), (hF.calls h).mono ?_⟩
   intro e w'' he
   cases e with
   | returned v => exact hK _ _ he
   | panicked c => cases hQ _ _ _ he
   | outgrown => exact he.elim fun a h => h.elim fun w h => (by cases hQ _ _ _ h)
  | _ => exact hc.elim
 | halt x w' =>
  cases x with
  | panic v => cases hQ _ _ _ h
  | _ => exact h.elim
section
variable {F : Fence} {P : Program} {n : Nat} {wr : World} {ops : Array Oper} {K : Fr → List It → Prop} {fr : Fr} {O : List It} {D : List Deferred}
theorem any_toIn (hF : WF F) (hc : ∀ o ∈ ops.toList, calmOp o.op = true) {Q Q2 : Exit → Act → World → Prop} (hQ : ∀ e a w, Q e a w → e = .normal) (hK : ∀ a w, Q .normal a w → Q2 .normal (actD D a) w) :
  ∀ (m : Nat) (listed : Array Bool) (a : Act) (w : World), wpAny P .any ops Q m listed a w → wpAnyIn F 0 P .any ops Q2 m listed (actD D a) w := by
 intro m
 induction m with
 | zero => intro listed a w h; exact ⟨h.1, hK _ _ h.2⟩
 | succ m ih =>
  intro listed a w h
  refine ⟨fun hr => hK _ _ (h.1 hr), fun i hi => ?_⟩
  have h1 := h.2 i hi
  unfold wpOp at h1
  unfold wpOpIn
  cases ho : ops[i]? with
  | none => rw [ho] at h1; exact ih _ _ _ h1
  | some o =>
   rw [ho] at h1
   have hco : calmOp o.op = true := hc o (by
    rw [Array.mem_toList_iff]
    exact Array.mem_of_getElem? ho)
   dsimp only at h1 ⊢
   rw [show (actD D a).tmps = a.tmps from rfl]
   by_cases hw : Region.wanted o (yielded ops a.tmps) = true
   ·rw [if_pos hw] at h1 ⊢
    rcases h1 with h1 | ⟨_, h1⟩
    ·exact wp_toInN (a := a) hF rfl (calmOp_defer hco) (Zdb hco w) h1 hQ fun v w' hk => by
      rw [ZeX]
      exact ih _ _ _ hk
    ·obtain ⟨_, _, h2⟩ := h1
     cases hQ _ _ _ h2
   ·rw [if_neg hw] at h1 ⊢
    refine ⟨fun f _ => hF.fn f, ?_⟩
    rw [ZeX]
    exact ih _ _ _ h1
theorem any_of_RD {l : List Oper} (hac : acyc l.toArray = true) (h : RD P n wr l.toArray (enum 0 l) [] [] K fr O) {a : Act} {w : World} (hs : St n wr fr O a w) :
  wpAny P .any l.toArray (regQF n wr [] K) l.toArray.size (Array.replicate l.toArray.size false) a { w with drawn := w.drawn + 1 } := by
 have h1 := h ⟨by simp [Zd0, List.nodup_range'], by simp, trivial, trivial, fun p hp => by simpa using (enum_mem l 0 p hp).2⟩ l.length [] [] [] [] a { w with drawn := w.drawn + 1 } (List.Sublist.refl _) (by simp)
  (by have h := hs.drawn (m := w.drawn + 1) (Nat.le_succ _); rw [show O ++ (Zea [] ++ []) = O from by simp [Zea]]; exact h) (by simp [enum_len]) (fun k o hk hn => absurd (by
   have hlt : k < l.length := by have := (Array.getElem?_eq_some_iff.1 hk).1; simpa using this
   have : k ∈ (enum 0 l).map (·.1) := by rw [Zd0]; simp; exact hlt
   obtain ⟨p, hp, rfl⟩ := List.mem_map.1 this
   exact .inl ⟨p, hp, rfl⟩) hn)
 refine wpAny_of_T hac _ _ _ _ _ (by simp) ?_ (by simpa using h1)
 intro j
 unfold Tof
 constructor
 ·rintro (⟨p, hp, rfl⟩ | ⟨_, hh, _⟩ | ⟨_, hh, _⟩)
  ·have := (List.getElem?_eq_some_iff.1 (enum_mem l 0 p hp).2).1
   have h2 : p.1 < l.length := by omega
   simp [Array.getD_eq_getD_getElem?, h2]
  ·cases hh
  ·cases hh
 ·intro hj
  have hlt : j < l.length := by
   rcases Nat.lt_or_ge j l.length with h0 | h0
   ·exact h0
   ·rw [Array.getD_eq_getD_getElem?, Array.getElem?_eq_none (by simpa using h0)] at hj
    simp at hj
  have : j ∈ (enum 0 l).map (·.1) := by rw [Zd0]; simp; exact hlt
  obtain ⟨p, hp, rfl⟩ := List.mem_map.1 this
  exact .inl ⟨p, hp, rfl⟩
theorem WI_draw {Q : Exit → Fr → List It → Prop} {id : Nat} {l : List Oper} (hF : WF F) (hm : P.follows .mixedOrders = true) (hac : acyc l.toArray = true) (hc : l.all (fun o => calmOp o.op) = true) (h : RD P n wr l.toArray (enum 0 l) [] [] (Q .normal) fr O) : WI F D P n wr (.region id l.toArray true) Q fr O := by
 intro a w hs
 have h1 := any_of_RD hac h hs
 refine wpIn_region_any hm (any_toIn hF (fun o ho => List.all_eq_true.1 hc o (by simpa using ho)) (fun e a w he => he.1) ?_ _ _ _ _ h1)
 rintro a' w' ⟨_, fr', O', hs', hq⟩
 refine ⟨rfl, fr', O', ?_, hq⟩
 have hs2 : St n wr fr' O' a' w' := by simpa using hs'
 rw [actD_nil hs2]
 exact hs2
theorem yields_roundA {l p : Nat} {r : Loop} {v : Value} {a0 : Act} {R : Bool → List It → Prop} (hp : r.params = #[p]) (hr : r.state = .ready) (ht : r.tmps = a0.tmps) (hsim : Sim n fr a0) (hpn : Nat.ble (p + 1) n = true)
  (hmem : Za2 l r ∈ O) {id : Nat} {la : List Oper} (hass : r.assign = .region id la.toArray false)
  (hb : RLI (Fence.wide.inRound l) [] P n wr la.toArray la (fun fr' O' => ∃ O1, Upd O' (Za2 l r) (Za2 l { r with state := .busy }) O1 ∧ WI (Fence.wide.inRound l) [] P n wr r.body (roundQ l r R) fr' O1) ((p, v) :: fr) O) : Zd4 P l v wr O R := by
 intro w hB hH
 have hl := Za2.at (hH.sat _ hmem)
 have hy := run_yield (P := P) (args := #[v]) hl (by rw [hp]; rfl)
 rw [hp, ht] at hy
 refine ⟨r.fn, _, r.assign, r.body, hy, roundIn_of_wpIn trivial ?_⟩
 have hst : St n wr ((p, v) :: fr) O { tmps := a0.tmps.setIfInBounds p v, defers := [] } w := by
  have := hsim.put hpn v
  refine ⟨?_, hB, hH⟩
  have e : ({ tmps := a0.tmps.setIfInBounds p v, defers := [] } : Act) = a0.put (some p) v := by
   have := hsim.defers
   simp [Act.put, this]
  rw [e]
  exact this
 rw [hass, show Array.foldl (fun tmps (x : Tmp × Value) => match x with | (t, a) => tmps.setIfInBounds t a) a0.tmps (#[p].zip #[v]) = a0.tmps.setIfInBounds p v by simp]
 refine wpIn_mono (wpIn_region_lit (hb _ w hst)) ?_
 rintro e a' w' ⟨rfl, hd, fr', O', hs', O1, hu, hW⟩
 have hl' := Za2.at (hs'.own.sat _ hu.mem)
 refine ⟨_, run_beginRound hl' hr, ?_⟩
 have hs2 := ZcV hs' hu
 have h3 := hW _ _ hs2
 rw [ZdH hd] at h3
 refine wpIn_mono h3 ?_
 rintro e2 a2 w2 ⟨hd2, fr2, O2, hs3, hq⟩
 cases e2 with
 | normal =>
  obtain ⟨O3, hu3, hR⟩ := hq
  have hl3 := Za2.at (hs3.own.sat _ hu3.mem)
  have hs4 := ZcV hs3 hu3
  exact ⟨_, _, run_endRound none hl3, true, O3, rfl, hs4.old, hs4.own, hR⟩
 | ret =>
  obtain ⟨O3, hu3, hR⟩ := hq
  have hl3 := Za2.at (hs3.own.sat _ hu3.mem)
  have hs4 := ZcV hs3 hu3
  exact ⟨_, _, run_endRound (some .ret) hl3, false, O3, rfl, hs4.old, hs4.own, hR⟩
 | exit id => exact hq.elim
 | goto t => exact hq.elim
 | panic ch => exact hq.elim
 | outgrown => exact hq.elim
theorem WI_exit {Q : Exit → Fr → List It → Prop} {id : Nat} (h : Q (.exit id) fr O) : WI F D P n wr (.exit id) Q fr O := fun a _ hs => wpIn_exit ⟨rfl, fr, O, by rw [actD_nil hs]; exact hs, h⟩
end
end Go.Wk
set_option maxHeartbeats 4000000
set_option maxRecDepth 20000
namespace Go.Proofs.YtpcpmndldgejiaaGreatDoor
open Go Go.RowKit Go.Wk
attribute [local irreducible] W RL Does Zat Zak retQ Calls Pu Stp RD Qy Ay Zam RLI WI
abbrev fiO (A : Option Addr) (c : Nat) (n : Nat) (all : Bool) (but : Int) (b3 b4 b5 b6 b8 b9 ll D : Nat) (r : Loop) (s : Option Zac) : List It :=
 [Za2 ll r, Zb4 D, .blk b3 [.slice A n c] 29, .blk b4 [.bool all] 4, .blk b5 [.int .i64 but] 2, .blk b6 [.int .i64 0, .int .i64 0, .int .i64 0] 182, .blk b8 (evC s) 182, .blk b9 [.bool s.isSome] 4]
theorem evV_C (o : Option Zac) : evV o = .agg (evC o).toArray := by cases o <;> rfl
theorem evC_len (o : Option Zac) : (evC o).length = 3 := by cases o <;> rfl
def fiR (o : Option Zac) (wr : World) : Ending → World → Prop := fun e w' => ∃ v O', e = .returned v ∧ Bel wr.heap.size wr w' ∧ Holds wr.heap.size O' w' ∧ (v = .tuple #[evV o, .bool o.isSome] ∧ O' = [])
theorem fi_leave (o : Option Zac) (wr : World) {a : Act} {w' : World} {D b6 : Nat} (hs : St 39 wr [(6, .pointer (some ⟨b6, 0, none⟩)), (7, .bool o.isSome)] [Zb4 D, .blk b6 (evC o) 182] a w') :
  bodyPostM Fence.wide 0 Tryz.prog Tryz.f192 (fiR o wr) .ret (actD (Zet D) a) w' := by
 have hK := Zb4.at (hs.own.sat _ List.mem_cons_self)
 have hs2 := turn_def hs
 refine ⟨by simp, .inl ⟨_, _, rfl, run_takeDeferred hK, ?_⟩⟩
 refine ⟨.tuple #[evV o, .bool o.isSome], ?_, _, [], rfl, hs2.old, hs2.own.sub .nil, rfl, rfl⟩
 have hres : Tryz.f192.results = [ResultVar.cell 6 182, ResultVar.tmp 7].toArray := rfl
 show (results Tryz.f192 a.tmps).run Tryz.prog _ = _
 unfold results
 rw [hres, List.mapM_toArray]
 simp only [Sem.run_bind, Sem.run_map]
 rw [Zcl (P := Tryz.prog) hs2 _ (fun _ => rfl) (fun _ _ => rfl) [ResultVar.cell 6 182, ResultVar.tmp 7] [.agg (evC o).toArray, .bool o.isSome] ⟨_, _, rfl, .cellB (sz := 3) rfl .here (by rw [List.take_of_length_le (by rw [evC_len]; exact Nat.le_refl 3)]) (evC_len o), _, [], rfl, rfl, rfl⟩]
 simp only [Result.andThen_ok, Sem.run_pure]
 rw [evV_C]
 rfl
theorem PuStI0 {G : Prop} (h : G := by (first | exact PuI | (apply Pu_loadO1; rfl; exact hca 9 _ rfl))) : G := h
theorem QyStI0 {G : Prop} (h : G := by first | (apply Qy_y; rfl; exact PuStI0) | exact QyA) : G := h
theorem PuStI1 {G : Prop} (h : G := by (first | exact PuStI0 | (apply ZaI; rfl; rfl; exact q1))) : G := h
theorem QyStI1 {G : Prop} (h : G := by first | (apply Qy_y; rfl; exact PuStI1) | exact QyA) : G := h
theorem wkStI0 {G G' : Prop} (k : G') (h : Hold G' → G := by intro k9; (first | (apply RL_pu; rfl; exact PuStI1) | (apply RD_Q; rfl; rfl; decide +kernel; rfl; rfl; exact QyStI1) | refine walk1 ?_ | (refine jn ?_; (try intro F); (first | (refine stA ?_) | (apply Zae; first | exact PuStI1 | exact PuA)); first | refine ⟨_, EndsA, QFStI1, ?_⟩ | refine fin ?_)); exact k9.out) : G := h ⟨k⟩
theorem PuStI2 {G : Prop} (h : G := by (first | exact PuStI0 | (apply ZeL; rfl; rfl; exact q2))) : G := h
theorem QyStI2 {G : Prop} (h : G := by first | (apply Qy_y; rfl; exact PuStI2) | exact QyA) : G := h
theorem PuStI3 {G : Prop} (h : G := by (first | exact PuStI1 | (apply ZeL; rfl; rfl; exact q2))) : G := h
theorem QyStI3 {G : Prop} (h : G := by first | (apply Qy_y; rfl; exact PuStI3) | exact QyA) : G := h
theorem first19_in (A : Option Addr) (c : Nat) (l : List Zaa) (all : Bool) (but : Int) (wr : World) (hG : Glob wr) (hA : RdSl wr A c Zaa.enc 11 l) (hn : l.length ≤ 1000000) (hR : ∀ r ∈ l, -4611686018427387904 ≤ r.save ∧ r.save ≤ 4611686018427387904) (hF : ∀ r ∈ l, r.from_ ≤ 4611686018427387904) :
  Zam Tryz.prog 192 [.slice A l.length c, .bool all, .int .i64 but] wr [] (fun v O => v = .tuple #[evV (fstD l all but), .bool (fstD l all but).isSome] ∧ O = []) := by
 unfold Zam
 intro w0 hB0 hH0
 refine DoesIn_marks Tryz.func192 rfl rfl rfl hB0 hH0 ?_
 intro a0 hst
 -- Zab Tryz.func192
 refine ZdR (fun fr' O' => ∃ b3 b4 b5 b6, Sub [(3, .pointer (some ⟨b3, 0, none⟩)), (4, .pointer (some ⟨b4, 0, none⟩)), (5, .pointer (some ⟨b5, 0, none⟩)), (6, .pointer (some ⟨b6, 0, none⟩))] fr' ∧ SubO [.blk b3 [.slice A l.length c] 29, .blk b4 [.bool all] 4, .blk b5 [.int .i64 but] 2, .blk b6 [.int .i64 0, .int .i64 0, .int .i64 0] 182] O') ?_ ?_ a0 w0 hst
 ·repeat (first | refine walk ?_ | (refine jn ?_; (try intro F); (first | (refine bx ?_; intro bk) | (refine stA ?_) | (apply Zae; exact PuA)); refine fin ?_) | (apply RD_W; rfl; intro bk))
  rename_i b3 b4 b5
  exact ⟨rfl, b3, b4, b5, bk, SFA, SOA⟩
 rintro a1 w1 fr1 O1 hs0 ⟨b3, b4, b5, b6, hf1, hO1⟩
 have hs1 := hs0.sub hf1 hO1
 clear hf1 hO1 hs0 hst a0 fr1 O1
 refine ZdR (fun fr' O' => ∃ b8, Sub [(3, .pointer (some ⟨b3, 0, none⟩)), (4, .pointer (some ⟨b4, 0, none⟩)), (5, .pointer (some ⟨b5, 0, none⟩)), (6, .pointer (some ⟨b6, 0, none⟩)), (8, .pointer (some ⟨b8, 0, none⟩))] fr' ∧ SubO [.blk b3 [.slice A l.length c] 29, .blk b4 [.bool all] 4, .blk b5 [.int .i64 but] 2, .blk b6 [.int .i64 0, .int .i64 0, .int .i64 0] 182, .blk b8 [.int .i64 0, .int .i64 0, .int .i64 0] 182] O') ?_ ?_ a1 w1 hs1
 ·repeat (first | refine walk ?_ | (refine jn ?_; (try intro F); (first | (refine bx ?_; intro bk) | (refine stA ?_) | (apply Zae; exact PuA)); refine fin ?_) | (apply RD_W; rfl; intro bk))
  exact ⟨rfl, bk, SFA, SOA⟩
 rintro a2 w2 fr2 O2 hs0 ⟨b8, hf1, hO1⟩
 have hs2 := hs0.sub hf1 hO1
 clear hf1 hO1 hs0 hs1 a1 fr2 O2
 refine ZdR (fun fr' O' => ∃ b9, Sub [(3, .pointer (some ⟨b3, 0, none⟩)), (4, .pointer (some ⟨b4, 0, none⟩)), (5, .pointer (some ⟨b5, 0, none⟩)), (6, .pointer (some ⟨b6, 0, none⟩)), (8, .pointer (some ⟨b8, 0, none⟩)), (9, .pointer (some ⟨b9, 0, none⟩))] fr' ∧ SubO [.blk b3 [.slice A l.length c] 29, .blk b4 [.bool all] 4, .blk b5 [.int .i64 but] 2, .blk b6 [.int .i64 0, .int .i64 0, .int .i64 0] 182, .blk b8 [.int .i64 0, .int .i64 0, .int .i64 0] 182, .blk b9 [.bool false] 4] O') ?_ ?_ a2 w2 hs2
 ·repeat (first | refine walk ?_ | (refine jn ?_; (try intro F); (first | (refine bx ?_; intro bk) | (refine stA ?_) | (apply Zae; exact PuA)); refine fin ?_) | (apply RD_W; rfl; intro bk))
  exact ⟨rfl, bk, SFA, SOA⟩
 rintro a3 w3 fr3 O3 hs0 ⟨b9, hf1, hO1⟩
 have hs3 := hs0.sub hf1 hO1
 clear hf1 hO1 hs0 hs2 a2 fr3 O3
 refine wp_seq ?_
 refine ZdR (fun fr' O' => ∃ bl, Sub [(3, .pointer (some ⟨b3, 0, none⟩)), (4, .pointer (some ⟨b4, 0, none⟩)), (5, .pointer (some ⟨b5, 0, none⟩)), (6, .pointer (some ⟨b6, 0, none⟩)), (8, .pointer (some ⟨b8, 0, none⟩)), (9, .pointer (some ⟨b9, 0, none⟩)), (12, .func (.func 236) #[] #[.pointer (some ⟨bl, 0, none⟩)])] fr' ∧ SubO [.blk bl [.slice A l.length c] 29, .blk b3 [.slice A l.length c] 29, .blk b4 [.bool all] 4, .blk b5 [.int .i64 but] 2, .blk b6 [.int .i64 0, .int .i64 0, .int .i64 0] 182, .blk b8 [.int .i64 0, .int .i64 0, .int .i64 0] 182, .blk b9 [.bool false] 4] O') ?_ ?_ a3 w3 hs3
 ·repeat (first | refine walk ?_ | (refine jg ?_; (try intro F); (first | (apply Zah (h := fun w' _ _ => firsts_spec A l.length c w'); rfl; rintro v O' ⟨bl, rfl, rfl⟩) | (refine bx ?_; intro bk) | (refine stA ?_)); refine fin ?_) | (refine jn ?_; (try intro F); (first | (refine bx ?_; intro bk) | (refine stA ?_) | (apply Zae; exact PuA)); refine fin ?_) | (apply RD_W; rfl; intro bk))
  exact ⟨rfl, bl, SFA, SOA⟩
 rintro a4 w4 fr4 O4 hs0 ⟨bl, hf1, hO1⟩
 have hs4 := hs0.sub hf1 hO1
 clear hf1 hO1 hs0 hs3 a3 fr4 O4
 refine wp_block ?_
 refine range_wp (gf := 236) (lb := [.pointer (some ⟨bl, 0, none⟩)]) (fun jump O2 => jump = none ∧ SubO [.blk b6 [.int .i64 0, .int .i64 0, .int .i64 0] 182, .blk b8 (evC (fstD l all but)) 182, .blk b9 [.bool (fstD l all but).isSome] 4] O2) hs4 rfl ?_ ?_
 ·intro fn ll D
  generalize hr : recOf fn a4.tmps 13 _ _ D = r
  have hit := firsts1_spec ll bl A c l (fun s => fiO A c l.length all but b3 b4 b5 b6 b8 b9 ll D r s) (fun d s => s = d.foldl (fstB l all but) none) wr none rfl hG hA hn hR hF ?_
  ·refine hit.sub SOA fun v O' ⟨_, s, h1, h6⟩ => ?_
   subst h1
   exact ⟨none, _, .ready, SubO.trans (by rw [← hr]; exact SOA) h6, by decide, rfl, .refl _⟩
  ·rintro d ⟨ey, er, en⟩ s X Y ⟨k, ru, hk, her⟩ hs
   dsimp only at her
   subst her
   have hkl : k < l.length := (List.getElem?_eq_some_iff.1 hk).1
   have hrE : ruE l ⟨ey, k, en⟩ = ru := ruE_at (by dsimp only; exact hk)
   obtain ⟨hna, hca⟩ := hA.rd k _ hk
   have hle := hA.le
   have hcp := hA.cap
   simp only [maxLen] at hcp
   obtain ⟨s2, hs2⟩ : ∃ s2, fstB l all but s ⟨ey, k, en⟩ = s2 := ⟨_, rfl⟩
   have hfold : s2 = (d ++ [(⟨ey, k, en⟩ : Zac)]).foldl (fstB l all but) none := by rw [List.foldl_append, ← hs, ← hs2]; rfl
   unfold fstB at hs2
   rw [hrE] at hs2
   refine yields_roundA (r := r) (p := 13) (fr := [(3, .pointer (some ⟨b3, 0, none⟩)), (4, .pointer (some ⟨b4, 0, none⟩)), (5, .pointer (some ⟨b5, 0, none⟩)), (6, .pointer (some ⟨b6, 0, none⟩)), (8, .pointer (some ⟨b8, 0, none⟩)), (9, .pointer (some ⟨b9, 0, none⟩))]) (a0 := a4) (by rw [← hr]; rfl) (by rw [← hr]; rfl) (by rw [← hr]; rfl) (hs4.sim.sub SFA) rfl (by simp) (by rw [← hr]; rfl) ?_
   dsimp only [Zac.enc]
   apply ZbG (Or.inr ⟨_, rfl⟩); (intro d hd; cases hd; rfl); (intro c h; cases h); (intro a w hs; exact Zdb rfl w)
   apply Stp_alloc; intro b10
   apply ZbG (Or.inr ⟨_, rfl⟩); (intro d hd; cases hd); (intro c h; cases h); (intro a w hs; exact Zdb rfl w)
   (apply Stp_storeNf; rfl; rfl; (focus repeat' constructor); (focus repeat (first | exact Nf.nil | apply Nf.cons)); rfl; rfl; rfl; (focus repeat' constructor))
   refine Za5 ?_
   refine ⟨_, (by repeat' constructor), ?_⟩
   have hbody : ∀ Q fr O, (∀ b : Code, b = r.body → WI (Fence.wide.inRound ll) [] Tryz.prog 39 wr b Q fr O) → WI (Fence.wide.inRound ll) [] Tryz.prog 39 wr r.body Q fr O := fun Q fr O h => h _ rfl
   refine hbody _ _ _ fun b hb => ?_
   rw [← hr] at hb
   dsimp only [recOf] at hb
   subst hb
   refine WI_block (WI_seq (WI_seq (WI_draw (Or.inr ⟨_, rfl⟩) rfl (by decide +kernel) rfl ?_)))
   rcases s with _ | ⟨by_, br, bn⟩
   ·cases all with
    | true =>
     obtain rfl : some ⟨ey, k, en⟩ = s2 := by rw [← hs2]; rfl
     clear hs2
     dsimp only [fiO, evC, Zac.enc, dEv0, Option.isSome]
     repeat (first | (apply RL_pu; rfl; exact PuStI0) | (apply RD_Q; rfl; rfl; decide +kernel; rfl; rfl; exact QyStI0) | refine walk1 ?_ | (refine jn ?_; (try intro F); (first | (refine bx ?_; intro bk) | (refine stA ?_) | (apply Zae; first | exact PuStI0 | exact PuA)); first | refine ⟨_, EndsA, QFStI0, ?_⟩ | refine fin ?_) | (apply RD_W; rfl; intro bk))
     refine Zcp rfl (fun h => (by cases h)) (fun h => ?_)
     refine WI_skip ?_
     apply thenQ_n
     refine Zbp ?_
     apply Zb2 (Or.inr ⟨_, rfl⟩); rfl; (intro c h; cases h); (apply Pu_loadNf; rfl; (focus repeat' constructor); exact NfA; rfl)
     apply ZbG (Or.inr ⟨_, rfl⟩); (intro d hd; cases hd); (intro c h; cases h); (intro a w hs; exact Zdb rfl w)
     (apply Stp_storeNf; rfl; rfl; (focus repeat' constructor); (focus repeat (first | exact Nf.nil | apply Nf.cons)); rfl; rfl; rfl; (focus repeat' constructor))
     apply ZbG (Or.inr ⟨_, rfl⟩); (intro d hd; cases hd); (intro c h; cases h); (intro a w hs; exact Zdb rfl w)
     (apply Stp_storeNf; rfl; rfl; (focus repeat' constructor); (focus repeat (first | exact Nf.nil | apply Nf.cons)); rfl; rfl; rfl; (focus repeat' constructor))
     refine Za5 ?_
     refine blockQ_n ?_
     refine ⟨_, (by repeat' constructor), rfl, some ⟨ey, k, en⟩, hfold, ?_⟩
     dsimp only [fiO, evC, Zac.enc, dEv0, Option.isSome]
     rw [← hr]
     exact SOA
    | false =>
     by_cases hsv : ru.save = but
     ·have q1 : decide (ru.save = but) = true := decide_eq_true hsv
      obtain rfl : none = s2 := by rw [← hs2, q1]; rfl
      clear hs2
      dsimp only [fiO, evC, Zac.enc, dEv0, Option.isSome]
      repeat (first | refine wkStI0 ?_ | (refine jn ?_; (try intro F); (refine bx ?_; intro bk); first | refine ⟨_, EndsA, QFStI1, ?_⟩ | refine fin ?_) | (apply RD_W; rfl; intro bk))
      refine Zcp rfl (fun h => ?_) (fun h => (by cases h))
      refine WI_exit ?_
      apply thenQ_e
      apply blockQ_hit
      refine ⟨_, (by repeat' constructor), rfl, none, hfold, ?_⟩
      dsimp only [fiO, evC, Zac.enc, dEv0, Option.isSome]
      rw [← hr]
      exact SOA
     ·have q1 : decide (ru.save = but) = false := decide_eq_false hsv
      obtain rfl : some ⟨ey, k, en⟩ = s2 := by rw [← hs2, q1]; rfl
      clear hs2
      dsimp only [fiO, evC, Zac.enc, dEv0, Option.isSome]
      repeat (first | refine wkStI0 ?_ | (refine jn ?_; (try intro F); (refine bx ?_; intro bk); first | refine ⟨_, EndsA, QFStI1, ?_⟩ | refine fin ?_) | (apply RD_W; rfl; intro bk))
      refine Zcp rfl (fun h => (by cases h)) (fun h => ?_)
      refine WI_skip ?_
      apply thenQ_n
      refine Zbp ?_
      apply Zb2 (Or.inr ⟨_, rfl⟩); rfl; (intro c h; cases h); (apply Pu_loadNf; rfl; (focus repeat' constructor); exact NfA; rfl)
      apply ZbG (Or.inr ⟨_, rfl⟩); (intro d hd; cases hd); (intro c h; cases h); (intro a w hs; exact Zdb rfl w)
      (apply Stp_storeNf; rfl; rfl; (focus repeat' constructor); (focus repeat (first | exact Nf.nil | apply Nf.cons)); rfl; rfl; rfl; (focus repeat' constructor))
      apply ZbG (Or.inr ⟨_, rfl⟩); (intro d hd; cases hd); (intro c h; cases h); (intro a w hs; exact Zdb rfl w)
      (apply Stp_storeNf; rfl; rfl; (focus repeat' constructor); (focus repeat (first | exact Nf.nil | apply Nf.cons)); rfl; rfl; rfl; (focus repeat' constructor))
      refine Za5 ?_
      refine blockQ_n ?_
      refine ⟨_, (by repeat' constructor), rfl, some ⟨ey, k, en⟩, hfold, ?_⟩
      dsimp only [fiO, evC, Zac.enc, dEv0, Option.isSome]
      rw [← hr]
      exact SOA
   ·cases all with
    | true =>
     by_cases hle2 : bn ≤ en
     ·have q2 : decide (bn ≤ en) = true := decide_eq_true hle2
      obtain rfl : some ⟨by_, br, bn⟩ = s2 := by rw [← hs2]; simp [hle2]
      clear hs2
      dsimp only [fiO, evC, Zac.enc, dEv0, Option.isSome]
      repeat (first | (apply RL_pu; rfl; exact PuStI2) | (apply RD_Q; rfl; rfl; decide +kernel; rfl; rfl; exact QyStI2) | refine walk1 ?_ | (refine jn ?_; (try intro F); (first | (refine bx ?_; intro bk) | (refine stA ?_) | (apply Zae; first | exact PuStI2 | exact PuA)); first | refine ⟨_, EndsA, QFStI2, ?_⟩ | refine fin ?_) | (apply RD_W; rfl; intro bk))
      refine Zcp rfl (fun h => ?_) (fun h => (by cases h))
      refine WI_exit ?_
      apply thenQ_e
      apply blockQ_hit
      refine ⟨_, (by repeat' constructor), rfl, some ⟨by_, br, bn⟩, hfold, ?_⟩
      dsimp only [fiO, evC, Zac.enc, dEv0, Option.isSome]
      rw [← hr]
      exact SOA
     ·have q2 : decide (bn ≤ en) = false := decide_eq_false hle2
      obtain rfl : some ⟨ey, k, en⟩ = s2 := by rw [← hs2]; simp [hle2]
      clear hs2
      dsimp only [fiO, evC, Zac.enc, dEv0, Option.isSome]
      repeat (first | (apply RL_pu; rfl; exact PuStI2) | (apply RD_Q; rfl; rfl; decide +kernel; rfl; rfl; exact QyStI2) | refine walk1 ?_ | (refine jn ?_; (try intro F); (first | (refine bx ?_; intro bk) | (refine stA ?_) | (apply Zae; first | exact PuStI2 | exact PuA)); first | refine ⟨_, EndsA, QFStI2, ?_⟩ | refine fin ?_) | (apply RD_W; rfl; intro bk))
      refine Zcp rfl (fun h => (by cases h)) (fun h => ?_)
      refine WI_skip ?_
      apply thenQ_n
      refine Zbp ?_
      apply Zb2 (Or.inr ⟨_, rfl⟩); rfl; (intro c h; cases h); (apply Pu_loadNf; rfl; (focus repeat' constructor); exact NfA; rfl)
      apply ZbG (Or.inr ⟨_, rfl⟩); (intro d hd; cases hd); (intro c h; cases h); (intro a w hs; exact Zdb rfl w)
      (apply Stp_storeNf; rfl; rfl; (focus repeat' constructor); (focus repeat (first | exact Nf.nil | apply Nf.cons)); rfl; rfl; rfl; (focus repeat' constructor))
      apply ZbG (Or.inr ⟨_, rfl⟩); (intro d hd; cases hd); (intro c h; cases h); (intro a w hs; exact Zdb rfl w)
      (apply Stp_storeNf; rfl; rfl; (focus repeat' constructor); (focus repeat (first | exact Nf.nil | apply Nf.cons)); rfl; rfl; rfl; (focus repeat' constructor))
      refine Za5 ?_
      refine blockQ_n ?_
      refine ⟨_, (by repeat' constructor), rfl, some ⟨ey, k, en⟩, hfold, ?_⟩
      dsimp only [fiO, evC, Zac.enc, dEv0, Option.isSome]
      rw [← hr]
      exact SOA
    | false =>
     by_cases hsv : ru.save = but
     ·have q1 : decide (ru.save = but) = true := decide_eq_true hsv
      obtain rfl : some ⟨by_, br, bn⟩ = s2 := by rw [← hs2, q1]; rfl
      clear hs2
      dsimp only [fiO, evC, Zac.enc, dEv0, Option.isSome]
      repeat (first | refine wkStI0 ?_ | (refine jn ?_; (try intro F); (refine bx ?_; intro bk); first | refine ⟨_, EndsA, QFStI1, ?_⟩ | refine fin ?_) | (apply RD_W; rfl; intro bk))
      refine Zcp rfl (fun h => ?_) (fun h => (by cases h))
      refine WI_exit ?_
      apply thenQ_e
      apply blockQ_hit
      refine ⟨_, (by repeat' constructor), rfl, some ⟨by_, br, bn⟩, hfold, ?_⟩
      dsimp only [fiO, evC, Zac.enc, dEv0, Option.isSome]
      rw [← hr]
      exact SOA
     ·have q1 : decide (ru.save = but) = false := decide_eq_false hsv
      by_cases hle2 : bn ≤ en
      ·have q2 : decide (bn ≤ en) = true := decide_eq_true hle2
       obtain rfl : some ⟨by_, br, bn⟩ = s2 := by rw [← hs2]; simp [hsv, hle2]
       clear hs2
       dsimp only [fiO, evC, Zac.enc, dEv0, Option.isSome]
       repeat (first | (apply RL_pu; rfl; exact PuStI3) | (apply RD_Q; rfl; rfl; decide +kernel; rfl; rfl; exact QyStI3) | refine walk1 ?_ | (refine jn ?_; (try intro F); (first | (refine bx ?_; intro bk) | (refine stA ?_) | (apply Zae; first | exact PuStI3 | exact PuA)); first | refine ⟨_, EndsA, QFStI3, ?_⟩ | refine fin ?_) | (apply RD_W; rfl; intro bk))
       refine Zcp rfl (fun h => ?_) (fun h => (by cases h))
       refine WI_exit ?_
       apply thenQ_e
       apply blockQ_hit
       refine ⟨_, (by repeat' constructor), rfl, some ⟨by_, br, bn⟩, hfold, ?_⟩
       dsimp only [fiO, evC, Zac.enc, dEv0, Option.isSome]
       rw [← hr]
       exact SOA
      ·have q2 : decide (bn ≤ en) = false := decide_eq_false hle2
       obtain rfl : some ⟨ey, k, en⟩ = s2 := by rw [← hs2]; simp [hsv, hle2]
       clear hs2
       dsimp only [fiO, evC, Zac.enc, dEv0, Option.isSome]
       repeat (first | (apply RL_pu; rfl; exact PuStI3) | (apply RD_Q; rfl; rfl; decide +kernel; rfl; rfl; exact QyStI3) | refine walk1 ?_ | (refine jn ?_; (try intro F); (first | (refine bx ?_; intro bk) | (refine stA ?_) | (apply Zae; first | exact PuStI3 | exact PuA)); first | refine ⟨_, EndsA, QFStI3, ?_⟩ | refine fin ?_) | (apply RD_W; rfl; intro bk))
       refine Zcp rfl (fun h => (by cases h)) (fun h => ?_)
       refine WI_skip ?_
       apply thenQ_n
       refine Zbp ?_
       apply Zb2 (Or.inr ⟨_, rfl⟩); rfl; (intro c h; cases h); (apply Pu_loadNf; rfl; (focus repeat' constructor); exact NfA; rfl)
       apply ZbG (Or.inr ⟨_, rfl⟩); (intro d hd; cases hd); (intro c h; cases h); (intro a w hs; exact Zdb rfl w)
       (apply Stp_storeNf; rfl; rfl; (focus repeat' constructor); (focus repeat (first | exact Nf.nil | apply Nf.cons)); rfl; rfl; rfl; (focus repeat' constructor))
       apply ZbG (Or.inr ⟨_, rfl⟩); (intro d hd; cases hd); (intro c h; cases h); (intro a w hs; exact Zdb rfl w)
       (apply Stp_storeNf; rfl; rfl; (focus repeat' constructor); (focus repeat (first | exact Nf.nil | apply Nf.cons)); rfl; rfl; rfl; (focus repeat' constructor))
       refine Za5 ?_
       refine blockQ_n ?_
       refine ⟨_, (by repeat' constructor), rfl, some ⟨ey, k, en⟩, hfold, ?_⟩
       dsimp only [fiO, evC, Zac.enc, dEv0, Option.isSome]
       rw [← hr]
       exact SOA
 ·rintro jump O2 D w5 ⟨rfl, hsub⟩ hs6
  obtain ⟨res, hres⟩ : ∃ res, fstD l all but = res := ⟨_, rfl⟩
  rw [hres] at hsub ⊢
  have hs5 : St 39 wr [(6, .pointer (some ⟨b6, 0, none⟩)), (8, .pointer (some ⟨b8, 0, none⟩)), (9, .pointer (some ⟨b9, 0, none⟩))] [Zb4 D, .blk b6 [.int .i64 0, .int .i64 0, .int .i64 0] 182, .blk b8 (evC res) 182, .blk b9 [.bool res.isSome] 4] a4 w5 := hs6.sub SFA (.cons .here hsub)
  have key : ∀ c' Q' Q3, WI Fence.wide (Zet D) Tryz.prog 39 wr c' Q' [(6, .pointer (some ⟨b6, 0, none⟩)), (8, .pointer (some ⟨b8, 0, none⟩)), (9, .pointer (some ⟨b9, 0, none⟩))] [Zb4 D, .blk b6 [.int .i64 0, .int .i64 0, .int .i64 0] 182, .blk b8 (evC res) 182, .blk b9 [.bool res.isSome] 4] → (∀ e a' w', liftI (Zet D) 39 wr Q' e a' w' → Q3 e a' w') → c'.wp Tryz.prog Q3 (actD (Zet D) a4) w5 := fun c' Q' Q3 h hq => (wpIn_wide (n := 0)).1 (wpIn_mono (h.at hs5) hq)
  show (Code.seq _ _).wp _ _ _ _
  refine key _ (fun e fr O => e = .ret ∧ Sub [(6, .pointer (some ⟨b6, 0, none⟩)), (7, .bool res.isSome)] fr ∧ SubO [Zb4 D, .blk b6 (evC res) 182] O) _ (WI_seq (WI_draw (.inl rfl) rfl (by decide +kernel) rfl ?_)) ?_
  ·rcases res with _ | ⟨ry, rr, rn⟩
   ·dsimp only [evC, Zac.enc, dEv0, Option.isSome]
    repeat (first | refine walk ?_ | (refine jn ?_; (try intro F); (first | (refine bx ?_; intro bk) | (refine stA ?_) | (apply Zae; exact PuA)); refine fin ?_) | (apply RD_W; rfl; intro bk))
    refine WI_ret ?_
    exact ⟨rfl, SFA, SOA⟩
   ·dsimp only [evC, Zac.enc, dEv0, Option.isSome]
    repeat (first | refine walk ?_ | (refine jn ?_; (try intro F); (first | (refine bx ?_; intro bk) | (refine stA ?_) | (apply Zae; exact PuA)); refine fin ?_) | (apply RD_W; rfl; intro bk))
    refine WI_ret ?_
    exact ⟨rfl, SFA, SOA⟩
  ·rintro e a' w' ⟨hd, fr', O', hs', rfl, hf, hO⟩
   have h := fi_leave res wr (hs'.sub hf hO)
   rw [ZdH hd] at h
   exact h
end Go.Proofs.YtpcpmndldgejiaaGreatDoor
namespace Go.Proofs.YtpcpmndldgejiaaGreatDoor
open Go Go.RowKit Go.Wk
attribute [local irreducible] W RL Does Zat Zak retQ Calls Pu Stp RD Qy Ay Zam
structure RsSm (l : List Zaa) : Prop where
 n : l.length ≤ 1000000
 s : ∀ r ∈ l, -1000000000 ≤ r.save ∧ r.save ≤ 1000000000
 f : ∀ r ∈ l, r.from_ ≤ 4611686018427387904
 t : ∀ r ∈ l, -4611686018427387904 ≤ r.to
theorem RsSm.r {l : List Zaa} (h : RsSm l) : ∀ r ∈ l, -4611686018427387904 ≤ r.save ∧ r.save ≤ 4611686018427387904 := fun r hr => by have := h.s r hr; omega
theorem RsSm.b {l : List Zaa} (h : RsSm l) : RsOkB l := fun r hr => ⟨h.r r hr, h.f r hr, h.t r hr⟩
theorem first19_spec (A : Option Addr) (c : Nat) (l : List Zaa) (all : Bool) (but : Int) (w : World) (hG : Glob w) (hA : RdSl w A c Zaa.enc 11 l) (h : RsSm l) :
  Does Tryz.prog 192 [.slice A l.length c, .bool all, .int .i64 but] w (fun v O => v = .tuple #[evV (fstD l all but), .bool (fstD l all but).isSome] ∧ O = []) := by
 have := first19_in A c l all but w hG hA h.n h.r h.f
 unfold Zam at this
 unfold Does
 exact this w (Bel.refl _ _) (Holds.nil _ _)
def EvAt (N : Nat) (o : Option Zac) : Prop := ∀ e, o = some e → 0 ≤ e.rule ∧ e.rule < N
theorem onR_rule {least : Int} {r : Zaa} {i y : Int} {e : Zac} (h : onR least r i y = some e) : e.rule = i := by
 unfold onR at h
 split at h
 ·cases h
 ·split at h
  ·cases h
  ·cases h; rfl
theorem beIn_rule {least nominal : Int} {r : Zaa} {i : Int} {e : Zac} : ∀ (k : Nat) (y : Int), beIn least nominal r i y k = some e → e.rule = i
 | 0, _, h => by cases h
 | k + 1, y, h => by
  rw [beIn] at h
  split at h
  ·rename_i x hx
   split at h
   ·cases h; exact onR_rule hx
   ·exact beIn_rule k _ h
  ·exact beIn_rule k _ h
theorem fiIn_rule {least : Int} {r : Zaa} {i : Int} {e : Zac} : ∀ (k : Nat) (y : Int), fiIn least r i y k = some e → e.rule = i
 | 0, _, h => by cases h
 | k + 1, y, h => by
  rw [fiIn] at h
  split at h
  ·rename_i x hx
   cases h; exact onR_rule hx
  ·exact fiIn_rule k _ h
theorem befGo_at {least nominal yr : Int} {N : Nat} : ∀ (l : List Zaa) (i : Nat) (b : Option Zac), i + l.length ≤ N → EvAt N b → EvAt N (befGo least nominal yr l i b)
 | [], _, _, _, h => h
 | r :: l, i, b, hi, h => by
  rw [List.length_cons] at hi
  rw [befGo]
  refine befGo_at l (i + 1) _ (by omega) ?_
  have hb : EvAt N (beIn least nominal r i (min (lastY r) (yr + 2)) 20) := fun e he => by
   have := beIn_rule 20 _ he
   omega
  generalize beIn least nominal r i (min (lastY r) (yr + 2)) 20 = o at *
  cases o with
  | none => exact h
  | some x =>
   cases b with
   | none => exact hb
   | some y =>
    dsimp only
    split
    ·exact hb
    ·exact h
theorem befD_at (l : List Zaa) (nominal : Int) : EvAt l.length (befD l nominal) := befGo_at l 0 none (by omega) fun e h => by cases h
theorem firL_at {least : Int} {N : Nat} : ∀ (l : List Zaa) (i : Nat), i + l.length ≤ N → ∀ e ∈ firL least l i, 0 ≤ e.rule ∧ e.rule < N
 | [], _, _, e, h => by cases h
 | r :: l, i, hi, e, h => by
  rw [List.length_cons] at hi
  rw [firL] at h
  rcases List.mem_append.1 h with h | h
  ·cases ho : fiIn least r i (max r.from_ (-2000000000)) 9 with
   | none => rw [ho] at h; cases h
   | some x =>
    rw [ho] at h
    simp only [Option.toList, List.mem_singleton] at h
    subst h
    have := fiIn_rule 9 _ ho
    omega
  ·exact firL_at l (i + 1) (by omega) e h
theorem fst_at {l : List Zaa} {all : Bool} {but : Int} {N : Nat} : ∀ (L : List Zac) (b : Option Zac), (∀ e ∈ L, 0 ≤ e.rule ∧ e.rule < N) → EvAt N b → EvAt N (L.foldl (fstB l all but) b)
 | [], _, _, h => h
 | x :: L, b, hL, h => by
  rw [List.foldl_cons]
  refine fst_at L _ (fun e he => hL e (List.mem_cons_of_mem _ he)) ?_
  have key : ∀ q : Bool, EvAt N (if q = true then b else some x) := fun q => by
   cases q
   ·intro e he
    cases he
    exact hL x List.mem_cons_self
   ·exact h
  unfold fstB
  exact key _
theorem fstD_at (l : List Zaa) (all : Bool) (but : Int) : EvAt l.length (fstD l all but) := fst_at _ none (firL_at l 0 (by omega)) fun e h => by cases h
theorem PuStJ0 {G : Prop} (h : G := by (first | exact PuI | (apply Pu_loadO1; rfl; exact hca 9 _ rfl))) : G := h
theorem initial_spec (A : Option Addr) (c : Nat) (l : List Zaa) (w : World) (hG : Glob w) (hA : RdSl w A c Zaa.enc 11 l) (h : RsSm l) : Does Tryz.prog 148 [.slice A l.length c] w (fun v O => v = stV (iniS l) ∧ O = []) := by
 have h1 := fun w' (hw : Bel w.heap.size w w') => first19_spec A c l true 0 w' (hG.up hw) (hA.up hw) h
 have hat := fstD_at l true 0
 have hle := hA.le
 have hcp := hA.cap
 simp only [maxLen] at hcp
 unfold iniS
 generalize fstD l true 0 = o at *
 rcases o with _ | ⟨ey, er, en⟩
 ·simp only [evV, Zac.enc, dEv0, Option.isSome] at h1
  refine Zab Tryz.func148 rfl rfl rfl rfl ?_
  repeat (first | (refine js ?_; (first | (refine Zad h1 ?_) | (refine bx ?_; intro bk))) | refine walk ?_)
  exact ret_1 _ [] (.cellB rfl (by repeat' constructor) rfl rfl) .nil ⟨rfl, rfl⟩
 ·simp only [evV, Zac.enc, Option.isSome] at h1 ⊢
  obtain ⟨e0, e1⟩ := hat _ rfl
  dsimp only at e0 e1
  obtain ⟨ru, hru⟩ : ∃ ru, l[er.toNat]? = some ru := ⟨_, List.getElem?_eq_getElem (by omega)⟩
  obtain ⟨hna, hca⟩ := hA.rd _ _ hru
  rw [show ruE l ⟨ey, er, en⟩ = ru from ruE_at hru]
  have h2 := fun w' (hw : Bel w.heap.size w w') => first19_spec A c l false ru.save w' (hG.up hw) (hA.up hw) h
  have hat2 := fstD_at l false ru.save
  generalize fstD l false ru.save = o2 at *
  rcases o2 with _ | ⟨fy, frr, fn⟩
  ·simp only [evV, Zac.enc, dEv0, Option.isSome] at h2 ⊢
   have hb := fun w' (hw : Bel w.heap.size w w') => ZcM A c l ⟨ey, er, en⟩ w' (hA.up hw) ⟨e0, e1⟩
   unfold stV at hb ⊢
   generalize behS l ⟨ey, er, en⟩ = st at *
   refine Zab Tryz.func148 rfl rfl rfl rfl ?_
   repeat (first | (apply RL_pu; rfl; exact PuStJ0) | (refine js ?_; (first | (refine Zad h1 ?_) | (refine Zad hb ?_) | (refine Zad h2 ?_) | (refine bx ?_; intro bk))) | refine walk1 ?_)
   exact ret_1 _ [] (.cellB rfl (by repeat' constructor) rfl rfl) .nil ⟨rfl, rfl⟩
  ·simp only [evV, Zac.enc, Option.isSome] at h2 ⊢
   have hb := fun w' (hw : Bel w.heap.size w w') => ZcM A c l ⟨fy, frr, fn⟩ w' (hA.up hw) (hat2 _ rfl)
   unfold stV at hb ⊢
   generalize behS l ⟨fy, frr, fn⟩ = st at *
   refine Zab Tryz.func148 rfl rfl rfl rfl ?_
   repeat (first | (apply RL_pu; rfl; exact PuStJ0) | (refine js ?_; (first | (refine Zad h1 ?_) | (refine Zad hb ?_) | (refine Zad h2 ?_) | (refine bx ?_; intro bk))) | refine walk1 ?_)
   exact ret_1 _ [] (.cellB rfl (by repeat' constructor) rfl rfl) .nil ⟨rfl, rfl⟩
theorem ZdN (A : Option Addr) (c : Nat) (l : List Zaa) (nominal : Int) (w : World) (hG : Glob w) (hA : RdSl w A c Zaa.enc 11 l) (h : RsSm l) (ht : -4611686018427387904 ≤ nominal ∧ nominal ≤ 4611686018427387904) :
  Does Tryz.prog 150 [.slice A l.length c, .int .i64 nominal] w (fun v O => v = stV (befS l nominal) ∧ O = []) := by
 have h1 := fun w' (hw : Bel w.heap.size w w') => evBefore_spec A c l nominal w' (hG.up hw) (hA.up hw) h.n h.b ht
 have hat := befD_at l nominal
 unfold befS
 generalize befD l nominal = o at *
 rcases o with _ | ⟨ey, er, en⟩
 ·simp only [evV, Zac.enc, dEv0, Option.isSome] at h1 ⊢
  have hb := fun w' (hw : Bel w.heap.size w w') => initial_spec A c l w' (hG.up hw) (hA.up hw) h
  unfold stV at hb ⊢
  generalize iniS l = st at *
  refine Zab Tryz.func150 rfl rfl rfl rfl ?_
  repeat (first | (refine js ?_; (first | (refine Zad h1 ?_) | (refine Zad hb ?_) | (refine bx ?_; intro bk))) | refine walk ?_)
  exact ret_1 _ [] (.cellB rfl (by repeat' constructor) rfl rfl) .nil ⟨rfl, rfl⟩
 ·simp only [evV, Zac.enc, Option.isSome] at h1 ⊢
  have hb := fun w' (hw : Bel w.heap.size w w') => ZcM A c l ⟨ey, er, en⟩ w' (hA.up hw) (hat _ rfl)
  unfold stV at hb ⊢
  generalize behS l ⟨ey, er, en⟩ = st at *
  refine Zab Tryz.func150 rfl rfl rfl rfl ?_
  repeat (first | (refine js ?_; (first | (refine Zad h1 ?_) | (refine Zad hb ?_) | (refine bx ?_; intro bk))) | refine walk ?_)
  exact ret_1 _ [] (.cellB rfl (by repeat' constructor) rfl rfl) .nil ⟨rfl, rfl⟩
theorem ruE_bd {l : List Zaa} (h : RsSm l) (e : Zac) : -1000000000 ≤ (ruE l e).save ∧ (ruE l e).save ≤ 1000000000 := by
 unfold ruE
 rw [List.getD_eq_getElem?_getD]
 cases hx : l[e.rule.toNat]? with
 | none => exact ⟨by decide, by decide⟩
 | some r => exact h.s r (List.mem_of_getElem? hx)
theorem iniS_bd {l : List Zaa} (h : RsSm l) : -1000000000 ≤ (iniS l).1 ∧ (iniS l).1 ≤ 1000000000 := by
 unfold iniS
 cases fstD l true 0 with
 | none =>
  dsimp only
  exact ⟨by decide, by decide⟩
 | some e =>
  dsimp only
  cases fstD l false (ruE l e).save with
  | none => exact ruE_bd h e
  | some o => exact ruE_bd h o
theorem befS_bd {l : List Zaa} (h : RsSm l) (n : Int) : -1000000000 ≤ (befS l n).1 ∧ (befS l n).1 ≤ 1000000000 := by
 unfold befS
 cases befD l n with
 | none => exact iniS_bd h
 | some e => exact ruE_bd h e
theorem PuStK1 {G : Prop} (h : G := by (apply ZaI; rfl; rfl; first | exact q0 | exact q1)) : G := h
set_option maxHeartbeats 4000000 in
theorem inst_spec (A : Option Addr) (c : Nat) (l : List Zaa) (e : Zac) (off : Int) (w : World) (hG : Glob w) (hA : RdSl w A c Zaa.enc 11 l) (h : RsSm l) (he : 0 ≤ e.rule ∧ e.rule < l.length) (hnm : -1000000000000000000 ≤ e.nominal ∧ e.nominal ≤ 1000000000000000000) (ho : -1000000000 ≤ off ∧ off ≤ 1000000000) :
  Does Tryz.prog 112 [.slice A l.length c, .agg e.enc.toArray, .int .i64 off] w (fun v O => v = .int .i64 (instE l e off) ∧ O = []) := by
 have hle := hA.le
 have hcp := hA.cap
 simp only [maxLen] at hcp
 obtain ⟨ru, hru⟩ : ∃ ru, l[e.rule.toNat]? = some ru := ⟨_, List.getElem?_eq_getElem (by omega)⟩
 obtain ⟨hna, hca⟩ := hA.rd _ _ hru
 have hba := fun w' (hw : Bel w.heap.size w w') => base19_spec A c l w' (hA.up hw)
 have hbf := fun w' (hw : Bel w.heap.size w w') => ZdN A c l e.nominal w' (hG.up hw) (hA.up hw) h (by omega)
 have hbd := befS_bd h e.nominal
 have hld := Zex l h.r
 have hld2 : -1000000000 ≤ max (Zaj l) (-10800) ∧ max (Zaj l) (-10800) ≤ 0 := by omega
 unfold instE
 rw [ruE_at hru]
 obtain ⟨ey, er, en⟩ := e
 dsimp only at he hnm hru hca hbf hbd ⊢
 have b1 : decide (er < 0) = false := decide_eq_false (by omega)
 have b2 : decide ((l.length : Int) ≤ er) = false := decide_eq_false (by omega)
 have hcb : w.cell? ((((adr A).add (er.toNat * 11)).add 7).add 1) = some (.int .i64 ru.at_.base) := by
  rw [Zba]
  exact hca 8 _ rfl
 clear hru hca
 generalize ru.at_.base = rb at *
 generalize max (Zaj l) (-10800) = mb at *
 unfold stV at hbf
 generalize befS l en = st at *
 obtain ⟨sv, sl⟩ := st
 dsimp only at hbd hbf ⊢
 show Does _ _ [_, .agg #[.int .i64 ey, .int .i64 er, .int .i64 en], _] w _
 refine Zab Tryz.func112 rfl rfl rfl rfl ?_
 repeat (first | refine und ?_ | (apply RL_pu; rfl; (first | (apply Zbv; rfl; rfl; exact b1) | (apply ZeM; rfl; rfl; exact b2) | exact PuI | (apply Pu_loadO1; rfl; exact hcb))) | (refine js ?_; (refine bx ?_; intro bk)) | refine walk1 ?_)
 rename_i b4 b7
 generalize bk = b8
 refine Zag rfl (fun hc => ?_) (fun hc => ?_)
 ·obtain rfl : rb = 1 := of_decide_eq_true hc
  rw [if_pos rfl]
  obtain ⟨x1, hx1⟩ : ∃ x1, mb = x1 := ⟨_, rfl⟩
  rw [hx1] at hba hld2 ⊢
  repeat (first | (refine js ?_; (first | (refine Zad hba ?_) | (apply Zd5 (f := 160) (us := []) (vs := [.int .i64 x1]) (cs := [.pointer (some ⟨b7, 0, none⟩), .pointer (some ⟨b8, 0, none⟩)]) (h := ZeT (.blk b4 [.int .i64 ey, .int .i64 er, .int .i64 en] 182) x1 en b7 b8 w (by omega) (by omega)); rfl; rfl; exact SOA; rintro v O' ⟨rfl, rfl⟩) | (apply Zd5 (f := 160) (us := []) (vs := [.int .i64 off]) (cs := [.pointer (some ⟨b7, 0, none⟩), .pointer (some ⟨b8, 0, none⟩)]) (h := ZeT (.blk b4 [.int .i64 ey, .int .i64 er, .int .i64 en] 182) off (en - x1) b7 b8 w (by omega) (by omega)); rfl; rfl; exact SOA; rintro v O' ⟨rfl, rfl⟩) | (refine bx ?_; intro bk))) | refine walk ?_)
  exact rtA
 ·have hn1 : ¬ rb = 1 := of_decide_eq_false hc
  have q1 : decide (rb = 1) = false := decide_eq_false hn1
  rw [if_neg hn1]
  by_cases h0 : rb = 0
  ·have q0 : decide (rb = 0) = true := decide_eq_true h0
   rw [if_pos h0]
   obtain ⟨x1, hx1⟩ : ∃ x1, sv = x1 := ⟨_, rfl⟩
   rw [hx1] at hbf hbd ⊢
   repeat (first | (apply RL_pu; rfl; exact PuStK1) | (refine js ?_; (first | (refine Zad hbf ?_) | (apply Zd5 (f := 160) (us := []) (vs := [.int .i64 x1]) (cs := [.pointer (some ⟨b7, 0, none⟩), .pointer (some ⟨b8, 0, none⟩)]) (h := ZeT (.blk b4 [.int .i64 ey, .int .i64 er, .int .i64 en] 182) x1 en b7 b8 w (by omega) (by omega)); rfl; rfl; exact SOA; rintro v O' ⟨rfl, rfl⟩) | (apply Zd5 (f := 160) (us := []) (vs := [.int .i64 off]) (cs := [.pointer (some ⟨b7, 0, none⟩), .pointer (some ⟨b8, 0, none⟩)]) (h := ZeT (.blk b4 [.int .i64 ey, .int .i64 er, .int .i64 en] 182) off (en - x1) b7 b8 w (by omega) (by omega)); rfl; rfl; exact SOA; rintro v O' ⟨rfl, rfl⟩) | (refine bx ?_; intro bk))) | refine walk1 ?_)
   exact rtA
  ·have q0 : decide (rb = 0) = false := decide_eq_false h0
   rw [if_neg h0]
   repeat (first | (apply RL_pu; rfl; exact PuStK1) | (refine js ?_; (refine bx ?_; intro bk)) | refine walk1 ?_)
   exact rtA
end Go.Proofs.YtpcpmndldgejiaaGreatDoor
