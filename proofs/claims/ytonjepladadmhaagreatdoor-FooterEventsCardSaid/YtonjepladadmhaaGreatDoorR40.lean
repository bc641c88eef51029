/- Engine: ranges over maps. Contracts: maps.Copy. Contracts: maps.Keys, slices.AppendSeq at it. Contracts: state.firsts. Engine: regions that draw, in a round of a range over a function or beside deferred calls. -/
import Derived.Maps.RangeRun
import Derived.ChangeMaps4
import Derived.Test.YtonjepladadmhaaGreatDoorR14
import Derived.Test.YtonjepladadmhaaGreatDoorR20
import Derived.Test.YtonjepladadmhaaGreatDoorR22
import Derived.Test.YtonjepladadmhaaGreatDoorR39
import Derived.OrdersIn
set_option maxHeartbeats 4000000
set_option linter.unusedVariables false
set_option linter.unusedSimpArgs false
namespace Go.Wk
open Go Go.RowKit Go.ChangeMaps
def Rng (b r : Nat) (m left : List (ByteArray × Value)) (cur : Option (ByteArray × Value)) (w : World) : Prop :=
 ∃ (es : Array MapEntry) (clock since : Nat) (seen : Array Nat) (c0 : Nat), w.heap[b]? = some (.map es clock) ∧ entriesOf m es ∧ stOk es clock ∧ (∀ x ∈ es.toList, x.born < since) ∧ since ≤ c0 ∧ since ≤ clock ∧ w.heap[r]? = some (.mapIter (some b) since seen c0) ∧ entriesOf left (leftOf es seen) ∧
  ∀ kv, cur = some kv → ∃ e ∈ es.toList, ∃ s0 : Array Nat, seen = s0.push e.born ∧ c0 = clock ∧ e.key = .string kv.1 ∧ e.val = kv.2
theorem Rng.congr {b r : Nat} {m left : List (ByteArray × Value)} {cur : Option (ByteArray × Value)} {w w' : World} (h : Rng b r m left cur w) (h1 : w'.heap[b]? = w.heap[b]?) (h2 : w'.heap[r]? = w.heap[r]?) : Rng b r m left cur w' := by
 obtain ⟨es, clock, since, seen, c0, a1, a2, a3, a4, a5, a5', a6, a7, a8⟩ := h
 exact ⟨es, clock, since, seen, c0, h1.trans a1, a2, a3, a4, a5, a5', h2.trans a6, a7, a8⟩
section
variable {P : Program} {n : Nat} {wr : World} {fr : Fr} {O : List It} {ty : TypeId} {pos : String} {af : Array Edge} {dst : Option Tmp} {g : Option (Nat × Bool)} {Kp : Value → List It → Prop}
end
end Go.Wk
namespace Go.Proofs.YtonjepladadmhaaGreatDoor
open Go Go.RowKit Go.Wk
attribute [local irreducible] W RL Does thenQ blockQ retQ Calls Pu Stp RD Qy Ay DoesIn
end Go.Proofs.YtonjepladadmhaaGreatDoor
set_option maxHeartbeats 2000000
namespace Go.Wk
open Go Go.RowKit
theorem DoesIn_marks {P : Program} {n : Nat} {f : FuncId} {fn : Func} {c : Code} {args : List Value} {wr w : World} {O : List It} {R : Ending → World → Prop} (hf : P.funcs[f]? = some fn) (hb : fn.body = some c) (hn : fn.ntmps = n) (ha : Nat.ble args.length n = true)
  (hB : Bel wr.heap.size wr w) (hH : Holds wr.heap.size O w) (h : ∀ a, St n wr (argsFr 0 args) O a w → c.wp P (bodyPostM Fence.wide 0 P fn R) a w) : Calls P f args.toArray w R := by
 refine (callsIn_wide (n := 0)).1 (callsIn_of_wp_marks hf hb trivial ?_)
 refine (wpIn_wide (n := 0)).2 (h _ ?_)
 have ha' : args.length ≤ n := Nat.le_of_ble_eq_true ha
 refine ⟨⟨rfl, by simp; omega, fun t v hv => ?_⟩, hB, hH⟩
 have := (look_argsFr args 0 t v hv).2
 simp only [Nat.sub_zero] at this
 have hlt : t < args.length := (List.getElem?_eq_some_iff.1 this).1
 rw [Array.getElem?_append_left (by simpa using hlt)]
 simpa using this
end Go.Wk
namespace Go.Proofs.YtonjepladadmhaaGreatDoor
open Go Go.RowKit Go.Wk
attribute [local irreducible] W RL Does thenQ blockQ retQ Calls Pu Stp RD Qy Ay DoesIn RLI WI
def firstsR (A : Option Addr) (n c : Nat) (v : Value) (O : List It) : Prop := ∃ bl, v = .func (.func 203) #[] #[.pointer (some ⟨bl, 0, none⟩)] ∧ O = [.blk bl [.slice A n c] 40]
theorem firsts_spec (A : Option Addr) (n c : Nat) (w : World) : Does Tryz.prog 174 [.slice A n c] w (firstsR A n c) := by
 refine Does_of_W Tryz.func174 rfl rfl rfl rfl ?_
 repeat (first | (refine js ?_; (refine bx ?_; intro bk)) | refine walk ?_)
 exact ret_1 _ [.blk bk [.slice A n c] 40] (.tmp rfl) SOA ⟨bk, rfl, rfl⟩
structure FiG (σ : Type) where
 k : Nat
 d : List DEvent
 s : σ
set_option maxRecDepth 20000
theorem PuStF1 {G : Prop} (h : G := by (apply Pu_loadB1; rfl; (focus repeat' constructor); rfl)) : G := h
set_option maxHeartbeats 4000000 in
theorem firsts1_spec {σ : Type} (L bl : Nat) (A : Option Addr) (c : Nat) (l : List DRule) (OC : σ → List It) (Inv : List DEvent → σ → Prop) (wr : World) (s0 : σ) (h0 : Inv [] s0) (hG : Glob wr) (hA : RdSl wr A c DRule.enc 11 l) (hn : l.length ≤ 1000000) (hR : ∀ r ∈ l, -4611686018427387904 ≤ r.save ∧ r.save ≤ 4611686018427387904) (hF : ∀ r ∈ l, r.from_ ≤ 4611686018427387904)
  (hY : ∀ (d : List DEvent) (e : DEvent) (s : σ) (X Y : It), (∃ (k : Nat) (r : DRule), l[k]? = some r ∧ e.rule = k) → Inv d s → YieldsTo Tryz.prog L (.agg e.enc.toArray) wr (X :: Y :: OC s) fun bb O' => bb = true ∧ ∃ s', Inv (d ++ [e]) s' ∧ SubO (X :: Y :: OC s') O') :
  DoesIn Tryz.prog 203 [.func (.yield L) #[] #[], .pointer (some ⟨bl, 0, none⟩)] wr (.blk bl [.slice A l.length c] 40 :: OC s0)
   (fun v O' => v = .tuple #[] ∧ ∃ s', Inv (firL (leastD l) l 0) s' ∧ SubO (.blk bl [.slice A l.length c] 40 :: OC s') O') := by
 have hon := fun (i : Nat) r (hi : l[i]? = some r) y w' (hw : Bel wr.heap.size wr w') => evOn_spec A c l i y r w' (hG.up hw) (hA.up hw) hi hn hR
 have hru : ∀ (r : DRule) (i y : Int) e, onR (leastD l) r i y = some e → e.rule = i := fun r i y e h => by
  unfold onR at h
  split at h
  ·cases h
  ·split at h
   ·cases h
   ·cases h; rfl
 generalize leastD l = least at *
 obtain ⟨res, hres⟩ : ∃ res, firL least l 0 = res := ⟨_, rfl⟩
 rw [hres]
 have hle := hA.le
 have hcp := hA.cap
 simp only [maxLen] at hcp
 refine DoesIn_of_W Tryz.func203 rfl rfl rfl rfl ?_
 repeat (first | (refine js ?_; (refine bx ?_; intro bk)) | refine walk ?_)
 refine W_loopF [(0, .func (.yield L) #[] #[]), (1, .pointer (some ⟨bl, 0, none⟩)), (9, .slice A l.length c), (10, .int .i64 l.length)] [] (fun g : FiG σ => [(11, .int .i64 g.k)]) (fun g => .blk bl [.slice A l.length c] 40 :: OC g.s) (fun g => g.k ≤ l.length ∧ Inv g.d g.s ∧ g.d ++ firL least (l.drop g.k) g.k = res) (fun g => l.length - g.k) ⟨0, [], s0⟩ SFA ?_ ⟨Nat.zero_le _, h0, by dsimp only; rw [List.drop_zero, List.nil_append]; exact hres⟩ ?_
 ·rw [List.append_nil]; exact .refl _
 clear hres
 rintro ⟨k, d, s⟩ ⟨hk, hi, hd⟩
 dsimp only at hk hi hd ⊢
 rw [List.append_nil]
 repeat (first | (refine js ?_; (refine bx ?_; intro bk)) | refine walk ?_)
 refine W_cond rfl (fun hc => ?_) (fun hc => ?_)
 ·have hkl : k < l.length := by simpa using hc
  have hge := List.getElem?_eq_getElem hkl
  obtain ⟨hna, hca⟩ := hA.rd k _ hge
  have hfr := hF _ (List.getElem_mem hkl)
  rw [drop_cons hkl, firL] at hd
  generalize l[k] = r at *
  obtain ⟨f0, hf0⟩ : ∃ f0, max r.from_ (-2000000000) = f0 := ⟨_, rfl⟩
  have hmx : (if r.from_ < -2000000000 then -2000000000 else r.from_) = f0 := by rw [← hf0]; split <;> omega
  have hfb : -2000000000 ≤ f0 ∧ f0 ≤ 4611686018427387904 := by omega
  rw [hf0] at hd
  have hon1 := hon k r hge
  obtain ⟨r1, hr1⟩ : ∃ r1, fiIn least r k f0 9 = r1 := ⟨_, rfl⟩
  rw [hr1] at hd
  obtain ⟨nm, fr, to, mo, ⟨dk, dw, dd⟩, ⟨cs, cb⟩, sv, le⟩ := r
  change CellsAt wr _ [.string nm, .int .i64 fr, .int .i64 to, .int .i64 mo, .int .i64 dk, .int .i64 dw, .int .i64 dd, .int .i64 cs, .int .i64 cb, .int .i64 sv, .string le] at hca
  dsimp only at hmx
  repeat (first | (refine js ?_; (refine bx ?_; intro bk)) | refine walkB ?_)
  refine W_block ?_
  repeat (first | (apply RL_pu; rfl; (first | exact PuI | (apply Pu_maxK; rfl; rfl; exact hmx))) | (refine js ?_; (refine bx ?_; intro bk)) | refine walkB1 ?_)
  refine W_post (fun fr' O' => ∃ s', Inv (d ++ r1.toList) s' ∧ Sub [(0, .func (.yield L) #[] #[]), (1, .pointer (some ⟨bl, 0, none⟩)), (9, .slice A l.length c), (10, .int .i64 l.length), (11, .int .i64 k)] fr' ∧ SubO (.blk bl [.slice A l.length c] 40 :: OC s') O') ?_ ?_
  ·repeat (first | (refine js ?_; (refine bx ?_; intro bk)) | refine walk ?_)
   refine W_loopF [(0, .func (.yield L) #[] #[]), (1, .pointer (some ⟨bl, 0, none⟩)), (3, .int .i64 k), (5, .int .i64 f0), (9, .slice A l.length c), (10, .int .i64 l.length), (11, .int .i64 k)] [] (fun g : Nat × Int => [(6, .int .i64 g.2)]) (fun _ => .blk bl [.slice A l.length c] 40 :: OC s) (fun g => g.1 ≤ 9 ∧ g.2 = f0 + g.1 ∧ fiIn least ⟨nm, fr, to, mo, ⟨dk, dw, dd⟩, ⟨cs, cb⟩, sv, le⟩ k g.2 (9 - g.1) = r1) (fun g => 9 - g.1) (0, f0) SFA ?_ ⟨Nat.zero_le _, by simp, hr1⟩ ?_
   ·rw [List.append_nil]
    exact .drop (.refl _)
   clear hr1
   rintro ⟨j, y⟩ ⟨hj, hy, hf⟩
   dsimp only at hj hy hf ⊢
   rw [List.append_nil]
   repeat (first | (refine js ?_; (refine bx ?_; intro bk)) | refine walk ?_)
   refine W_cond rfl (fun hc2 => ?_) (fun hc2 => ?_)
   ·have hj9 : j < 9 := by have := of_decide_eq_true hc2; omega
    rw [show 9 - j = (8 - j) + 1 by omega, fiIn] at hf
    have ho := hon1 y
    have hro := hru ⟨nm, fr, to, mo, ⟨dk, dw, dd⟩, ⟨cs, cb⟩, sv, le⟩ k y
    generalize onR least _ k y = o at *
    cases o with
    | none =>
     simp only [evV, DEvent.enc, dEv0, Option.isSome] at ho hf
     repeat (first | (apply RL_pu; rfl; exact PuStF1) | (refine js ?_; (first | (refine callE ho ?_) | (refine bx ?_; intro bk))) | refine walk1 ?_)
     refine ⟨(j + 1, y + 1), OA, ⟨OA, by dsimp only; omega, by dsimp only; rw [show 9 - (j + 1) = 8 - j by omega]; exact hf⟩, SFA, ?_⟩
     exact .drop (.refl _)
    | some e =>
     have her := hro e rfl
     obtain ⟨ey, er, en⟩ := e
     simp only [evV, DEvent.enc, Option.isSome] at ho hf her
     subst hf
     repeat (first | (apply W_regionY; rfl; rfl; rfl; (intro c h; cases h); rfl; (apply Pu_loadNf; rfl; (focus repeat' constructor); exact NfA; rfl); rfl; rfl; exact hY d ⟨ey, er, en⟩ s _ _ ⟨k, _, hge, her⟩ hi; rintro bb O' ⟨rfl, s', hi', hO'⟩) | (apply RL_pu; rfl; exact PuStF1) | (refine js ?_; (first | (refine callE ho ?_) | (refine bx ?_; intro bk))) | refine walk1 ?_)
     apply RLI_pu (.inl rfl); rfl; (intro c h; cases h); (apply Pu_not; rfl)
     refine RLI_nil ?_
     apply thenQ_n
     refine W_cond rfl (fun h => (by cases h)) (fun h => ?_)
     repeat (first | (refine js ?_; (refine bx ?_; intro bk)) | refine walk ?_)
     exact ⟨rfl, s', hi', SFA, SubO.trans (.drop (.refl _)) hO'⟩
   ·obtain rfl : j = 9 := by have := of_decide_eq_false hc2; omega
    obtain rfl : none = r1 := hf
    repeat (first | (refine js ?_; (refine bx ?_; intro bk)) | refine walk ?_)
    exact ⟨rfl, s, by rw [Option.toList, List.append_nil]; exact hi, SFA, .refl _⟩
  ·rintro fr' O' ⟨s', hi', hf', hO'⟩
   apply blockQ_n
   apply thenQ_n
   refine W_sub hf' hO' ?_
   repeat (first | (refine js ?_; (refine bx ?_; intro bk)) | refine walk ?_)
   exact ⟨⟨k + 1, d ++ r1.toList, s'⟩, OA, ⟨OA, hi', by dsimp only; rw [List.append_assoc]; exact hd⟩, SFA, by rw [List.append_nil]; exact .refl _⟩
 ·obtain rfl : k = l.length := by simp only [decide_eq_false_iff_not, Int.ofNat_lt] at hc; omega
  rw [List.drop_length, firL, List.append_nil] at hd
  subst hd
  repeat (first | (refine js ?_; (refine bx ?_; intro bk)) | refine walk ?_)
  exact ret_0 _ (.refl _) ⟨rfl, s, hi, .refl _⟩
end Go.Proofs.YtonjepladadmhaaGreatDoor
namespace Go.Wk
open Go Go.RowKit
def calmOp : Op → Bool
 | .move _ | .assign _ | .pick .. | .alloc _ | .box .. | .build .. | .load .. | .store .. | .binOp .. | .unOp .. | .convert .. | .fieldAddr .. | .field .. | .indexAddr .. | .index .. => true
 | _ => false
theorem calm_v {P : Program} (s : Sem Value) (w : World) : calm ((do pure (.value (← s)) : Sem Next).run P w) := by
 simp only [Sem.run_bind]
 generalize s.run P w = r
 cases r <;> simp [calm, Result.andThen]
theorem calm_u {P : Program} (s : Sem Unit) (w : World) : calm ((do s; pure .skip : Sem Next).run P w) := by
 simp only [Sem.run_bind]
 generalize s.run P w = r
 cases r <;> simp [calm, Result.andThen]
theorem calm_of {P : Program} {ρ : Operand → Value} {o : Oper} (h : calmOp o.op = true) (w : World) : calm ((execOp ρ o).run P w) := by
 obtain ⟨dst, op, ty, pos, af, g⟩ := o
 cases op <;> first | (cases h; done) | exact calm_v _ w | exact calm_u _ w | skip
 case move x => simp [execOp, calm]
 case assign x => simp [execOp, calm]
 case pick c a b =>
  simp only [execOp, Sem.run_bind]
  generalize (asBool _).run P w = r
  cases r <;> simp [calm, Result.andThen]
theorem calmOp_defer {o : Oper} (h : calmOp o.op = true) : ∀ c, o.op ≠ .defer c := by
 intro c hc
 rw [hc] at h
 cases h
theorem wp_toInN {F : Fence} (hF : WF F) {n : Nat} {P : Program} {o : Oper} {a a2 : Act} {w : World} {K K2 : Act → World → Prop} {Q Q2 : Exit → Act → World → Prop} (he : a2.eval = a.eval) (hd : ∀ c, o.op ≠ .defer c) (hc : calm ((execOp a.eval o).run P w)) (h : o.wp P a w K Q) (hQ : ∀ e a w, Q e a w → e = .normal)
  (hK : ∀ v w', K (a.put o.dst v) w' → K2 (a2.put o.dst v) w') : o.wpIn F n P a2 w K2 Q2 := by
 refine ⟨fun f _ => hF.fn f, ?_⟩
 rw [Oper.semAt_eq _ _ _ hd, he]
 unfold Oper.wp at h
 generalize (execOp a.eval o).run P w = r at *
 cases r with
 | ok nx w' =>
  cases nx with
  | value v => exact hK _ _ h
  | skip => exact hK _ _ h
  | enter f args =>
   rw [Oper.upon_enter] at h
   rw [Oper.uponIn_enter]
   refine ⟨fun hh => (by rw [hF.depth] at hh; cases hh), (hF.calls h).mono ?_⟩
   intro e w'' he
   cases e with
   | returned v => exact hK _ _ he
   | panicked c => cases hQ _ _ _ he
   | outgrown => exact he.elim fun a h => h.elim fun w h => (by cases hQ _ _ _ h)
  | _ => exact hc.elim
 | halt x w' =>
  cases x with
  | panic v => cases hQ _ _ _ h
  | _ => exact h.elim
section
variable {F : Fence} {P : Program} {n : Nat} {wr : World} {ops : Array Oper} {K : Fr → List It → Prop} {fr : Fr} {O : List It} {D : List Deferred}
theorem any_toIn (hF : WF F) (hc : ∀ o ∈ ops.toList, calmOp o.op = true) {Q Q2 : Exit → Act → World → Prop} (hQ : ∀ e a w, Q e a w → e = .normal) (hK : ∀ a w, Q .normal a w → Q2 .normal (actD D a) w) :
  ∀ (m : Nat) (listed : Array Bool) (a : Act) (w : World), wpAny P .any ops Q m listed a w → wpAnyIn F 0 P .any ops Q2 m listed (actD D a) w := by
 intro m
 induction m with
 | zero => intro listed a w h; exact ⟨h.1, hK _ _ h.2⟩
 | succ m ih =>
  intro listed a w h
  refine ⟨fun hr => hK _ _ (h.1 hr), fun i hi => ?_⟩
  have h1 := h.2 i hi
  unfold wpOp at h1
  unfold wpOpIn
  cases ho : ops[i]? with
  | none => rw [ho] at h1; exact ih _ _ _ h1
  | some o =>
   rw [ho] at h1
   have hco : calmOp o.op = true := hc o (by
    rw [Array.mem_toList_iff]
    exact Array.mem_of_getElem? ho)
   dsimp only at h1 ⊢
   rw [show (actD D a).tmps = a.tmps from rfl]
   by_cases hw : Region.wanted o (yielded ops a.tmps) = true
   ·rw [if_pos hw] at h1 ⊢
    rcases h1 with h1 | ⟨_, h1⟩
    ·exact wp_toInN (a := a) hF rfl (calmOp_defer hco) (calm_of hco w) h1 hQ fun v w' hk => by
      rw [actD_put]
      exact ih _ _ _ hk
    ·obtain ⟨_, _, h2⟩ := h1
     cases hQ _ _ _ h2
   ·rw [if_neg hw] at h1 ⊢
    refine ⟨fun f _ => hF.fn f, ?_⟩
    rw [actD_put]
    exact ih _ _ _ h1
theorem any_of_RD {l : List Oper} (hac : acyc l.toArray = true) (h : RD P n wr l.toArray (enum 0 l) [] [] K fr O) {a : Act} {w : World} (hs : St n wr fr O a w) :
  wpAny P .any l.toArray (regQF n wr [] K) l.toArray.size (Array.replicate l.toArray.size false) a { w with drawn := w.drawn + 1 } := by
 have h1 := h ⟨by simp [enum_idx, List.nodup_range'], by simp, trivial, trivial, fun p hp => by simpa using (enum_mem l 0 p hp).2⟩ l.length [] [] [] [] a { w with drawn := w.drawn + 1 } (List.Sublist.refl _) (by simp)
  (by have h := hs.drawn (m := w.drawn + 1) (Nat.le_succ _); rw [show O ++ (yItems [] ++ []) = O from by simp [yItems]]; exact h) (by simp [enum_len]) (fun k o hk hn => absurd (by
   have hlt : k < l.length := by have := (Array.getElem?_eq_some_iff.1 hk).1; simpa using this
   have : k ∈ (enum 0 l).map (·.1) := by rw [enum_idx]; simp; exact hlt
   obtain ⟨p, hp, rfl⟩ := List.mem_map.1 this
   exact .inl ⟨p, hp, rfl⟩) hn)
 refine wpAny_of_T hac _ _ _ _ _ (by simp) ?_ (by simpa using h1)
 intro j
 unfold Tof
 constructor
 ·rintro (⟨p, hp, rfl⟩ | ⟨_, hh, _⟩ | ⟨_, hh, _⟩)
  ·have := (List.getElem?_eq_some_iff.1 (enum_mem l 0 p hp).2).1
   have h2 : p.1 < l.length := by omega
   simp [Array.getD_eq_getD_getElem?, h2]
  ·cases hh
  ·cases hh
 ·intro hj
  have hlt : j < l.length := by
   rcases Nat.lt_or_ge j l.length with h0 | h0
   ·exact h0
   ·rw [Array.getD_eq_getD_getElem?, Array.getElem?_eq_none (by simpa using h0)] at hj
    simp at hj
  have : j ∈ (enum 0 l).map (·.1) := by rw [enum_idx]; simp; exact hlt
  obtain ⟨p, hp, rfl⟩ := List.mem_map.1 this
  exact .inl ⟨p, hp, rfl⟩
theorem WI_draw {Q : Exit → Fr → List It → Prop} {id : Nat} {l : List Oper} (hF : WF F) (hm : P.follows .mixedOrders = true) (hac : acyc l.toArray = true) (hc : l.all (fun o => calmOp o.op) = true) (h : RD P n wr l.toArray (enum 0 l) [] [] (Q .normal) fr O) : WI F D P n wr (.region id l.toArray true) Q fr O := by
 intro a w hs
 have h1 := any_of_RD hac h hs
 refine wpIn_region_any hm (any_toIn hF (fun o ho => List.all_eq_true.1 hc o (by simpa using ho)) (fun e a w he => he.1) ?_ _ _ _ _ h1)
 rintro a' w' ⟨_, fr', O', hs', hq⟩
 refine ⟨rfl, fr', O', ?_, hq⟩
 have hs2 : St n wr fr' O' a' w' := by simpa using hs'
 rw [actD_nil hs2]
 exact hs2
theorem yields_roundA {l p : Nat} {r : Loop} {v : Value} {a0 : Act} {R : Bool → List It → Prop} (hp : r.params = #[p]) (hr : r.state = .ready) (ht : r.tmps = a0.tmps) (hsim : Sim n fr a0) (hpn : Nat.ble (p + 1) n = true)
  (hmem : LoopIt l r ∈ O) {id : Nat} {la : List Oper} (hass : r.assign = .region id la.toArray false)
  (hb : RLI (Fence.wide.inRound l) [] P n wr la.toArray la (fun fr' O' => ∃ O1, Upd O' (LoopIt l r) (LoopIt l { r with state := .busy }) O1 ∧ WI (Fence.wide.inRound l) [] P n wr r.body (roundQ l r R) fr' O1) ((p, v) :: fr) O) : YieldsTo P l v wr O R := by
 intro w hB hH
 have hl := LoopIt.at (hH.sat _ hmem)
 have hy := run_yield (P := P) (args := #[v]) hl (by rw [hp]; rfl)
 rw [hp, ht] at hy
 refine ⟨r.fn, _, r.assign, r.body, hy, roundIn_of_wpIn trivial ?_⟩
 have hst : St n wr ((p, v) :: fr) O { tmps := a0.tmps.setIfInBounds p v, defers := [] } w := by
  have := hsim.put hpn v
  refine ⟨?_, hB, hH⟩
  have e : ({ tmps := a0.tmps.setIfInBounds p v, defers := [] } : Act) = a0.put (some p) v := by
   have := hsim.defers
   simp [Act.put, this]
  rw [e]
  exact this
 rw [hass, show Array.foldl (fun tmps (x : Tmp × Value) => match x with | (t, a) => tmps.setIfInBounds t a) a0.tmps (#[p].zip #[v]) = a0.tmps.setIfInBounds p v by simp]
 refine wpIn_mono (wpIn_region_lit (hb _ w hst)) ?_
 rintro e a' w' ⟨rfl, hd, fr', O', hs', O1, hu, hW⟩
 have hl' := LoopIt.at (hs'.own.sat _ hu.mem)
 refine ⟨_, run_beginRound hl' hr, ?_⟩
 have hs2 := turn_loop hs' hu
 have h3 := hW _ _ hs2
 rw [actD_back hd] at h3
 refine wpIn_mono h3 ?_
 rintro e2 a2 w2 ⟨hd2, fr2, O2, hs3, hq⟩
 cases e2 with
 | normal =>
  obtain ⟨O3, hu3, hR⟩ := hq
  have hl3 := LoopIt.at (hs3.own.sat _ hu3.mem)
  have hs4 := turn_loop hs3 hu3
  exact ⟨_, _, run_endRound none hl3, true, O3, rfl, hs4.old, hs4.own, hR⟩
 | ret =>
  obtain ⟨O3, hu3, hR⟩ := hq
  have hl3 := LoopIt.at (hs3.own.sat _ hu3.mem)
  have hs4 := turn_loop hs3 hu3
  exact ⟨_, _, run_endRound (some .ret) hl3, false, O3, rfl, hs4.old, hs4.own, hR⟩
 | exit id => exact hq.elim
 | goto t => exact hq.elim
 | panic ch => exact hq.elim
 | outgrown => exact hq.elim
theorem WI_exit {Q : Exit → Fr → List It → Prop} {id : Nat} (h : Q (.exit id) fr O) : WI F D P n wr (.exit id) Q fr O := fun a _ hs => wpIn_exit ⟨rfl, fr, O, by rw [actD_nil hs]; exact hs, h⟩
end
end Go.Wk
