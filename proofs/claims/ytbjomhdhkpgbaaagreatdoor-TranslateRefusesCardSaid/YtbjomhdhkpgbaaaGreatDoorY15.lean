/- Parts of the proof. -/
import Derived.Test.YtbjomhdhkpgbaaaGreatDoorY06
import Derived.Test.YtbjomhdhkpgbaaaGreatDoorY10
import Derived.Test.YtbjomhdhkpgbaaaGreatDoorY13
import Derived.Test.YtbjomhdhkpgbaaaGreatDoorY12
import Derived.OrdersIn
import Derived.Test.YtbjomhdhkpgbaaaGreatDoorY14
set_option maxHeartbeats 4000000
set_option linter.unusedVariables false
set_option linter.unusedSimpArgs false
namespace Go.Proofs.YtbjomhdhkpgbaaaGreatDoor
open Go Go.RowKit Go.Wk
attribute [local irreducible] W RL Does Zap Zak retQ Calls Pu Stp RD Qy Ay
theorem Zyr {G : Prop} (h : G := by (first | (apply Pu_indexAddr; rfl; rfl; omega; omega; (first | exact hna)) | (apply Pu_loadON; rfl; (first | exact hca); rfl))) : G := h
theorem Zd2 (Ar Az Al As : Option Addr) (cr cz cl cs : Nat) (a : Zab) (set : ByteArray) (w : World) (hA : Zaj w Ar Az Al As cr cz cl cs a) (hn : a.rules.length <= 1000000) :
  Does Tryz.prog 87 [srcV Ar Az Al As cr cz cl cs a, .string set] w (ZhD 56 11 DRule.enc (ofB a.rules set)) := by
 generalize hres : ofB a.rules set = res
 refine Zaa Tryz.func87 rfl rfl rfl rfl ?_
 repeat (first | (refine js ?_; (refine bx ?_; intro bk)) | refine walk ?_)
 refine Zdu 56 11 ?_
 refine Zaq [(1, _), (2, _), (4, _), (9, _), (10, _)] [_] (fun g : AG DRule => [(5, .slice g.A g.m g.c), (11, .int .i64 g.k)]) (fun g => [.row (.slice g.A g.m g.c) 56 11 g.m g.xs]) (fun g => g.k <= a.rules.length /\ g.m = g.acc.length /\ g.xs = g.acc.flatMap DRule.enc /\ g.m <= g.k /\ g.acc ++ ofB (a.rules.drop g.k) set = res) (fun g => a.rules.length - g.k) ⟨0, none, 0, 0, [], []⟩ ⟨rfl, rfl, rfl, rfl, rfl, rfl, rfl, trivial⟩ (.cons (by repeat' constructor) (.refl _)) ⟨by simp, rfl, rfl, Nat.le_refl _, by simpa using hres⟩ ?_
 rintro ⟨k, A, c, m, xs, acc⟩ ⟨hk, hm, hx, hmk, hi⟩
 dsimp only at hk hm hx hmk hi ⊢
 repeat (first | (refine js ?_; (refine bx ?_; intro bk)) | refine walk ?_)
 refine Zah rfl (fun hc => ?_) (fun hc => ?_)
 ·simp only [decide_eq_true_eq, Int.ofNat_lt] at hc
  obtain ⟨hna, hca⟩ := hA.r.rd k _ (List.getElem?_eq_getElem hc)
  rw [Zan hc, ofB, List.filter_cons] at hi
  generalize a.rules[k] = r at *
  repeat (first | (apply RL_pu; rfl; exact Zyr) | (refine js ?_; (refine bx ?_; intro bk)) | refine walk1 ?_)
  refine Zah rfl (fun h3 => ?_) (fun h3 => ?_)
  ·rw [if_pos h3] at hi
   repeat (first | (apply RL_pu; rfl; exact Zyr) | (refine js ?_; (first | (apply ZaC; rfl; rfl; (intro A' c'; (focus repeat' constructor)); (intro w' _ hO; exact ZbD (hO.of (by repeat' constructor))); rfl; rfl; (simp only [maxLen]; omega); omega; intro A' c' hc1 hc2 hc3) | (refine bx ?_; intro bk))) | refine walk1 ?_)
   exact ⟨⟨k + 1, A', c', m + 1, xs ++ r.enc, acc ++ [r]⟩, OA, ⟨OA, by simp [hm], by rw [hx]; exact ZmP acc r, OA, by rw [<- hi]; simp [ofB]⟩, SFA, SOA⟩
  rw [h3] at hi
  repeat (first | (refine js ?_; (refine bx ?_; intro bk)) | refine walk ?_)
  exact ⟨⟨k + 1, A, c, m, xs, acc⟩, OA, ⟨OA, hm, hx, OA, hi⟩, SFA, SOA⟩
 simp only [decide_eq_false_iff_not, Int.ofNat_lt] at hc
 rw [List.drop_eq_nil_of_le (by omega)] at hi
 simp only [ofB, List.filter_nil, List.append_nil] at hi
 subst hi
 repeat (first | (refine js ?_; (refine bx ?_; intro bk)) | refine walk ?_)
 exact ret_1 _ [.row (.slice A acc.length c) 56 11 acc.length (acc.flatMap DRule.enc)] (.tmp rfl) (by subst hm hx; exact SOA) ⟨A, c, by rw [hm], rfl⟩
end Go.Proofs.YtbjomhdhkpgbaaaGreatDoor
set_option maxHeartbeats 4000000
namespace Go.Proofs.YtbjomhdhkpgbaaaGreatDoor
open Go Go.RowKit Go.Wk
attribute [local irreducible] W RL Does Zap Zak retQ Calls Pu Stp RD Qy Ay Zal
theorem ZsZ {n : Int} (h : -1000000000 <= n /\ n <= 1000000000) : I64 n := ⟨by omega, by omega⟩
theorem ZsT {a : Zab} (h : srcM a = true) {r : DRule} (hr : r ∈ a.rules) : rulM r = true := by
 unfold srcM at h
 rw [Bool.and_eq_true, List.all_eq_true] at h
 exact h.1 r hr
theorem ZkI {a : Zab} (h : srcM a = true) {z : ZaX} (hz : z ∈ a.zones) {e : DEra} (he : e ∈ z.eras) : eraM e = true := by
 unfold srcM at h
 rw [Bool.and_eq_true, List.all_eq_true, List.all_eq_true] at h
 have := h.2 z hz
 rw [List.all_eq_true] at this
 exact this e he
theorem ZoG {e : DEra} (h : eraM e = true) : (-1000000000 <= e.off /\ e.off <= 1000000000) /\ (-1000000000 <= e.save /\ e.save <= 1000000000) /\ (-1000000000 <= e.til.at_.sec /\ e.til.at_.sec <= 1000000000) /\ e.format.size <= 1000 := by
 unfold eraM at h
 simp only [Bool.and_eq_true, ZbL, decide_eq_true_eq] at h
 exact h
theorem ZnD {G : Prop} (h : G := by (apply ZaG; rfl; rfl; exact e1)) : G := h
theorem ZuX {G : Prop} (h : G := by first | (apply Qy_y; rfl; exact ZnD) | exact QyA) : G := h
theorem ZqZ {G : Prop} (h : G := by repeat (first | exact QF.nil | (apply QF.mk; rfl; rfl; decide +kernel; exact ZuX))) : G := h
theorem Zik (Ar Az Al As : Option Addr) (cr cz cl cs : Nat) (a : Zab) (e : DEra) (w : World) (hA : Zaj w Ar Az Al As cr cz cl cs a) (hn : a.rules.length <= 1000000) (hm : srcM a = true) (he : eraM e = true) :
  Does Tryz.prog 189 [srcV Ar Az Al As cr cz cl cs a, .agg e.enc.toArray] w (fun v O => v = xpV (Zba e (Zaz a.rules e)) /\ O = []) := by
 obtain ⟨b1, b2, _, _⟩ := ZoG he
 have hx0 := fun w' (hw : Bel w.heap.size w w') => ZfR e none 0 [] w' (ZwC _ _ _) (ZsZ b1) (ZsZ b2) (fun r hr => by cases hr) (by decide)
 have hx2 := fun A2 c2 w' h => ZfR e A2 c2 (ofB a.rules e.set) w' h (ZsZ b1) (ZsZ b2) (fun r hr => by
  have := ZsT hm (List.mem_filter.1 hr).1
  unfold rulM at this
  rw [Bool.and_eq_true, ZbL] at this
  exact ZsZ this.1) (Nat.le_trans (List.length_filter_le _ _) hn)
 have hof := fun w' (hw : Bel w.heap.size w w') => Zd2 Ar Az Al As cr cz cl cs a e.set w' (hA.up hw) hn
 unfold Zaz
 obtain ⟨off, kd, sv, st, fm, ⟨is, yr, mo, ⟨dk, dw, dd⟩, ⟨cs', cb⟩⟩⟩ := e
 dsimp only at hx0 hx2 hof ⊢
 show Does _ _ [_, .agg #[.int .i64 off, .int .i64 kd, .int .i64 sv, .string st, .string fm, .bool is, .int .i64 yr, .int .i64 mo, .int .i64 dk, .int .i64 dw, .int .i64 dd, .int .i64 cs', .int .i64 cb]] w _
 simp only [DEra.enc] at hx0 hx2
 unfold xpV at *
 by_cases hk : kd = 2
 ·have e1 : (!decide (kd = 2)) = false := by rw [decide_eq_true hk]; rfl
  rw [if_pos hk]
  refine Zaa Tryz.func189 rfl rfl rfl rfl ?_
  repeat (first | (apply RL_pu; rfl; exact ZnD) | (apply RD_Q; rfl; rfl; decide +kernel; rfl; rfl; exact ZuX) | refine walk1 ?_ | (refine jg ?_; (try intro F); (first | (apply Zac (h := fun w' hw _ => hof w' hw); rfl; rintro v O' ⟨A2, c2, rfl, rfl⟩) | (refine ZaW (fun w' hw hO => hx2 A2 c2 w' (Za4 DRule.len (hO.of (A := .row (.slice A2 (ofB a.rules st).length c2) _ _ _ _) (by repeat' constructor)))) ?_) | (refine bx ?_; intro bk)); first | refine ⟨_, EndsA, ZqZ, ?_⟩ | refine fin ?_) | (refine jn ?_; (try intro F); (first | (refine bx ?_; intro bk) | (apply Zag; first | exact ZnD | exact PuA)); first | refine ⟨_, EndsA, ZqZ, ?_⟩ | refine fin ?_))
  exact rtB
 ·have e1 : (!decide (kd = 2)) = true := by rw [decide_eq_false hk]; rfl
  rw [if_neg hk]
  refine Zaa Tryz.func189 rfl rfl rfl rfl ?_
  repeat (first | (apply RL_pu; rfl; exact ZnD) | (apply RD_Q; rfl; rfl; decide +kernel; rfl; rfl; exact ZuX) | refine walk1 ?_ | (refine jg ?_; (try intro F); (first | (refine Zad hx0 ?_) | (refine bx ?_; intro bk)); first | refine ⟨_, EndsA, ZqZ, ?_⟩ | refine fin ?_) | (refine jn ?_; (try intro F); (first | (refine bx ?_; intro bk) | (apply Zag; first | exact ZnD | exact PuA)); first | refine ⟨_, EndsA, ZqZ, ?_⟩ | refine fin ?_))
  exact rtB
def srcC (Ar Az Al As : Option Addr) (cr cz cl cs : Nat) (a : Zab) : List Value := [.slice Ar a.rules.length cr, .slice Az a.zones.length cz, .slice Al a.links.length cl, .slice As a.shifts.length cs]
theorem Zyx {G : Prop} (h : G := by (first | (apply Pu_loadON; rfl; exact hS; rfl) | (apply ZaG; rfl; rfl; first | exact e1 | exact e2) | (apply ZhS; rfl; rfl; exact e3))) : G := h
theorem Zyw {G : Prop} (h : G := by (first | (apply ZaG; rfl; rfl; first | exact e1 | exact e2) | (apply ZhS; rfl; rfl; exact e3))) : G := h
theorem ZoK (Ar Az Al As : Option Addr) (cr cz cl cs : Nat) (a : Zab) (bS : Nat) (e : DEra) (w : World) (hL : LibW w) (hA : Zaj w Ar Az Al As cr cz cl cs a) (hn : a.rules.length <= 1000000) (hm : srcM a = true) (he : eraM e = true) (hc : conE a.rules e = true) (hS : Zam w ⟨bS, 0, none⟩ (srcC Ar Az Al As cr cz cl cs a)) :
  Does Tryz.prog 188 [.agg e.enc.toArray, .pointer (some ⟨bS, 0, none⟩)] w (fun v O => v = .tuple #[.string (Zcb e).format, .int .i64 0] /\ O = []) := by
 obtain ⟨_, _, _, b4⟩ := ZoG he
 have hkd := fun w' (hw : Bel w.heap.size w w') => ZeS e.format w' (hL.up hw) (by omega)
 have hnum := fun w' (hw : Bel w.heap.size w w') => Zik Ar Az Al As cr cz cl cs a e w' (hA.up hw) hn hm he
 unfold conE at hc
 unfold Zcb
 unfold srcC at hS
 generalize Zba e (Zaz a.rules e) = x at *
 obtain ⟨off, kd, sv, st, fm, ⟨is, yr, mo, ⟨dk, dw, dd⟩, ⟨cs', cb⟩⟩⟩ := e
 dsimp only at hkd hnum hc ⊢
 show Does _ _ [.agg #[.int .i64 off, .int .i64 kd, .int .i64 sv, .string st, .string fm, .bool is, .int .i64 yr, .int .i64 mo, .int .i64 dk, .int .i64 dw, .int .i64 dd, .int .i64 cs', .int .i64 cb], _] w _
 simp only [DEra.enc] at hnum
 unfold xpV at hnum
 by_cases hk : ZaK fm.data.toList = 5
 ·obtain ⟨x1, x2⟩ := x
  have e1 : (!decide (ZaK fm.data.toList = 5)) = false := by rw [decide_eq_true hk]; rfl
  rw [e1, Bool.false_or, Bool.and_eq_true, decide_eq_true_eq, decide_eq_true_eq] at hc
  dsimp only at hc hnum
  obtain ⟨hc1, hc2⟩ := hc
  have hfm : (⟨x1.toArray⟩ : ByteArray) = fm := by rw [hc2]
  rw [hc1, hfm] at hnum
  have e2 : (!decide ((0 : Int) = 0)) = false := rfl
  have e3 : (!decide (fm = fm)) = false := by rw [decide_eq_true rfl]; rfl
  rw [if_pos hk]
  refine Zaa Tryz.func188 rfl rfl rfl rfl ?_
  repeat (first | (apply RL_pu; rfl; exact Zyx) | (refine js ?_; (first | (refine Zad hkd ?_) | (refine Zad hnum ?_) | (refine bx ?_; intro bk))) | refine walk1 ?_)
  exact rtB
 ·have e1 : (!decide (ZaK fm.data.toList = 5)) = true := by rw [decide_eq_false hk]; rfl
  rw [if_neg hk]
  refine Zaa Tryz.func188 rfl rfl rfl rfl ?_
  repeat (first | (apply RL_pu; rfl; exact Zyw) | (refine js ?_; (first | (refine Zad hkd ?_) | (refine bx ?_; intro bk))) | refine walk1 ?_)
  exact rtB
theorem Zub (Ar Az Al As : Option Addr) (cr cz cl cs : Nat) (a : Zab) (bS : Nat) (e : DEra) (w : World) (hA : Zaj w Ar Az Al As cr cz cl cs a) (hn : a.rules.length <= 1000000) (hm : srcM a = true) (he : eraM e = true) (hc : expZ a.rules e = true) (hS : Zam w ⟨bS, 0, none⟩ (srcC Ar Az Al As cr cz cl cs a)) :
  Does Tryz.prog 190 [.agg e.enc.toArray, .pointer (some ⟨bS, 0, none⟩)] w (fun v O => v = .tuple #[.string (expE a.rules e).format, .int .i64 0] /\ O = []) := by
 have hnum := fun w' (hw : Bel w.heap.size w w') => Zik Ar Az Al As cr cz cl cs a e w' (hA.up hw) hn hm he
 unfold expZ at hc
 unfold expE numB
 unfold srcC at hS
 generalize Zba e (Zaz a.rules e) = x at *
 obtain ⟨off, kd, sv, st, fm, ⟨is, yr, mo, ⟨dk, dw, dd⟩, ⟨cs', cb⟩⟩⟩ := e
 dsimp only at hnum hc ⊢
 show Does _ _ [.agg #[.int .i64 off, .int .i64 kd, .int .i64 sv, .string st, .string fm, .bool is, .int .i64 yr, .int .i64 mo, .int .i64 dk, .int .i64 dw, .int .i64 dd, .int .i64 cs', .int .i64 cb], _] w _
 simp only [DEra.enc] at hnum
 unfold xpV at hnum
 by_cases hk : fm = pctB
 ·have e3 : (!decide (fm = pctB)) = false := by rw [decide_eq_true hk]; rfl
  rw [e3, Bool.false_or, decide_eq_true_eq] at hc
  rw [hc] at hnum
  rw [if_pos hk]
  refine Zaa Tryz.func190 rfl rfl rfl rfl ?_
  repeat (first | (apply RL_pu; rfl; exact Zyx) | (refine js ?_; (first | (refine Zad hnum ?_) | (refine bx ?_; intro bk))) | refine walk1 ?_)
  exact rtB
 ·have e3 : (!decide (fm = pctB)) = true := by rw [decide_eq_false hk]; rfl
  rw [if_neg hk]
  refine Zaa Tryz.func190 rfl rfl rfl rfl ?_
  repeat (first | (apply RL_pu; rfl; exact Zyw) | (refine js ?_; (refine bx ?_; intro bk)) | refine walk1 ?_)
  exact rtB
end Go.Proofs.YtbjomhdhkpgbaaaGreatDoor
namespace Go.Wk
open Go Go.RowKit
def Zx6 : Op -> Bool
 | .move _ | .assign _ | .pick .. | .alloc _ | .box .. | .build .. | .load .. | .store .. | .binOp .. | .unOp .. | .convert .. | .fieldAddr .. | .field .. | .indexAddr .. | .index .. => true
 | _ => false
theorem Zx4 {P : Program} (s : Sem Value) (w : World) : calm ((do pure (.value (<- s)) : Sem Next).run P w) := by
 simp only [Sem.run_bind]
 generalize s.run P w = r
 cases r <;> simp [calm, Result.andThen]
theorem Zx5 {P : Program} (s : Sem Unit) (w : World) : calm ((do s; pure .skip : Sem Next).run P w) := by
 simp only [Sem.run_bind]
 generalize s.run P w = r
 cases r <;> simp [calm, Result.andThen]
theorem Zzs {P : Program} {ρ : Operand -> Value} {o : Oper} (h : Zx6 o.op = true) (w : World) : calm ((execOp ρ o).run P w) := by
 obtain ⟨dst, op, ty, pos, af, g⟩ := o
 cases op <;> first | (cases h; done) | exact Zx4 _ w | exact Zx5 _ w | skip
 case move x => simp [execOp, calm]
 case assign x => simp [execOp, calm]
 case pick c a b =>
  simp only [execOp, Sem.run_bind]
  generalize (asBool _).run P w = r
  cases r <;> simp [calm, Result.andThen]
theorem ZpK {F : Fence} (hF : WF F) {n : Nat} {P : Program} {o : Oper} {a a2 : Act} {w : World} {K K2 : Act -> World -> Prop} {Q Q2 : Exit -> Act -> World -> Prop} (he : a2.eval = a.eval) (hd : ∀ c, o.op ≠ .defer c) (hc : calm ((execOp a.eval o).run P w)) (h : o.wp P a w K Q) (hQ : ∀ e a w, Q e a w -> e = .normal)
  (hK : ∀ v w', K (a.put o.dst v) w' -> K2 (a2.put o.dst v) w') : o.wpIn F n P a2 w K2 Q2 := by
 refine ⟨fun f _ => hF.fn f, ?_⟩
 rw [Oper.semAt_eq _ _ _ hd, he]
 unfold Oper.wp at h
 generalize (execOp a.eval o).run P w = r at *
 cases r with
 | ok nx w' =>
  cases nx with
  | value v => exact hK _ _ h
  | skip => exact hK _ _ h
  | enter f args =>
   rw [Oper.upon_enter] at h
   rw [Oper.uponIn_enter]
   refine ⟨fun hh => (by rw [hF.depth] at hh; cases hh), (hF.calls h).mono ?_⟩
   intro e w'' he
   cases e with
   | returned v => exact hK _ _ he
   | panicked c => cases hQ _ _ _ he
   | outgrown => exact he.elim fun a h => h.elim fun w h => (by cases hQ _ _ _ h)
  | _ => exact hc.elim
 | halt x w' =>
  cases x with
  | panic v => cases hQ _ _ _ h
  | _ => exact h.elim
section
variable {F : Fence} {P : Program} {n : Nat} {wr : World} {ops : Array Oper} {K : Fr -> List It -> Prop} {fr : Fr} {O : List It} {D : List Deferred}
theorem ZuF {l : List Oper} (hac : acyc l.toArray = true) (h : RD P n wr l.toArray (enum 0 l) [] [] K fr O) {a : Act} {w : World} (hs : St n wr fr O a w) :
  wpAny P .any l.toArray (Zjy n wr [] K) l.toArray.size (Array.replicate l.toArray.size false) a { w with drawn := w.drawn + 1 } := by
 have h1 := h ⟨by simp [Zea, List.nodup_range'], by simp, trivial, trivial, fun p hp => by simpa using (Zgo l 0 p hp).2⟩ l.length [] [] [] [] a { w with drawn := w.drawn + 1 } (List.Sublist.refl _) (by simp)
  (by have h := hs.drawn (m := w.drawn + 1) (Nat.le_succ _); rw [show O ++ (Zep [] ++ []) = O from by simp [Zep]]; exact h) (by simp [Zk9]) (fun k o hk hn => absurd (by
   have hlt : k < l.length := by have := (Array.getElem?_eq_some_iff.1 hk).1; simpa using this
   have : k ∈ (enum 0 l).map (·.1) := by rw [Zea]; simp; exact hlt
   obtain ⟨p, hp, rfl⟩ := List.mem_map.1 this
   exact .inl ⟨p, hp, rfl⟩) hn)
 refine ZjJ hac _ _ _ _ _ (by simp) ?_ (by simpa using h1)
 intro j
 unfold Tof
 constructor
 ·rintro (⟨p, hp, rfl⟩ | ⟨_, hh, _⟩ | ⟨_, hh, _⟩)
  ·have := (List.getElem?_eq_some_iff.1 (Zgo l 0 p hp).2).1
   have h2 : p.1 < l.length := by omega
   simp [Array.getD_eq_getD_getElem?, h2]
  ·cases hh
  ·cases hh
 ·intro hj
  have hlt : j < l.length := by
   rcases Nat.lt_or_ge j l.length with h0 | h0
   ·exact h0
   ·rw [Array.getD_eq_getD_getElem?, Array.getElem?_eq_none (by simpa using h0)] at hj
    simp at hj
  have : j ∈ (enum 0 l).map (·.1) := by rw [Zea]; simp; exact hlt
  obtain ⟨p, hp, rfl⟩ := List.mem_map.1 this
  exact .inl ⟨p, hp, rfl⟩
theorem ZzE {Q : Exit -> Fr -> List It -> Prop} {id : Nat} (h : Q (.exit id) fr O) : WI F D P n wr (.exit id) Q fr O := fun a _ hs => wpIn_exit ⟨rfl, fr, O, by rw [Zeh hs]; exact hs, h⟩
end
def ZxI (P : Program) (o : Oper) : Prop := (∀ c, o.op ≠ .defer c) /\ ∀ (a : Act) (w : World), calm ((execOp a.eval o).run P w)
def ZoS : Op -> Bool
 | .extract .. | .lookup .. | .mapUpdate .. | .insert .. | .buildSlice .. | .makeMap .. | .nilCheck .. => true
 | o => Zx6 o
theorem Zzt {P : Program} {ρ : Operand -> Value} {dst : Option Tmp} {x : Operand} {ty : TypeId} {pos : String} {af : Array Edge} {g : Option (Nat × Bool)} (w : World) : calm ((execOp ρ ⟨dst, .nilCheck x, ty, pos, af, g⟩).run P w) := by
 simp only [execOp]
 split
 ·simp [calm, runtimePanic]
 ·simp [calm, runtimePanic]
 ·simp [calm, runtimePanic]
 ·split
  ·simp [calm, runtimePanic]
  ·simp only [Sem.run_bind]
   generalize Sem.run P _ w = r
   cases r with
   | ok b w' =>
    simp only [Result.andThen_ok]
    generalize Sem.run P _ w' = r2
    cases r2 with
    | ok b2 w2 =>
     simp only [Result.andThen_ok]
     split <;> simp [calm, unsupported, Result.andThen]
    | _ => simp [calm, Result.andThen]
   | _ => simp [calm, Result.andThen]
  ·simp [calm]
 ·simp [calm]
theorem Zxj {P : Program} {ρ : Operand -> Value} {o : Oper} (h : ZoS o.op = true) (w : World) : calm ((execOp ρ o).run P w) := by
 obtain ⟨dst, op, ty, pos, af, g⟩ := o
 cases op <;> first | (cases h; done) | exact Zzt w | exact Zx4 _ w | exact Zx5 _ w | (refine Zzs ?_ w; exact h)
theorem Zlm {o : Oper} (h : ZoS o.op = true) : ∀ c, o.op ≠ .defer c := by
 intro c hc
 rw [hc] at h
 cases h
inductive Calms (P : Program) : List Oper -> Prop
 | nil : Calms P []
 | plain {o : Oper} {l : List Oper} : ZoS o.op = true -> Calms P l -> Calms P (o :: l)
 | call {dst : Option Tmp} {f : FuncId} {xs : List Operand} {ts : Array TypeId} {ty : TypeId} {pos : String} {af : Array Edge} {g : Option (Nat × Bool)} {l : List Oper} [Body P f] : Calms P l -> Calms P (⟨dst, .call ⟨.value (.func f), xs.toArray, ts⟩, ty, pos, af, g⟩ :: l)
 | append {dst : Option Tmp} {x y : Operand} {ts : Array TypeId} {ty : TypeId} {pos : String} {af : Array Edge} {g : Option (Nat × Bool)} {l : List Oper} : Calms P l -> Calms P (⟨dst, .call ⟨.builtin .append, #[x, y], ts⟩, ty, pos, af, g⟩ :: l)
 | len {dst : Option Tmp} {x : Operand} {ts : Array TypeId} {ty : TypeId} {pos : String} {af : Array Edge} {g : Option (Nat × Bool)} {l : List Oper} : Calms P l -> Calms P (⟨dst, .call ⟨.builtin .len, #[x], ts⟩, ty, pos, af, g⟩ :: l)
theorem Zxk {P : Program} {dst : Option Tmp} {x : Operand} {ts : Array TypeId} {ty : TypeId} {pos : String} {af : Array Edge} {g : Option (Nat × Bool)} (a : Act) (w : World) : calm ((execOp a.eval ⟨dst, .call ⟨.builtin .len, #[x], ts⟩, ty, pos, af, g⟩).run P w) := by
 simp only [execOp, resolve, invoke, builtin, Sem.run_bind, Sem.run_pure, Result.andThen_ok]
 generalize Sem.run P _ w = r
 cases r <;> simp [calm, Result.andThen]
theorem Calms.all {P : Program} {l : List Oper} (h : Calms P l) : ∀ o ∈ l, ZxI P o := by
 induction h with
 | nil => intro o ho; cases ho
 | plain h1 _ ih =>
  intro o ho
  rcases List.mem_cons.1 ho with rfl | ho
  ·exact ⟨Zlm h1, fun a w => Zxj h1 w⟩
  ·exact ih o ho
 | call _ ih =>
  intro o ho
  rcases List.mem_cons.1 ho with rfl | ho
  ·exact ⟨fun c hc => (by cases hc), fun a w => Zut a w⟩
  ·exact ih o ho
 | append _ ih =>
  intro o ho
  rcases List.mem_cons.1 ho with rfl | ho
  ·exact ⟨fun c hc => (by cases hc), fun a w => ZoQ a w⟩
  ·exact ih o ho
 | len _ ih =>
  intro o ho
  rcases List.mem_cons.1 ho with rfl | ho
  ·exact ⟨fun c hc => (by cases hc), fun a w => Zxk a w⟩
  ·exact ih o ho
section
variable {F : Fence} {P : Program} {n : Nat} {wr : World} {ops : Array Oper} {K : Fr -> List It -> Prop} {fr : Fr} {O : List It} {D : List Deferred}
theorem ZmD (hF : WF F) {Q Q2 : Exit -> Act -> World -> Prop} (hQ : ∀ e a w, Q e a w -> e = .normal) (hK : ∀ a w, Q .normal a w -> Q2 .normal (actD D a) w) :
  ∀ (l : List Oper), (∀ o ∈ l, ZxI P o) -> ∀ (a : Act) (w : World), wpList P ops Q l a w -> wpListIn F 0 P ops Q2 l (actD D a) w
 | [], _, a, w, h => hK _ _ h
 | o :: l, hc, a, w, h => by
  have hco := hc o List.mem_cons_self
  have ih := ZmD hF hQ hK l fun o ho => hc o (List.mem_cons_of_mem _ ho)
  unfold wpList at h
  unfold wpListIn
  rw [show (actD D a).tmps = a.tmps from rfl]
  by_cases hw : Region.wanted o (yielded ops a.tmps) = true
  ·rw [if_pos hw] at h ⊢
   rcases h with h | ⟨_, h⟩
   ·exact ZpK (a := a) hF rfl hco.1 (hco.2 a w) h hQ fun v w' hk => by
     rw [ZdB]
     exact ih _ _ hk
   ·obtain ⟨_, _, h2⟩ := h
    cases hQ _ _ _ h2
  ·rw [if_neg hw] at h ⊢
   refine ⟨fun f _ => hF.fn f, ?_⟩
   rw [ZdB]
   exact ih _ _ h
theorem Za8 {Q : Exit -> Fr -> List It -> Prop} {id : Nat} {l : List Oper} (hF : WF F) (hc : Calms P l) (h : RL P n wr l.toArray l (Q .normal) fr O) : WI F D P n wr (.region id l.toArray false) Q fr O := by
 intro a w hs
 refine wpIn_region_lit (ZmD (D := D) hF (fun e a w he => he.1) ?_ l hc.all a w (h a w hs))
 rintro a' w' ⟨_, fr', O', hs', hq⟩
 refine ⟨rfl, fr', O', ?_, hq⟩
 rw [Zeh hs']
 exact hs'
theorem ZuE (hF : WF F) (hc : ∀ o ∈ ops.toList, ZxI P o) {Q Q2 : Exit -> Act -> World -> Prop} (hQ : ∀ e a w, Q e a w -> e = .normal) (hK : ∀ a w, Q .normal a w -> Q2 .normal (actD D a) w) :
  ∀ (m : Nat) (listed : Array Bool) (a : Act) (w : World), wpAny P .any ops Q m listed a w -> wpAnyIn F 0 P .any ops Q2 m listed (actD D a) w := by
 intro m
 induction m with
 | zero => intro listed a w h; exact ⟨h.1, hK _ _ h.2⟩
 | succ m ih =>
  intro listed a w h
  refine ⟨fun hr => hK _ _ (h.1 hr), fun i hi => ?_⟩
  have h1 := h.2 i hi
  unfold wpOp at h1
  unfold wpOpIn
  cases ho : ops[i]? with
  | none => rw [ho] at h1; exact ih _ _ _ h1
  | some o =>
   rw [ho] at h1
   have hco : ZxI P o := hc o (by
    rw [Array.mem_toList_iff]
    exact Array.mem_of_getElem? ho)
   dsimp only at h1 ⊢
   rw [show (actD D a).tmps = a.tmps from rfl]
   by_cases hw : Region.wanted o (yielded ops a.tmps) = true
   ·rw [if_pos hw] at h1 ⊢
    rcases h1 with h1 | ⟨_, h1⟩
    ·exact ZpK (a := a) hF rfl hco.1 (hco.2 a w) h1 hQ fun v w' hk => by
      rw [ZdB]
      exact ih _ _ _ hk
    ·obtain ⟨_, _, h2⟩ := h1
     cases hQ _ _ _ h2
   ·rw [if_neg hw] at h1 ⊢
    refine ⟨fun f _ => hF.fn f, ?_⟩
    rw [ZdB]
    exact ih _ _ _ h1
theorem Zxu {Q : Exit -> Fr -> List It -> Prop} {id : Nat} {l : List Oper} (hF : WF F) (hm : P.follows .mixedOrders = true) (hac : acyc l.toArray = true) (hc : Calms P l) (h : RD P n wr l.toArray (enum 0 l) [] [] (Q .normal) fr O) : WI F D P n wr (.region id l.toArray true) Q fr O := by
 intro a w hs
 have h1 := ZuF hac h hs
 refine wpIn_region_any hm (ZuE hF (fun o ho => hc.all o (by simpa using ho)) (fun e a w he => he.1) ?_ _ _ _ _ h1)
 rintro a' w' ⟨_, fr', O', hs', hq⟩
 refine ⟨rfl, fr', O', ?_, hq⟩
 have hs2 : St n wr fr' O' a' w' := by simpa using hs'
 rw [Zeh hs2]
 exact hs2
end
theorem ResV.cell1 {P : Program} {wr : World} {fr : Fr} {O R : List It} {a t b sz : Nat} {v : Value} {cs : List Value} {bt : TypeId} [Ty P t sz false] (ha : look fr a = some (.pointer (some ⟨b, 0, none⟩))) (hp : Pick (.blk b (v :: cs) bt) O R) :
  ResV P wr fr O (.cell a t) v :=
 ⟨_, ha, fun w _ hO => Zc7 (by rw [ZcB (hO.sat _ (hp.perm.mem_iff.2 List.mem_cons_self))]; rfl)⟩
section
variable {P : Program} {n : Nat} {wr : World} {fr : Fr} {O : List It} {QQ : Exit -> Act -> World -> Prop}
def Pre (P : Program) (n : Nat) (wr : World) (c : Code) (QQ : Exit -> Act -> World -> Prop) (fr : Fr) (O : List It) : Prop := ∀ a w, St n wr fr O a w -> c.wp P QQ a w
def Zz5 (K : Fr -> List It -> Prop) : Exit -> Fr -> List It -> Prop
 | .normal => K
 | _ => fun _ _ => False
theorem ZnV {K : Fr -> List It -> Prop} (h : K fr O) : Zz5 K .normal fr O := h
theorem ZpF {x y : Code} (h : W P n wr x (Zz5 (Pre P n wr y QQ)) fr O) : Pre P n wr (.seq x y) QQ fr O := by
 intro a w hs
 refine wp_seq (wp_mono (h a w hs) ?_)
 rintro e a' w' ⟨fr', O', hs', hq⟩
 cases e with
 | normal => exact hq _ _ hs'
 | _ => exact hq.elim
theorem ZxG {f : FuncId} {fn : Func} {c : Code} {args : List Value} {R : Ending -> World -> Prop} (n : Nat) (hf : P.funcs[f]? = some fn) (hb : fn.body = some c) (hn : fn.ntmps = n) (ha : Nat.ble args.length n = true)
  (h : Pre P n wr c (bodyPostM Fence.wide 0 P fn R) (ZeZ 0 args) []) : Calls P f args.toArray wr R := Zkz hf hb hn ha fun a hs => h a wr hs
theorem ZzV {c : Code} {fr' : Fr} {O' : List It} (hf : Sub fr' fr) (hO : SubO O' O) (h : Pre P n wr c QQ fr' O') : Pre P n wr c QQ fr O := fun a w hs => h a w (hs.sub hf hO)
theorem Pre.at {c : Code} {a : Act} {w : World} (h : Pre P n wr c QQ fr O) (hs : St n wr fr O a w) : c.wp P QQ a w := h a w hs
end
end Go.Wk
set_option maxHeartbeats 8000000
set_option maxRecDepth 20000
namespace Go.Wk
open Go Go.RowKit
theorem Zc0.perm {P : Program} {l : Nat} {v : Value} {wr : World} {O O' : List It} {R : Bool -> List It -> Prop} (h : Zc0 P l v wr O R) (hp : O.Perm O') : Zc0 P l v wr O' R := fun w hB hH => h w hB (hH.perm hp.symm)
end Go.Wk
namespace Go.Proofs.YtbjomhdhkpgbaaaGreatDoor
open Go Go.RowKit Go.Wk
attribute [local irreducible] W RL Does Zap Zak retQ Calls Pu Stp RD Qy Ay Zal RLI WI Pre
def turZ (f : DEra -> DEra) (q : ZE) : ZE := ⟨Za5 f q.z, q.A, q.c⟩
def parZ (f : DEra -> DEra) (k : Nat) (q : ZE) : ZE := ⟨⟨q.z.name, (q.z.eras.take k).map f ++ q.z.eras.drop k⟩, q.A, q.c⟩
def parL (f : DEra -> DEra) (k : Nat) : List ZE -> List ZE
 | [] => []
 | q :: l => parZ f k q :: l
def turR (f : DEra -> DEra) (i k : Nat) (Zs : List ZE) : List ZE := (Zs.take i).map (turZ f) ++ parL f k (Zs.drop i)
theorem ZAj (f : DEra -> DEra) (q : ZE) : parZ f 0 q = q := by
 unfold parZ
 rw [List.take_zero, List.drop_zero, List.map_nil, List.nil_append]
theorem Zwv (f : DEra -> DEra) (q : ZE) : parZ f q.z.eras.length q = turZ f q := by
 unfold parZ turZ Za5
 rw [List.take_length, List.drop_length, List.append_nil]
theorem Ztl (f : DEra -> DEra) (l : List ZE) : parL f 0 l = l := by
 cases l with
 | nil => rfl
 | cons q l => rw [parL, ZAj]
theorem Zz2 (f : DEra -> DEra) (Zs : List ZE) : turR f 0 0 Zs = Zs := by
 unfold turR
 rw [List.take_zero, List.drop_zero, Ztl]
 rfl
theorem Zv8 (f : DEra -> DEra) (Zs : List ZE) : turR f Zs.length 0 Zs = Zs.map (turZ f) := by
 unfold turR
 rw [List.take_length, List.drop_length, Ztl, List.append_nil]
theorem getElem?_drop {α : Type} {l : List α} {i : Nat} {q : α} (h : l[i]? = some q) : l.drop i = q :: l.drop (i + 1) := by
 obtain ⟨h1, rfl⟩ := List.getElem?_eq_some_iff.1 h
 exact Zan h1
theorem ZsL (f : DEra -> DEra) {i : Nat} (k : Nat) {Zs : List ZE} {q : ZE} (h : Zs[i]? = some q) : turR f i k Zs = (Zs.take i).map (turZ f) ++ parZ f k q :: Zs.drop (i + 1) := by
 unfold turR
 rw [getElem?_drop h, parL]
theorem ZsK (f : DEra -> DEra) {i : Nat} {Zs : List ZE} {q : ZE} (h : Zs[i]? = some q) : turR f i q.z.eras.length Zs = turR f (i + 1) 0 Zs := by
 rw [ZsL f _ h, Zwv]
 unfold turR
 obtain ⟨h1, rfl⟩ := List.getElem?_eq_some_iff.1 h
 rw [Ztl, <- List.take_append_getElem h1, List.map_append, List.append_assoc]
 rfl
theorem ZyH (f : DEra -> DEra) (Zs : List ZE) : (Zs.map (turZ f)).flatMap ZE.enc = Zs.flatMap ZE.enc := by
 rw [List.flatMap_map]
 congr 1
 funext q
 unfold turZ Za5 ZE.enc
 simp
theorem ZAZ (f : DEra -> DEra) (Zs : List ZE) : (Zs.map (turZ f)).map ZE.z = (Zs.map ZE.z).map (Za5 f) := by
 rw [List.map_map, List.map_map]
 rfl
theorem Zv7 {f : DEra -> DEra} {Zs : List ZE} {i : Nat} (k : Nat) {q : ZE} (h : Zs[i]? = some q) : (Zau (parZ f k q) :: (((Zs.take i).map (turZ f)).map Zau ++ (Zs.drop (i + 1)).map Zau)).Perm ((turR f i k Zs).map Zau) := by
 rw [ZsL f k h, List.map_append, List.map_cons]
 exact List.perm_middle.symm
theorem Zud (Ar Az Al As : Option Addr) (cr cz cl cs : Nat) (a : Zab) (w : World) : Does Tryz.prog 226 [srcV Ar Az Al As cr cz cl cs a] w (fun v O => ∃ b, v = .func (.func 266) #[] #[.pointer (some ⟨b, 0, none⟩)] /\ O = [.blk b (srcC Ar Az Al As cr cz cl cs a) 32]) := by
 unfold srcV srcC
 refine Zaa Tryz.func226 rfl rfl rfl rfl ?_
 repeat (first | (refine js ?_; (refine bx ?_; intro bk)) | refine walk ?_)
 exact ret_1 _ [.blk bk [.slice Ar a.rules.length cr, .slice Az a.zones.length cz, .slice Al a.links.length cl, .slice As a.shifts.length cs] 32] (.tmp rfl) SOA ⟨bk, rfl, rfl⟩
def tuR (a : Zab) (wr : World) : Ending -> World -> Prop := fun e w' => ∃ v O, e = .returned v /\ Bel wr.heap.size wr w' /\ Zat wr.heap.size O w' /\ Zdq a v O
theorem Zv9 (a : Zab) (wr : World) {ac : Act} {w' : World} {D b4 : Nat} {vs : List Value} {R O : List It} (hs : St 34 wr [(4, .pointer (some ⟨b4, 0, none⟩))] (Zci D :: .blk b4 vs 32 :: O) ac w') (hv : vs.length = 4) (hO : SubO R O) (hR : Zdq a (.agg vs.toArray) R) :
  bodyPostM Fence.wide 0 Tryz.prog Tryz.f186 (tuR a wr) .ret (actD (ZgR D) ac) w' := by
 have hK := Zci.at (hs.own.sat _ List.mem_cons_self)
 have hs2 := ZpM hs
 refine ⟨by simp, .inl ⟨_, _, rfl, run_takeDeferred hK, ?_⟩⟩
 refine ⟨.agg vs.toArray, ?_, _, R, rfl, hs2.old, hs2.own.sub (.drop hO), hR⟩
 have hres : Tryz.f186.results = [ResultVar.cell 4 32].toArray := rfl
 show (results Tryz.f186 ac.tmps).run Tryz.prog _ = _
 unfold results
 rw [hres, List.mapM_toArray]
 simp only [Sem.run_bind, Sem.run_map]
 rw [Zcp (P := Tryz.prog) hs2 _ (fun _ => rfl) (fun _ _ => rfl) [ResultVar.cell 4 32] [.agg vs.toArray] ⟨_, [], rfl, .cellB rfl (by repeat' constructor) (List.take_of_length_le (by omega)) hv, rfl⟩]
 simp only [Result.andThen_ok, Sem.run_pure]
 rfl
theorem ZyR {α : Type} {l : List α} {k : Nat} {x : α} (h : l[k]? = some x) : l.set k x = l := by
 obtain ⟨h1, rfl⟩ := List.getElem?_eq_some_iff.1 h
 exact List.set_getElem_self h1
theorem Zvj {G : Prop} (h : G := by (first | (apply ZcM; rfl; (focus repeat' constructor); first | exact hg1 | exact hg3 | exact hg4) | (apply ZaH; rfl; rfl; exact e1) | (apply Zen; rfl; rfl; exact e2))) : G := h
theorem ZAK {G : Prop} (h : G := by first | (apply Qy_y; rfl; exact Zvj) | exact QyA) : G := h
theorem Zsu {G G' : Prop} (k : G') (h : Hold G' -> G := by intro k9; (first | refine und ?_ | (apply RL_pu; rfl; exact Zvj) | (apply RD_Q; rfl; rfl; decide +kernel; rfl; rfl; exact ZAK) | refine walk1 ?_ | (refine jn ?_; (try intro F); (first | (refine stA ?_) | (apply Zag; first | exact Zvj | exact PuA)); first | refine ⟨_, EndsA, QFTuB0, ?_⟩ | refine fin ?_)); exact k9.out) : G := h ⟨k⟩
theorem Zyn {G : Prop} (h : G := by (apply ZcM; rfl; (focus repeat' constructor); first | exact hg1 | exact hg3 | exact hg4)) : G := h
theorem ZvY (Ar Az Al As : Option Addr) (cr cz cl cs : Nat) (a : Zab) (set : ByteArray) (w : World) (hL : LibW w) (hA : Zaj w Ar Az Al As cr cz cl cs a) (hn : Fits a) (hf : ∀ z ∈ a.zones, ∀ e ∈ z.eras, e.format.size <= 1000) :
  Does Tryz.prog 186 [srcV Ar Az Al As cr cz cl cs a, .string set] w (Zdq (erasS (Zb0 set) a)) := by
 unfold Does
 refine ZxG 34 Tryz.func186 rfl rfl rfl ?_
 -- Zaa Tryz.func186
 unfold srcV
 apply ZpF
 repeat (first | refine walk ?_ | (refine jn ?_; (try intro F); (first | (refine bx ?_; intro bk) | (refine stA ?_) | (apply Zag; exact PuA)); refine fin ?_) | (apply RD_W; rfl; intro bk))
 apply ZnV
 rename_i b2 b3
 generalize bk = b4
 apply ZpF
 repeat (first | refine walk ?_ | (refine jg ?_; (try intro F); (first | (apply Zac (h := fun w' hw _ => ZrZ Ar Az Al As cr cz cl cs a w' (hA.up hw) hn); rfl; rintro v O' ⟨Ar2, cr2, Az2, cz2, Al2, cl2, As2, cs2, Zs, rfl, hZs, rfl⟩) | (refine bx ?_; intro bk) | (refine stA ?_)); refine fin ?_) | (refine jn ?_; (try intro F); (first | (refine bx ?_; intro bk) | (refine stA ?_) | (apply Zag; exact PuA)); refine fin ?_) | (apply RD_W; rfl; intro bk))
 apply ZnV
 generalize bk = b5
 refine ZzV (fr' := [(3, .pointer (some ⟨b3, 0, none⟩)), (4, .pointer (some ⟨b4, 0, none⟩)), (5, .pointer (some ⟨b5, 0, none⟩))]) SFA (O' := .blk b5 (srcC Ar2 Az2 Al2 As2 cr2 cz2 cl2 cs2 a) 32 :: rowR Ar2 cr2 a.rules :: rowZ Az2 cz2 Zs :: rowL Al2 cl2 a.links :: rowS As2 cs2 a.shifts :: .blk b4 [.slice none 0 0, .slice none 0 0, .slice none 0 0, .slice none 0 0] 32 :: .blk b3 [.string set] 9 :: Zs.map Zau) (SubO.ofPerm (R := [_]) (((((((List.perm_append_comm (l₁ := Zs.map Zau)).trans (((List.perm_append_comm (l₁ := [_]) (l₂ := Zs.map Zau)).cons _).cons _)).cons _).cons _).cons _).cons _).cons _)) ?_
 unfold Pre
 intro a9 w9 hs9
 refine wp_seq ?_
 refine ZkQ (fun fr' O' => ∃ bS, Sub [(3, .pointer (some ⟨b3, 0, none⟩)), (4, .pointer (some ⟨b4, 0, none⟩)), (5, .pointer (some ⟨b5, 0, none⟩)), (10, .func (.func 266) #[] #[.pointer (some ⟨bS, 0, none⟩)])] fr' /\ SubO (.blk bS (srcC Ar2 Az2 Al2 As2 cr2 cz2 cl2 cs2 a) 32 :: .blk b3 [.string set] 9 :: .blk b4 [.slice none 0 0, .slice none 0 0, .slice none 0 0, .slice none 0 0] 32 :: .blk b5 (srcC Ar2 Az2 Al2 As2 cr2 cz2 cl2 cs2 a) 32 :: rowR Ar2 cr2 a.rules :: rowZ Az2 cz2 Zs :: rowL Al2 cl2 a.links :: rowS As2 cs2 a.shifts :: Zs.map Zau) O') ?_ ?_ a9 w9 hs9
 ·repeat (first | refine walk ?_ | (refine jg ?_; (try intro F); (first | (apply Zac (h := fun w' _ _ => Zud Ar2 Az2 Al2 As2 cr2 cz2 cl2 cs2 a w'); rfl; rintro v O' ⟨bS, rfl, rfl⟩) | (refine bx ?_; intro bk) | (refine stA ?_)); refine fin ?_) | (refine jn ?_; (try intro F); (first | (refine bx ?_; intro bk) | (refine stA ?_) | (apply Zag; exact PuA)); refine fin ?_) | (apply RD_W; rfl; intro bk))
  exact ⟨rfl, bS, SFA, STA⟩
 rintro a0 w0 fr9 O9 hs0 ⟨bS, hf9, hO9⟩
 have hs1 := hs0.sub hf9 hO9
 refine wp_block ?_
 clear hs0 hs9 hf9 hO9
 have hzl : Zs.length <= 1000000 := by
  have := hn.z
  rw [<- hZs, List.length_map] at this
  exact this
 have hsrc : srcC Ar2 Az2 Al2 As2 cr2 cz2 cl2 cs2 a = [.slice Ar2 a.rules.length cr2, .slice Az2 Zs.length cz2, .slice Al2 a.links.length cl2, .slice As2 a.shifts.length cs2] := by unfold srcC; rw [<- hZs, List.length_map]
 have hzm : ∀ q ∈ Zs, q.z ∈ a.zones := fun q hq => by rw [<- hZs]; exact List.mem_map_of_mem hq
 have hAn : ∀ q ∈ Zs, 0 < q.z.eras.length -> q.A ≠ none := fun q hq hl => Za6 (hs1.own.sat (Zau q) (List.mem_cons_of_mem _ (List.mem_cons_of_mem _ (List.mem_cons_of_mem _ (List.mem_cons_of_mem _ (List.mem_cons_of_mem _ (List.mem_cons_of_mem _ (List.mem_cons_of_mem _ (List.mem_cons_of_mem _ (List.mem_map_of_mem hq)))))))))) hl
 refine ZpY (gf := 266) (lb := [.pointer (some ⟨bS, 0, none⟩)]) (fun jump O2 => jump = none /\ SubO (.blk b4 [.slice none 0 0, .slice none 0 0, .slice none 0 0, .slice none 0 0] 32 :: .blk b5 (srcC Ar2 Az2 Al2 As2 cr2 cz2 cl2 cs2 a) 32 :: rowR Ar2 cr2 a.rules :: rowZ Az2 cz2 Zs :: rowL Al2 cl2 a.links :: rowS As2 cs2 a.shifts :: (turR (Zb0 set) Zs.length 0 Zs).map Zau) O2) hs1 rfl ?_ ?_
 ·intro fn L D
  generalize hr0 : ZhA fn a0.tmps 11 _ _ D = r0
  have hit := ZoF L bS Ar2 Az2 Al2 As2 a.rules.length cr2 cz2 a.links.length cl2 a.shifts.length cs2 Zs (fun g : List ZE => Zbm L r0 :: Zci D :: .blk b3 [.string set] 9 :: .blk b4 [.slice none 0 0, .slice none 0 0, .slice none 0 0, .slice none 0 0] 32 :: .blk b5 (srcC Ar2 Az2 Al2 As2 cr2 cz2 cl2 cs2 a) 32 :: rowR Ar2 cr2 a.rules :: rowL Al2 cl2 a.links :: rowS As2 cs2 a.shifts :: g.map Zau) (fun i k g => g = turR (Zb0 set) i k Zs) w Zs hzl (fun q hq => hn.e _ (hzm q hq)) hAn (Zz2 _ _).symm ?_ ?_
  ·refine hit.sub ?_ fun v O' ⟨_, g, h1, h2⟩ => ?_
   ·rw [<- hr0]
    rw [<- hsrc]
    exact STA
   ·subst h1
    exact ⟨none, _, .ready, SubO.trans (by rw [<- hr0]; exact STA) h2, by decide, rfl, .refl _⟩
  ·rintro i k q g X Y V hq hk rfl
   obtain ⟨T, hT⟩ : ∃ T, ((Zs.take i).map (turZ (Zb0 set))).map Zau ++ (Zs.drop (i + 1)).map Zau = T := ⟨_, rfl⟩
   have hp : ∀ k, (Zau (parZ (Zb0 set) k q) :: T).Perm ((turR (Zb0 set) i k Zs).map Zau) := fun k => hT ▸ Zv7 k hq
   refine Zc0.perm (O := X :: Y :: V :: Zbm L r0 :: Zci D :: .blk b3 [.string set] 9 :: .blk b4 [.slice none 0 0, .slice none 0 0, .slice none 0 0, .slice none 0 0] 32 :: .blk b5 (srcC Ar2 Az2 Al2 As2 cr2 cz2 cl2 cs2 a) 32 :: rowR Ar2 cr2 a.rules :: rowL Al2 cl2 a.links :: rowS As2 cs2 a.shifts :: Zau (parZ (Zb0 set) k q) :: T) ?_ ((hp k).append_left [_, _, _, _, _, _, _, _, _, _, _])
   have hkm := List.mem_of_getElem? hq
   have hfm := fun e he => hf q.z (hzm q hkm) e he
   have hql := hn.e _ (hzm q hkm)
   obtain ⟨⟨qn, qe⟩, qA, qc⟩ := q
   dsimp only at hk hfm hql ⊢
   have hek := List.getElem?_eq_getElem hk
   have hem := List.getElem_mem hk
   generalize qe[k] = e at hek hem
   have hef := hfm e hem
   obtain ⟨es, hes⟩ : ∃ es, (qe.take k).map (Zb0 set) ++ qe.drop k = es := ⟨_, rfl⟩
   have hel : es.length = qe.length := by rw [<- hes, List.length_append, List.length_map, List.length_take, List.length_drop]; omega
   have hge : es[k]? = some e := by
    rw [<- hes, List.getElem?_append_right (by rw [List.length_map, List.length_take]; omega), List.length_map, List.length_take, List.getElem?_drop, show k + (k - min k qe.length) = k by omega, hek]
   have hsE : (qe.take (k + 1)).map (Zb0 set) ++ qe.drop (k + 1) = es.set k (Zb0 set e) := by
    obtain ⟨hk', rfl⟩ := List.getElem?_eq_some_iff.1 hek
    rw [<- hes, <- List.take_append_getElem hk, List.map_append, List.set_append_right _ _ (by rw [List.length_map, List.length_take]; omega), List.length_map, List.length_take, show k - min k qe.length = 0 by omega, Zan hk, List.set_cons_zero, List.append_assoc]
    rfl
   have hp1 := hp (k + 1)
   have hrow1 : Zau (parZ (Zb0 set) (k + 1) ⟨⟨qn, qe⟩, qA, qc⟩) = .row (.slice qA es.length qc) 54 13 es.length ((es.set k (Zb0 set e)).flatMap DEra.enc) := by
    unfold Zau parZ
    dsimp only
    rw [hsE, List.length_set]
   have hrow0 : Zau (parZ (Zb0 set) k ⟨⟨qn, qe⟩, qA, qc⟩) = .row (.slice qA es.length qc) 54 13 es.length (es.flatMap DEra.enc) := by
    unfold Zau parZ
    dsimp only
    rw [hes]
   rw [hrow0]
   rw [hrow1] at hp1
   clear hrow0 hrow1 hp hfm hes
   have hx1 : ∀ (j : Nat) (v : Value), (DEra.enc e)[j]? = some v -> (es.flatMap DEra.enc)[(k : Int).toNat * 13 + j]? = some v := fun j v hj => by
    have := ZaF DEra.len _ k e j v hge hj
    simpa using this
   obtain ⟨off, kd, sv, st, fm, ⟨is, yr, mo, ⟨dk, dw, dd⟩, ⟨cs', cb⟩⟩⟩ := e
   have hg1 := hx1 1 _ rfl
   have hg3 := hx1 3 _ rfl
   have hg4 := hx1 4 _ rfl
   clear hx1
   dsimp only at hef hg1 hg3 hg4
   have hmm := (ZaE DEra.len es)
   have hkl : k < es.length := by rw [hel]; exact hk
   refine Zhg (r := r0) (p := 11) (fr := [(3, .pointer (some ⟨b3, 0, none⟩)), (4, .pointer (some ⟨b4, 0, none⟩)), (5, .pointer (some ⟨b5, 0, none⟩))]) (a0 := a0) (O1 := X :: Y :: V :: Zbm L { r0 with state := .busy } :: Zci D :: .blk b3 [.string set] 9 :: .blk b4 [.slice none 0 0, .slice none 0 0, .slice none 0 0, .slice none 0 0] 32 :: .blk b5 (srcC Ar2 Az2 Al2 As2 cr2 cz2 cl2 cs2 a) 32 :: rowR Ar2 cr2 a.rules :: rowL Al2 cl2 a.links :: rowS As2 cs2 a.shifts :: .row (.slice qA es.length qc) 54 13 es.length (es.flatMap DEra.enc) :: T) (by rw [<- hr0]; rfl) (by rw [<- hr0]; rfl) (by rw [<- hr0]; rfl) (hs1.sim.sub SFA) rfl (by repeat' constructor) (by rw [<- hr0]; rfl) ?_
   apply ZbF (Or.inr ⟨_, rfl⟩); rfl; (intro c h; cases h); (apply Pu_assign; rfl)
   refine ZbB ⟨rfl, ?_⟩
   have hbody : ∀ Q fr O, (∀ b : Code, b = r0.body -> WI (Fence.wide.inRound L) [] Tryz.prog 34 w b Q fr O) -> WI (Fence.wide.inRound L) [] Tryz.prog 34 w r0.body Q fr O := fun Q fr O h => h _ rfl
   refine hbody _ _ _ fun bd hb => ?_
   rw [<- hr0] at hb
   dsimp only [ZhA] at hb
   subst hb
   refine Zek (ZbW (Zxu (Or.inr ⟨_, rfl⟩) rfl (by decide +kernel) (by repeat (first | exact .nil | (refine .plain rfl ?_) | apply Calms.call | apply Calms.append | apply Calms.len)) ?_))
   by_cases hi : ZeT set ⟨off, kd, sv, st, fm, ⟨is, yr, mo, ⟨dk, dw, dd⟩, ⟨cs', cb⟩⟩⟩
   ·have hE : Zb0 set ⟨off, kd, sv, st, fm, ⟨is, yr, mo, ⟨dk, dw, dd⟩, ⟨cs', cb⟩⟩⟩ = ⟨off, kd, sv, st, Zb8 fm, ⟨is, yr, mo, ⟨dk, dw, dd⟩, ⟨cs', cb⟩⟩⟩ := if_pos hi
    rw [hE] at hp1
    obtain ⟨hk2, hs2⟩ := hi
    dsimp only at hk2 hs2
    have e1 : decide (kd = 2) = true := decide_eq_true hk2
    have e2 : decide (st = set) = true := decide_eq_true hs2
    have hlay : lay (es.flatMap DEra.enc) ((k : Int).toNat * 13 + 4) [.string (Zb8 fm)] = (es.set k ⟨off, kd, sv, st, Zb8 fm, ⟨is, yr, mo, ⟨dk, dw, dd⟩, ⟨cs', cb⟩⟩⟩).flatMap DEra.enc := by
     have := ZdR DEra.len 4 [.string (Zb8 fm)] (by decide : 4 + 1 <= 13) ⟨off, kd, sv, st, fm, ⟨is, yr, mo, ⟨dk, dw, dd⟩, ⟨cs', cb⟩⟩⟩ ⟨off, kd, sv, st, Zb8 fm, ⟨is, yr, mo, ⟨dk, dw, dd⟩, ⟨cs', cb⟩⟩⟩ rfl es k hge
     rw [show (k : Int).toNat * 13 + 4 = k * 13 + 4 by simp, this]
    repeat (first | refine Zsu ?_ | (refine jn ?_; (try intro F); (refine bx ?_; intro bk); first | refine ⟨_, EndsA, QFTuB0, ?_⟩ | refine fin ?_) | (apply RD_W; rfl; intro bk))
    refine Zej rfl (fun _ => ?_) (fun h => (by cases h))
    refine Za8 (Or.inr ⟨_, rfl⟩) (by repeat (first | exact .nil | (refine .plain rfl ?_) | apply Calms.call | apply Calms.append | apply Calms.len)) ?_
    have hfx := fun w' (hw : Bel w.heap.size w w') => Zl1 fm w' (hL.up hw) hef
    repeat (first | (apply RL_pu; rfl; exact Zyn) | (refine js ?_; (first | (refine Zad hfx ?_) | (apply Zbi (vs := [.string (Zb8 fm)]); rfl; rfl; (focus repeat' constructor); rfl; rfl; rfl; (rw [hmm]; omega); decide; exact hlay) | (refine bx ?_; intro bk))) | (apply RD_Q; rfl; rfl; decide +kernel; rfl; rfl; exact QyTuB1) | refine walk1 ?_ | (refine ZdC ?_; intro F; (refine Zad hfx ?_); refine ⟨_, EndsA, SubO.right _ _, ?_⟩) | (refine RD_Lw ?_; intro F; (first | (refine Zad hfx ?_) | (apply Zbi (vs := [.string (Zb8 fm)]); rfl; rfl; (focus repeat' constructor); rfl; rfl; rfl; (rw [hmm]; omega); decide; exact hlay) | (refine bx ?_; intro bk) | (refine stA ?_) | (apply Zag; first | exact Zyn | exact PuA)); refine ⟨_, EndsA, QFTuB1, ?_⟩) | (apply RD_W; rfl; intro bk))
    refine ⟨_, (by repeat' constructor), rfl, _, rfl, ?_⟩
    refine SubO.permT (l := [X, Y, V, Zbm L r0, Zci D, _, _, _, _, _, _]) ?_ hp1
    rw [<- hr0]
    exact STA
   ·have hE : Zb0 set ⟨off, kd, sv, st, fm, ⟨is, yr, mo, ⟨dk, dw, dd⟩, ⟨cs', cb⟩⟩⟩ = ⟨off, kd, sv, st, fm, ⟨is, yr, mo, ⟨dk, dw, dd⟩, ⟨cs', cb⟩⟩⟩ := if_neg hi
    rw [hE, ZyR hge] at hp1
    unfold ZeT at hi
    dsimp only at hi
    by_cases hk2 : kd = 2
    ·have e1 : decide (kd = 2) = true := decide_eq_true hk2
     have e2 : decide (st = set) = false := decide_eq_false (fun h => hi ⟨hk2, h⟩)
     repeat (first | refine Zsu ?_ | (refine jn ?_; (try intro F); (refine bx ?_; intro bk); first | refine ⟨_, EndsA, QFTuB0, ?_⟩ | refine fin ?_) | (apply RD_W; rfl; intro bk))
     refine Zej rfl (fun h => (by cases h)) (fun _ => ?_)
     refine Zls ?_
     refine blockQ_n ?_
     refine ⟨_, (by repeat' constructor), rfl, _, rfl, ?_⟩
     refine SubO.permT (l := [X, Y, V, Zbm L r0, Zci D, _, _, _, _, _, _]) ?_ hp1
     rw [<- hr0]
     exact STA
    ·have e1 : decide (kd = 2) = false := decide_eq_false hk2
     repeat (first | refine Zsu ?_ | (refine jn ?_; (try intro F); (refine bx ?_; intro bk); first | refine ⟨_, EndsA, QFTuB0, ?_⟩ | refine fin ?_) | (apply RD_W; rfl; intro bk))
     refine Zej rfl (fun h => (by cases h)) (fun _ => ?_)
     refine Zls ?_
     refine blockQ_n ?_
     refine ⟨_, (by repeat' constructor), rfl, _, rfl, ?_⟩
     refine SubO.permT (l := [X, Y, V, Zbm L r0, Zci D, _, _, _, _, _, _]) ?_ hp1
     rw [<- hr0]
     exact STA
  ·rintro i q g hq rfl
   exact ZsK (Zb0 set) hq
 ·rintro jump O2 D w4 ⟨rfl, hsub⟩ hs4
  rw [Zv8] at hsub
  have hs5 : St 34 w [(4, .pointer (some ⟨b4, 0, none⟩)), (5, .pointer (some ⟨b5, 0, none⟩))] (Zci D :: .blk b4 [.slice none 0 0, .slice none 0 0, .slice none 0 0, .slice none 0 0] 32 :: .blk b5 (srcC Ar2 Az2 Al2 As2 cr2 cz2 cl2 cs2 a) 32 :: rowR Ar2 cr2 a.rules :: rowZ Az2 cz2 Zs :: rowL Al2 cl2 a.links :: rowS As2 cs2 a.shifts :: (Zs.map (turZ (Zb0 set))).map Zau) a0 w4 := hs4.sub SFA (.cons .here hsub)
  show (Code.seq _ _).wp _ _ _ _
  have key : ∀ c' Q' Q3, WI Fence.wide (ZgR D) Tryz.prog 34 w c' Q' [(4, .pointer (some ⟨b4, 0, none⟩)), (5, .pointer (some ⟨b5, 0, none⟩))] (Zci D :: .blk b4 [.slice none 0 0, .slice none 0 0, .slice none 0 0, .slice none 0 0] 32 :: .blk b5 (srcC Ar2 Az2 Al2 As2 cr2 cz2 cl2 cs2 a) 32 :: rowR Ar2 cr2 a.rules :: rowZ Az2 cz2 Zs :: rowL Al2 cl2 a.links :: rowS As2 cs2 a.shifts :: (Zs.map (turZ (Zb0 set))).map Zau) -> (∀ e a' w', ZtH (ZgR D) 34 w Q' e a' w' -> Q3 e a' w') -> c'.wp Tryz.prog Q3 (actD (ZgR D) a0) w4 := fun c' Q' Q3 h hq => (wpIn_wide (n := 0)).1 (wpIn_mono (h.at hs5) hq)
  refine key _ (fun e fr O => e = .ret /\ Sub [(4, .pointer (some ⟨b4, 0, none⟩))] fr /\ SubO (Zci D :: .blk b4 (srcC Ar2 Az2 Al2 As2 cr2 cz2 cl2 cs2 a) 32 :: rowR Ar2 cr2 a.rules :: rowZ Az2 cz2 Zs :: rowL Al2 cl2 a.links :: rowS As2 cs2 a.shifts :: (Zs.map (turZ (Zb0 set))).map Zau) O) _ (ZbW (Za8 (.inl rfl) (by repeat (first | exact .nil | (refine .plain rfl ?_) | apply Calms.call | apply Calms.append | apply Calms.len)) ?_)) ?_
  ·unfold srcC
   repeat (first | refine walk ?_ | (refine jn ?_; (try intro F); (first | (refine bx ?_; intro bk) | (refine stA ?_) | (apply Zag; exact PuA)); refine fin ?_) | (apply RD_W; rfl; intro bk))
   try apply thenQ_n
   refine Zjh ?_
   exact ⟨rfl, SFA, STA⟩
  ·rintro e a' w' ⟨hd, fr', O', hs', rfl, hf, hO⟩
   have h := Zv9 (erasS (Zb0 set) a) w (hs'.sub hf hO) rfl (.refl _) ⟨Ar2, cr2, Az2, cz2, Al2, cl2, As2, cs2, Zs.map (turZ (Zb0 set)), by unfold srcC srcV erasS; rw [List.length_map], by rw [ZAZ, hZs]; rfl, by unfold rowZ; rw [ZyH, List.length_map]; rfl⟩
   rw [Ze1 hd] at h
   exact h
end Go.Proofs.YtbjomhdhkpgbaaaGreatDoor
