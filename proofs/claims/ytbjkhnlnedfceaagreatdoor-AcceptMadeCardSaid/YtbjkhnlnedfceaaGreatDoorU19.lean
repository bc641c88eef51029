/- Contracts: events.best, After. Contracts: events.After, apart.Far. Contracts: numeric.sum. Contracts: format.around$1, format.right. Engine: maps made with a size, delete, a copy of a map, maps that were there before the call. Engine: scopes and labels, a part of an array, strings of bytes, tests whose answers are known. Contracts of library functions, by the shelf: strings.Cut, HasPrefix, IndexFunc, Join, strconv.ParseUint. -/
import Derived.Test.YtbjkhnlnedfceaaGreatDoorU18
import Derived.Laws.Externs
import Derived.Test.YtbjkhnlnedfceaaGreatDoorU13
import Derived.Scope
import Derived.Laws.IdiomStrings
import Derived.Lib.TrimUEq
import Derived.Lib.SmallJoins
set_option maxHeartbeats 4000000
set_option linter.unusedVariables false
set_option linter.unusedSimpArgs false
namespace Go.Proofs.YtbjkhnlnedfceaaGreatDoor
open Go Go.RowKit Go.Wk
attribute [local irreducible] W RL Does thenQ blockQ retQ Calls Pu Stp RD Qy Ay DoesIn
def evC : Option DEvent → List Value
 | some e => DEvent.enc e
 | none => DEvent.enc dEv0
structure BG where
 k : Nat
 b : Option DEvent
theorem best_spec (A : Option Addr) (c : Nat) (l : List DRule) (yr nominal : Int) (b1 b2 b3 : Nat) (w : World) (hG : Glob w) (hA : RdSl w A c DRule.enc 11 l) (hn : l.length ≤ 1000000) (hR : ∀ r ∈ l, (-4611686018427387904 ≤ r.save ∧ r.save ≤ 4611686018427387904) ∧ r.from_ ≤ 4611686018427387904)
  (hy : -2000000000 ≤ yr ∧ yr ≤ 2000000000) (c1 : CellsAt w ⟨b1, 0, none⟩ [.slice A l.length c]) (c2 : CellsAt w ⟨b2, 0, none⟩ [.int .i64 yr]) (c3 : CellsAt w ⟨b3, 0, none⟩ [.int .i64 nominal]) :
  Does Tryz.prog 183 [.slice A l.length c, .func (.func 184) #[] #[.pointer (some ⟨b1, 0, none⟩), .pointer (some ⟨b2, 0, none⟩), .pointer (some ⟨b3, 0, none⟩)], .func (.func 149) #[] #[]] w
   (fun v O => v = .tuple #[evV (afterGo (leastD l) nominal yr l 0 none), .bool (afterGo (leastD l) nominal yr l 0 none).isSome] ∧ O = []) := by
 have haf := fun (i : Nat) r (hi : l[i]? = some r) w' (hw : Bel w.heap.size w w') => after1_spec A c l i r yr nominal b1 b2 b3 w' (hG.up hw) (hA.up hw) hi hn (fun r hr => (hR r hr).1) hy (hR r (List.mem_of_getElem? hi)).2 (c1.up hw (Nat.le_refl _)) (c2.up hw (Nat.le_refl _)) (c3.up hw (Nat.le_refl _))
 obtain ⟨res, hres⟩ : ∃ res, afterGo (leastD l) nominal yr l 0 none = res := ⟨_, rfl⟩
 rw [hres]
 generalize leastD l = least at *
 clear hA hR c1 c2 c3
 refine Does_of_W Tryz.func183 rfl rfl rfl rfl ?_
 repeat (first | (refine js ?_; (refine bx ?_; intro bk)) | refine walk ?_)
 rename_i b6
 refine W_loopF [(13, .slice A l.length c), (1, .func (.func 184) #[] #[.pointer (some ⟨b1, 0, none⟩), .pointer (some ⟨b2, 0, none⟩), .pointer (some ⟨b3, 0, none⟩)]), (2, .func (.func 149) #[] #[]), (8, .pointer (some ⟨bk, 0, none⟩)), (6, .pointer (some ⟨b6, 0, none⟩)), (14, .int .i64 l.length)] [.blk b6 [.int .i64 0, .int .i64 0, .int .i64 0] 137]
  (fun g : BG => [(15, .int .i64 g.k), (9, .bool g.b.isSome)]) (fun g => [.blk bk (evC g.b) 137]) (fun g => g.k ≤ l.length ∧ afterGo least nominal yr (l.drop g.k) g.k g.b = res) (fun g => l.length - g.k) ⟨0, none⟩ SFA SOA ⟨Nat.zero_le _, hres⟩ ?_
 rintro ⟨k, b⟩ ⟨hk, hi⟩
 dsimp only at hk hi ⊢
 repeat (first | (refine js ?_; (refine bx ?_; intro bk)) | refine walk ?_)
 refine W_cond rfl (fun h => ?_) (fun h => ?_)
 ·have hlt : k < l.length := by simpa using h
  have ho := haf k _ (List.getElem?_eq_getElem hlt)
  rw [drop_cons hlt, afterGo] at hi
  generalize evIn least nominal l[k] k (max (max l[k].from_ (-2000000000)) (yr - 2)) 20 = o at *
  have hord := fun e e2 w' => order_spec e e2 w'
  rcases o with _ | ⟨ey, er, en⟩ <;> rcases b with _ | ⟨by_, br, bn⟩ <;> simp only [evV, evC, DEvent.enc, dEv0, Option.isSome] at ho hi ⊢
  ·repeat (first | refine und ?_ | (refine js ?_; (first | (apply Stp_callV (f := 184) (us := []) (vs := [.int .i64 k]) (cs := [.pointer (some ⟨b1, 0, none⟩), .pointer (some ⟨b2, 0, none⟩), .pointer (some ⟨b3, 0, none⟩)]) (h := fun w' hw _ => ho w' hw); rfl; rfl; rintro v O' ⟨rfl, rfl⟩) | (refine bx ?_; intro bk))) | refine walk ?_)
   exact ⟨⟨k + 1, none⟩, OA, ⟨OA, hi⟩, SFA, SOA⟩
  ·repeat (first | refine und ?_ | (refine js ?_; (first | (apply Stp_callV (f := 184) (us := []) (vs := [.int .i64 k]) (cs := [.pointer (some ⟨b1, 0, none⟩), .pointer (some ⟨b2, 0, none⟩), .pointer (some ⟨b3, 0, none⟩)]) (h := fun w' hw _ => ho w' hw); rfl; rfl; rintro v O' ⟨rfl, rfl⟩) | (refine bx ?_; intro bk))) | refine walk ?_)
   exact ⟨⟨k + 1, some ⟨by_, br, bn⟩⟩, OA, ⟨OA, hi⟩, SFA, SOA⟩
  ·repeat (first | refine und ?_ | (refine js ?_; (first | (apply Stp_callV (f := 184) (us := []) (vs := [.int .i64 k]) (cs := [.pointer (some ⟨b1, 0, none⟩), .pointer (some ⟨b2, 0, none⟩), .pointer (some ⟨b3, 0, none⟩)]) (h := fun w' hw _ => ho w' hw); rfl; rfl; rintro v O' ⟨rfl, rfl⟩) | (refine bx ?_; intro bk))) | refine walk ?_)
   exact ⟨⟨k + 1, some ⟨ey, er, en⟩⟩, OA, ⟨OA, hi⟩, SFA, SOA⟩
  ·repeat (first | refine und ?_ | (refine js ?_; (first | (apply Stp_callV (f := 184) (us := []) (vs := [.int .i64 k]) (cs := [.pointer (some ⟨b1, 0, none⟩), .pointer (some ⟨b2, 0, none⟩), .pointer (some ⟨b3, 0, none⟩)]) (h := fun w' hw _ => ho w' hw); rfl; rfl; rintro v O' ⟨rfl, rfl⟩) | (apply Stp_callV (f := 149) (us := []) (cs := []) (vs := [.agg #[.int .i64 ey, .int .i64 er, .int .i64 en], .agg #[.int .i64 by_, .int .i64 br, .int .i64 bn]]) (h := fun w' hw _ => hord ⟨ey, er, en⟩ ⟨by_, br, bn⟩ w'); rfl; rfl; rintro v O' ⟨rfl, rfl⟩) | (refine bx ?_; intro bk))) | refine walk ?_)
   refine W_cond rfl (fun h2 => ?_) (fun h2 => ?_)
   ·rw [if_pos (of_decide_eq_true h2)] at hi
    repeat (first | (refine js ?_; (refine bx ?_; intro bk)) | refine walk ?_)
    exact ⟨⟨k + 1, some ⟨ey, er, en⟩⟩, OA, ⟨OA, hi⟩, SFA, SOA⟩
   ·rw [if_neg (of_decide_eq_false h2)] at hi
    repeat (first | (refine js ?_; (refine bx ?_; intro bk)) | refine walk ?_)
    exact ⟨⟨k + 1, some ⟨by_, br, bn⟩⟩, OA, ⟨OA, hi⟩, SFA, SOA⟩
 ·obtain rfl : k = l.length := by have := of_decide_eq_false h; omega
  rw [List.drop_length, afterGo] at hi
  subst hi
  rcases b with _ | ⟨by_, br, bn⟩ <;> simp only [evC, DEvent.enc, dEv0]
  ·repeat (first | (refine js ?_; (refine bx ?_; intro bk)) | refine walk ?_)
   exact rtC
  ·repeat (first | (refine js ?_; (refine bx ?_; intro bk)) | refine walk ?_)
   exact rtC
theorem yearOf_bd (t : Int) : -2000000000 ≤ yearOf t ∧ yearOf t ≤ 2000000000 := by unfold yearOf; omega
def RsOk (l : List DRule) : Prop := ∀ r ∈ l, (-4611686018427387904 ≤ r.save ∧ r.save ≤ 4611686018427387904) ∧ r.from_ ≤ 4611686018427387904
theorem after_spec (A : Option Addr) (c : Nat) (l : List DRule) (nominal : Int) (w : World) (hG : Glob w) (hA : RdSl w A c DRule.enc 11 l) (hn : l.length ≤ 1000000) (hR : RsOk l) (ht : -4611686018427387904 ≤ nominal ∧ nominal ≤ 4611686018427387904) :
  Does Tryz.prog 155 [.slice A l.length c, .int .i64 nominal] w (fun v O => v = .tuple #[evV (afterD l nominal), .bool (afterD l nominal).isSome] ∧ O = []) := by
 have hb := fun (b1 b2 b3 : Nat) w' (hw : Bel w.heap.size w w') c1 c2 c3 => best_spec A c l (yearOf nominal) nominal b1 b2 b3 w' (hG.up hw) (hA.up hw) hn hR (yearOf_bd nominal) c1 c2 c3
 change ∀ (b1 b2 b3 : Nat) w' (hw : Bel w.heap.size w w') c1 c2 c3, Does _ _ _ w' (fun v O => v = .tuple #[evV (afterD l nominal), .bool (afterD l nominal).isSome] ∧ O = []) at hb
 have hyr := fun w' (hw : Bel w.heap.size w w') => year_spec nominal ht w' (hG.up hw)
 generalize afterD l nominal = res at *
 generalize yearOf nominal = yr at *
 refine Does_of_W Tryz.func155 rfl rfl rfl rfl ?_
 rcases res with _ | ⟨ey, er, en⟩ <;> simp only [evV, DEvent.enc, dEv0, Option.isSome] at hb ⊢
 ·repeat (first | (refine js ?_; (first | (refine callE hyr ?_) | (apply Stp_call (h := fun w' hw hH => hb _ _ _ w' hw (hH.cells (by repeat' constructor)) (hH.cells (by repeat' constructor)) (hH.cells (by repeat' constructor))); rfl; rintro v O' ⟨rfl, rfl⟩) | (refine bx ?_; intro bk))) | refine walk ?_)
  exact rtC
 ·repeat (first | (refine js ?_; (first | (refine callE hyr ?_) | (apply Stp_call (h := fun w' hw hH => hb _ _ _ w' hw (hH.cells (by repeat' constructor)) (hH.cells (by repeat' constructor)) (hH.cells (by repeat' constructor))); rfl; rintro v O' ⟨rfl, rfl⟩) | (refine bx ?_; intro bk))) | refine walk ?_)
  exact rtC
def EvOk (o : Option DEvent) : Prop := ∀ e, o = some e → -200000000000000000 ≤ e.nominal ∧ e.nominal ≤ 200000000000000000
theorem onR_bd (least : Int) (hl : least ≤ 0) (r : DRule) (i y : Int) : EvOk (onR least r i y) := by
 intro e he
 unfold onR at he
 split at he
 ·cases he
 ·rename_i h1
  split at he
  ·cases he
  ·have hb := onD_bd y r.month r.day
   have hc : clkChk r.at_ = true := by
    cases hc : clkChk r.at_
    ·exact absurd (.inr (.inr hc)) h1
    ·rfl
   simp only [clkChk, Bool.and_eq_true, decide_eq_true_eq] at hc
   simp only [Option.some.injEq] at he
   subst he
   dsimp only
   split <;> omega
theorem evIn_bd (least nominal : Int) (hl : least ≤ 0) (r : DRule) (i : Int) : ∀ (k : Nat) (y : Int), EvOk (evIn least nominal r i y k)
 | 0, _ => fun e he => by cases he
 | k + 1, y => by
  rw [evIn]
  have h := onR_bd least hl r i y
  split
  ·rename_i e he
   split
   ·intro e2 h2; cases h2; exact h e he
   ·exact evIn_bd least nominal hl r i k (y + 1)
  ·exact evIn_bd least nominal hl r i k (y + 1)
theorem afterGo_bd (least nominal yr : Int) (hl : least ≤ 0) : ∀ (l : List DRule) (i : Nat) (b : Option DEvent), EvOk b → EvOk (afterGo least nominal yr l i b)
 | [], _, _, h => h
 | r :: l, i, b, h => by
  rw [afterGo]
  refine afterGo_bd least nominal yr hl l (i + 1) _ ?_
  have he := evIn_bd least nominal hl r i 20 (max (max r.from_ (-2000000000)) (yr - 2))
  generalize evIn least nominal r i (max (max r.from_ (-2000000000)) (yr - 2)) 20 = o at *
  cases o with
  | none => exact h
  | some e =>
   cases b with
   | none => exact he
   | some x =>
    dsimp only
    split
    ·exact he
    ·exact h
theorem PuEvF0 {G : Prop} (h : G := by (first | (apply Pu_minK; rfl; rfl; exact h1) | (apply Pu_maxK; rfl; rfl; exact h2))) : G := h
theorem far_spec (A : Option Addr) (c : Nat) (l : List DRule) (nominal : Int) (w : World) (hG : Glob w) (hA : RdSl w A c DRule.enc 11 l) (hn : l.length ≤ 1000000) (hR : RsOk l) (ht : -1000000000000000000 ≤ nominal ∧ nominal ≤ 1000000000000000000) :
  Does Tryz.prog 132 [.slice A l.length c, .int .i64 nominal] w (fun v O => v = .bool (farD l nominal) ∧ O = []) := by
 have haf := fun w' (hw : Bel w.heap.size w w') => after_spec A c l (nominal - 259200) w' (hG.up hw) (hA.up hw) hn hR (by omega)
 have hbd : EvOk (afterD l (nominal - 259200)) := afterGo_bd _ _ _ (leastD_le l fun r hr => (hR r hr).1).2 l 0 none (fun e he => by cases he)
 unfold farD
 generalize afterD l (nominal - 259200) = res at *
 have h1 : (if 1152921504606846976 < nominal then (1152921504606846976 : Int) else nominal) = nominal := if_neg (by omega)
 have h2 : (if (-1152921504606846976 : Int) < nominal then nominal else -1152921504606846976) = nominal := if_pos (by omega)
 refine Does_of_W Tryz.func132 rfl rfl rfl rfl ?_
 rcases res with _ | ⟨ey, er, en⟩ <;> simp only [evV, DEvent.enc, dEv0, Option.isSome] at haf ⊢
 ·repeat' (first | (apply RL_pu; rfl; exact PuEvF0) | (refine js ?_; (first | (refine callE haf ?_) | (refine bx ?_; intro bk))) | refine walk1 ?_ | refine und ?_ | (refine RL_gsplit rfl rfl rfl (fun hc => ?_) (fun hc => ?_)) | (refine RD_gsplit rfl rfl rfl (fun hc => ?_) (fun hc => ?_)) | (refine W_cond rfl (fun hc => ?_) (fun hc => ?_)))
  exact rtA
 ·have hb := hbd _ rfl
  dsimp only at hb
  repeat' (first | (apply RL_pu; rfl; exact PuEvF0) | (refine js ?_; (first | (refine callE haf ?_) | (refine bx ?_; intro bk))) | refine walk1 ?_ | refine und ?_ | (refine RL_gsplit rfl rfl rfl (fun hc => ?_) (fun hc => ?_)) | (refine RD_gsplit rfl rfl rfl (fun hc => ?_) (fun hc => ?_)) | (refine W_cond rfl (fun hc => ?_) (fun hc => ?_)))
  exact rtA
end Go.Proofs.YtbjkhnlnedfceaaGreatDoor
namespace Go.Wk
open Go Go.RowKit
def notLet (c : Int) : Bool := (decide (c < 65) || decide (90 < c)) && (decide (c < 97) || decide (122 < c))
end Go.Wk
namespace Go.Proofs.YtbjkhnlnedfceaaGreatDoor
open Go Go.RowKit Go.Wk
attribute [local irreducible] W RL Does thenQ blockQ retQ Calls Pu Stp RD Qy Ay DoesIn
theorem right_spec (s : ByteArray) (ok : Bool) (w : World) : Does Tryz.prog 56 [.string s, .bool ok] w (fun v O => v = .tuple #[.string (if ok then s else ByteArray.empty), .int .i64 (if ok then 0 else 15)] ∧ O = []) := by
 rw [show ByteArray.empty = ⟨#[]⟩ from rfl]
 refine Does_of_W Tryz.func56 rfl rfl rfl rfl ?_
 cases ok
 ·repeat' (first | refine walk ?_ | (refine W_cond rfl (fun hc => ?_) (fun hc => ?_)))
  all_goals exact clo2
 ·repeat' (first | refine walk ?_ | (refine W_cond rfl (fun hc => ?_) (fun hc => ?_)))
  all_goals exact clo2
end Go.Proofs.YtbjkhnlnedfceaaGreatDoor
namespace Go.Wk
open Go Go.RowKit
section
variable {P : Program} {n : Nat} {wr : World} {fr : Fr} {O : List It} {ty : TypeId} {pos : String} {af : Array Edge} {dst : Option Tmp} {g : Option (Nat × Bool)} {Kp : Value → List It → Prop}
theorem Stp_makeMapN {t kt et : Nat} {x : Operand} {kk : IntKind} {i : Int} [hM : MapT P t kt et] (hx : ev fr x = some (.int kk i)) (k : ∀ b, Kp (.map (some b)) (.mp b [] :: O)) : Stp P n wr fr O ⟨dst, .makeMap t (some x), ty, pos, af, g⟩ Kp :=
 Stp_val fun a w hs => by
  have hB : Bel w.heap.size w (w.alloc (.map #[] 0)) := (Bel.refl _ _).alloc (Nat.le_refl _) _
  have hu := MapT.parts hM.h
  refine ⟨.map (some w.heap.size), w.alloc (.map #[] 0), _, ?_, hs.old.trans (hB.mono hs.old.size), hs.own.grow (O' := [.mp w.heap.size []]) hB hs.old.size ⟨fun i hi => ?_, fun i hi b hb => ?_, List.pairwise_singleton _ _⟩, k _⟩
  ·simp [execOp, hs.sim.ev hx, Instr.makeMap, run_underlying hu, asInt, asIntOf, newObj, Sem.run]
  ·rw [List.mem_singleton.1 hi]
   exact ⟨#[], 0, heap_alloc_new w _, rfl, stOk_nil⟩
  ·rw [List.mem_singleton.1 hi] at hb
   simp only [It.S] at hb
   subst hb
   exact ⟨Nat.le_refl _, by simp⟩
theorem toList_eraseIn (es : Array MapEntry) (j : Nat) : (es.eraseIdxIfInBounds j).toList = es.toList.eraseIdx j := by
 unfold Array.eraseIdxIfInBounds
 split
 ·simp
 ·rw [List.eraseIdx_of_length_le (by simp; omega)]
theorem stOk_erase {es : Array MapEntry} {c : Nat} (h : stOk es c) (j : Nat) : stOk (es.eraseIdxIfInBounds j) c := by
 unfold stOk
 rw [toList_eraseIn]
 have hsub : ((es.toList.eraseIdx j).map (·.born)).Sublist (es.toList.map (·.born)) := (List.eraseIdx_sublist _ _).map _
 exact ⟨h.1.sublist hsub, fun n hn => h.2 n (hsub.subset hn)⟩
theorem Stp_delete {t t2 kt et b : Nat} {x ix : Operand} {m : List (ByteArray × Value)} {k : ByteArray} {O' : List It} [hM : MapT P t kt et] [StringT P kt] (hx : ev fr x = some (.map (some b))) (hi : ev fr ix = some (.string k))
  (hu : Upd O (.mp b m) (.mp b (mdel m k)) O') (kk : Kp (.tuple #[]) O') : Stp P n wr fr O ⟨dst, .call ⟨.builtin .delete, #[x, ix], #[t, t2]⟩, ty, pos, af, g⟩ Kp :=
 Stp_val fun a w hs => by
  have ht := MapT.parts hM.h
  obtain ⟨es, c, h1, h2, h9⟩ := hs.own.sat _ hu.mem
  have hf := mfind_del k m es.toList 0 h2
  cases hfi : mfind m k 0 with
  | none =>
   rw [hfi] at hf
   have hst := hs.setMap (es' := es) (c' := c) hu (by unfold entriesOf; rw [hf]; exact h2) h9
   refine ⟨.tuple #[], _, O', ?_, hst.1, hst.2, kk⟩
   simp only [execOp, resolve, invoke, builtin, Builtin.delete_, hs.sim.ev hx, hs.sim.ev hi]
   simp [hs.sim.ev hx, hs.sim.ev hi, Builtin.delete_, run_underlying ht, run_getObj h1, run_checkKey _ k 9999, run_findKey k m es.toList w h2, hfi, setObj, Sem.run, h1]
  | some p =>
   obtain ⟨j, u⟩ := p
   rw [hfi] at hf
   obtain ⟨_, hf2⟩ := hf
   rw [Nat.sub_zero] at hf2
   have hst := hs.setMap (es' := es.eraseIdxIfInBounds j) (c' := c) hu (by unfold entriesOf; rw [toList_eraseIn]; exact hf2) (stOk_erase h9 j)
   refine ⟨.tuple #[], _, O', ?_, hst.1, hst.2, kk⟩
   simp only [execOp, resolve, invoke, builtin, Builtin.delete_, hs.sim.ev hx, hs.sim.ev hi]
   simp [hs.sim.ev hx, hs.sim.ev hi, Builtin.delete_, run_underlying ht, run_getObj h1, run_checkKey _ k 9999, run_findKey k m es.toList w h2, hfi, setObj, Sem.run, h1]
def MpAt (w : World) (b : Nat) (m : List (ByteArray × Value)) : Prop := (It.mp b m).sat w
theorem MpAt.up {w w' : World} {b : Nat} {m : List (ByteArray × Value)} {B : Nat} (h : MpAt w b m) (hb : Bel B w w') (hB : w.heap.size ≤ B) : MpAt w' b m := by
 refine It.sat_congr h fun k hk => ?_
 obtain rfl : k = b := hk
 obtain ⟨es, c, h1, _⟩ := h
 exact hb.block k (Nat.lt_of_lt_of_le (Array.getElem?_eq_some_iff.1 h1).1 hB)
theorem Pu_lookupOld {t kt et b : Nat} {x ix : Operand} {m : List (ByteArray × Value)} {k : ByteArray} {z v : Value} [hM : MapT P t kt et] [StringT P kt] [ZeroV P et z] (hx : ev fr x = some (.map (some b))) (hi : ev fr ix = some (.string k))
  (hp : MpAt wr b m) (hv : (mget m k).getD z = v) : Pu P n wr fr O (.lookup t x ix false) ty v := hv ▸ Pu_lookupO (kt := kt) (et := et) hx hi (fun _ hw _ => hp.up hw (Nat.le_refl _))
theorem Pu_lookupOkOld {t kt et b : Nat} {x ix : Operand} {m : List (ByteArray × Value)} {k : ByteArray} {z v : Value} {c : Bool} [hM : MapT P t kt et] [StringT P kt] [ZeroV P et z] (hx : ev fr x = some (.map (some b))) (hi : ev fr ix = some (.string k))
  (hp : MpAt wr b m) (hv : (mget m k).getD z = v) (hc : (mget m k).isSome = c) : Pu P n wr fr O (.lookup t x ix true) ty (.tuple [v, .bool c].toArray) :=
 fun a w hs _ _ _ _ => by
  have := run_lookup (P := P) (t := t) (kt := kt) (et := et) (k := k) (z := z) (hp.up hs.old (Nat.le_refl _)) true
  simp only [execOp, hs.sim.ev hx, hs.sim.ev hi, Sem.run_bind, this, Result.andThen_ok, Sem.run_pure]
  rw [← hv, ← hc]
  rfl
theorem Pu_eqNilMap {t t' kt et : Nat} {x : Operand} {p : Option Nat} [hM : MapT P t kt et] (hx : ev fr x = some (.map p)) : Pu P n wr fr O (.binOp .eql t x (.const (.map none)) t') ty (.bool p.isNone) :=
 fun a w hs _ _ _ _ => by
  have hu := MapT.parts hM.h
  have h : (binOp .eql t (.map p) (.map none)).run P w = .ok (.bool p.isNone) w := by
   simp only [binOp]
   have : ∀ d, (Op.equalIn (d + 1) t (.map p) (.map none)).run P w = .ok p.isNone w := fun d => by cases p <;> simp [Op.equalIn, run_underlying hu]
   rw [show Op.equal t (.map p) (.map none) = Op.equalIn (9999 + 1) t (.map p) (.map none) from rfl]
   simp only [Sem.run_bind, this 9999, Result.andThen_ok, Sem.run_pure]
  have hc : a.eval (.const (.map none)) = .map none := rfl
  simp [execOp, hs.sim.ev hx, hc, eqGuard, h]
theorem Pu_ifaceMap {t kt et : Nat} {x : Operand} {v : Value} [hM : MapT P t kt et] (hx : ev fr x = some v) : Pu P n wr fr O (.makeInterface t x) ty (.iface t v) :=
 fun a w hs _ _ _ _ => by
  have hu := MapT.parts hM.h
  simp [execOp, hs.sim.ev hx, Instr.makeInterface, run_underlying hu]
theorem Pu_assertMap {t xt kt et : Nat} {x : Operand} {v : Value} [hM : MapT P t kt et] (hx : ev fr x = some (.iface t v)) : Pu P n wr fr O (.typeAssert x xt t false) ty v :=
 fun a w hs _ _ _ _ => by
  have hu := MapT.parts hM.h
  simp [execOp, hs.sim.ev hx, Instr.typeAssert, run_underlying hu]
def isClone (P : Program) (f : FuncId) : Prop := ∀ (args : Array Value) (w : World), (callFunc f args).run P w = ((Extern.MapsClone.clone args).run P w).andThen fun v w' => .ok (.value v) w'
theorem Stp_mapsClone {f t b : Nat} {x : Operand} {ts : Array TypeId} {m : List (ByteArray × Value)} (hf : isClone P f) (hx : ev fr x = some (.iface t (.map (some b)))) (hp : ∀ w, Bel wr.heap.size wr w → Holds wr.heap.size O w → MpAt w b m)
  (kk : ∀ b2, Kp (.iface t (.map (some b2))) (.mp b2 m :: O)) : Stp P n wr fr O ⟨dst, .call ⟨.value (.func f), #[x], ts⟩, ty, pos, af, g⟩ Kp :=
 Stp_val fun a w hs => by
  obtain ⟨es, c, h1, h2⟩ := hp w hs.old hs.own
  have hB : Bel w.heap.size w (w.alloc (.map es c)) := (Bel.refl _ _).alloc (Nat.le_refl _) _
  have hrun : (Extern.MapsClone.clone #[.iface t (.map (some b))]).run P w = .ok (.iface t (.map (some w.heap.size))) (w.alloc (.map es c)) := by
   have e : Extern.MapsClone.clone #[.iface t (.map (some b))] = (getObj b >>= fun o => match o with
     | .map entries clock => (newObj (.map entries clock) >>= fun n => pure (.iface t (.map (some n))))
     | _ => stuck "maps.clone: a map expected") := rfl
   rw [e]
   simp [run_getObj h1, newObj, Sem.run]
  refine ⟨.iface t (.map (some w.heap.size)), w.alloc (.map es c), _, ?_, hs.old.trans (hB.mono hs.old.size), hs.own.grow (O' := [.mp w.heap.size m]) hB hs.old.size ⟨fun i hi => ?_, fun i hi b hb => ?_, List.pairwise_singleton _ _⟩, kk _⟩
  ·have hev := hs.sim.ev hx
   have he : a.eval (.func f) = .func (.func f) #[] #[] := rfl
   have hc := hf #[.iface t (.map (some b))] w
   rw [hrun, Result.andThen_ok] at hc
   simp [execOp, resolve, he, Deferred.ofValue, invoke, hc, hev]
  ·rw [List.mem_singleton.1 hi]
   exact ⟨es, c, heap_alloc_new w _, h2⟩
  ·rw [List.mem_singleton.1 hi] at hb
   simp only [It.S] at hb
   subst hb
   exact ⟨Nat.le_refl _, by simp⟩
end
def Nd (m : List (ByteArray × Value)) : Prop := (m.map (·.1)).Nodup
theorem mget_none_mem (k : ByteArray) : ∀ m : List (ByteArray × Value), mget m k = none ↔ k ∉ m.map (·.1)
 | [] => by simp [mget]
 | (x, v) :: r => by
  simp only [mget, List.map_cons, List.mem_cons, not_or]
  by_cases h : k = x
  ·simp [h]
  ·simp [h, mget_none_mem k r]
theorem mset_keys_in (k : ByteArray) (v : Value) : ∀ m : List (ByteArray × Value), k ∈ m.map (·.1) → (mset m k v).map (·.1) = m.map (·.1)
 | [], h => by simp at h
 | (x, u) :: r, h => by
  simp only [mset]
  by_cases hk : k = x
  ·simp [hk]
  ·rw [if_neg hk]
   simp only [List.map_cons, List.mem_cons, hk, false_or] at h ⊢
   rw [mset_keys_in k v r h]
theorem mset_keys_out (k : ByteArray) (v : Value) : ∀ m : List (ByteArray × Value), k ∉ m.map (·.1) → (mset m k v).map (·.1) = m.map (·.1) ++ [k]
 | [], _ => by simp [mset]
 | (x, u) :: r, h => by
  simp only [List.map_cons, List.mem_cons, not_or] at h
  simp only [mset, if_neg h.1, List.map_cons, mset_keys_out k v r h.2, List.cons_append]
theorem Nd.set {m : List (ByteArray × Value)} (h : Nd m) (k : ByteArray) (v : Value) : Nd (mset m k v) := by
 unfold Nd at h ⊢
 by_cases hk : k ∈ m.map (·.1)
 ·rw [mset_keys_in k v m hk]; exact h
 ·rw [mset_keys_out k v m hk, List.nodup_append]
  exact ⟨h, by simp, fun a ha b hb => by simp only [List.mem_singleton] at hb; subst hb; exact fun e => hk (e ▸ ha)⟩
theorem mdel_sub (k : ByteArray) : ∀ m : List (ByteArray × Value), (mdel m k).Sublist m
 | [] => List.Sublist.slnil
 | (x, u) :: r => by
  simp only [mdel]
  split
  ·exact List.sublist_cons_self _ _
  ·exact (mdel_sub k r).cons_cons _
theorem Nd.del {m : List (ByteArray × Value)} (h : Nd m) (k : ByteArray) : Nd (mdel m k) := List.Nodup.sublist ((mdel_sub k m).map _) h
theorem mget_mdel (k x : ByteArray) : ∀ {m : List (ByteArray × Value)}, Nd m → mget (mdel m k) x = if x = k then none else mget m x
 | [], _ => by simp [mdel, mget]
 | (y, u) :: r, h => by
  unfold Nd at h
  simp only [List.map_cons, List.nodup_cons] at h
  simp only [mdel]
  by_cases hk : k = y
  ·subst hk
   rw [if_pos rfl]
   by_cases hx : x = k
   ·subst hx
    rw [if_pos rfl]
    exact (mget_none_mem x r).2 h.1
   ·rw [if_neg hx, mget, if_neg hx]
  ·rw [if_neg hk]
   simp only [mget]
   by_cases hx : x = y
   ·subst hx
    rw [if_pos rfl, if_pos rfl, if_neg (fun e => hk e.symm)]
   ·rw [if_neg hx, if_neg hx, mget_mdel k x h.2]
theorem mdel_len (k : ByteArray) : ∀ {m : List (ByteArray × Value)}, (mget m k).isSome = true → (mdel m k).length + 1 = m.length
 | [], h => by simp [mget] at h
 | (y, u) :: r, h => by
  simp only [mget] at h
  simp only [mdel]
  by_cases hk : k = y
  ·simp [hk]
  ·rw [if_neg hk] at h ⊢
   simp [mdel_len k h]
theorem mset_len (k : ByteArray) (v : Value) : ∀ m : List (ByteArray × Value), (mset m k v).length ≤ m.length + 1
 | [] => by simp [mset]
 | (y, u) :: r => by
  simp only [mset]
  split
  ·simp
  ·simp [mset_len k v r]
section
variable {P : Program} {n : Nat} {wr : World} {Q : Exit → Fr → List It → Prop} {fr : Fr} {O : List It} {K : Fr → List It → Prop}
theorem goto_ret {l : Nat} {rs : List ResultVar} {R : Value → List It → Prop} : ¬ retQ P wr rs R (.goto l) fr O := id
theorem W_scope {c : Code} (hg : ∀ l fr O, ¬ Q (.goto l) fr O) (h : W P n wr c Q fr O) : W P n wr (.scope c) Q fr O := by
 intro a w hs
 refine wp_scope_straight (wp_mono (h a w hs) ?_)
 rintro e a' w' ⟨fr', O', hs', hq⟩
 cases e with
 | goto l => exact (hg l _ _ hq).elim
 | _ => exact ⟨fr', O', hs', hq⟩
theorem W_label {l : Nat} (h : Q .normal fr O) : W P n wr (.label l) Q fr O := fun _ _ hs => wp_label ⟨fr, O, hs, h⟩
end
section
variable {P : Program} {n : Nat} {wr : World} {fr : Fr} {O : List It} {ty : TypeId} {pos : String} {af : Array Edge} {dst : Option Tmp} {g : Option (Nat × Bool)} {Kp : Value → List It → Prop}
theorem Pu_sliceArrH {t len e sz b : Nat} {ag : Bool} {x y : Operand} {h : Int} [hA : ArrT P t len e sz ag] (hx : ev fr x = some (.pointer (some ⟨b, 0, none⟩))) (hy : ev fr y = some (.int .i64 h)) (h0 : 0 ≤ h) (h1 : h ≤ len) :
  Pu P n wr fr O (.slice t x none (some y) none) ty (.slice (some ⟨b, 0, none⟩) h.toNat len) :=
 fun a w hs _ _ _ _ => by
  have h := hA.h
  unfold arrChk at h
  split at h
  ·rename_i len' e' hu
   split at h
   ·rename_i sz' ag' ht
    simp only [Option.some.injEq, Prod.mk.injEq] at h
    obtain ⟨rfl, rfl, rfl, rfl⟩ := h
    obtain ⟨inf, dd, hinf, hsz, _, _⟩ := Ty.parts ht
    simp [execOp, hs.sim.ev hx, hs.sim.ev hy, Instr.sliceAt, run_underlying hu, Instr.sureAddr, Instr.sliceBounds, run_sliceBound, h0, h1, sizeOf, run_typeInfo hinf, Addr.add]
   ·cases h
  ·cases h
theorem Pu_loadBi {t sz b p : Nat} {x : Operand} {cs : List Value} {bt : TypeId} {v : Value} {R : List It} [Ty P t sz false] (hx : ev fr x = some (.pointer (some ((adr (some ⟨b, 0, none⟩)).add p))))
  (hp : Pick (.blk b cs bt) O R) (hv : cs[p]? = some v) : Pu P n wr fr O (.load t x) ty v :=
 Pu_loadB1 (by rw [hx, show adr (some (⟨b, 0, none⟩ : Addr)) = ⟨b, 0, none⟩ from rfl, add_mk, Nat.zero_add]) hp hv
theorem Pu_loadBa {t sz b p : Nat} {x : Operand} {cs : List Value} {bt : TypeId} {v : Value} {R : List It} [Ty P t sz false] (hx : ev fr x = some (.pointer (some ((⟨b, 0, none⟩ : Addr).add p))))
  (hp : Pick (.blk b cs bt) O R) (hv : cs[p]? = some v) : Pu P n wr fr O (.load t x) ty v :=
 Pu_loadB1 (by rw [hx, add_mk, Nat.zero_add]) hp hv
theorem Pu_neg64 {t : TypeId} {x : Operand} {i : Int} (hx : ev fr x = some (.int .i64 i)) (h : -9223372036854775807 ≤ i ∧ i ≤ 9223372036854775807) : Pu P n wr fr O (.unOp .neg t x) ty (.int .i64 (-i)) := by
 have := Pu_negW (P := P) (n := n) (wr := wr) (O := O) (ty := ty) (t := t) hx
 rwa [Int.zero_sub, wrap64_id (by omega)] at this
def byteV (c : UInt8) : Value := .int .u8 (c.toNat : Int)
theorem Pu_convBytes {t t' e sz bytes et c : Nat} {x : Operand} {A : Option Addr} {m : Nat} {l : List UInt8} {xs : List Value} {R : List It} [hE : ElemT P t e sz bytes] [hU : IntT P e .u8] [hS : StringT P t'] (hx : ev fr x = some (.slice A m c))
  (hp : Pick (.row (.slice A m c) et 1 m xs) O R) (hxs : xs = l.map byteV) (hm : m = l.length) (hA : A ≠ none) : Pu P n wr fr O (.convert t t' x) ty (.string ⟨l.toArray⟩) :=
 fun a w hs _ _ _ _ => by
  have h := hE.h
  unfold elemChk at h
  split at h
  ·rename_i e' hu
   split at h
   ·simp only [Option.some.injEq, Prod.mk.injEq] at h
    obtain ⟨rfl, _, _⟩ := h
    obtain ⟨ad, rfl⟩ := Option.ne_none_iff_exists'.1 hA
    subst hm hxs
    have hsat := hs.own.sat _ (hp.perm.mem_iff.2 List.mem_cons_self)
    have hc : ∀ j (hj : j < l.length), w.cell? (ad.add j) = some (.int .u8 (l[j].toNat : Int)) := fun j hj => by
     have := row_cell hsat (j := j) (u := byteV l[j]) (by rw [List.getElem?_map, List.getElem?_eq_getElem hj]; rfl)
     exact this.2
    have hrun := run_convert_bytes_back (P := P) w t t' e' ad c l hu hU.h hS.h hc
    simp [execOp, hs.sim.ev hx, hrun]
   ·cases h
  ·cases h
theorem Pu_lssB {t t' : TypeId} {x y : Operand} {kk : IntKind} {i j : Int} {b : Bool} (hx : ev fr x = some (.int kk i)) (hy : ev fr y = some (.int kk j)) (h : decide (i < j) = b) : Pu P n wr fr O (.binOp .lss t x y t') ty (.bool b) := h ▸ Pu_lss hx hy
theorem Pu_leqB {t t' : TypeId} {x y : Operand} {kk : IntKind} {i j : Int} {b : Bool} (hx : ev fr x = some (.int kk i)) (hy : ev fr y = some (.int kk j)) (h : decide (i ≤ j) = b) : Pu P n wr fr O (.binOp .leq t x y t') ty (.bool b) := h ▸ Pu_leq hx hy
theorem Pu_gtrB {t t' : TypeId} {x y : Operand} {kk : IntKind} {i j : Int} {b : Bool} (hx : ev fr x = some (.int kk i)) (hy : ev fr y = some (.int kk j)) (h : decide (j < i) = b) : Pu P n wr fr O (.binOp .gtr t x y t') ty (.bool b) := h ▸ Pu_gtr hx hy
theorem Pu_geqB {t t' : TypeId} {x y : Operand} {kk : IntKind} {i j : Int} {b : Bool} (hx : ev fr x = some (.int kk i)) (hy : ev fr y = some (.int kk j)) (h : decide (j ≤ i) = b) : Pu P n wr fr O (.binOp .geq t x y t') ty (.bool b) := h ▸ Pu_geq hx hy
theorem Pu_eqlB {t t' : TypeId} {x y : Operand} {kk : IntKind} {i j : Int} {b : Bool} (hx : ev fr x = some (.int kk i)) (hy : ev fr y = some (.int kk j)) (h : decide (i = j) = b) : Pu P n wr fr O (.binOp .eql t x y t') ty (.bool b) := h ▸ Pu_eql hx hy
theorem Pu_neqB' {t t' : TypeId} {x y : Operand} {kk : IntKind} {i j : Int} {b : Bool} (hx : ev fr x = some (.int kk i)) (hy : ev fr y = some (.int kk j)) (h : (!decide (i = j)) = b) : Pu P n wr fr O (.binOp .neq t x y t') ty (.bool b) := h ▸ Pu_neq hx hy
theorem Pu_eqlSB {t t' : TypeId} {x y : Operand} {i j : ByteArray} {b : Bool} (hx : ev fr x = some (.string i)) (hy : ev fr y = some (.string j)) (h : decide (i = j) = b) : Pu P n wr fr O (.binOp .eql t x y t') ty (.bool b) := h ▸ Pu_eqlS hx hy
theorem Pu_neqSB {t t' : TypeId} {x y : Operand} {i j : ByteArray} {b : Bool} (hx : ev fr x = some (.string i)) (hy : ev fr y = some (.string j)) (h : (!decide (i = j)) = b) : Pu P n wr fr O (.binOp .neq t x y t') ty (.bool b) := h ▸ Pu_neqS hx hy
end
open Go.Lib
theorem does_of {P : Program} {f : FuncId} {args : List Value} {w : World} {v : Value} (h : Calls P f args.toArray w fun e w' => e = .returned v ∧ Below w.heap.size w w') : Does P f args w fun v' O => v' = v ∧ O = [] :=
 h.mono fun _ _ ⟨he, hb⟩ => ⟨v, [], he, ⟨hb⟩, Holds.nil _ _, rfl, rfl⟩
theorem belDrew (B : Nat) (w : World) (n : Nat) : Below B w (w.drewN n) := ⟨rfl, rfl, rfl, Nat.le_refl _, fun _ _ => rfl⟩
theorem idx_let (s : ByteArray) : ∀ (f pos : Nat), s.size ≤ pos + f → (idxFuncFrom (fun r => notLet (r : Int)) true s f pos < 0 ↔ letterL (s.data.toList.drop pos) = true)
 | 0, pos, h => by
  rw [List.drop_eq_nil_of_le (by simpa using h)]
  simp [idxFuncFrom, letterL]
 | f + 1, pos, h => by
  unfold idxFuncFrom
  by_cases hp : pos < s.size
  ·rw [if_pos hp]
   have hp' : pos < s.data.toList.length := by simpa using hp
   rw [List.drop_eq_getElem_cons hp', letterL, List.all_cons]
   have hg : s.get! pos = s.data.toList[pos] := by
    rw [Array.getElem_toList]
    show s.data[pos]! = _
    rw [getElem!_pos s.data pos (by simpa using hp')]
   have ih := idx_let s f (pos + 1) (by omega)
   unfold letterL at ih
   have hd : (s.data.toList[pos].toNat < 128 ∧ Utf8.decode s pos = (s.data.toList[pos].toNat, 1)) ∨ (128 ≤ s.data.toList[pos].toNat ∧ 128 ≤ (Utf8.decode s pos).1) := by
    unfold Utf8.decode
    simp only [Nat.add_zero, hg]
    generalize s.data.toList[pos].toNat = b
    by_cases hb : b < 128
    ·exact .inl ⟨hb, by rw [if_pos hb]⟩
    ·refine .inr ⟨by omega, ?_⟩
     rw [if_neg hb]
     repeat' split
     all_goals first | (simp only [Utf8.runeError]; omega) | (dsimp only; omega) | (dsimp only; simp only [Bool.and_eq_true, decide_eq_true_eq, ge_iff_le] at *; omega) | decide
   generalize s.data.toList[pos] = b at *
   rcases hd with ⟨hb, hd⟩ | ⟨hb, hd⟩
   ·rw [hd]
    dsimp only
    by_cases hl : notLet (b.toNat : Int) = true
    ·rw [if_pos hl]
     have : decide (byteK b.toNat = 1) = false := by
      unfold notLet at hl
      simp only [Bool.and_eq_true, Bool.or_eq_true, decide_eq_true_eq] at hl
      unfold byteK
      rw [if_neg (by omega)]
      repeat' split
      all_goals decide
     rw [this]
     simp
    ·rw [if_neg hl, ih]
     have : decide (byteK b.toNat = 1) = true := by
      unfold notLet at hl
      simp only [Bool.and_eq_true, Bool.or_eq_true, decide_eq_true_eq] at hl
      unfold byteK
      rw [if_pos (by omega)]
      rfl
     rw [this, Bool.true_and]
   ·have hl : notLet ((Utf8.decode s pos).1 : Int) = true := by
     unfold notLet
     simp only [Bool.and_eq_true, Bool.or_eq_true, decide_eq_true_eq]
     omega
    rw [if_pos hl]
    have : decide (byteK b.toNat = 1) = false := by
     unfold byteK
     rw [if_neg (by omega)]
     repeat' split
     all_goals decide
    rw [this]
    simp
  ·rw [if_neg hp, List.drop_eq_nil_of_le (by simpa using hp)]
   simp [letterL]
theorem parse8_eq : ∀ (l : List UInt8), l.length ≤ 2 → (match numU l with | some n => ∃ u : Nat, parseUintB 8 l = .ok u ∧ n = u ∧ u ≤ 99 | none => parseUintB 8 l = .syntax)
 | [], _ => rfl
 | [a], _ => by
  unfold numU parseUintB
  simp only [parseUintM, List.isEmpty_cons, Bool.false_eq_true, if_false, List.all_cons, List.all_nil, Bool.and_true, List.foldl_cons, List.foldl_nil, reduceCtorEq]
  by_cases h : 48 ≤ a ∧ a ≤ 57
  ·have h1 : 48 ≤ a.toNat ∧ a.toNat ≤ 57 := ⟨UInt8.le_iff_toNat_le.1 h.1, UInt8.le_iff_toNat_le.1 h.2⟩
   rw [if_pos (by simp [h.1, h.2]), if_pos h1]
   dsimp only
   refine ⟨_, by rw [if_neg (by omega), if_neg (by omega)], by omega, by omega⟩
  ·have h1 : ¬ (48 ≤ a.toNat ∧ a.toNat ≤ 57) := fun hh => h ⟨UInt8.le_iff_toNat_le.2 hh.1, UInt8.le_iff_toNat_le.2 hh.2⟩
   rw [if_neg (by simpa using h), if_neg h1]
 | [a, b], _ => by
  unfold numU parseUintB
  simp only [parseUintM, List.isEmpty_cons, Bool.false_eq_true, if_false, List.all_cons, List.all_nil, Bool.and_true, List.foldl_cons, List.foldl_nil, reduceCtorEq]
  by_cases h : 48 ≤ a ∧ a ≤ 57
  ·have h1 : 48 ≤ a.toNat ∧ a.toNat ≤ 57 := ⟨UInt8.le_iff_toNat_le.1 h.1, UInt8.le_iff_toNat_le.1 h.2⟩
   by_cases h' : 48 ≤ b ∧ b ≤ 57
   ·have h2 : 48 ≤ b.toNat ∧ b.toNat ≤ 57 := ⟨UInt8.le_iff_toNat_le.1 h'.1, UInt8.le_iff_toNat_le.1 h'.2⟩
    rw [if_pos (by simp [h.1, h.2, h'.1, h'.2]), if_pos h1, if_neg (by omega), if_neg (by omega), if_pos h2]
    dsimp only
    refine ⟨_, by rw [if_neg (by omega), if_neg (by omega)], by omega, by omega⟩
   ·have h2 : ¬ (48 ≤ b.toNat ∧ b.toNat ≤ 57) := fun hh => h' ⟨UInt8.le_iff_toNat_le.2 hh.1, UInt8.le_iff_toNat_le.2 hh.2⟩
    rw [if_neg (by intro hh; simp only [Bool.and_eq_true, decide_eq_true_eq] at hh; exact h' hh.2), if_pos h1, if_neg (by omega), if_neg (by omega), if_neg h2]
  ·have h1 : ¬ (48 ≤ a.toNat ∧ a.toNat ≤ 57) := fun hh => h ⟨UInt8.le_iff_toNat_le.2 hh.1, UInt8.le_iff_toNat_le.2 hh.2⟩
   rw [if_neg (by intro hh; simp only [Bool.and_eq_true, decide_eq_true_eq] at hh; exact h hh.1), if_neg h1]
 | _ :: _ :: _ :: _, h => by simp only [List.length_cons] at h; omega
end Go.Wk
namespace Go.Proofs.YtbjkhnlnedfceaaGreatDoor
open Go Go.RowKit Go.Wk Go.Lib
structure LibW (w : World) : Prop where
 mxl : ∃ m, w.cell? ⟨cutLay_ren.g 1, 0, none⟩ = some (.int .i64 m)
 syn : ∃ ev, w.cell? ⟨puLay_ren.g 0, 0, none⟩ = some ev ∧ (ev = .nilIface ∨ ∃ te pe, ev = .iface te pe)
theorem cut_spec (s p : ByteArray) (w : World) (hL : LibW w) (hs : s.size < 4294967281) :
  Does Tryz.prog 96 [.string s, .string p] w (fun v O => v = .tuple #[.string ⟨(cutV s.data.toList p.data.toList).1.toArray⟩, .string ⟨(cutV s.data.toList p.data.toList).2.1.toArray⟩, .bool (cutV s.data.toList p.data.toList).2.2] ∧ O = []) := by
 obtain ⟨m, hm⟩ := hL.mxl
 rw [← cutV_eq]
 exact does_of ((Any.strings_Cut { cutLay with } s p m w hs hm).mono fun e w' ⟨he, n, hw⟩ => ⟨he, hw ▸ belDrew _ _ _⟩)
theorem pref_spec (s p : ByteArray) (w : World) : Does Tryz.prog 169 [.string s, .string p] w (fun v O => v = .bool (p.data.toList.isPrefixOf s.data.toList) ∧ O = []) :=
 does_of ((Any.strings_HasPrefix prefLay s p w).mono fun e w' ⟨he, hw⟩ => ⟨he, hw ▸ Below.refl _ _⟩)
theorem around1_l (c : Int) (w : World) : Calls Tryz.prog 99 #[.int .i32 c] w fun e w' => e = .returned (.bool (notLet c)) ∧ ∃ q, w' = w.drewN q := by
 go_enter Tryz.func99, Tryz.ntmps99
 go_wp2
 all_goals go_ret
 all_goals refine ⟨congrArg Ending.returned (congrArg Value.bool (?_ : _ = notLet c)), 0, rfl⟩
 all_goals unfold notLet
 all_goals first | rfl | (simp [*]; done) | (simp_all; done) | (simp_all; omega)
theorem ixf_spec (s : ByteArray) (w : World) : Does Tryz.prog 98 [.string s, .func (.func 99) #[] #[]] w (fun v O => v = .int .i64 (idxFunc (fun r => notLet (r : Int)) true s) ∧ O = []) :=
 does_of (Any.strings_IndexFunc_runes ixfLay 99 #[] (enters_of Tryz.func99 (by kernel_rfl) rfl) (fun r => notLet (r : Int)) s w (fun W x _ _ => by unfold FnGives; simpa using around1_l x W))
theorem pu8_spec (s : ByteArray) (w : World) (hL : LibW w) (hs : s.size ≤ 2) :
  Does Tryz.prog 168 [.string s, .int .i64 10, .int .i64 8] w (fun v O => (match numU s.data.toList with | some n => v = .tuple #[.int .u64 n, .nilIface] ∧ 0 ≤ n ∧ n ≤ 99 | none => ∃ t p, v = .tuple #[.int .u64 0, .iface t (.pointer p)]) ∧ O = []) := by
 have h := parse8_eq s.data.toList (by simpa using hs)
 cases hn : numU s.data.toList with
 | none =>
  rw [hn] at h
  obtain ⟨ev, h1, h2⟩ := hL.syn
  exact (Any.strconv_ParseUint_10_at8_syntax puLay s (by omega) h ev w h1 h2).mono fun e w' ⟨N, he, _, _, hb⟩ => ⟨_, [], he, ⟨hb⟩, Holds.nil _ _, ⟨_, _, rfl⟩, rfl⟩
 | some n =>
  rw [hn] at h
  obtain ⟨u, h1, rfl, h3⟩ := h
  exact (Any.strconv_ParseUint_10_at8_ok puLay s (by omega) u h1 w).mono fun e w' ⟨he, hb⟩ => ⟨_, [], he, ⟨by rcases hb with rfl | rfl; exact Below.refl _ _; exact Go.Joins.below_bytesWorld _ _ _ _ (Nat.le_refl _)⟩, Holds.nil _ _, ⟨rfl, by omega, by omega⟩, rfl⟩
end Go.Proofs.YtbjkhnlnedfceaaGreatDoor
