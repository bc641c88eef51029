/- Plain functions: dates of rules (layer 38). Contracts: footer.dates, footer.Date. Engine: maps made with a size, delete, a copy of a map, maps that were there before the call. Engine: scopes and labels, a part of an array, strings of bytes, tests whose answers are known. -/
import Derived.Test.YtonjepladadmhaaGreatDoorR08
import Derived.Test.YtonjepladadmhaaGreatDoorR13
import Derived.Laws.Externs
import Derived.Test.YtonjepladadmhaaGreatDoorR10
import Derived.Scope
import Derived.Laws.IdiomStrings
set_option maxHeartbeats 4000000
set_option linter.unusedVariables false
set_option linter.unusedSimpArgs false
namespace Go.Wk
open Go Go.RowKit
structure DDate where
 kind : Int
 day : Int
 month : Int
 week : Int
 sec : Int
deriving DecidableEq
def DDate.enc (x : DDate) : List Value := [.int .i64 x.kind, .int .i64 x.day, .int .i64 x.month, .int .i64 x.week, .int .i64 x.sec]
def dt0 : DDate := ⟨0, 0, 0, 0, 0⟩
def inClk (n : Int) : Bool := decide (-604799 ≤ n) && decide (n ≤ 604799)
def dateF (m : Int) (d : DDay) : DDate × Bool :=
 if d.kind = 1 then (⟨1, (if daysOk 2001 m d.day then dayNo 2001 m d.day else 0) - dayNo 2001 1 1 + 1, 0, 0, 0⟩, daysOk 2001 m d.day)
 else if d.kind = 2 then (⟨3, d.week, m, 5, 0⟩, true)
 else if d.kind = 3 then (⟨3, d.week, m, d.day / 7 + 1, 0⟩, decide (d.day % 7 = 1) && decide (d.day < 29))
 else (dt0, false)
def noDate (r : DRule) : Bool := !decide (r.to = 1048576) || decide (r.month < 1) || decide (12 < r.month) || !dayChk r.day || !clkChk r.at_
def secD (r : DRule) (off before : Int) : Int := r.at_.sec + (if r.at_.base = 2 then off else 0) + (if r.at_.base = 2 ∨ r.at_.base = 1 then before else 0)
def dateD (r : DRule) (off before : Int) : DDate × Int :=
 if noDate r then (dt0, 2)
 else if (dateF r.month r.day).2 = false then (dt0, 2)
 else if inClk off = false ∨ inClk before = false then (dt0, 3)
 else if inClk (secD r off before) then ({ (dateF r.month r.day).1 with sec := secD r off before }, 0) else (dt0, 3)
theorem dayNo_d (y m d : Int) : dayNo y m d = dayNo y m 1 + d - 1 := by
 unfold dayNo dayNoM
 split <;> omega
end Go.Wk
namespace Go.Proofs.YtonjepladadmhaaGreatDoor
open Go Go.RowKit Go.Wk
attribute [local irreducible] W RL Does thenQ blockQ retQ Calls Pu Stp RD Qy Ay DoesIn
def ftCells : List Value := [fnV 284, fnV 285, fnV 286, fnV 287]
def FtG (w : World) : Prop := CellsAt w ⟨0, 1, none⟩ ftCells
theorem FtG.up {w w' : World} (h : FtG w) (hb : Bel w.heap.size w w') : FtG w' := CellsAt.up h hb (Nat.le_refl _)
def dateFn (k : Int) : FuncId := if k = 1 then 284 else if k = 2 then 285 else if k = 3 then 286 else 287
def dtV (x : DDate × Bool) : Value := .tuple #[.agg x.1.enc.toArray, .bool x.2]
theorem ftWithin_spec (n : Int) (w : World) : Does Tryz.prog 42 [.int .i64 n] w (fun v O => v = .bool (inClk n) ∧ O = []) := by
 refine Does_of_W Tryz.func42 rfl rfl rfl rfl ?_
 repeat' (first | refine walk ?_ | refine und ?_ | (refine RL_gsplit rfl rfl rfl (fun hc => ?_) (fun hc => ?_)) | (refine RD_gsplit rfl rfl rfl (fun hc => ?_) (fun hc => ?_)) | (refine W_cond rfl (fun hc => ?_) (fun hc => ?_)))
 all_goals first | (refine ret_1 _ [] (.tmp rfl) .nil ⟨?_, rfl⟩; first | rfl | (simp only [*, Bool.true_and, Bool.false_and, Bool.true_or, Bool.false_or, Bool.not_true, Bool.not_false]; done) | (simp_all [inClk]; done) | (simp_all [inClk]; omega) | (simp_all [inClk]; rw [Bool.eq_iff_iff]; simp; omega)) | (exfalso; simp_all [inClk]; done) | (exfalso; simp_all [inClk]; omega) | (exfalso; omega)
theorem ft1_spec (m wk dd : Int) (hd : 0 ≤ dd ∧ dd ≤ 31) (w : World) (hG : Glob w) :
  Does Tryz.prog 284 [.int .i64 m, .agg #[.int .i64 1, .int .i64 wk, .int .i64 dd]] w (fun v O => v = dtV (dateF m ⟨1, wk, dd⟩) ∧ O = []) := by
 have e1 := days_spec 2001 1 1
 rw [if_pos (by decide), if_pos (by decide)] at e1
 have e2 := days_spec 2001 m dd
 have hb : daysOk 2001 m dd = true → _ := fun h => dayNo_bd (y := 2001) (m := m) (d := dd) h
 have e : dateF m ⟨1, wk, dd⟩ = (⟨1, (if daysOk 2001 m dd then dayNo 2001 m dd else 0) - dayNo 2001 1 1 + 1, 0, 0, 0⟩, daysOk 2001 m dd) := rfl
 rw [e]
 have ed : dayNo 2001 1 1 = 11323 := by decide
 rw [ed] at e1 ⊢
 refine Does_of_W Tryz.func284 rfl rfl rfl rfl ?_
 generalize daysOk 2001 m dd = ok at *
 cases ok with
 | true =>
  have hb2 := hb rfl
  rw [if_pos rfl, if_pos rfl] at e2
  rw [if_pos rfl]
  generalize dayNo 2001 m dd = n at *
  repeat (first | (refine js ?_; (first | (refine callE (fun w' hw => e1 w' (hG.up hw)) ?_) | (refine callE (fun w' hw => e2 w' (hG.up hw)) ?_) | (refine bx ?_; intro bk))) | refine walk ?_)
  exact rtC
 | false =>
  rw [if_neg (by decide), if_neg (by decide)] at e2
  rw [if_neg (by decide)]
  repeat (first | (refine js ?_; (first | (refine callE (fun w' hw => e1 w' (hG.up hw)) ?_) | (refine callE (fun w' hw => e2 w' (hG.up hw)) ?_) | (refine bx ?_; intro bk))) | refine walk ?_)
  exact rtC
theorem ft2_spec (m wk dd : Int) (w : World) :
  Does Tryz.prog 285 [.int .i64 m, .agg #[.int .i64 2, .int .i64 wk, .int .i64 dd]] w (fun v O => v = dtV (dateF m ⟨2, wk, dd⟩) ∧ O = []) := by
 have e : dateF m ⟨2, wk, dd⟩ = (⟨3, wk, m, 5, 0⟩, true) := rfl
 rw [e]
 refine Does_of_W Tryz.func285 rfl rfl rfl rfl ?_
 repeat (first | (refine js ?_; (refine bx ?_; intro bk)) | refine walk ?_)
 exact rtC
theorem PuFtD0 {G : Prop} (h : G := by (first | (apply Pu_quo64; rfl; rfl; omega; omega; omega) | (apply Pu_rem; rfl; rfl; decide))) : G := h
theorem QyFtD0 {G : Prop} (h : G := by first | (apply Qy_y; rfl; exact PuFtD0) | exact QyA) : G := h
theorem QFFtD0 {G : Prop} (h : G := by repeat (first | exact QF.nil | (apply QF.mk; rfl; rfl; decide +kernel; exact QyFtD0))) : G := h
theorem ft3_spec (m wk dd : Int) (hd : 0 ≤ dd ∧ dd ≤ 31) (w : World) :
  Does Tryz.prog 286 [.int .i64 m, .agg #[.int .i64 3, .int .i64 wk, .int .i64 dd]] w (fun v O => v = dtV (dateF m ⟨3, wk, dd⟩) ∧ O = []) := by
 have e : dateF m ⟨3, wk, dd⟩ = (⟨3, wk, m, dd / 7 + 1, 0⟩, decide (dd.tmod 7 = 1) && decide (dd < 29)) := by
  rw [Int.tmod_eq_emod_of_nonneg hd.1]; rfl
 rw [e]
 refine Does_of_W Tryz.func286 rfl rfl rfl rfl ?_
 repeat' (first | (apply RL_pu; rfl; exact PuFtD0) | (refine js ?_; (refine bx ?_; intro bk)) | (apply RD_Q; rfl; rfl; decide +kernel; rfl; rfl; exact QyFtD0) | refine walk1 ?_ | (refine RD_Lw ?_; intro F; (first | (refine bx ?_; intro bk) | (refine stA ?_) | (apply Stp_pu; first | exact PuFtD0 | exact PuA)); refine ⟨_, EndsA, QFFtD0, ?_⟩) | (apply RD_W; rfl; intro bk) | refine und ?_ | (refine RL_gsplit rfl rfl rfl (fun hc => ?_) (fun hc => ?_)) | (refine RD_gsplit rfl rfl rfl (fun hc => ?_) (fun hc => ?_)) | (refine W_cond rfl (fun hc => ?_) (fun hc => ?_)))
 all_goals exact ret_2 _ _ [] (.cellB rfl (by repeat' constructor) rfl rfl) (.tmp rfl) .nil ⟨by simp [*, dtV, DDate.enc], rfl⟩
theorem ft4_spec (m wk dd : Int) (w : World) :
  Does Tryz.prog 287 [.int .i64 m, .agg #[.int .i64 4, .int .i64 wk, .int .i64 dd]] w (fun v O => v = dtV (dateF m ⟨4, wk, dd⟩) ∧ O = []) := by
 have e : dateF m ⟨4, wk, dd⟩ = (dt0, false) := rfl
 rw [e]
 refine Does_of_W Tryz.func287 rfl rfl rfl rfl ?_
 repeat (first | (refine js ?_; (refine bx ?_; intro bk)) | refine walk ?_)
 exact rtC
theorem fdates_spec (m : Int) (d : DDay) (hk : 1 ≤ d.kind ∧ d.kind ≤ 4) (hd : 0 ≤ d.day ∧ d.day ≤ 31) (w : World) (hG : Glob w) :
  Does Tryz.prog (dateFn d.kind) [.int .i64 m, .agg (DDay.enc d).toArray] w (fun v O => v = dtV (dateF m d) ∧ O = []) := by
 obtain ⟨k, wk, dd⟩ := d
 simp only at hk hd ⊢
 have h4 : k = 1 ∨ k = 2 ∨ k = 3 ∨ k = 4 := by omega
 rcases h4 with rfl | rfl | rfl | rfl
 ·exact ft1_spec m wk dd hd w hG
 ·exact ft2_spec m wk dd w
 ·exact ft3_spec m wk dd hd w
 ·exact ft4_spec m wk dd w
theorem ft_at {w : World} (hF : FtG w) (k : Int) (hk : 1 ≤ k ∧ k ≤ 4) : CellsAt w ((⟨0, 0, none⟩ : Addr).add (k.toNat * 1)) [fnV (dateFn k)] := by
 intro j v hj
 have hk := hF ((k.toNat - 1) + j) v
 have h4 : k = 1 ∨ k = 2 ∨ k = 3 ∨ k = 4 := by omega
 have hj3 : j < 1 := (List.getElem?_eq_some_iff.1 hj).1
 have h3 : j = 0 := by omega
 rcases h4 with rfl | rfl | rfl | rfl <;> subst h3 <;> exact hk hj
theorem secD_bd {r : DRule} (hc : clkChk r.at_ = true) {off before : Int} (h1 : inClk off = true) (h2 : inClk before = true) : (0 ≤ r.at_.base ∧ r.at_.base ≤ 2) ∧ -3000000 ≤ r.at_.sec ∧ r.at_.sec ≤ 3000000 ∧ -3000000 ≤ off ∧ off ≤ 3000000 ∧ -3000000 ≤ before ∧ before ≤ 3000000 := by
 unfold clkChk at hc
 unfold inClk at h1 h2
 simp only [Bool.and_eq_true, decide_eq_true_eq] at hc h1 h2
 omega
def dErrV (x : DDate × Int) : Value := .tuple #[.agg x.1.enc.toArray, .int .i64 x.2]
end Go.Proofs.YtonjepladadmhaaGreatDoor
namespace Go.Wk
open Go Go.RowKit
section
variable {P : Program} {n : Nat} {wr : World} {fr : Fr} {O : List It} {ty : TypeId} {pos : String} {af : Array Edge} {dst : Option Tmp} {g : Option (Nat × Bool)} {Kp : Value → List It → Prop}
theorem Stp_makeMapN {t kt et : Nat} {x : Operand} {kk : IntKind} {i : Int} [hM : MapT P t kt et] (hx : ev fr x = some (.int kk i)) (k : ∀ b, Kp (.map (some b)) (.mp b [] :: O)) : Stp P n wr fr O ⟨dst, .makeMap t (some x), ty, pos, af, g⟩ Kp :=
 Stp_val fun a w hs => by
  have hB : Bel w.heap.size w (w.alloc (.map #[] 0)) := (Bel.refl _ _).alloc (Nat.le_refl _) _
  have hu := MapT.parts hM.h
  refine ⟨.map (some w.heap.size), w.alloc (.map #[] 0), _, ?_, hs.old.trans (hB.mono hs.old.size), hs.own.grow (O' := [.mp w.heap.size []]) hB hs.old.size ⟨fun i hi => ?_, fun i hi b hb => ?_, List.pairwise_singleton _ _⟩, k _⟩
  ·simp [execOp, hs.sim.ev hx, Instr.makeMap, run_underlying hu, asInt, asIntOf, newObj, Sem.run]
  ·rw [List.mem_singleton.1 hi]
   exact ⟨#[], 0, heap_alloc_new w _, rfl, stOk_nil⟩
  ·rw [List.mem_singleton.1 hi] at hb
   simp only [It.S] at hb
   subst hb
   exact ⟨Nat.le_refl _, by simp⟩
theorem toList_eraseIn (es : Array MapEntry) (j : Nat) : (es.eraseIdxIfInBounds j).toList = es.toList.eraseIdx j := by
 unfold Array.eraseIdxIfInBounds
 split
 ·simp
 ·rw [List.eraseIdx_of_length_le (by simp; omega)]
theorem stOk_erase {es : Array MapEntry} {c : Nat} (h : stOk es c) (j : Nat) : stOk (es.eraseIdxIfInBounds j) c := by
 unfold stOk
 rw [toList_eraseIn]
 have hsub : ((es.toList.eraseIdx j).map (·.born)).Sublist (es.toList.map (·.born)) := (List.eraseIdx_sublist _ _).map _
 exact ⟨h.1.sublist hsub, fun n hn => h.2 n (hsub.subset hn)⟩
theorem Stp_delete {t t2 kt et b : Nat} {x ix : Operand} {m : List (ByteArray × Value)} {k : ByteArray} {O' : List It} [hM : MapT P t kt et] [StringT P kt] (hx : ev fr x = some (.map (some b))) (hi : ev fr ix = some (.string k))
  (hu : Upd O (.mp b m) (.mp b (mdel m k)) O') (kk : Kp (.tuple #[]) O') : Stp P n wr fr O ⟨dst, .call ⟨.builtin .delete, #[x, ix], #[t, t2]⟩, ty, pos, af, g⟩ Kp :=
 Stp_val fun a w hs => by
  have ht := MapT.parts hM.h
  obtain ⟨es, c, h1, h2, h9⟩ := hs.own.sat _ hu.mem
  have hf := mfind_del k m es.toList 0 h2
  cases hfi : mfind m k 0 with
  | none =>
   rw [hfi] at hf
   have hst := hs.setMap (es' := es) (c' := c) hu (by unfold entriesOf; rw [hf]; exact h2) h9
   refine ⟨.tuple #[], _, O', ?_, hst.1, hst.2, kk⟩
   simp only [execOp, resolve, invoke, builtin, Builtin.delete_, hs.sim.ev hx, hs.sim.ev hi]
   simp [hs.sim.ev hx, hs.sim.ev hi, Builtin.delete_, run_underlying ht, run_getObj h1, run_checkKey _ k 9999, run_findKey k m es.toList w h2, hfi, setObj, Sem.run, h1]
  | some p =>
   obtain ⟨j, u⟩ := p
   rw [hfi] at hf
   obtain ⟨_, hf2⟩ := hf
   rw [Nat.sub_zero] at hf2
   have hst := hs.setMap (es' := es.eraseIdxIfInBounds j) (c' := c) hu (by unfold entriesOf; rw [toList_eraseIn]; exact hf2) (stOk_erase h9 j)
   refine ⟨.tuple #[], _, O', ?_, hst.1, hst.2, kk⟩
   simp only [execOp, resolve, invoke, builtin, Builtin.delete_, hs.sim.ev hx, hs.sim.ev hi]
   simp [hs.sim.ev hx, hs.sim.ev hi, Builtin.delete_, run_underlying ht, run_getObj h1, run_checkKey _ k 9999, run_findKey k m es.toList w h2, hfi, setObj, Sem.run, h1]
def MpAt (w : World) (b : Nat) (m : List (ByteArray × Value)) : Prop := (It.mp b m).sat w
theorem MpAt.up {w w' : World} {b : Nat} {m : List (ByteArray × Value)} {B : Nat} (h : MpAt w b m) (hb : Bel B w w') (hB : w.heap.size ≤ B) : MpAt w' b m := by
 refine It.sat_congr h fun k hk => ?_
 obtain rfl : k = b := hk
 obtain ⟨es, c, h1, _⟩ := h
 exact hb.block k (Nat.lt_of_lt_of_le (Array.getElem?_eq_some_iff.1 h1).1 hB)
theorem Pu_lookupOld {t kt et b : Nat} {x ix : Operand} {m : List (ByteArray × Value)} {k : ByteArray} {z v : Value} [hM : MapT P t kt et] [StringT P kt] [ZeroV P et z] (hx : ev fr x = some (.map (some b))) (hi : ev fr ix = some (.string k))
  (hp : MpAt wr b m) (hv : (mget m k).getD z = v) : Pu P n wr fr O (.lookup t x ix false) ty v := hv ▸ Pu_lookupO (kt := kt) (et := et) hx hi (fun _ hw _ => hp.up hw (Nat.le_refl _))
theorem Pu_lookupOkOld {t kt et b : Nat} {x ix : Operand} {m : List (ByteArray × Value)} {k : ByteArray} {z v : Value} {c : Bool} [hM : MapT P t kt et] [StringT P kt] [ZeroV P et z] (hx : ev fr x = some (.map (some b))) (hi : ev fr ix = some (.string k))
  (hp : MpAt wr b m) (hv : (mget m k).getD z = v) (hc : (mget m k).isSome = c) : Pu P n wr fr O (.lookup t x ix true) ty (.tuple [v, .bool c].toArray) :=
 fun a w hs _ _ _ _ => by
  have := run_lookup (P := P) (t := t) (kt := kt) (et := et) (k := k) (z := z) (hp.up hs.old (Nat.le_refl _)) true
  simp only [execOp, hs.sim.ev hx, hs.sim.ev hi, Sem.run_bind, this, Result.andThen_ok, Sem.run_pure]
  rw [← hv, ← hc]
  rfl
theorem Pu_eqNilMap {t t' kt et : Nat} {x : Operand} {p : Option Nat} [hM : MapT P t kt et] (hx : ev fr x = some (.map p)) : Pu P n wr fr O (.binOp .eql t x (.const (.map none)) t') ty (.bool p.isNone) :=
 fun a w hs _ _ _ _ => by
  have hu := MapT.parts hM.h
  have h : (binOp .eql t (.map p) (.map none)).run P w = .ok (.bool p.isNone) w := by
   simp only [binOp]
   have : ∀ d, (Op.equalIn (d + 1) t (.map p) (.map none)).run P w = .ok p.isNone w := fun d => by cases p <;> simp [Op.equalIn, run_underlying hu]
   rw [show Op.equal t (.map p) (.map none) = Op.equalIn (9999 + 1) t (.map p) (.map none) from rfl]
   simp only [Sem.run_bind, this 9999, Result.andThen_ok, Sem.run_pure]
  have hc : a.eval (.const (.map none)) = .map none := rfl
  simp [execOp, hs.sim.ev hx, hc, eqGuard, h]
theorem Pu_ifaceMap {t kt et : Nat} {x : Operand} {v : Value} [hM : MapT P t kt et] (hx : ev fr x = some v) : Pu P n wr fr O (.makeInterface t x) ty (.iface t v) :=
 fun a w hs _ _ _ _ => by
  have hu := MapT.parts hM.h
  simp [execOp, hs.sim.ev hx, Instr.makeInterface, run_underlying hu]
theorem Pu_assertMap {t xt kt et : Nat} {x : Operand} {v : Value} [hM : MapT P t kt et] (hx : ev fr x = some (.iface t v)) : Pu P n wr fr O (.typeAssert x xt t false) ty v :=
 fun a w hs _ _ _ _ => by
  have hu := MapT.parts hM.h
  simp [execOp, hs.sim.ev hx, Instr.typeAssert, run_underlying hu]
def isClone (P : Program) (f : FuncId) : Prop := ∀ (args : Array Value) (w : World), (callFunc f args).run P w = ((Extern.MapsClone.clone args).run P w).andThen fun v w' => .ok (.value v) w'
theorem Stp_mapsClone {f t b : Nat} {x : Operand} {ts : Array TypeId} {m : List (ByteArray × Value)} (hf : isClone P f) (hx : ev fr x = some (.iface t (.map (some b)))) (hp : ∀ w, Bel wr.heap.size wr w → Holds wr.heap.size O w → MpAt w b m)
  (kk : ∀ b2, Kp (.iface t (.map (some b2))) (.mp b2 m :: O)) : Stp P n wr fr O ⟨dst, .call ⟨.value (.func f), #[x], ts⟩, ty, pos, af, g⟩ Kp :=
 Stp_val fun a w hs => by
  obtain ⟨es, c, h1, h2⟩ := hp w hs.old hs.own
  have hB : Bel w.heap.size w (w.alloc (.map es c)) := (Bel.refl _ _).alloc (Nat.le_refl _) _
  have hrun : (Extern.MapsClone.clone #[.iface t (.map (some b))]).run P w = .ok (.iface t (.map (some w.heap.size))) (w.alloc (.map es c)) := by
   have e : Extern.MapsClone.clone #[.iface t (.map (some b))] = (getObj b >>= fun o => match o with
     | .map entries clock => (newObj (.map entries clock) >>= fun n => pure (.iface t (.map (some n))))
     | _ => stuck "maps.clone: a map expected") := rfl
   rw [e]
   simp [run_getObj h1, newObj, Sem.run]
  refine ⟨.iface t (.map (some w.heap.size)), w.alloc (.map es c), _, ?_, hs.old.trans (hB.mono hs.old.size), hs.own.grow (O' := [.mp w.heap.size m]) hB hs.old.size ⟨fun i hi => ?_, fun i hi b hb => ?_, List.pairwise_singleton _ _⟩, kk _⟩
  ·have hev := hs.sim.ev hx
   have he : a.eval (.func f) = .func (.func f) #[] #[] := rfl
   have hc := hf #[.iface t (.map (some b))] w
   rw [hrun, Result.andThen_ok] at hc
   simp [execOp, resolve, he, Deferred.ofValue, invoke, hc, hev]
  ·rw [List.mem_singleton.1 hi]
   exact ⟨es, c, heap_alloc_new w _, h2⟩
  ·rw [List.mem_singleton.1 hi] at hb
   simp only [It.S] at hb
   subst hb
   exact ⟨Nat.le_refl _, by simp⟩
end
def Nd (m : List (ByteArray × Value)) : Prop := (m.map (·.1)).Nodup
theorem mget_none_mem (k : ByteArray) : ∀ m : List (ByteArray × Value), mget m k = none ↔ k ∉ m.map (·.1)
 | [] => by simp [mget]
 | (x, v) :: r => by
  simp only [mget, List.map_cons, List.mem_cons, not_or]
  by_cases h : k = x
  ·simp [h]
  ·simp [h, mget_none_mem k r]
theorem mset_keys_in (k : ByteArray) (v : Value) : ∀ m : List (ByteArray × Value), k ∈ m.map (·.1) → (mset m k v).map (·.1) = m.map (·.1)
 | [], h => by simp at h
 | (x, u) :: r, h => by
  simp only [mset]
  by_cases hk : k = x
  ·simp [hk]
  ·rw [if_neg hk]
   simp only [List.map_cons, List.mem_cons, hk, false_or] at h ⊢
   rw [mset_keys_in k v r h]
theorem mset_keys_out (k : ByteArray) (v : Value) : ∀ m : List (ByteArray × Value), k ∉ m.map (·.1) → (mset m k v).map (·.1) = m.map (·.1) ++ [k]
 | [], _ => by simp [mset]
 | (x, u) :: r, h => by
  simp only [List.map_cons, List.mem_cons, not_or] at h
  simp only [mset, if_neg h.1, List.map_cons, mset_keys_out k v r h.2, List.cons_append]
theorem Nd.set {m : List (ByteArray × Value)} (h : Nd m) (k : ByteArray) (v : Value) : Nd (mset m k v) := by
 unfold Nd at h ⊢
 by_cases hk : k ∈ m.map (·.1)
 ·rw [mset_keys_in k v m hk]; exact h
 ·rw [mset_keys_out k v m hk, List.nodup_append]
  exact ⟨h, by simp, fun a ha b hb => by simp only [List.mem_singleton] at hb; subst hb; exact fun e => hk (e ▸ ha)⟩
theorem mdel_sub (k : ByteArray) : ∀ m : List (ByteArray × Value), (mdel m k).Sublist m
 | [] => List.Sublist.slnil
 | (x, u) :: r => by
  simp only [mdel]
  split
  ·exact List.sublist_cons_self _ _
  ·exact (mdel_sub k r).cons_cons _
theorem Nd.del {m : List (ByteArray × Value)} (h : Nd m) (k : ByteArray) : Nd (mdel m k) := List.Nodup.sublist ((mdel_sub k m).map _) h
theorem mget_mdel (k x : ByteArray) : ∀ {m : List (ByteArray × Value)}, Nd m → mget (mdel m k) x = if x = k then none else mget m x
 | [], _ => by simp [mdel, mget]
 | (y, u) :: r, h => by
  unfold Nd at h
  simp only [List.map_cons, List.nodup_cons] at h
  simp only [mdel]
  by_cases hk : k = y
  ·subst hk
   rw [if_pos rfl]
   by_cases hx : x = k
   ·subst hx
    rw [if_pos rfl]
    exact (mget_none_mem x r).2 h.1
   ·rw [if_neg hx, mget, if_neg hx]
  ·rw [if_neg hk]
   simp only [mget]
   by_cases hx : x = y
   ·subst hx
    rw [if_pos rfl, if_pos rfl, if_neg (fun e => hk e.symm)]
   ·rw [if_neg hx, if_neg hx, mget_mdel k x h.2]
theorem mdel_len (k : ByteArray) : ∀ {m : List (ByteArray × Value)}, (mget m k).isSome = true → (mdel m k).length + 1 = m.length
 | [], h => by simp [mget] at h
 | (y, u) :: r, h => by
  simp only [mget] at h
  simp only [mdel]
  by_cases hk : k = y
  ·simp [hk]
  ·rw [if_neg hk] at h ⊢
   simp [mdel_len k h]
theorem mset_len (k : ByteArray) (v : Value) : ∀ m : List (ByteArray × Value), (mset m k v).length ≤ m.length + 1
 | [] => by simp [mset]
 | (y, u) :: r => by
  simp only [mset]
  split
  ·simp
  ·simp [mset_len k v r]
section
variable {P : Program} {n : Nat} {wr : World} {Q : Exit → Fr → List It → Prop} {fr : Fr} {O : List It} {K : Fr → List It → Prop}
theorem goto_ret {l : Nat} {rs : List ResultVar} {R : Value → List It → Prop} : ¬ retQ P wr rs R (.goto l) fr O := id
theorem W_scope {c : Code} (hg : ∀ l fr O, ¬ Q (.goto l) fr O) (h : W P n wr c Q fr O) : W P n wr (.scope c) Q fr O := by
 intro a w hs
 refine wp_scope_straight (wp_mono (h a w hs) ?_)
 rintro e a' w' ⟨fr', O', hs', hq⟩
 cases e with
 | goto l => exact (hg l _ _ hq).elim
 | _ => exact ⟨fr', O', hs', hq⟩
theorem W_label {l : Nat} (h : Q .normal fr O) : W P n wr (.label l) Q fr O := fun _ _ hs => wp_label ⟨fr, O, hs, h⟩
end
section
variable {P : Program} {n : Nat} {wr : World} {fr : Fr} {O : List It} {ty : TypeId} {pos : String} {af : Array Edge} {dst : Option Tmp} {g : Option (Nat × Bool)} {Kp : Value → List It → Prop}
theorem Pu_sliceArrH {t len e sz b : Nat} {ag : Bool} {x y : Operand} {h : Int} [hA : ArrT P t len e sz ag] (hx : ev fr x = some (.pointer (some ⟨b, 0, none⟩))) (hy : ev fr y = some (.int .i64 h)) (h0 : 0 ≤ h) (h1 : h ≤ len) :
  Pu P n wr fr O (.slice t x none (some y) none) ty (.slice (some ⟨b, 0, none⟩) h.toNat len) :=
 fun a w hs _ _ _ _ => by
  have h := hA.h
  unfold arrChk at h
  split at h
  ·rename_i len' e' hu
   split at h
   ·rename_i sz' ag' ht
    simp only [Option.some.injEq, Prod.mk.injEq] at h
    obtain ⟨rfl, rfl, rfl, rfl⟩ := h
    obtain ⟨inf, dd, hinf, hsz, _, _⟩ := Ty.parts ht
    simp [execOp, hs.sim.ev hx, hs.sim.ev hy, Instr.sliceAt, run_underlying hu, Instr.sureAddr, Instr.sliceBounds, run_sliceBound, h0, h1, sizeOf, run_typeInfo hinf, Addr.add]
   ·cases h
  ·cases h
theorem Pu_loadBi {t sz b p : Nat} {x : Operand} {cs : List Value} {bt : TypeId} {v : Value} {R : List It} [Ty P t sz false] (hx : ev fr x = some (.pointer (some ((adr (some ⟨b, 0, none⟩)).add p))))
  (hp : Pick (.blk b cs bt) O R) (hv : cs[p]? = some v) : Pu P n wr fr O (.load t x) ty v :=
 Pu_loadB1 (by rw [hx, show adr (some (⟨b, 0, none⟩ : Addr)) = ⟨b, 0, none⟩ from rfl, add_mk, Nat.zero_add]) hp hv
theorem Pu_loadBa {t sz b p : Nat} {x : Operand} {cs : List Value} {bt : TypeId} {v : Value} {R : List It} [Ty P t sz false] (hx : ev fr x = some (.pointer (some ((⟨b, 0, none⟩ : Addr).add p))))
  (hp : Pick (.blk b cs bt) O R) (hv : cs[p]? = some v) : Pu P n wr fr O (.load t x) ty v :=
 Pu_loadB1 (by rw [hx, add_mk, Nat.zero_add]) hp hv
theorem Pu_neg64 {t : TypeId} {x : Operand} {i : Int} (hx : ev fr x = some (.int .i64 i)) (h : -9223372036854775807 ≤ i ∧ i ≤ 9223372036854775807) : Pu P n wr fr O (.unOp .neg t x) ty (.int .i64 (-i)) := by
 have := Pu_negW (P := P) (n := n) (wr := wr) (O := O) (ty := ty) (t := t) hx
 rwa [Int.zero_sub, wrap64_id (by omega)] at this
def byteV (c : UInt8) : Value := .int .u8 (c.toNat : Int)
theorem Pu_convBytes {t t' e sz bytes et c : Nat} {x : Operand} {A : Option Addr} {m : Nat} {l : List UInt8} {xs : List Value} {R : List It} [hE : ElemT P t e sz bytes] [hU : IntT P e .u8] [hS : StringT P t'] (hx : ev fr x = some (.slice A m c))
  (hp : Pick (.row (.slice A m c) et 1 m xs) O R) (hxs : xs = l.map byteV) (hm : m = l.length) (hA : A ≠ none) : Pu P n wr fr O (.convert t t' x) ty (.string ⟨l.toArray⟩) :=
 fun a w hs _ _ _ _ => by
  have h := hE.h
  unfold elemChk at h
  split at h
  ·rename_i e' hu
   split at h
   ·simp only [Option.some.injEq, Prod.mk.injEq] at h
    obtain ⟨rfl, _, _⟩ := h
    obtain ⟨ad, rfl⟩ := Option.ne_none_iff_exists'.1 hA
    subst hm hxs
    have hsat := hs.own.sat _ (hp.perm.mem_iff.2 List.mem_cons_self)
    have hc : ∀ j (hj : j < l.length), w.cell? (ad.add j) = some (.int .u8 (l[j].toNat : Int)) := fun j hj => by
     have := row_cell hsat (j := j) (u := byteV l[j]) (by rw [List.getElem?_map, List.getElem?_eq_getElem hj]; rfl)
     exact this.2
    have hrun := run_convert_bytes_back (P := P) w t t' e' ad c l hu hU.h hS.h hc
    simp [execOp, hs.sim.ev hx, hrun]
   ·cases h
  ·cases h
theorem Pu_lssB {t t' : TypeId} {x y : Operand} {kk : IntKind} {i j : Int} {b : Bool} (hx : ev fr x = some (.int kk i)) (hy : ev fr y = some (.int kk j)) (h : decide (i < j) = b) : Pu P n wr fr O (.binOp .lss t x y t') ty (.bool b) := h ▸ Pu_lss hx hy
theorem Pu_leqB {t t' : TypeId} {x y : Operand} {kk : IntKind} {i j : Int} {b : Bool} (hx : ev fr x = some (.int kk i)) (hy : ev fr y = some (.int kk j)) (h : decide (i ≤ j) = b) : Pu P n wr fr O (.binOp .leq t x y t') ty (.bool b) := h ▸ Pu_leq hx hy
theorem Pu_gtrB {t t' : TypeId} {x y : Operand} {kk : IntKind} {i j : Int} {b : Bool} (hx : ev fr x = some (.int kk i)) (hy : ev fr y = some (.int kk j)) (h : decide (j < i) = b) : Pu P n wr fr O (.binOp .gtr t x y t') ty (.bool b) := h ▸ Pu_gtr hx hy
theorem Pu_geqB {t t' : TypeId} {x y : Operand} {kk : IntKind} {i j : Int} {b : Bool} (hx : ev fr x = some (.int kk i)) (hy : ev fr y = some (.int kk j)) (h : decide (j ≤ i) = b) : Pu P n wr fr O (.binOp .geq t x y t') ty (.bool b) := h ▸ Pu_geq hx hy
theorem Pu_eqlB {t t' : TypeId} {x y : Operand} {kk : IntKind} {i j : Int} {b : Bool} (hx : ev fr x = some (.int kk i)) (hy : ev fr y = some (.int kk j)) (h : decide (i = j) = b) : Pu P n wr fr O (.binOp .eql t x y t') ty (.bool b) := h ▸ Pu_eql hx hy
theorem Pu_neqB' {t t' : TypeId} {x y : Operand} {kk : IntKind} {i j : Int} {b : Bool} (hx : ev fr x = some (.int kk i)) (hy : ev fr y = some (.int kk j)) (h : (!decide (i = j)) = b) : Pu P n wr fr O (.binOp .neq t x y t') ty (.bool b) := h ▸ Pu_neq hx hy
theorem Pu_eqlSB {t t' : TypeId} {x y : Operand} {i j : ByteArray} {b : Bool} (hx : ev fr x = some (.string i)) (hy : ev fr y = some (.string j)) (h : decide (i = j) = b) : Pu P n wr fr O (.binOp .eql t x y t') ty (.bool b) := h ▸ Pu_eqlS hx hy
theorem Pu_neqSB {t t' : TypeId} {x y : Operand} {i j : ByteArray} {b : Bool} (hx : ev fr x = some (.string i)) (hy : ev fr y = some (.string j)) (h : (!decide (i = j)) = b) : Pu P n wr fr O (.binOp .neq t x y t') ty (.bool b) := h ▸ Pu_neqS hx hy
end
end Go.Wk
