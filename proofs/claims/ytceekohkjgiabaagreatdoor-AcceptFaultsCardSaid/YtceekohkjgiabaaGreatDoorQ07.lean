/- Engine: maps made with a size, delete, a copy of a map, maps that were there before the call. Plain functions: dates, days of months, times of day (layers 1, 2, 6). Plain functions: names, sets of rules (layers 7, 16). Plain functions: numeric abbreviations, formats, ends of eras, links, forms (layers 20, 21, 22, 15, 24). -/
import Derived.Laws.Externs
import Derived.Test.YtceekohkjgiabaaGreatDoorQ06
import Derived.Test.YtceekohkjgiabaaGreatDoorQ01
set_option maxHeartbeats 4000000
set_option linter.unusedVariables false
set_option linter.unusedSimpArgs false
namespace Go.Wk
open Go Go.RowKit
section
variable {P : Program} {n : Nat} {wr : World} {fr : Fr} {O : List It} {ty : TypeId} {pos : String} {af : Array Edge} {dst : Option Tmp} {g : Option (Nat × Bool)} {Kp : Value → List It → Prop}
theorem Stp_makeMapN {t kt et : Nat} {x : Operand} {kk : IntKind} {i : Int} [hM : MapT P t kt et] (hx : ev fr x = some (.int kk i)) (k : ∀ b, Kp (.map (some b)) (.mp b [] :: O)) : Stp P n wr fr O ⟨dst, .makeMap t (some x), ty, pos, af, g⟩ Kp :=
 Stp_val fun a w hs => by
  have hB : Bel w.heap.size w (w.alloc (.map #[] 0)) := (Bel.refl _ _).alloc (Nat.le_refl _) _
  have hu := MapT.parts hM.h
  refine ⟨.map (some w.heap.size), w.alloc (.map #[] 0), _, ?_, hs.old.trans (hB.mono hs.old.size), hs.own.grow (O' := [.mp w.heap.size []]) hB hs.old.size ⟨fun i hi => ?_, fun i hi b hb => ?_, List.pairwise_singleton _ _⟩, k _⟩
  ·simp [execOp, hs.sim.ev hx, Instr.makeMap, run_underlying hu, asInt, asIntOf, newObj, Sem.run]
  ·rw [List.mem_singleton.1 hi]
   exact ⟨#[], 0, heap_alloc_new w _, rfl⟩
  ·rw [List.mem_singleton.1 hi] at hb
   simp only [It.S] at hb
   subst hb
   exact ⟨Nat.le_refl _, by simp⟩
theorem toList_eraseIn (es : Array MapEntry) (j : Nat) : (es.eraseIdxIfInBounds j).toList = es.toList.eraseIdx j := by
 unfold Array.eraseIdxIfInBounds
 split
 ·simp
 ·rw [List.eraseIdx_of_length_le (by simp; omega)]
theorem Stp_delete {t t2 kt et b : Nat} {x ix : Operand} {m : List (ByteArray × Value)} {k : ByteArray} {O' : List It} [hM : MapT P t kt et] [StringT P kt] (hx : ev fr x = some (.map (some b))) (hi : ev fr ix = some (.string k))
  (hu : Upd O (.mp b m) (.mp b (mdel m k)) O') (kk : Kp (.tuple #[]) O') : Stp P n wr fr O ⟨dst, .call ⟨.builtin .delete, #[x, ix], #[t, t2]⟩, ty, pos, af, g⟩ Kp :=
 Stp_val fun a w hs => by
  have ht := MapT.parts hM.h
  obtain ⟨es, c, h1, h2⟩ := hs.own.sat _ hu.mem
  have hf := mfind_del k m es.toList 0 h2
  cases hfi : mfind m k 0 with
  | none =>
   rw [hfi] at hf
   have hst := hs.setMap (es' := es) (c' := c) hu (by unfold entriesOf; rw [hf]; exact h2)
   refine ⟨.tuple #[], _, O', ?_, hst.1, hst.2, kk⟩
   simp only [execOp, resolve, invoke, builtin, Builtin.delete_, hs.sim.ev hx, hs.sim.ev hi]
   simp [hs.sim.ev hx, hs.sim.ev hi, Builtin.delete_, run_underlying ht, run_getObj h1, run_checkKey _ k 9999, run_findKey k m es.toList w h2, hfi, setObj, Sem.run, h1]
  | some p =>
   obtain ⟨j, u⟩ := p
   rw [hfi] at hf
   obtain ⟨_, hf2⟩ := hf
   rw [Nat.sub_zero] at hf2
   have hst := hs.setMap (es' := es.eraseIdxIfInBounds j) (c' := c) hu (by unfold entriesOf; rw [toList_eraseIn]; exact hf2)
   refine ⟨.tuple #[], _, O', ?_, hst.1, hst.2, kk⟩
   simp only [execOp, resolve, invoke, builtin, Builtin.delete_, hs.sim.ev hx, hs.sim.ev hi]
   simp [hs.sim.ev hx, hs.sim.ev hi, Builtin.delete_, run_underlying ht, run_getObj h1, run_checkKey _ k 9999, run_findKey k m es.toList w h2, hfi, setObj, Sem.run, h1]
def MpAt (w : World) (b : Nat) (m : List (ByteArray × Value)) : Prop := (It.mp b m).sat w
theorem MpAt.up {w w' : World} {b : Nat} {m : List (ByteArray × Value)} {B : Nat} (h : MpAt w b m) (hb : Bel B w w') (hB : w.heap.size ≤ B) : MpAt w' b m := by
 refine It.sat_congr h fun k hk => ?_
 obtain rfl : k = b := hk
 obtain ⟨es, c, h1, _⟩ := h
 exact hb.block k (Nat.lt_of_lt_of_le (Array.getElem?_eq_some_iff.1 h1).1 hB)
theorem Pu_lookupOld {t kt et b : Nat} {x ix : Operand} {m : List (ByteArray × Value)} {k : ByteArray} {z v : Value} [hM : MapT P t kt et] [StringT P kt] [ZeroV P et z] (hx : ev fr x = some (.map (some b))) (hi : ev fr ix = some (.string k))
  (hp : MpAt wr b m) (hv : (mget m k).getD z = v) : Pu P n wr fr O (.lookup t x ix false) ty v := hv ▸ Pu_lookupO (kt := kt) (et := et) hx hi (fun _ hw _ => hp.up hw (Nat.le_refl _))
theorem Pu_lookupOkOld {t kt et b : Nat} {x ix : Operand} {m : List (ByteArray × Value)} {k : ByteArray} {z v : Value} {c : Bool} [hM : MapT P t kt et] [StringT P kt] [ZeroV P et z] (hx : ev fr x = some (.map (some b))) (hi : ev fr ix = some (.string k))
  (hp : MpAt wr b m) (hv : (mget m k).getD z = v) (hc : (mget m k).isSome = c) : Pu P n wr fr O (.lookup t x ix true) ty (.tuple [v, .bool c].toArray) :=
 fun a w hs _ _ _ _ => by
  have := run_lookup (P := P) (t := t) (kt := kt) (et := et) (k := k) (z := z) (hp.up hs.old (Nat.le_refl _)) true
  simp only [execOp, hs.sim.ev hx, hs.sim.ev hi, Sem.run_bind, this, Result.andThen_ok, Sem.run_pure]
  rw [← hv, ← hc]
  rfl
theorem Pu_eqNilMap {t t' kt et : Nat} {x : Operand} {p : Option Nat} [hM : MapT P t kt et] (hx : ev fr x = some (.map p)) : Pu P n wr fr O (.binOp .eql t x (.const (.map none)) t') ty (.bool p.isNone) :=
 fun a w hs _ _ _ _ => by
  have hu := MapT.parts hM.h
  have h : (binOp .eql t (.map p) (.map none)).run P w = .ok (.bool p.isNone) w := by
   simp only [binOp]
   have : ∀ d, (Op.equalIn (d + 1) t (.map p) (.map none)).run P w = .ok p.isNone w := fun d => by cases p <;> simp [Op.equalIn, run_underlying hu]
   rw [show Op.equal t (.map p) (.map none) = Op.equalIn (9999 + 1) t (.map p) (.map none) from rfl]
   simp only [Sem.run_bind, this 9999, Result.andThen_ok, Sem.run_pure]
  have hc : a.eval (.const (.map none)) = .map none := rfl
  simp [execOp, hs.sim.ev hx, hc, eqGuard, h]
theorem Pu_ifaceMap {t kt et : Nat} {x : Operand} {v : Value} [hM : MapT P t kt et] (hx : ev fr x = some v) : Pu P n wr fr O (.makeInterface t x) ty (.iface t v) :=
 fun a w hs _ _ _ _ => by
  have hu := MapT.parts hM.h
  simp [execOp, hs.sim.ev hx, Instr.makeInterface, run_underlying hu]
theorem Pu_assertMap {t xt kt et : Nat} {x : Operand} {v : Value} [hM : MapT P t kt et] (hx : ev fr x = some (.iface t v)) : Pu P n wr fr O (.typeAssert x xt t false) ty v :=
 fun a w hs _ _ _ _ => by
  have hu := MapT.parts hM.h
  simp [execOp, hs.sim.ev hx, Instr.typeAssert, run_underlying hu]
def isClone (P : Program) (f : FuncId) : Prop := ∀ (args : Array Value) (w : World), (callFunc f args).run P w = ((Extern.MapsClone.clone args).run P w).andThen fun v w' => .ok (.value v) w'
theorem Stp_mapsClone {f t b : Nat} {x : Operand} {ts : Array TypeId} {m : List (ByteArray × Value)} (hf : isClone P f) (hx : ev fr x = some (.iface t (.map (some b)))) (hp : ∀ w, Bel wr.heap.size wr w → Holds wr.heap.size O w → MpAt w b m)
  (kk : ∀ b2, Kp (.iface t (.map (some b2))) (.mp b2 m :: O)) : Stp P n wr fr O ⟨dst, .call ⟨.value (.func f), #[x], ts⟩, ty, pos, af, g⟩ Kp :=
 Stp_val fun a w hs => by
  obtain ⟨es, c, h1, h2⟩ := hp w hs.old hs.own
  have hB : Bel w.heap.size w (w.alloc (.map es c)) := (Bel.refl _ _).alloc (Nat.le_refl _) _
  have hrun : (Extern.MapsClone.clone #[.iface t (.map (some b))]).run P w = .ok (.iface t (.map (some w.heap.size))) (w.alloc (.map es c)) := by
   have e : Extern.MapsClone.clone #[.iface t (.map (some b))] = (getObj b >>= fun o => match o with
     | .map entries clock => (newObj (.map entries clock) >>= fun n => pure (.iface t (.map (some n))))
     | _ => stuck "maps.clone: a map expected") := rfl
   rw [e]
   simp [run_getObj h1, newObj, Sem.run]
  refine ⟨.iface t (.map (some w.heap.size)), w.alloc (.map es c), _, ?_, hs.old.trans (hB.mono hs.old.size), hs.own.grow (O' := [.mp w.heap.size m]) hB hs.old.size ⟨fun i hi => ?_, fun i hi b hb => ?_, List.pairwise_singleton _ _⟩, kk _⟩
  ·have hev := hs.sim.ev hx
   have he : a.eval (.func f) = .func (.func f) #[] #[] := rfl
   have hc := hf #[.iface t (.map (some b))] w
   rw [hrun, Result.andThen_ok] at hc
   simp [execOp, resolve, he, Deferred.ofValue, invoke, hc, hev]
  ·rw [List.mem_singleton.1 hi]
   exact ⟨es, c, heap_alloc_new w _, h2⟩
  ·rw [List.mem_singleton.1 hi] at hb
   simp only [It.S] at hb
   subst hb
   exact ⟨Nat.le_refl _, by simp⟩
end
def Nd (m : List (ByteArray × Value)) : Prop := (m.map (·.1)).Nodup
theorem mget_none_mem (k : ByteArray) : ∀ m : List (ByteArray × Value), mget m k = none ↔ k ∉ m.map (·.1)
 | [] => by simp [mget]
 | (x, v) :: r => by
  simp only [mget, List.map_cons, List.mem_cons, not_or]
  by_cases h : k = x
  ·simp [h]
  ·simp [h, mget_none_mem k r]
theorem mset_keys_in (k : ByteArray) (v : Value) : ∀ m : List (ByteArray × Value), k ∈ m.map (·.1) → (mset m k v).map (·.1) = m.map (·.1)
 | [], h => by simp at h
 | (x, u) :: r, h => by
  simp only [mset]
  by_cases hk : k = x
  ·simp [hk]
  ·rw [if_neg hk]
   simp only [List.map_cons, List.mem_cons, hk, false_or] at h ⊢
   rw [mset_keys_in k v r h]
theorem mset_keys_out (k : ByteArray) (v : Value) : ∀ m : List (ByteArray × Value), k ∉ m.map (·.1) → (mset m k v).map (·.1) = m.map (·.1) ++ [k]
 | [], _ => by simp [mset]
 | (x, u) :: r, h => by
  simp only [List.map_cons, List.mem_cons, not_or] at h
  simp only [mset, if_neg h.1, List.map_cons, mset_keys_out k v r h.2, List.cons_append]
theorem Nd.set {m : List (ByteArray × Value)} (h : Nd m) (k : ByteArray) (v : Value) : Nd (mset m k v) := by
 unfold Nd at h ⊢
 by_cases hk : k ∈ m.map (·.1)
 ·rw [mset_keys_in k v m hk]; exact h
 ·rw [mset_keys_out k v m hk, List.nodup_append]
  exact ⟨h, by simp, fun a ha b hb => by simp only [List.mem_singleton] at hb; subst hb; exact fun e => hk (e ▸ ha)⟩
theorem mdel_sub (k : ByteArray) : ∀ m : List (ByteArray × Value), (mdel m k).Sublist m
 | [] => List.Sublist.slnil
 | (x, u) :: r => by
  simp only [mdel]
  split
  ·exact List.sublist_cons_self _ _
  ·exact (mdel_sub k r).cons_cons _
theorem Nd.del {m : List (ByteArray × Value)} (h : Nd m) (k : ByteArray) : Nd (mdel m k) := List.Nodup.sublist ((mdel_sub k m).map _) h
theorem mget_mdel (k x : ByteArray) : ∀ {m : List (ByteArray × Value)}, Nd m → mget (mdel m k) x = if x = k then none else mget m x
 | [], _ => by simp [mdel, mget]
 | (y, u) :: r, h => by
  unfold Nd at h
  simp only [List.map_cons, List.nodup_cons] at h
  simp only [mdel]
  by_cases hk : k = y
  ·subst hk
   rw [if_pos rfl]
   by_cases hx : x = k
   ·subst hx
    rw [if_pos rfl]
    exact (mget_none_mem x r).2 h.1
   ·rw [if_neg hx, mget, if_neg hx]
  ·rw [if_neg hk]
   simp only [mget]
   by_cases hx : x = y
   ·subst hx
    rw [if_pos rfl, if_pos rfl, if_neg (fun e => hk e.symm)]
   ·rw [if_neg hx, if_neg hx, mget_mdel k x h.2]
theorem mdel_len (k : ByteArray) : ∀ {m : List (ByteArray × Value)}, (mget m k).isSome = true → (mdel m k).length + 1 = m.length
 | [], h => by simp [mget] at h
 | (y, u) :: r, h => by
  simp only [mget] at h
  simp only [mdel]
  by_cases hk : k = y
  ·simp [hk]
  ·rw [if_neg hk] at h ⊢
   simp [mdel_len k h]
theorem mset_len (k : ByteArray) (v : Value) : ∀ m : List (ByteArray × Value), (mset m k v).length ≤ m.length + 1
 | [] => by simp [mset]
 | (y, u) :: r => by
  simp only [mset]
  split
  ·simp
  ·simp [mset_len k v r]
def leapB (y : Int) : Bool := decide (y % 4 = 0) && (!decide (y % 100 = 0) || decide (y % 400 = 0))
def lenM (y m : Int) : Int := if m < 1 ∨ 12 < m then 0 else if m = 2 then (if leapB y then 29 else 28) else if m = 4 ∨ m = 6 ∨ m = 9 ∨ m = 11 then 30 else 31
def inY (y : Int) : Bool := decide (-2000000000 ≤ y) && decide (y ≤ 2000000000)
def beforeL : List Int := [0, 31, 61, 92, 122, 153, 184, 214, 245, 275, 306, 337]
def dayNoM (y m d : Int) : Int := y / 400 * 146097 + y % 400 * 365 + y % 400 / 4 - y % 400 / 100 + beforeL.getD (m - 3).toNat 0 + d - 1 - 719468
def dayNo (y m d : Int) : Int := if m < 3 then dayNoM (y - 1) (m + 12) d else dayNoM y m d
def daysOk (y m d : Int) : Bool := inY y && decide (1 ≤ d) && decide (d ≤ lenM y m)
def wkday (n : Int) : Int := (n + 4) % 7
theorem lenM_bd (y m : Int) : 0 ≤ lenM y m ∧ lenM y m ≤ 31 := by
 unfold lenM
 split
 ·omega
 ·split
  ·split <;> omega
  ·split <;> omega
theorem wkday_bd (n : Int) : 0 ≤ wkday n ∧ wkday n ≤ 6 := by unfold wkday; omega
theorem beforeL_bd (k : Nat) : 0 ≤ beforeL.getD k 0 ∧ beforeL.getD k 0 ≤ 337 := by
 by_cases h : k < 12
 ·have : k = 0 ∨ k = 1 ∨ k = 2 ∨ k = 3 ∨ k = 4 ∨ k = 5 ∨ k = 6 ∨ k = 7 ∨ k = 8 ∨ k = 9 ∨ k = 10 ∨ k = 11 := by omega
  rcases this with rfl | rfl | rfl | rfl | rfl | rfl | rfl | rfl | rfl | rfl | rfl | rfl <;> decide
 ·rw [List.getD_eq_getElem?_getD, List.getElem?_eq_none (by simp [beforeL]; omega)]
  decide
def yearN (r : Int) : Int := (r - r / 1460 + r / 36524 - r / 146096) / 365
def monN (r : Int) : Nat → Nat
 | 0 => 0
 | m + 1 => if beforeL.getD (m + 1) 0 ≤ r then m + 1 else monN r m
def dateY (n : Int) : Int :=
 let c := (n + 719468) / 146097
 let r := (n + 719468) % 146097
 let y := yearN r
 let q := r - (y * 365 + y / 4 - y / 100)
 if 10 ≤ monN q 11 then c * 400 + y + 1 else c * 400 + y
def yearOf (t : Int) : Int := min (max (dateY (t / 86400)) (-2000000000)) 2000000000
def weekK (k : Int) : Bool := !decide (k = 1)
def dayK (k : Int) : Bool := !decide (k = 2)
def dayChk (d : DDay) : Bool := decide (1 ≤ d.kind) && decide (d.kind ≤ 4) && !((!decide (d.week = 0) && !weekK d.kind) || decide (d.week < 0) || decide (6 < d.week) || (dayK d.kind == decide (d.day = 0)) || decide (d.day < 0) || decide (31 < d.day))
def behindW (x w : Int) : Int := x + (w - wkday x + 7) % 7
def beforeW (x w : Int) : Int := x - (wkday x - w + 7) % 7
def findD (first last : Int) (d : DDay) : Int := if d.kind = 1 then first + d.day - 1 else if d.kind = 2 then beforeW last d.week else if d.kind = 3 then behindW (first + d.day - 1) d.week else beforeW (first + d.day - 1) d.week
def onD (y m : Int) (d : DDay) : Int × Int :=
 if daysOk y m 1 = false then (0, 3) else if dayChk d = false then (0, 2) else if lenM y m < d.day then (0, 4) else (findD (dayNo y m 1) (dayNo y m 1 + lenM y m - 1) d, 0)
def alwaysD (from_ to m : Int) (d : DDay) : Bool :=
 if m < 1 ∨ 12 < m ∨ dayChk d = false then false
 else if (to < 1048576 ∧ to < from_) ∨ d.day ≤ lenM 1 m then true
 else if 1048576 ≤ to ∨ from_ ≠ to ∨ m ≠ 2 then false
 else decide (d.day ≤ lenM (from_.tmod 400) m)
def clkChk (c : DClock) : Bool := decide (-604799 ≤ c.sec) && decide (c.sec ≤ 604799) && decide (0 ≤ c.base) && decide (c.base ≤ 2)
def byteK (c : Nat) : Nat := if (65 ≤ c ∧ c ≤ 90) ∨ (97 ≤ c ∧ c ≤ 122) then 1 else if 48 ≤ c ∧ c ≤ 57 then 2 else if c = 95 then 4 else if c = 45 then 8 else if c = 46 ∨ c = 43 then 16 else 0
def okBytes (some_ : Nat) (l : List UInt8) : Bool := l.all fun c => !decide (byteK c.toNat &&& some_ = 0)
def nameB (least most some_ : Nat) (l : List UInt8) : Bool := decide (least ≤ l.length) && decide (l.length ≤ most) && okBytes some_ l
def cutSl : List UInt8 → List UInt8 → List (List UInt8)
 | [], acc => [acc]
 | c :: l, acc => if c = 47 then acc :: cutSl l [] else cutSl l (acc ++ [c])
def partB (l : List UInt8) : Bool := nameB 1 14 31 l && !(match l with | c :: _ => decide (c = 46) || decide (c = 45) | [] => false)
def zoneB (s : ByteArray) : Bool := decide (s.size ≤ 60) && (cutSl s.data.toList []).all partB
def setB (s : ByteArray) : Bool := nameB 1 30 15 s.data.toList && nameB 1 1 1 (s.data.toList.take 1)
def letterB (s : ByteArray) : Bool := nameB 1 4 1 s.data.toList
def abbrB (s : ByteArray) : Bool := nameB 3 6 1 s.data.toList
def leastD (l : List DRule) : Int := l.foldl (fun m r => min m r.save) 0
def otherGo : List DRule → Int → Int × Bool
 | [], x => (x, !decide (x = 0))
 | r :: l, x => if r.save = 0 then otherGo l x else if x ≠ 0 ∧ r.save ≠ x then (0, false) else otherGo l r.save
def otherD (l : List DRule) : Int × Bool := otherGo l 0
def namedY (y : Int) : Bool := decide (1850 ≤ y) && decide (y ≤ 2149)
def timedB (c : DClock) (least : Int) : Bool := clkChk c && (let n := if c.base = 1 then c.sec + least else c.sec; decide (-86400 ≤ n) && decide (n ≤ 172800))
def ruleErr (r : DRule) (least : Int) : Int :=
 if (namedY r.from_ && (namedY r.to || decide (r.to = 1048576))) = false then 3
 else if r.to < r.from_ then 12
 else if alwaysD r.from_ r.to r.month r.day = false then 3
 else if timedB r.at_ least = false then 3
 else if (decide (-10800 ≤ r.save) && decide (r.save ≤ 10800)) = false then 14
 else if (decide (r.letter = ByteArray.empty) || letterB r.letter) = false then 15
 else 0
def posixB (r : DRule) : Bool := if r.day.kind = 2 then true else if r.day.kind = 3 then decide (r.day.day.tmod 7 = 1) && decide (r.day.day < 29) else if r.day.kind = 1 then !decide (r.month = 2) || !decide (r.day.day = 29) else false
def lastB (l : List DRule) : Bool :=
 match l.filter fun r => decide (r.to = 1048576) with
 | [] => true
 | [a, b] => (decide (a.save = 0) != decide (b.save = 0)) && !decide (a.month = b.month) && posixB a && posixB b
 | _ => false
def firstBad (least : Int) : List DRule → Nat → Option (Nat × Int)
 | [], _ => none
 | r :: l, k => if ruleErr r least = 0 then firstBad least l (k + 1) else some (k, ruleErr r least)
def rsChk (l : List DRule) : Nat × Int :=
 match firstBad (leastD l) l 0 with
 | some x => x
 | none =>
  if (l.any fun r => decide (r.save = 0)) = false ∨ (leastD l < 0 ∧ (l.any fun r => !decide (r.save = 0) && !decide (r.save = leastD l)) = true) then (0, 14)
  else if lastB l = false then (0, 16)
  else (0, 0)
def dig2 (n : Int) : List UInt8 := [UInt8.ofNat (48 + (n / 10).toNat), UInt8.ofNat (48 + (n % 10).toNat)]
def textN (off : Int) : List UInt8 :=
 if off ≤ -86400 ∨ 86400 ≤ off then []
 else
  let x := if off < 0 then -off else off
  (if off < 0 then (45 : UInt8) else 43) :: (dig2 (x / 3600) ++ (if x % 3600 = 0 then [] else dig2 (x / 60 % 60)) ++ (if x % 60 = 0 then [] else dig2 (x % 60)))
def numU (l : List UInt8) : Option Int := if l.isEmpty then none else if l.all (fun c => decide (48 ≤ c) && decide (c ≤ 57)) then some (l.foldl (fun n c => n * 10 + ((c.toNat : Int) - 48)) 0) else none
def parseGo (l : List UInt8) : List Int → Nat → Int → Option Int
 | [], _, off => some off
 | u :: us, i, off => if l.length ≤ 1 + 2 * i then some off else match numU ((l.drop (1 + 2 * i)).take 2) with | none => none | some n => parseGo l us (i + 1) (off + n * u)
def parseN (l : List UInt8) : Option Int :=
 match parseGo l [3600, 60, 1] 0 0 with
 | none => none
 | some o => let off := if l.head? = some 45 then -o else o
  if l.isEmpty ∨ textN off ≠ l then none else some off
def i64ok (n : Int) : Bool := decide (-9223372036854775808 ≤ n) && decide (n ≤ 9223372036854775807)
def joinN (off : Int) : List Int → Option (List (List UInt8))
 | [] => some []
 | x :: l => if i64ok (off + x) = false ∨ textN (off + x) = [] then none else match joinN off l with | none => none | some r => some (textN (off + x) :: r)
def slashed : List (List UInt8) → List UInt8
 | [] => []
 | [x] => x
 | x :: l => x ++ 47 :: slashed l
def expandN (e : DEra) (l : List DRule) : List UInt8 × Int :=
 let j := fun s => match joinN e.off s with | none => ([], (3 : Int)) | some r => (slashed r, 0)
 if e.kind = 0 then j [0]
 else if e.kind = 1 then j [e.save]
 else if e.kind = 2 then (if (otherD l).2 then j [0, (otherD l).1] else if (l.any fun r => !decide (r.save = 0)) then ([], 14) else j [0])
 else ([], 2)
def cutAt (p : List UInt8) : List UInt8 → List UInt8 → Option (List UInt8 × List UInt8)
 | [], acc => if p = [] then some (acc, []) else none
 | c :: l, acc => if p.isPrefixOf (c :: l) then some (acc, (c :: l).drop p.length) else cutAt p l (acc ++ [c])
def letterL (l : List UInt8) : Bool := l.all fun c => decide (byteK c.toNat = 1)
def aroundF (f : List UInt8) : Option (List UInt8 × List UInt8) :=
 match cutAt [37, 115] f [] with
 | none => none
 | some (a, b) => if letterL (a ++ b) ∧ (a ++ b).length ≤ 5 then some (a, b) else none
def abbrL (l : List UInt8) : Bool := nameB 3 6 1 l
def kindF (f : List UInt8) : Int :=
 let two := cutAt [47] f []
 if abbrL f then 1
 else if (match two with | some (a, b) => abbrL a && abbrL b | none => false) then 2
 else if (aroundF f).isSome then 3
 else if f = [37, 122] then 4
 else if (parseN f).isSome || (match two with | some (a, b) => (parseN a).isSome && (parseN b).isSome | none => false) then 5
 else 0
def partsF (f : List UInt8) : Option (List UInt8 × List UInt8) :=
 match cutAt [47] f [] with
 | none => none
 | some (a, b) => if kindF f = 2 ∨ kindF f = 5 then some (a, b) else none
def abbrF (f : List UInt8) (off save : Int) (letter : List UInt8) : List UInt8 × Int :=
 match partsF f with
 | some (a, b) => (if save = 0 then a else b, 0)
 | none =>
  if kindF f = 3 then (match aroundF f with | some (a, b) => if abbrL (a ++ letter ++ b) then (a ++ letter ++ b, 0) else ([], 15) | none => ([], 15))
  else if kindF f = 4 then (if i64ok (off + save) = true ∧ textN (off + save) ≠ [] then (textN (off + save), 0) else ([], 15))
  else if kindF f = 1 ∨ kindF f = 5 then (f, 0)
  else ([], 15)
def firstErr (f : List UInt8) : List (List UInt8) → Int
 | [] => 0
 | x :: l => if (abbrF f 0 0 x).2 = 0 then firstErr f l else (abbrF f 0 0 x).2
def fmtChk (e : DEra) (l : List DRule) : Int :=
 let f := e.format.data.toList
 if kindF f = 0 then 15
 else if kindF f = 3 then firstErr f (if e.kind = 2 then l.map (fun r => r.letter.data.toList) else [[]])
 else if kindF f = 4 ∨ kindF f = 5 then (if (expandN e l).2 ≠ 0 ∨ (kindF f = 5 ∧ (expandN e l).1 ≠ f) then 15 else 0)
 else 0
def untilChk (u : DUntil) (least : Int) : Int :=
 if least < -10800 ∨ 0 < least then 2
 else if u.is = false then 4
 else if u.year < 1850 ∨ 2149 < u.year ∨ clkChk u.at_ = false then 3
 else
  let sec := if u.at_.base = 1 then u.at_.sec + least else u.at_.sec
  if (onD u.year u.month u.day).2 ≠ 0 ∨ sec < -86400 ∨ 172800 < sec then 3 else 0
def nominalU (u : DUntil) (least : Int) : Int × Int :=
 if untilChk u least ≠ 0 then (0, untilChk u least) else (86400 * (onD u.year u.month u.day).1 + u.at_.sec + (if u.at_.base = 1 then least else 0), 0)
structure DEvent where
 year : Int
 rule : Int
 nominal : Int
 deriving DecidableEq
def DEvent.enc (e : DEvent) : List Value := [.int .i64 e.year, .int .i64 e.rule, .int .i64 e.nominal]
def dEv0 : DEvent := ⟨0, 0, 0⟩
def lastY (r : DRule) : Int := if r.to = 1048576 then 2000000000 else min r.to 2000000000
def onR (least : Int) (r : DRule) (i y : Int) : Option DEvent :=
 if y < max r.from_ (-2000000000) ∨ lastY r < y ∨ clkChk r.at_ = false then none
 else if (onD y r.month r.day).2 ≠ 0 then none
 else some ⟨y, i, 86400 * (onD y r.month r.day).1 + r.at_.sec + (if r.at_.base = 1 then max least (-10800) else 0)⟩
def ordE (a b : DEvent) : Int := if a.nominal < b.nominal then -1 else if b.nominal < a.nominal then 1 else if a.rule < b.rule then -1 else if b.rule < a.rule then 1 else if a.year < b.year then -1 else if b.year < a.year then 1 else 0
end Go.Wk
