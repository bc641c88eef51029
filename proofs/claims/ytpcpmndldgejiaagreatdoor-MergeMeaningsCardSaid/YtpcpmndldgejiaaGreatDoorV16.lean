/- Parts of the proof. -/
import Derived.Laws.Externs
import Derived.Test.YtpcpmndldgejiaaGreatDoorV12
import Derived.Scope
import Derived.Laws.IdiomStrings
import Derived.Test.YtpcpmndldgejiaaGreatDoorV15
import Derived.RangeFuncIn
import Derived.RangeFuncLeaves
import Derived.RangeFuncRecord
import Derived.RangeFuncSeq
import Derived.TacticsIn
import Derived.ControlIn
import Derived.RangeFuncCalls
import Derived.Maps.RangeRun
import Derived.ChangeMaps4
set_option maxHeartbeats 4000000
set_option linter.unusedVariables false
set_option linter.unusedSimpArgs false
namespace Go.Wk
open Go Go.RowKit
section
variable {P : Program} {n : Nat} {wr : World} {fr : Fr} {O : List It} {ty : TypeId} {pos : String} {af : Array Edge} {dst : Option Tmp} {g : Option (Nat × Bool)} {Kp : Value → List It → Prop}
theorem Stp_makeMapN {t kt et : Nat} {x : Operand} {kk : IntKind} {i : Int} [hM : MapT P t kt et] (hx : ev fr x = some (.int kk i)) (k : ∀ b, Kp (.map (some b)) (.mp b [] :: O)) : Stp P n wr fr O ⟨dst, .makeMap t (some x), ty, pos, af, g⟩ Kp :=
 ZbB fun a w hs => by
  have hB : Bel w.heap.size w (w.alloc (.map #[] 0)) := (Bel.refl _ _).alloc (Nat.le_refl _) _
  have hu := MapT.parts hM.h
  refine ⟨.map (some w.heap.size), w.alloc (.map #[] 0), _, ?_, hs.old.trans (hB.mono hs.old.size), hs.own.grow (O' := [.mp w.heap.size []]) hB hs.old.size ⟨fun i hi => ?_, fun i hi b hb => ?_, List.pairwise_singleton _ _⟩, k _⟩
  ·simp [execOp, hs.sim.ev hx, Instr.makeMap, run_underlying hu, asInt, asIntOf, newObj, Sem.run]
  ·rw [List.mem_singleton.1 hi]
   exact ⟨#[], 0, heap_alloc_new w _, rfl, stOk_nil⟩
  ·rw [List.mem_singleton.1 hi] at hb
   simp only [It.S] at hb
   subst hb
   exact ⟨Nat.le_refl _, by simp⟩
theorem toList_eraseIn (es : Array MapEntry) (j : Nat) : (es.eraseIdxIfInBounds j).toList = es.toList.eraseIdx j := by
 unfold Array.eraseIdxIfInBounds
 split
 ·simp
 ·rw [List.eraseIdx_of_length_le (by simp; omega)]
theorem stOk_erase {es : Array MapEntry} {c : Nat} (h : stOk es c) (j : Nat) : stOk (es.eraseIdxIfInBounds j) c := by
 unfold stOk
 rw [toList_eraseIn]
 have hsub : ((es.toList.eraseIdx j).map (·.born)).Sublist (es.toList.map (·.born)) := (List.eraseIdx_sublist _ _).map _
 exact ⟨h.1.sublist hsub, fun n hn => h.2 n (hsub.subset hn)⟩
theorem Stp_delete {t t2 kt et b : Nat} {x ix : Operand} {m : List (ByteArray × Value)} {k : ByteArray} {O' : List It} [hM : MapT P t kt et] [StringT P kt] (hx : ev fr x = some (.map (some b))) (hi : ev fr ix = some (.string k))
  (hu : Upd O (.mp b m) (.mp b (mdel m k)) O') (kk : Kp (.tuple #[]) O') : Stp P n wr fr O ⟨dst, .call ⟨.builtin .delete, #[x, ix], #[t, t2]⟩, ty, pos, af, g⟩ Kp :=
 ZbB fun a w hs => by
  have ht := MapT.parts hM.h
  obtain ⟨es, c, h1, h2, h9⟩ := hs.own.sat _ hu.mem
  have hf := mfind_del k m es.toList 0 h2
  cases hfi : Zes m k 0 with
  | none =>
   rw [hfi] at hf
   have hst := hs.setMap (es' := es) (c' := c) hu (by unfold Zca; rw [hf]; exact h2) h9
   refine ⟨.tuple #[], _, O', ?_, hst.1, hst.2, kk⟩
   simp only [execOp, resolve, invoke, builtin, Builtin.delete_, hs.sim.ev hx, hs.sim.ev hi]
   simp [hs.sim.ev hx, hs.sim.ev hi, Builtin.delete_, run_underlying ht, Zbi h1, Zcy _ k 9999, ZcY k m es.toList w h2, hfi, setObj, Sem.run, h1]
  | some p =>
   obtain ⟨j, u⟩ := p
   rw [hfi] at hf
   obtain ⟨_, hf2⟩ := hf
   rw [Nat.sub_zero] at hf2
   have hst := hs.setMap (es' := es.eraseIdxIfInBounds j) (c' := c) hu (by unfold Zca; rw [toList_eraseIn]; exact hf2) (stOk_erase h9 j)
   refine ⟨.tuple #[], _, O', ?_, hst.1, hst.2, kk⟩
   simp only [execOp, resolve, invoke, builtin, Builtin.delete_, hs.sim.ev hx, hs.sim.ev hi]
   simp [hs.sim.ev hx, hs.sim.ev hi, Builtin.delete_, run_underlying ht, Zbi h1, Zcy _ k 9999, ZcY k m es.toList w h2, hfi, setObj, Sem.run, h1]
def MpAt (w : World) (b : Nat) (m : List (ByteArray × Value)) : Prop := (It.mp b m).sat w
theorem MpAt.up {w w' : World} {b : Nat} {m : List (ByteArray × Value)} {B : Nat} (h : MpAt w b m) (hb : Bel B w w') (hB : w.heap.size ≤ B) : MpAt w' b m := by
 refine It.sat_congr h fun k hk => ?_
 obtain rfl : k = b := hk
 obtain ⟨es, c, h1, _⟩ := h
 exact hb.block k (Nat.lt_of_lt_of_le (Array.getElem?_eq_some_iff.1 h1).1 hB)
theorem Pu_lookupOld {t kt et b : Nat} {x ix : Operand} {m : List (ByteArray × Value)} {k : ByteArray} {z v : Value} [hM : MapT P t kt et] [StringT P kt] [ZeroV P et z] (hx : ev fr x = some (.map (some b))) (hi : ev fr ix = some (.string k))
  (hp : MpAt wr b m) (hv : (mget m k).getD z = v) : Pu P n wr fr O (.lookup t x ix false) ty v := hv ▸ Pu_lookupO (kt := kt) (et := et) hx hi (fun _ hw _ => hp.up hw (Nat.le_refl _))
theorem Pu_lookupOkOld {t kt et b : Nat} {x ix : Operand} {m : List (ByteArray × Value)} {k : ByteArray} {z v : Value} {c : Bool} [hM : MapT P t kt et] [StringT P kt] [ZeroV P et z] (hx : ev fr x = some (.map (some b))) (hi : ev fr ix = some (.string k))
  (hp : MpAt wr b m) (hv : (mget m k).getD z = v) (hc : (mget m k).isSome = c) : Pu P n wr fr O (.lookup t x ix true) ty (.tuple [v, .bool c].toArray) :=
 fun a w hs _ _ _ _ => by
  have := ZeO (P := P) (t := t) (kt := kt) (et := et) (k := k) (z := z) (hp.up hs.old (Nat.le_refl _)) true
  simp only [execOp, hs.sim.ev hx, hs.sim.ev hi, Sem.run_bind, this, Result.andThen_ok, Sem.run_pure]
  rw [← hv, ← hc]
  rfl
theorem Pu_eqNilMap {t t' kt et : Nat} {x : Operand} {p : Option Nat} [hM : MapT P t kt et] (hx : ev fr x = some (.map p)) : Pu P n wr fr O (.binOp .eql t x (.const (.map none)) t') ty (.bool p.isNone) :=
 fun a w hs _ _ _ _ => by
  have hu := MapT.parts hM.h
  have h : (binOp .eql t (.map p) (.map none)).run P w = .ok (.bool p.isNone) w := by
   simp only [binOp]
   have : ∀ d, (Op.equalIn (d + 1) t (.map p) (.map none)).run P w = .ok p.isNone w := fun d => by cases p <;> simp [Op.equalIn, run_underlying hu]
   rw [show Op.equal t (.map p) (.map none) = Op.equalIn (9999 + 1) t (.map p) (.map none) from rfl]
   simp only [Sem.run_bind, this 9999, Result.andThen_ok, Sem.run_pure]
  have hc : a.eval (.const (.map none)) = .map none := rfl
  simp [execOp, hs.sim.ev hx, hc, eqGuard, h]
theorem Pu_ifaceMap {t kt et : Nat} {x : Operand} {v : Value} [hM : MapT P t kt et] (hx : ev fr x = some v) : Pu P n wr fr O (.makeInterface t x) ty (.iface t v) :=
 fun a w hs _ _ _ _ => by
  have hu := MapT.parts hM.h
  simp [execOp, hs.sim.ev hx, Instr.makeInterface, run_underlying hu]
theorem Pu_assertMap {t xt kt et : Nat} {x : Operand} {v : Value} [hM : MapT P t kt et] (hx : ev fr x = some (.iface t v)) : Pu P n wr fr O (.typeAssert x xt t false) ty v :=
 fun a w hs _ _ _ _ => by
  have hu := MapT.parts hM.h
  simp [execOp, hs.sim.ev hx, Instr.typeAssert, run_underlying hu]
def isClone (P : Program) (f : FuncId) : Prop := ∀ (args : Array Value) (w : World), (callFunc f args).run P w = ((Extern.MapsClone.clone args).run P w).andThen fun v w' => .ok (.value v) w'
theorem Stp_mapsClone {f t b : Nat} {x : Operand} {ts : Array TypeId} {m : List (ByteArray × Value)} (hf : isClone P f) (hx : ev fr x = some (.iface t (.map (some b)))) (hp : ∀ w, Bel wr.heap.size wr w → Holds wr.heap.size O w → MpAt w b m)
  (kk : ∀ b2, Kp (.iface t (.map (some b2))) (.mp b2 m :: O)) : Stp P n wr fr O ⟨dst, .call ⟨.value (.func f), #[x], ts⟩, ty, pos, af, g⟩ Kp :=
 ZbB fun a w hs => by
  obtain ⟨es, c, h1, h2⟩ := hp w hs.old hs.own
  have hB : Bel w.heap.size w (w.alloc (.map es c)) := (Bel.refl _ _).alloc (Nat.le_refl _) _
  have hrun : (Extern.MapsClone.clone #[.iface t (.map (some b))]).run P w = .ok (.iface t (.map (some w.heap.size))) (w.alloc (.map es c)) := by
   have e : Extern.MapsClone.clone #[.iface t (.map (some b))] = (getObj b >>= fun o => match o with
     | .map entries clock => (newObj (.map entries clock) >>= fun n => pure (.iface t (.map (some n))))
     | _ => stuck "maps.clone: a map expected") := rfl
   rw [e]
   simp [Zbi h1, newObj, Sem.run]
  refine ⟨.iface t (.map (some w.heap.size)), w.alloc (.map es c), _, ?_, hs.old.trans (hB.mono hs.old.size), hs.own.grow (O' := [.mp w.heap.size m]) hB hs.old.size ⟨fun i hi => ?_, fun i hi b hb => ?_, List.pairwise_singleton _ _⟩, kk _⟩
  ·have hev := hs.sim.ev hx
   have he : a.eval (.func f) = .func (.func f) #[] #[] := rfl
   have hc := hf #[.iface t (.map (some b))] w
   rw [hrun, Result.andThen_ok] at hc
   simp [execOp, resolve, he, Deferred.ofValue, invoke, hc, hev]
  ·rw [List.mem_singleton.1 hi]
   exact ⟨es, c, heap_alloc_new w _, h2⟩
  ·rw [List.mem_singleton.1 hi] at hb
   simp only [It.S] at hb
   subst hb
   exact ⟨Nat.le_refl _, by simp⟩
end
def Nd (m : List (ByteArray × Value)) : Prop := (m.map (·.1)).Nodup
theorem ZdT (k : ByteArray) : ∀ m : List (ByteArray × Value), mget m k = none ↔ k ∉ m.map (·.1)
 | [] => by simp [mget]
 | (x, v) :: r => by
  simp only [mget, List.map_cons, List.mem_cons, not_or]
  by_cases h : k = x
  ·simp [h]
  ·simp [h, ZdT k r]
theorem mset_keys_in (k : ByteArray) (v : Value) : ∀ m : List (ByteArray × Value), k ∈ m.map (·.1) → (mset m k v).map (·.1) = m.map (·.1)
 | [], h => by simp at h
 | (x, u) :: r, h => by
  simp only [mset]
  by_cases hk : k = x
  ·simp [hk]
  ·rw [if_neg hk]
   simp only [List.map_cons, List.mem_cons, hk, false_or] at h ⊢
   rw [mset_keys_in k v r h]
theorem mset_keys_out (k : ByteArray) (v : Value) : ∀ m : List (ByteArray × Value), k ∉ m.map (·.1) → (mset m k v).map (·.1) = m.map (·.1) ++ [k]
 | [], _ => by simp [mset]
 | (x, u) :: r, h => by
  simp only [List.map_cons, List.mem_cons, not_or] at h
  simp only [mset, if_neg h.1, List.map_cons, mset_keys_out k v r h.2, List.cons_append]
theorem Nd.set {m : List (ByteArray × Value)} (h : Nd m) (k : ByteArray) (v : Value) : Nd (mset m k v) := by
 unfold Nd at h ⊢
 by_cases hk : k ∈ m.map (·.1)
 ·rw [mset_keys_in k v m hk]; exact h
 ·rw [mset_keys_out k v m hk, List.nodup_append]
  exact ⟨h, by simp, fun a ha b hb => by simp only [List.mem_singleton] at hb; subst hb; exact fun e => hk (e ▸ ha)⟩
theorem mdel_sub (k : ByteArray) : ∀ m : List (ByteArray × Value), (mdel m k).Sublist m
 | [] => List.Sublist.slnil
 | (x, u) :: r => by
  simp only [mdel]
  split
  ·exact List.sublist_cons_self _ _
  ·exact (mdel_sub k r).cons_cons _
theorem Nd.del {m : List (ByteArray × Value)} (h : Nd m) (k : ByteArray) : Nd (mdel m k) := List.Nodup.sublist ((mdel_sub k m).map _) h
theorem mget_mdel (k x : ByteArray) : ∀ {m : List (ByteArray × Value)}, Nd m → mget (mdel m k) x = if x = k then none else mget m x
 | [], _ => by simp [mdel, mget]
 | (y, u) :: r, h => by
  unfold Nd at h
  simp only [List.map_cons, List.nodup_cons] at h
  simp only [mdel]
  by_cases hk : k = y
  ·subst hk
   rw [if_pos rfl]
   by_cases hx : x = k
   ·subst hx
    rw [if_pos rfl]
    exact (ZdT x r).2 h.1
   ·rw [if_neg hx, mget, if_neg hx]
  ·rw [if_neg hk]
   simp only [mget]
   by_cases hx : x = y
   ·subst hx
    rw [if_pos rfl, if_pos rfl, if_neg (fun e => hk e.symm)]
   ·rw [if_neg hx, if_neg hx, mget_mdel k x h.2]
theorem mdel_len (k : ByteArray) : ∀ {m : List (ByteArray × Value)}, (mget m k).isSome = true → (mdel m k).length + 1 = m.length
 | [], h => by simp [mget] at h
 | (y, u) :: r, h => by
  simp only [mget] at h
  simp only [mdel]
  by_cases hk : k = y
  ·simp [hk]
  ·rw [if_neg hk] at h ⊢
   simp [mdel_len k h]
theorem mset_len (k : ByteArray) (v : Value) : ∀ m : List (ByteArray × Value), (mset m k v).length ≤ m.length + 1
 | [] => by simp [mset]
 | (y, u) :: r => by
  simp only [mset]
  split
  ·simp
  ·simp [mset_len k v r]
section
variable {P : Program} {n : Nat} {wr : World} {Q : Exit → Fr → List It → Prop} {fr : Fr} {O : List It} {K : Fr → List It → Prop}
theorem goto_ret {l : Nat} {rs : List ResultVar} {R : Value → List It → Prop} : ¬ retQ P wr rs R (.goto l) fr O := id
theorem W_scope {c : Code} (hg : ∀ l fr O, ¬ Q (.goto l) fr O) (h : W P n wr c Q fr O) : W P n wr (.scope c) Q fr O := by
 intro a w hs
 refine wp_scope_straight (wp_mono (h a w hs) ?_)
 rintro e a' w' ⟨fr', O', hs', hq⟩
 cases e with
 | goto l => exact (hg l _ _ hq).elim
 | _ => exact ⟨fr', O', hs', hq⟩
theorem W_label {l : Nat} (h : Q .normal fr O) : W P n wr (.label l) Q fr O := fun _ _ hs => wp_label ⟨fr, O, hs, h⟩
end
section
variable {P : Program} {n : Nat} {wr : World} {fr : Fr} {O : List It} {ty : TypeId} {pos : String} {af : Array Edge} {dst : Option Tmp} {g : Option (Nat × Bool)} {Kp : Value → List It → Prop}
theorem Pu_sliceArrH {t len e sz b : Nat} {ag : Bool} {x y : Operand} {h : Int} [hA : ArrT P t len e sz ag] (hx : ev fr x = some (.pointer (some ⟨b, 0, none⟩))) (hy : ev fr y = some (.int .i64 h)) (h0 : 0 ≤ h) (h1 : h ≤ len) :
  Pu P n wr fr O (.slice t x none (some y) none) ty (.slice (some ⟨b, 0, none⟩) h.toNat len) :=
 fun a w hs _ _ _ _ => by
  have h := hA.h
  unfold arrChk at h
  split at h
  ·rename_i len' e' hu
   split at h
   ·rename_i sz' ag' ht
    simp only [Option.some.injEq, Prod.mk.injEq] at h
    obtain ⟨rfl, rfl, rfl, rfl⟩ := h
    obtain ⟨inf, dd, hinf, hsz, _, _⟩ := Ty.parts ht
    simp [execOp, hs.sim.ev hx, hs.sim.ev hy, Instr.sliceAt, run_underlying hu, Instr.sureAddr, Instr.sliceBounds, run_sliceBound, h0, h1, sizeOf, ZaJ hinf, Addr.add]
   ·cases h
  ·cases h
theorem Pu_loadBi {t sz b p : Nat} {x : Operand} {cs : List Value} {bt : TypeId} {v : Value} {R : List It} [Ty P t sz false] (hx : ev fr x = some (.pointer (some ((adr (some ⟨b, 0, none⟩)).add p))))
  (hp : Pick (.blk b cs bt) O R) (hv : cs[p]? = some v) : Pu P n wr fr O (.load t x) ty v :=
 Pu_loadB1 (by rw [hx, show adr (some (⟨b, 0, none⟩ : Addr)) = ⟨b, 0, none⟩ from rfl, Zcc, Nat.zero_add]) hp hv
theorem Pu_loadBa {t sz b p : Nat} {x : Operand} {cs : List Value} {bt : TypeId} {v : Value} {R : List It} [Ty P t sz false] (hx : ev fr x = some (.pointer (some ((⟨b, 0, none⟩ : Addr).add p))))
  (hp : Pick (.blk b cs bt) O R) (hv : cs[p]? = some v) : Pu P n wr fr O (.load t x) ty v :=
 Pu_loadB1 (by rw [hx, Zcc, Nat.zero_add]) hp hv
theorem Pu_neg64 {t : TypeId} {x : Operand} {i : Int} (hx : ev fr x = some (.int .i64 i)) (h : -9223372036854775807 ≤ i ∧ i ≤ 9223372036854775807) : Pu P n wr fr O (.unOp .neg t x) ty (.int .i64 (-i)) := by
 have := Pu_negW (P := P) (n := n) (wr := wr) (O := O) (ty := ty) (t := t) hx
 rwa [Int.zero_sub, Zb6 (by omega)] at this
def byteV (c : UInt8) : Value := .int .u8 (c.toNat : Int)
theorem Pu_convBytes {t t' e sz bytes et c : Nat} {x : Operand} {A : Option Addr} {m : Nat} {l : List UInt8} {xs : List Value} {R : List It} [hE : ElemT P t e sz bytes] [hU : IntT P e .u8] [hS : StringT P t'] (hx : ev fr x = some (.slice A m c))
  (hp : Pick (.row (.slice A m c) et 1 m xs) O R) (hxs : xs = l.map byteV) (hm : m = l.length) (hA : A ≠ none) : Pu P n wr fr O (.convert t t' x) ty (.string ⟨l.toArray⟩) :=
 fun a w hs _ _ _ _ => by
  have h := hE.h
  unfold elemChk at h
  split at h
  ·rename_i e' hu
   split at h
   ·simp only [Option.some.injEq, Prod.mk.injEq] at h
    obtain ⟨rfl, _, _⟩ := h
    obtain ⟨ad, rfl⟩ := Option.ne_none_iff_exists'.1 hA
    subst hm hxs
    have hsat := hs.own.sat _ (hp.perm.mem_iff.2 List.mem_cons_self)
    have hc : ∀ j (hj : j < l.length), w.cell? (ad.add j) = some (.int .u8 (l[j].toNat : Int)) := fun j hj => by
     have := ZbP hsat (j := j) (u := byteV l[j]) (by rw [List.getElem?_map, List.getElem?_eq_getElem hj]; rfl)
     exact this.2
    have hrun := run_convert_bytes_back (P := P) w t t' e' ad c l hu hU.h hS.h hc
    simp [execOp, hs.sim.ev hx, hrun]
   ·cases h
  ·cases h
theorem Zbv {t t' : TypeId} {x y : Operand} {kk : IntKind} {i j : Int} {b : Bool} (hx : ev fr x = some (.int kk i)) (hy : ev fr y = some (.int kk j)) (h : decide (i < j) = b) : Pu P n wr fr O (.binOp .lss t x y t') ty (.bool b) := h ▸ Pu_lss hx hy
theorem ZeL {t t' : TypeId} {x y : Operand} {kk : IntKind} {i j : Int} {b : Bool} (hx : ev fr x = some (.int kk i)) (hy : ev fr y = some (.int kk j)) (h : decide (i ≤ j) = b) : Pu P n wr fr O (.binOp .leq t x y t') ty (.bool b) := h ▸ Pu_leq hx hy
theorem ZaX {t t' : TypeId} {x y : Operand} {kk : IntKind} {i j : Int} {b : Bool} (hx : ev fr x = some (.int kk i)) (hy : ev fr y = some (.int kk j)) (h : decide (j < i) = b) : Pu P n wr fr O (.binOp .gtr t x y t') ty (.bool b) := h ▸ Pu_gtr hx hy
theorem ZeM {t t' : TypeId} {x y : Operand} {kk : IntKind} {i j : Int} {b : Bool} (hx : ev fr x = some (.int kk i)) (hy : ev fr y = some (.int kk j)) (h : decide (j ≤ i) = b) : Pu P n wr fr O (.binOp .geq t x y t') ty (.bool b) := h ▸ Pu_geq hx hy
theorem ZaI {t t' : TypeId} {x y : Operand} {kk : IntKind} {i j : Int} {b : Bool} (hx : ev fr x = some (.int kk i)) (hy : ev fr y = some (.int kk j)) (h : decide (i = j) = b) : Pu P n wr fr O (.binOp .eql t x y t') ty (.bool b) := h ▸ Pu_eql hx hy
theorem ZaM {t t' : TypeId} {x y : Operand} {kk : IntKind} {i j : Int} {b : Bool} (hx : ev fr x = some (.int kk i)) (hy : ev fr y = some (.int kk j)) (h : (!decide (i = j)) = b) : Pu P n wr fr O (.binOp .neq t x y t') ty (.bool b) := h ▸ Pu_neq hx hy
theorem Pu_eqlSB {t t' : TypeId} {x y : Operand} {i j : ByteArray} {b : Bool} (hx : ev fr x = some (.string i)) (hy : ev fr y = some (.string j)) (h : decide (i = j) = b) : Pu P n wr fr O (.binOp .eql t x y t') ty (.bool b) := h ▸ Pu_eqlS hx hy
theorem Pu_neqSB {t t' : TypeId} {x y : Operand} {i j : ByteArray} {b : Bool} (hx : ev fr x = some (.string i)) (hy : ev fr y = some (.string j)) (h : (!decide (i = j)) = b) : Pu P n wr fr O (.binOp .neq t x y t') ty (.bool b) := h ▸ Pu_neqS hx hy
end
end Go.Wk
namespace Go.Proofs.YtpcpmndldgejiaaGreatDoor
open Go Go.RowKit Go.Wk
attribute [local irreducible] W RL Does Zat Zak retQ Calls Pu Stp RD Qy Ay Zam
theorem ruE_at {l : List Zaa} {e : Zac} {r : Zaa} (h : l[e.rule.toNat]? = some r) : ruE l e = r := by
 unfold ruE
 rw [List.getD_eq_getElem?_getD, h]; rfl
def stV (x : Int × ByteArray) : Value := .agg #[.int .i64 x.1, .string x.2]
theorem PuStB0 {G : Prop} (h : G := by (first | exact PuI | (apply Pu_loadO1; rfl; first | exact hca 9 _ rfl | exact hca 10 _ rfl))) : G := h
theorem QyStB0 {G : Prop} (h : G := by first | (apply Qy_y; rfl; exact PuStB0) | exact QyA) : G := h
theorem QFStB0 {G : Prop} (h : G := by repeat (first | exact QF.nil | (apply QF.mk; rfl; rfl; decide +kernel; exact QyStB0))) : G := h
theorem ZcM (A : Option Addr) (c : Nat) (l : List Zaa) (e : Zac) (w : World) (hA : RdSl w A c Zaa.enc 11 l) (he : 0 ≤ e.rule ∧ e.rule < l.length) :
  Does Tryz.prog 149 [.slice A l.length c, .agg e.enc.toArray] w (fun v O => v = stV (behS l e) ∧ O = []) := by
 obtain ⟨r, hr⟩ : ∃ r, l[e.rule.toNat]? = some r := ⟨_, List.getElem?_eq_getElem (by omega)⟩
 have hle := hA.le
 have hcp := hA.cap
 simp only [maxLen] at hcp
 unfold behS
 rw [ruE_at hr]
 obtain ⟨hna, hca⟩ := hA.rd _ _ hr
 obtain ⟨y, q, n⟩ := e
 dsimp only at he hr hca
 show Does _ _ [_, .agg #[.int .i64 y, .int .i64 q, .int .i64 n]] w _
 refine Zab Tryz.func149 rfl rfl rfl rfl ?_
 repeat (first | (apply RL_pu; rfl; exact PuStB0) | (apply RD_Q; rfl; rfl; decide +kernel; rfl; rfl; exact QyStB0) | refine walk1 ?_ | (refine jn ?_; (try intro F); (first | (refine bx ?_; intro bk) | (refine stA ?_) | (apply Zae; first | exact PuStB0 | exact PuA)); first | refine ⟨_, EndsA, QFStB0, ?_⟩ | refine fin ?_) | (apply RD_W; rfl; intro bk))
 exact ret_1 _ [] (.cellB rfl (by repeat' constructor) rfl rfl) .nil ⟨rfl, rfl⟩
theorem base19_spec (A : Option Addr) (c : Nat) (l : List Zaa) (w : World) (hA : RdSl w A c Zaa.enc 11 l) : Does Tryz.prog 161 [.slice A l.length c] w (fun v O => v = .int .i64 (max (Zaj l) (-10800)) ∧ O = []) := by
 have hle := hA.le
 have hcp := hA.cap
 unfold maxLen at hcp
 generalize hres : Zaj l = res
 unfold Zaj at hres
 have hmx : (if res < -10800 then -10800 else res) = max res (-10800) := by split <;> omega
 refine Zab Tryz.func161 rfl rfl rfl rfl ?_
 repeat (first | (refine js ?_; (refine bx ?_; intro bk)) | refine walk ?_)
 refine Zal [(6, _), (7, _)] [] (fun g : Nat × Int => [(3, .int .i64 g.2), (8, .int .i64 g.1)]) (fun _ => []) (fun g => g.1 ≤ l.length ∧ (l.drop g.1).foldl (fun m r => min m r.save) g.2 = res) (fun g => l.length - g.1) (0, 0) SFA SOA ⟨Nat.zero_le _, hres⟩ ?_
 rintro ⟨k, m⟩ ⟨hk, hi⟩
 dsimp only at hk hi ⊢
 repeat (first | (refine js ?_; (refine bx ?_; intro bk)) | refine walk ?_)
 refine Zag rfl (fun h => ?_) (fun h => ?_)
 ·have hlt : k < l.length := by simpa using h
  obtain ⟨hna, hca⟩ := hA.rd k _ (List.getElem?_eq_getElem hlt)
  rw [Zai hlt] at hi
  generalize l[k] = r at *
  obtain ⟨nm, fr, to, mo, ⟨dk, dw, dd⟩, ⟨cs, cb⟩, sv, le⟩ := r
  simp only [Zaa.enc, List.foldl_cons] at hca hi
  repeat (first | (apply RL_pu; rfl; (first | exact PuI | (apply ZeJ; rfl; rfl))) | (refine js ?_; (refine bx ?_; intro bk)) | refine walk1 ?_)
  rw [show (if sv < m then sv else m) = min m sv by split <;> omega]
  exact ⟨(k + 1, min m sv), OA, ⟨OA, hi⟩, SFA, .nil⟩
 ·have hkl : k = l.length := by
   have := of_decide_eq_false h
   omega
  subst hkl
  rw [List.drop_length] at hi
  obtain rfl : m = res := hi
  repeat (first | (apply RL_pu; rfl; (apply ZeK; rfl; rfl; exact hmx)) | (refine js ?_; (refine bx ?_; intro bk)) | refine walk1 ?_)
  exact rtA
theorem PuStB3 {G : Prop} (h : G := by (first | (apply Zbv; rfl; rfl; exact b1) | (apply ZaX; rfl; rfl; exact b2))) : G := h
theorem sub_spec (a b : Int) (ha : -4000000000000000000 ≤ a ∧ a ≤ 4000000000000000000) (hb : -4000000000000000000 ≤ b ∧ b ≤ 4000000000000000000) (w : World) : Does Tryz.prog 110 [.int .i64 a, .int .i64 b] w (fun v O => v = .tuple #[.int .i64 (a - b), .bool true] ∧ O = []) := by
 refine Zab Tryz.func110 rfl rfl rfl rfl ?_
 by_cases h : 0 < b
 ·have b1 : decide (a - b < a) = true := decide_eq_true (by omega)
  have b2 : decide (0 < b) = true := decide_eq_true h
  repeat (first | refine und ?_ | (apply RL_pu; rfl; exact PuStB3) | refine walk1 ?_)
  exact rtB
 ·have b1 : decide (a - b < a) = false := decide_eq_false (by omega)
  have b2 : decide (0 < b) = false := decide_eq_false h
  repeat (first | refine und ?_ | (apply RL_pu; rfl; exact PuStB3) | refine walk1 ?_)
  exact rtB
theorem ZeT (Z : It) (x t : Int) (b7 b8 : Nat) (wr : World) (hx : -2000000000000000000 ≤ x ∧ x ≤ 2000000000000000000) (ht : -2000000000000000000 ≤ t ∧ t ≤ 2000000000000000000) :
  Zam Tryz.prog 160 [.int .i64 x, .pointer (some ⟨b7, 0, none⟩), .pointer (some ⟨b8, 0, none⟩)] wr [Z, .blk b7 [.int .i64 t] 2, .blk b8 [.bool true] 4] (fun v O' => v = .tuple #[] ∧ O' = [Z, .blk b7 [.int .i64 (t - x)] 2, .blk b8 [.bool true] 4]) := by
 have hs := fun w' => sub_spec t x (by omega) (by omega) w'
 refine ZaY Tryz.func160 rfl rfl rfl rfl ?_
 repeat (first | (refine js ?_; (refine Zad (fun w' _ => hs w') ?_)) | refine walk ?_)
 exact ret_0 [Z, .blk b7 [.int .i64 (t - x)] 2, .blk b8 [.bool true] 4] SOA ⟨rfl, rfl⟩
end Go.Proofs.YtpcpmndldgejiaaGreatDoor
namespace Go.Wk
open Go Go.RowKit
def WF (F : Fence) : Prop := F = Fence.wide ∨ ∃ l, F = Fence.wide.inRound l
theorem WF.fn {F : Fence} (h : WF F) (f : FuncId) : F.fn f := by rcases h with rfl | ⟨l, rfl⟩ <;> trivial
theorem WF.depth {F : Fence} (h : WF F) : F.depth = none := by rcases h with rfl | ⟨l, rfl⟩ <;> rfl
theorem WF.calls {F : Fence} (h : WF F) {n : Nat} {P : Program} {f : FuncId} {args : Array Value} {w : World} {R : Ending → World → Prop} (hc : Calls P f args w R) : CallsIn F n P f args w R := by
 rcases h with rfl | ⟨l, rfl⟩
 ·exact callsIn_wide.2 hc
 ·exact CallsIn.inRound l (callsIn_wide.2 hc)
def calm : Result Next → Prop
 | .ok (.value _) _ => True
 | .ok .skip _ => True
 | .ok (.enter _ _) _ => True
 | .halt _ _ => True
 | _ => False
theorem wp_toIn {F : Fence} (hF : WF F) {n : Nat} {P : Program} {o : Oper} {a a2 : Act} {w : World} {K K2 : Act → World → Prop} {Q Q2 : Exit → Act → World → Prop} (he : a2.eval = a.eval) (hd : ∀ c, o.op ≠ .defer c) (hc : calm ((execOp a.eval o).run P w)) (h : o.wp P a w K Q) (hQ : ∀ e a w, ¬ Q e a w)
  (hK : ∀ v w', K (a.put o.dst v) w' → K2 (a2.put o.dst v) w') : o.wpIn F n P a2 w K2 Q2 := by
 refine ⟨fun f _ => hF.fn f, ?_⟩
 rw [Oper.semAt_eq _ _ _ hd, he]
 unfold Oper.wp at h
 generalize (execOp a.eval o).run P w = r at *
 cases r with
 | ok nx w' =>
  cases nx with
  | value v => exact hK _ _ h
  | skip => exact hK _ _ h
  | enter f args =>
   rw [Oper.upon_enter] at h
   rw [Oper.uponIn_enter]
   refine ⟨fun hh => (by rw [hF.depth] at hh; cases hh), (hF.calls h).mono ?_⟩
   intro e w'' he
   cases e with
   | returned v => exact hK _ _ he
   | panicked c => exact (hQ _ _ _ he).elim
   | outgrown => exact he.elim fun a h => h.elim fun w h => (hQ _ _ _ h).elim
  | _ => exact hc.elim
 | halt x w' =>
  cases x with
  | panic v => exact (hQ _ _ _ h).elim
  | _ => exact h.elim
section
variable {F : Fence} {P : Program} {n : Nat} {wr : World} {ops : Array Oper} {rest : List Oper} {K : Fr → List It → Prop} {fr : Fr} {O : List It} {ty : TypeId} {pos : String} {af : Array Edge} {D : List Deferred}
def actD (D : List Deferred) (a : Act) : Act := { a with defers := D }
def regQI (D : List Deferred) (n : Nat) (wr : World) (K : Fr → List It → Prop) : Exit → Act → World → Prop := fun e a w => e = .normal ∧ a.defers = D ∧ ∃ fr O, St n wr fr O (actD [] a) w ∧ K fr O
def RLI (F : Fence) (D : List Deferred) (P : Program) (n : Nat) (wr : World) (ops : Array Oper) (l : List Oper) (K : Fr → List It → Prop) (fr : Fr) (O : List It) : Prop :=
 ∀ a w, St n wr fr O a w → wpListIn F 0 P ops (regQI D n wr K) l (actD D a) w
theorem actD_nil {a : Act} {fr : Fr} {w : World} (h : St n wr fr O a w) : actD [] (actD D a) = a := by
 have := h.sim.defers
 cases a
 simp only at this
 subst this
 rfl
theorem ZeX (a : Act) (d : Option Tmp) (v : Value) : (actD D a).put d v = actD D (a.put d v) := by cases d <;> rfl
theorem Za5 (h : K fr O) : RLI F D P n wr ops [] K fr O := fun a w hs => ⟨rfl, rfl, fr, O, by rw [actD_nil hs]; exact hs, h⟩
theorem Zb2 (hF : WF F) {d : Nat} {op : Op} {v : Value} (hd : Nat.ble (d + 1) n = true) (hop : ∀ c, op ≠ .defer c) (h : Pu P n wr fr O op ty v) (k : RLI F D P n wr ops rest K ((d, v) :: fr) O) :
  RLI F D P n wr ops (⟨some d, op, ty, pos, af, none⟩ :: rest) K fr O := by
 intro a w hs
 have hrun := h a w hs (some d) pos af none
 refine wpListIn_plain rfl fun K' hK => wp_toIn (a := a) (K := fun x w => x = a.put (some d) v ∧ St n wr ((d, v) :: fr) O x w) (Q := fun _ _ _ => False) hF rfl hop (by rw [hrun]; trivial) ?_ (fun _ _ _ h => h) ?_
 ·unfold Oper.wp
  rw [hrun, Oper.upon_value]
  exact ⟨rfl, hs.sim.put hd v, hs.old, hs.own⟩
 ·rintro u w' ⟨e, hst⟩
  rw [ZeX]
  exact hK _ _ (k _ _ (e ▸ hst))
theorem ZbG (hF : WF F) {dst : Option Tmp} {op : Op} (hd : ∀ d, dst = some d → Nat.ble (d + 1) n = true) (hop : ∀ c, op ≠ .defer c) (hc : ∀ a w, St n wr fr O a w → calm ((execOp a.eval ⟨dst, op, ty, pos, af, none⟩).run P w))
  (h : Stp P n wr fr O ⟨dst, op, ty, pos, af, none⟩ fun v O' => RLI F D P n wr ops rest K (updF fr dst v) O') : RLI F D P n wr ops (⟨dst, op, ty, pos, af, none⟩ :: rest) K fr O := by
 intro a w hs
 refine wpListIn_plain rfl fun K' hK => wp_toIn (a := a) (K := fun x w => ∃ v O', x = a.put dst v ∧ Bel wr.heap.size wr w ∧ Holds wr.heap.size O' w ∧ RLI F D P n wr ops rest K (updF fr dst v) O') (Q := fun _ _ _ => False) hF rfl hop (hc a w hs) ?_ (fun _ _ _ h => h) ?_
 ·exact h a w hs _ _ fun v O' w' h1 h2 h3 => ⟨v, O', rfl, h1, h2, h3⟩
 ·rintro u w' ⟨v, O', e, h1, h2, h3⟩
  rw [ZeX]
  refine hK _ _ (h3 _ _ ?_)
  show St n wr _ O' (a.put dst u) w'
  rw [e]
  cases dst with
  | none => exact ⟨hs.sim, h1, h2⟩
  | some d => exact ⟨hs.sim.put (hd d rfl) v, h1, h2⟩
theorem ZeV {dst : Option Tmp} {g : Option (Nat × Bool)} {f : FuncId} {gx : Operand} {xs : List Operand} {ts : Array TypeId} {us cs : List Value} [Body P f] {a : Act} {w : World} (hs : St n wr fr O a w) (hg : ev fr gx = some (.func (.func f) us.toArray cs.toArray)) :
  calm ((execOp a.eval ⟨dst, .call ⟨.value gx, xs.toArray, ts⟩, ty, pos, af, g⟩).run P w) := by
 simp [execOp, resolve, hs.sim.ev hg, Deferred.ofValue, invoke, ZbY, calm]
theorem ZcS {dst : Option Tmp} {g : Option (Nat × Bool)} {t : TypeId} {x y : Operand} (a : Act) (w : World) : calm ((execOp a.eval ⟨dst, .store t x y, ty, pos, af, g⟩).run P w) := by
 simp only [execOp, Sem.run_bind]
 generalize (Instr.storeAt t (a.eval x) (a.eval y)).run P w = r
 cases r <;> simp [calm, Result.andThen]
theorem RLI_yes {dst : Option Tmp} {op : Op} {j : Nat} {b : Bool} {oj : Oper} {d : Nat} (hj : ops[j]? = some oj) (hd : oj.dst = some d) (hb : look fr d = some (.bool b))
  (k : RLI F D P n wr ops (⟨dst, op, ty, pos, af, none⟩ :: rest) K fr O) : RLI F D P n wr ops (⟨dst, op, ty, pos, af, some (j, b)⟩ :: rest) K fr O := by
 intro a w hs
 have := k a w hs
 have hy : yielded ops (actD D a).tmps j = some b := by
  show yielded ops a.tmps j = some b
  simp [yielded, hj, hd, hs.sim.at_ d _ hb]
 simp only [wpListIn, Region.wanted, hy, if_true, beq_self_eq_true] at this ⊢
 exact this
theorem RLI_no (hF : WF F) {d' : Nat} {op : Op} {j : Nat} {b b' : Bool} {oj : Oper} {d : Nat} (hj : ops[j]? = some oj) (hd : oj.dst = some d) (hb : look fr d = some (.bool b')) (hne : b' = !b) (hdn : Nat.ble (d' + 1) n = true)
  (k : RLI F D P n wr ops rest K ((d', undef) :: fr) O) : RLI F D P n wr ops (⟨some d', op, ty, pos, af, some (j, b)⟩ :: rest) K fr O := by
 intro a w hs
 have := k (a.put (some d') undef) w ⟨hs.sim.put hdn undef, hs.old, hs.own⟩
 have hy : yielded ops (actD D a).tmps j = some b' := by
  show yielded ops a.tmps j = some b'
  simp [yielded, hj, hd, hs.sim.at_ d _ hb]
 have hw : Region.wanted (⟨some d', op, ty, pos, af, some (j, b)⟩ : Oper) (yielded ops (actD D a).tmps) = false := by
  subst hne
  simp [Region.wanted, hy]
 simp only [wpListIn, hw]
 exact ⟨fun f _ => hF.fn f, by rw [ZeX]; exact this⟩
def liftI (D : List Deferred) (n : Nat) (wr : World) (Q : Exit → Fr → List It → Prop) : Exit → Act → World → Prop := fun e a w => a.defers = D ∧ ∃ fr O, St n wr fr O (actD [] a) w ∧ Q e fr O
def WI (F : Fence) (D : List Deferred) (P : Program) (n : Nat) (wr : World) (c : Code) (Q : Exit → Fr → List It → Prop) (fr : Fr) (O : List It) : Prop :=
 ∀ a w, St n wr fr O a w → c.wpIn F 0 P (liftI D n wr Q) (actD D a) w
theorem ZdH {a : Act} (h : a.defers = D) : actD D (actD [] a) = a := by cases a; simp only at h; subst h; rfl
variable {Q : Exit → Fr → List It → Prop}
theorem WI_seq {x y : Code} (h : WI F D P n wr x (Zat (WI F D P n wr y Q) Q) fr O) : WI F D P n wr (.seq x y) Q fr O := by
 intro a w hs
 refine wpIn_seq (wpIn_mono (h a w hs) ?_)
 rintro e a' w' ⟨hd, fr', O', hs', hq⟩
 cases e with
 | normal =>
  have := hq _ w' hs'
  rw [ZdH hd] at this
  exact this
 | _ => exact ⟨hd, fr', O', hs', hq⟩
theorem WI_skip (h : Q .normal fr O) : WI F D P n wr .skip Q fr O := fun a _ hs => wpIn_skip ⟨rfl, fr, O, by rw [actD_nil hs]; exact hs, h⟩
theorem WI_ret (h : Q .ret fr O) : WI F D P n wr .ret Q fr O := fun a _ hs => wpIn_ret ⟨rfl, fr, O, by rw [actD_nil hs]; exact hs, h⟩
theorem Zcp {c : Operand} {x y : Code} {b : Bool} (hc : ev fr c = some (.bool b)) (ht : b = true → WI F D P n wr x Q fr O) (hf : b = false → WI F D P n wr y Q fr O) : WI F D P n wr (.cond c x y) Q fr O := by
 intro a w hs
 have he : (actD D a).eval c = .bool b := hs.sim.ev hc
 exact wpIn_cond_split he (fun h => ht h a w hs) (fun h => hf h a w hs)
theorem Zbp {id : Nat} {l : List Oper} (h : RLI F D P n wr l.toArray l (Q .normal) fr O) : WI F D P n wr (.region id l.toArray false) Q fr O := by
 intro a w hs
 refine wpIn_mono (wpIn_region_lit (h a w hs)) ?_
 rintro e a' w' ⟨rfl, hd, fr', O', hs', hq⟩
 exact ⟨hd, fr', O', hs', hq⟩
def Za2 (l : Nat) (r : Loop) : It := .fact (fun k => k = l) (fun w => w.heap[l]? = some (.loop r))
def Zb4 (b : Nat) : It := .fact (fun k => k = b) (fun w => w.heap[b]? = some (.deferred (some [])))
theorem Za2.at {l : Nat} {r : Loop} {w : World} (h : (Za2 l r).sat w) : w.heap[l]? = some (.loop r) := ZaQ h
theorem Zb4.at {b : Nat} {w : World} (h : (Zb4 b).sat w) : w.heap[b]? = some (.deferred (some [])) := ZaQ h
theorem ZdQ (w : World) (l : Nat) (o : Obj) : (w.putObj l o).heap.size = w.heap.size := by simp [World.putObj]
theorem ZcV {a : Act} {w : World} {l : Nat} {r r' : Loop} {O' : List It} (hs : St n wr fr O a w) (hu : Upd O (Za2 l r) (Za2 l r') O') : St n wr fr O' a (w.putObj l (.loop r')) := by
 have hin := hs.own.inb _ hu.mem l rfl
 refine ⟨hs.sim, hs.old.trans ⟨⟨rfl, rfl, rfl, by rw [ZdQ]; exact Nat.le_refl _, fun i hi => World.putObj_heap_other (by omega)⟩⟩, hs.own.upd hu hs.old.size (by rw [ZdQ]; exact Nat.le_refl _) (fun i _ hi => World.putObj_heap_other hi) ?_ (fun i hi => .inl hi)⟩
 intro w' ha
 rw [ha l rfl]
 exact World.putObj_heap_same hin.2
def roundQ (l : Nat) (r : Loop) (R : Bool → List It → Prop) : Exit → Fr → List It → Prop
 | .normal => fun _ O => ∃ O', Upd O (Za2 l { r with state := .busy }) (Za2 l { r with state := .ready, pending := none }) O' ∧ R true O'
 | .ret => fun _ O => ∃ O', Upd O (Za2 l { r with state := .busy }) (Za2 l { r with state := .done, pending := some .ret }) O' ∧ R false O'
 | _ => fun _ _ => False
def Zd4 (P : Program) (l : Nat) (v : Value) (wr : World) (O : List It) (R : Bool → List It → Prop) : Prop :=
 ∀ w, Bel wr.heap.size wr w → Holds wr.heap.size O w → YieldAt Fence.wide 0 P l #[v] w fun e w' => ∃ b O', e = .returned (.bool b) ∧ Bel wr.heap.size wr w' ∧ Holds wr.heap.size O' w' ∧ R b O'
theorem yields_round {l p : Nat} {r : Loop} {v : Value} {a0 : Act} {O1 : List It} {R : Bool → List It → Prop} (hp : r.params = #[p]) (hr : r.state = .ready) (ht : r.tmps = a0.tmps) (hsim : Sim n fr a0) (hpn : Nat.ble (p + 1) n = true)
  (hu : Upd O (Za2 l r) (Za2 l { r with state := .busy }) O1) {id : Nat} {la : List Oper} (hass : r.assign = .region id la.toArray false)
  (hb : RLI (Fence.wide.inRound l) [] P n wr la.toArray la (fun fr' O' => O' = O ∧ WI (Fence.wide.inRound l) [] P n wr r.body (roundQ l r R) fr' O1) ((p, v) :: fr) O) : Zd4 P l v wr O R := by
 intro w hB hH
 have hl := Za2.at (hH.sat _ hu.mem)
 have hy := run_yield (P := P) (args := #[v]) hl (by rw [hp]; rfl)
 rw [hp, ht] at hy
 refine ⟨r.fn, _, r.assign, r.body, hy, roundIn_of_wpIn trivial ?_⟩
 have hst : St n wr ((p, v) :: fr) O { tmps := a0.tmps.setIfInBounds p v, defers := [] } w := by
  have := hsim.put hpn v
  refine ⟨?_, hB, hH⟩
  have e : ({ tmps := a0.tmps.setIfInBounds p v, defers := [] } : Act) = a0.put (some p) v := by
   have := hsim.defers
   simp [Act.put, this]
  rw [e]
  exact this
 rw [hass, show Array.foldl (fun tmps (x : Tmp × Value) => match x with | (t, a) => tmps.setIfInBounds t a) a0.tmps (#[p].zip #[v]) = a0.tmps.setIfInBounds p v by simp]
 refine wpIn_mono (wpIn_region_lit (hb _ w hst)) ?_
 rintro e a' w' ⟨rfl, hd, fr', O', hs', rfl, hW⟩
 have hl' := Za2.at (hs'.own.sat _ hu.mem)
 refine ⟨_, run_beginRound hl' hr, ?_⟩
 have hs2 := ZcV hs' hu
 have h3 := hW _ _ hs2
 rw [ZdH hd] at h3
 refine wpIn_mono h3 ?_
 rintro e2 a2 w2 ⟨hd2, fr2, O2, hs3, hq⟩
 cases e2 with
 | normal =>
  obtain ⟨O3, hu3, hR⟩ := hq
  have hl3 := Za2.at (hs3.own.sat _ hu3.mem)
  have hs4 := ZcV hs3 hu3
  exact ⟨_, _, run_endRound none hl3, true, O3, rfl, hs4.old, hs4.own, hR⟩
 | ret =>
  obtain ⟨O3, hu3, hR⟩ := hq
  have hl3 := Za2.at (hs3.own.sat _ hu3.mem)
  have hs4 := ZcV hs3 hu3
  exact ⟨_, _, run_endRound (some .ret) hl3, false, O3, rfl, hs4.old, hs4.own, hR⟩
 | exit id => exact hq.elim
 | goto t => exact hq.elim
 | panic ch => exact hq.elim
 | outgrown => exact hq.elim
theorem RLI_yield {d l : Nat} {gx y : Operand} {ts : Array TypeId} {v : Value} {R : Bool → List It → Prop} (hd : Nat.ble (d + 1) n = true) (hg : ev fr gx = some (.func (.yield l) #[] #[])) (hx : ev fr y = some v) (h : Zd4 P l v wr O R)
  (k : ∀ b O', R b O' → RLI Fence.wide [] P n wr ops rest K ((d, .bool b) :: fr) O') : RLI Fence.wide [] P n wr ops (⟨some d, .call ⟨.value gx, #[y], ts⟩, ty, pos, af, none⟩ :: rest) K fr O := by
 intro a w hs
 refine wpListIn_plain rfl fun K' hK => ⟨fun f _ => trivial, ?_⟩
 obtain ⟨fn, tmps, assign, body, hy, hR⟩ := h w hs.old hs.own
 have e : actD [] a = a := by
  have := hs.sim.defers
  cases a; simp only at this; subst this; rfl
 rw [e]
 have hrun : (Oper.semAt Fence.wide.round a.eval ⟨some d, .call ⟨.value gx, #[y], ts⟩, ty, pos, af, none⟩).run P w = .ok (.round l fn tmps assign body) w := by
  rw [Oper.semAt_eq _ _ _ (by intro c hc; cases hc)]
  simp [execOp, resolve, hs.sim.ev hg, hs.sim.ev hx, Deferred.ofValue, invoke, hy]
 rw [hrun, Oper.uponIn_round]
 refine ⟨fun hh => (by cases hh), hR.mono ?_⟩
 rintro e2 w' ⟨b, O', rfl, h1, h2, h3⟩
 have := k b O' h3 (a.put (some d) (.bool b)) w' ⟨hs.sim.put hd _, h1, h2⟩
 refine hK _ _ ?_
 have e2 : actD [] (a.put (some d) (.bool b)) = a.put (some d) (.bool b) := by rw [← ZeX, e]
 rw [e2] at this
 exact this
theorem W_regionI {id : Nat} {l : List Oper} (h : RLI Fence.wide [] P n wr l.toArray l (Q .normal) fr O) : W P n wr (.region id l.toArray false) Q fr O := by
 intro a w hs
 have e : actD [] a = a := by
  have := hs.sim.defers
  cases a; simp only at this; subst this; rfl
 have h1 := h a w hs
 rw [e] at h1
 refine wpIn_wide.1 (wpIn_mono (wpIn_region_lit h1) ?_)
 rintro e a' w' ⟨rfl, hd, fr', O', hs', hq⟩
 refine ⟨fr', O', ?_, hq⟩
 rw [show a' = actD [] a' from (by cases a'; simp only at hd; subst hd; rfl)]
 exact hs'
theorem SubO.trans {A B C : List It} (h : SubO A B) (k : SubO B C) : SubO A C := by
 obtain ⟨R1, h1⟩ := h.perm
 obtain ⟨R2, h2⟩ := k.perm
 exact SubO.ofPerm (R := R1 ++ R2) (h2.trans (by rw [← List.append_assoc]; exact h1.append_right R2))
theorem ret_0r {R : Value → List It → Prop} (O' : List It) (hO : SubO O' O) (hR : R (.tuple #[]) O') : retQ P wr [] R .ret fr O := ⟨[], O', rfl, hO, hR⟩
theorem W_regionY {id d0 d1 d2 l : Nat} {x y g : Operand} {op1 : Op} {ty0 ty1 : TypeId} {p0 p1 : String} {f0 f1 : Array Edge} {ts : Array TypeId} {u v : Value} {R : Bool → List It → Prop} (n0 : Nat.ble (d0 + 1) n = true) (n1 : Nat.ble (d1 + 1) n = true) (n2 : Nat.ble (d2 + 1) n = true) (hop : ∀ c, op1 ≠ .defer c)
  (hx : ev fr x = some u) (h1 : Pu P n wr ((d0, u) :: fr) O op1 ty1 v) (hg : ev ((d1, v) :: (d0, u) :: fr) g = some (.func (.yield l) #[] #[])) (hy : ev ((d1, v) :: (d0, u) :: fr) y = some v) (hY : Zd4 P l v wr O R)
  (k : ∀ b O', R b O' → RLI Fence.wide [] P n wr (⟨some d0, .move x, ty0, p0, f0, none⟩ :: ⟨some d1, op1, ty1, p1, f1, none⟩ :: ⟨some d2, .call ⟨.value g, #[y], ts⟩, ty, pos, af, none⟩ :: rest).toArray rest (Q .normal) ((d2, .bool b) :: (d1, v) :: (d0, u) :: fr) O') :
  W P n wr (.region id (⟨some d0, .move x, ty0, p0, f0, none⟩ :: ⟨some d1, op1, ty1, p1, f1, none⟩ :: ⟨some d2, .call ⟨.value g, #[y], ts⟩, ty, pos, af, none⟩ :: rest).toArray false) Q fr O :=
 W_regionI (Zb2 (.inl rfl) n0 (by intro c h; cases h) (Pu_move hx) (Zb2 (.inl rfl) n1 hop h1 (RLI_yield n2 hg hy hY k)))
theorem St.allocFact {a : Act} {w : World} (hs : St n wr fr O a w) (o : Obj) : St n wr fr (.fact (fun k => k = w.heap.size) (fun w' => w'.heap[w.heap.size]? = some o) :: O) a (w.alloc o) := by
 have hB : Bel w.heap.size w (w.alloc o) := (Bel.refl _ _).alloc (Nat.le_refl _) _
 refine ⟨hs.sim, hs.old.trans (hB.mono hs.old.size), hs.own.grow (O' := [_]) hB hs.old.size ⟨fun i hi => ?_, fun i hi b hb => ?_, List.pairwise_singleton _ _⟩⟩
 ·rw [List.mem_singleton.1 hi]
  intro w' ha
  rw [ha _ rfl]
  exact World.alloc_heap_new w o
 ·rw [List.mem_singleton.1 hi] at hb
  obtain rfl : b = w.heap.size := hb
  exact ⟨Nat.le_refl _, by simp⟩
def Zet (D : Nat) : List Deferred := [{ target := .collected D, args := #[] }]
def recOf (fn : FuncId) (tm : Array Value) (p : Tmp) (assign body : Code) (D : Nat) : Loop := { state := .ready, pending := none, fn := fn, tmps := tm, params := #[p], assign := assign, body := body, defers := D }
theorem range_wp {gf : FuncId} [Body P gf] {lb : List Value} {g : Operand} {p : Tmp} {assign body : Code} {Q2 : Exit → Act → World → Prop} {a : Act} {w : World} (K : Option Code → List It → Prop) (hs : St n wr fr O a w) (hg : ev fr g = some (.func (.func gf) #[] lb.toArray))
  (hit : ∀ fn l D, Zam P gf (.func (.yield l) #[] #[] :: lb) wr (Za2 l (recOf fn a.tmps p assign body D) :: Zb4 D :: O) fun _ O' => ∃ jump O2 st, SubO (Za2 l { recOf fn a.tmps p assign body D with state := st, pending := jump } :: Zb4 D :: O2) O' ∧ st ≠ .busy ∧ K jump O2)
  (hk : ∀ jump O2 D w', K jump O2 → St n wr fr (Zb4 D :: O2) a w' → match jump with | none => Q2 .normal (actD (Zet D) a) w' | some c => c.wp P Q2 (actD (Zet D) a) w') : (Code.rangeFunc g #[p] assign body).wp P Q2 a w := by
 refine (wpIn_wide (n := 0)).1 (wpIn_rangeFunc fun fn _ => ?_)
 have h1 := hs.allocFact (.deferred (some []))
 have h2 := h1.allocFact (.loop (recOf fn a.tmps p assign body w.heap.size))
 rw [World.size_alloc] at h2
 have hst : St n wr fr (Za2 (w.heap.size + 1) (recOf fn a.tmps p assign body w.heap.size) :: Zb4 w.heap.size :: O) a ((w.alloc (.deferred (some []))).alloc (.loop (recOf fn a.tmps p assign body w.heap.size))) := h2
 have hen := run_enterLoop_outer (P := P) (w := w) fn a.tmps #[p] assign body
 generalize hW1 : (w.alloc (.deferred (some []))).alloc (.loop (recOf fn a.tmps p assign body w.heap.size)) = W1 at hst
 rw [show (w.alloc (.deferred (some []))).alloc (.loop { state := .ready, pending := none, fn := fn, tmps := a.tmps, params := #[p], assign := assign, body := body, defers := w.heap.size }) = W1 from hW1] at hen
 refine ⟨w.heap.size + 1, Zet w.heap.size, W1, { target := .fn (.func gf) lb.toArray, args := #[.func (.yield (w.heap.size + 1)) #[] #[]] }, W1, gf, #[.func (.yield (w.heap.size + 1)) #[] #[]] ++ lb.toArray, W1, hen, ?_, fun _ _ => trivial, ?_, fun hh => (by cases hh), ?_⟩
 ·have hcv : a.eval (.const (.func (.yield (w.heap.size + 1)) #[] #[])) = .func (.yield (w.heap.size + 1)) #[] #[] := rfl
  simp [resolve, hs.sim.ev hg, hcv, Deferred.ofValue]
 ·simp [invoke, ZbY]
 ·refine callsIn_wide.2 ?_
  have hc := hit fn (w.heap.size + 1) w.heap.size _ hst.old hst.own
  rw [show (Value.func (.yield (w.heap.size + 1)) #[] #[] :: lb).toArray = #[.func (.yield (w.heap.size + 1)) #[] #[]] ++ lb.toArray by simp] at hc
  refine hc.mono ?_
  rintro e w3 ⟨v, O', rfl, hB, hH, jump, O2, st, hsub, hne, hK⟩
  have hs3 : St n wr fr (Za2 (w.heap.size + 1) { recOf fn a.tmps p assign body w.heap.size with state := st, pending := jump } :: Zb4 w.heap.size :: O2) a w3 := ⟨hs.sim, hB, hH.sub hsub⟩
  have hl := Za2.at (hs3.own.sat _ List.mem_cons_self)
  have hs4 := ZcV (r' := { recOf fn a.tmps p assign body w.heap.size with state := .exhausted, pending := jump }) hs3 .here
  have hk2 := hk jump O2 w.heap.size _ hK ⟨hs4.sim, hs4.old, hs4.own.tail⟩
  refine ⟨jump, _, run_endLoop hl hne, ?_⟩
  have e0 : ({ a with defers := Zet w.heap.size ++ a.defers } : Act) = actD (Zet w.heap.size) a := by
   have := hs.sim.defers
   simp [actD, this]
  rw [e0]
  cases jump with
  | none => exact hk2
  | some c => exact wpIn_wide.2 hk2
theorem Does_marks {f : FuncId} {fn : Func} {c : Code} {args : List Value} {w : World} {R : Ending → World → Prop} (hf : P.funcs[f]? = some fn) (hb : fn.body = some c) (hn : fn.ntmps = n) (ha : Nat.ble args.length n = true)
  (h : ∀ a, St n w (argsFr 0 args) [] a w → c.wp P (bodyPostM Fence.wide 0 P fn R) a w) : Calls P f args.toArray w R := by
 refine (callsIn_wide (n := 0)).1 (callsIn_of_wp_marks hf hb trivial ?_)
 refine (wpIn_wide (n := 0)).2 (h _ ?_)
 have ha' : args.length ≤ n := Nat.le_of_ble_eq_true ha
 refine ⟨⟨rfl, by simp; omega, fun t v hv => ?_⟩, Bel.refl _ _, Holds.nil _ _⟩
 have := (Zc3 args 0 t v hv).2
 simp only [Nat.sub_zero] at this
 have hlt : t < args.length := (List.getElem?_eq_some_iff.1 this).1
 rw [Array.getElem?_append_left (by simpa using hlt)]
 simpa using this
theorem Zam.sub {f : FuncId} {args : List Value} {O' : List It} {R R' : Value → List It → Prop} (h : Zam P f args wr O R) (hO : SubO O O') (hR : ∀ v O, R v O → R' v O) : Zam P f args wr O' R' :=
 fun w hB hH => (h w hB (hH.sub hO)).mono fun _ _ ⟨v, O1, h1, h2, h3, h4⟩ => ⟨v, O1, h1, h2, h3, hR v O1 h4⟩
theorem WI.at {c : Code} {a : Act} {w : World} (h : WI F D P n wr c Q fr O) (hs : St n wr fr O a w) : c.wpIn F 0 P (liftI D n wr Q) (actD D a) w := h a w hs
theorem WI_block {id : Nat} {c : Code} (h : WI F D P n wr c (Zak id Q) fr O) : WI F D P n wr (.block id c) Q fr O := by
 intro a w hs
 refine wpIn_block (wpIn_mono (h a w hs) ?_)
 rintro e a' w' ⟨hd, fr', O', hs', hq⟩
 cases e with
 | exit k =>
  simp only [Exit.inBlock, Zak] at hq ⊢
  split
  ·rename_i hk; rw [if_pos hk] at hq; exact ⟨hd, fr', O', hs', hq⟩
  ·rename_i hk; rw [if_neg hk] at hq; exact ⟨hd, fr', O', hs', hq⟩
 | _ => exact ⟨hd, fr', O', hs', hq⟩
end
open Go.ChangeMaps
def Rng (b r : Nat) (m left : List (ByteArray × Value)) (cur : Option (ByteArray × Value)) (w : World) : Prop :=
 ∃ (es : Array MapEntry) (clock since : Nat) (seen : Array Nat) (c0 : Nat), w.heap[b]? = some (.map es clock) ∧ Zca m es ∧ stOk es clock ∧ (∀ x ∈ es.toList, x.born < since) ∧ since ≤ c0 ∧ since ≤ clock ∧ w.heap[r]? = some (.mapIter (some b) since seen c0) ∧ Zca left (leftOf es seen) ∧
  ∀ kv, cur = some kv → ∃ e ∈ es.toList, ∃ s0 : Array Nat, seen = s0.push e.born ∧ c0 = clock ∧ e.key = .string kv.1 ∧ e.val = kv.2
theorem Rng.congr {b r : Nat} {m left : List (ByteArray × Value)} {cur : Option (ByteArray × Value)} {w w' : World} (h : Rng b r m left cur w) (h1 : w'.heap[b]? = w.heap[b]?) (h2 : w'.heap[r]? = w.heap[r]?) : Rng b r m left cur w' := by
 obtain ⟨es, clock, since, seen, c0, a1, a2, a3, a4, a5, a5', a6, a7, a8⟩ := h
 exact ⟨es, clock, since, seen, c0, h1.trans a1, a2, a3, a4, a5, a5', h2.trans a6, a7, a8⟩
abbrev rng (b r : Nat) (m left : List (ByteArray × Value)) (cur : Option (ByteArray × Value)) : It := .fact (fun k => k = b ∨ k = r) (Rng b r m left cur)
theorem rng_sat {b r : Nat} {m left : List (ByteArray × Value)} {cur : Option (ByteArray × Value)} {w : World} (h : Rng b r m left cur w) : (rng b r m left cur).sat w := fun _ ha => h.congr (ha b (.inl rfl)) (ha r (.inr rfl))
theorem alloc_old (w : World) (o : Obj) (i : Nat) (h : i < w.heap.size) : (w.alloc o).heap[i]? = w.heap[i]? := by
 show (w.heap.push o)[i]? = _
 rw [Array.getElem?_push, if_neg (by omega)]
theorem left_all (es : Array MapEntry) : leftOf es #[] = es := by
 unfold leftOf
 rw [Array.filter_eq_self]
 intro x _
 simp
theorem left_push (es : Array MapEntry) (seen : Array Nat) (n : Nat) : (leftOf es (seen.push n)).toList = (leftOf es seen).toList.filter fun x => !decide (x.born = n) := by
 unfold leftOf
 rw [Array.toList_filter, Array.toList_filter, List.filter_filter]
 refine List.filter_congr fun x _ => ?_
 rw [Array.contains_push]
 cases seen.contains x.born <;> simp [beq_iff_eq, Bool.beq_eq_decide_eq, eq_comm]
theorem filter_out {LA LB : List MapEntry} {e : MapEntry} (h : ((LA ++ e :: LB).map (·.born)).Nodup) : (LA ++ e :: LB).filter (fun x => !decide (x.born = e.born)) = LA ++ LB := by
 rw [List.map_append, List.map_cons, List.nodup_append] at h
 obtain ⟨_, h2, h3⟩ := h
 rw [List.nodup_cons] at h2
 rw [List.filter_append, List.filter_cons, if_neg (by simp)]
 congr 1
 ·refine List.filter_eq_self.2 fun x hx => ?_
  have := h3 x.born (List.mem_map.2 ⟨x, hx, rfl⟩) e.born List.mem_cons_self
  simp [this]
 ·refine List.filter_eq_self.2 fun x hx => ?_
  have : x.born ≠ e.born := fun hh => h2.1 (hh ▸ List.mem_map.2 ⟨x, hx, rfl⟩)
  simp [this]
section
variable {P : Program} {n : Nat} {wr : World} {fr : Fr} {O : List It} {ty : TypeId} {pos : String} {af : Array Edge} {dst : Option Tmp} {g : Option (Nat × Bool)} {Kp : Value → List It → Prop}
theorem Stp_range {t kt et b : Nat} {x : Operand} {m : List (ByteArray × Value)} {O' : Nat → List It} [hM : MapT P t kt et] (hx : ev fr x = some (.map (some b))) (hu : ∀ r, Upd O (.mp b m) (rng b r m m none) (O' r)) (kk : ∀ r, Kp (.pointer (some ⟨r, 0, none⟩)) (O' r)) :
  Stp P n wr fr O ⟨dst, .range t x, ty, pos, af, g⟩ Kp :=
 ZbB fun a w hs => by
  obtain ⟨es, c, h1, h2, h9⟩ := hs.own.sat _ (hu 0).mem
  have ht := MapT.parts hM.h
  have hin := hs.own.inb _ (hu 0).mem b rfl
  have hb2 : (w.alloc (.mapIter (some b) c #[] c)).heap[b]? = some (.map es c) := by
   rw [alloc_old w _ b hin.2, h1]
  refine ⟨.pointer (some ⟨w.heap.size, 0, none⟩), w.alloc (.mapIter (some b) c #[] c), O' w.heap.size, ?_, hs.old.alloc hs.old.size _, hs.own.upd (hu _) hs.old.size (by simp) (fun i hi _ => alloc_old w _ i hi) (rng_sat ?_) (fun i hi => ?_), kk _⟩
  ·simp [execOp, hs.sim.ev hx, run_range_map w t kt et b es c ht h1]
  ·exact ⟨es, c, c, #[], c, hb2, h2, h9, fun x hx => h9.2 _ (List.mem_map.2 ⟨x, hx, rfl⟩), Nat.le_refl _, Nat.le_refl _, heap_alloc_new w _, by rw [left_all]; exact h2, fun kv h => by cases h⟩
  ·rcases hi with rfl | rfl
   ·exact .inl rfl
   ·exact .inr ⟨Nat.le_refl _, by simp⟩
theorem Stp_next {b r : Nat} {x : Operand} {m left : List (ByteArray × Value)} {cur : Option (ByteArray × Value)} {O' : List (ByteArray × Value) → Option (ByteArray × Value) → List It} (hx : ev fr x = some (.pointer (some ⟨r, 0, none⟩)))
  (hu : ∀ l c, Upd O (rng b r m left cur) (rng b r m l c) (O' l c)) (k0 : left = [] → Kp (.tuple #[.bool false]) O) (k1 : ∀ A kv B, left = A ++ kv :: B → Kp (.tuple #[.bool true, .string kv.1, kv.2]) (O' (A ++ B) (some kv))) :
  Stp P n wr fr O ⟨dst, .next x false, ty, pos, af, g⟩ Kp :=
 ZbB fun a w hs => by
  obtain ⟨es, clock, since, seen, c0, a1, a2, a3, a4, a5, a5', a6, a7, a8⟩ := ZaQ (hs.own.sat _ (hu [] none).mem)
  have hin := hs.own.inb _ (hu [] none).mem r (.inr rfl)
  have hbr : b ≠ r := by
   rintro rfl
   rw [a1] at a6
   cases a6
  rcases run_next_at (P := P) w ty r b since c0 seen es clock a6 a1 a4 a5 with ⟨h1, h2⟩ | ⟨e, he, w1, hw1, h2⟩
  ·refine ⟨_, w, O, ?_, hs.old, hs.own, k0 ?_⟩
   ·simp only [execOp, hs.sim.ev hx, h2, Sem.run_bind, Result.andThen_ok, Sem.run_pure]
   ·have hl := congrArg List.length a7
    rw [List.length_map, List.length_map, Array.length_toList, h1] at hl
    exact List.eq_nil_of_length_eq_zero hl.symm
  ·obtain ⟨LA, LB, hl⟩ := List.append_of_mem he
   have hm : left.map (fun x => (Value.string x.1, x.2)) = (LA ++ e :: LB).map (fun e => (e.key, e.val)) := by rw [← hl]; exact a7.symm
   rw [List.map_append] at hm
   obtain ⟨A, R, hAR, hA, hR⟩ := List.map_eq_append_iff.1 hm
   obtain ⟨kv, B, hkv, hk1, hB⟩ := List.map_eq_cons_iff.1 hR
   subst hkv
   have hke : e.key = .string kv.1 ∧ e.val = kv.2 := by
    have h1 := congrArg Prod.fst hk1
    have h2 := congrArg Prod.snd hk1
    exact ⟨h1.symm, h2.symm⟩
   rw [hke.1, hke.2] at h2
   have hes : e ∈ es.toList := by
    unfold leftOf at he
    rw [Array.toList_filter] at he
    exact (List.mem_filter.1 he).1
   have hnd : ((leftOf es seen).toList.map (·.born)).Nodup := by
    unfold leftOf
    rw [Array.toList_filter]
    exact a3.1.sublist ((List.filter_sublist).map _)
   have hH : w1.heap = w.heap := by rcases hw1 with rfl | rfl <;> rfl
   have hb2 : (setBlock w1 r (.mapIter (some b) since (seen.push e.born) clock)).heap[b]? = some (.map es clock) := by
    show (w1.heap.setIfInBounds r _)[b]? = _
    rw [Array.getElem?_setIfInBounds_ne (Ne.symm hbr), hH, a1]
   have hr2 : (setBlock w1 r (.mapIter (some b) since (seen.push e.born) clock)).heap[r]? = some (.mapIter (some b) since (seen.push e.born) clock) := by
    show (w1.heap.setIfInBounds r _)[r]? = _
    rw [Array.getElem?_setIfInBounds, if_pos rfl, if_pos (by rw [hH]; exact hin.2)]
   have hold : ∀ i, i ≠ r → (setBlock w1 r (.mapIter (some b) since (seen.push e.born) clock)).heap[i]? = w.heap[i]? := fun i hi => by
    show (w1.heap.setIfInBounds r _)[i]? = _
    rw [Array.getElem?_setIfInBounds_ne (Ne.symm hi), hH]
   have hsz : w.heap.size ≤ (setBlock w1 r (.mapIter (some b) since (seen.push e.born) clock)).heap.size := by
    show _ ≤ (w1.heap.setIfInBounds r _).size
    rw [Array.size_setIfInBounds, hH]
    exact Nat.le_refl _
   have hbel : Bel wr.heap.size wr w1 := by
    rcases hw1 with rfl | rfl
    ·exact hs.old
    ·exact hs.old.drew
   refine ⟨_, setBlock w1 r (.mapIter (some b) since (seen.push e.born) clock), O' (A ++ B) (some kv), ?_, ?_, hs.own.upd (hu _ _) hs.old.size hsz (fun i hi hn => hold i fun hh => hn (.inr hh)) (rng_sat ?_) (fun i hi => .inl hi), k1 A kv B hAR⟩
   ·simp only [execOp, hs.sim.ev hx, h2, Sem.run_bind, Result.andThen_ok, Sem.run_pure]
   ·refine hbel.trans ⟨⟨rfl, rfl, rfl, by show _ ≤ (w1.heap.setIfInBounds r _).size; rw [Array.size_setIfInBounds]; exact Nat.le_refl _, fun i hi => ?_⟩⟩
    show (w1.heap.setIfInBounds r _)[i]? = _
    rw [Array.getElem?_setIfInBounds_ne (by omega)]
   ·refine ⟨es, clock, since, seen.push e.born, clock, hb2, a2, a3, a4, a5', a5', hr2, ?_, fun kv' hk => ?_⟩
    ·unfold Zca
     rw [left_push, hl, filter_out (by rw [← hl]; exact hnd), List.map_append, List.map_append, hA, hB]
    ·cases hk
     exact ⟨e, hes, seen, rfl, rfl, hke.1, hke.2⟩
theorem Pu_entry {b r : Nat} {x : Operand} {m left : List (ByteArray × Value)} {kv : ByteArray × Value} {R : List It} (hx : ev fr x = some (.pointer (some ⟨r, 0, none⟩))) (hp : Pick (rng b r m left (some kv)) O R) : Pu P n wr fr O (.entry x) ty (.tuple #[.string kv.1, kv.2]) :=
 fun a w hs _ _ _ _ => by
  obtain ⟨es, clock, since, seen, c0, a1, a2, a3, a4, a5, a5', a6, a7, a8⟩ := ZaQ (hs.own.sat _ (hp.perm.mem_iff.2 List.mem_cons_self))
  obtain ⟨e, he, s0, rfl, rfl, h1, h2⟩ := a8 kv rfl
  have := run_entry_at (P := P) w r b since s0 es c0 e a6 a1 he a3.1
  simp only [execOp, hs.sim.ev hx, this, Sem.run_bind, Result.andThen_ok, Sem.run_pure, h1, h2]
theorem RL_unrng {ops : Array Oper} {rest : List Oper} {K : Fr → List It → Prop} {b r : Nat} {m left : List (ByteArray × Value)} {cur : Option (ByteArray × Value)} {O' : List It} (hu : Upd O (rng b r m left cur) (.mp b m) O') (h : RL P n wr ops rest K fr O') : RL P n wr ops rest K fr O := fun a w hs => by
 refine h a w ⟨hs.sim, hs.old, ?_⟩
 obtain ⟨es, clock, since, seen, c0, a1, a2, a3, _⟩ := ZaQ (hs.own.sat _ hu.mem)
 exact hs.own.upd hu hs.old.size (Nat.le_refl _) (fun _ _ _ => rfl) ⟨es, clock, a1, a2, a3⟩ (fun i hi => .inl (.inl hi))
end
end Go.Wk
