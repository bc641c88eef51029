/- Parts of the proof. -/
import Derived.Laws.Externs
import Derived.Test.YtbjomhdhkpgbaaaGreatDoorY07
import Derived.Scope
import Derived.Laws.IdiomStrings
import Derived.Test.YtbjomhdhkpgbaaaGreatDoorY05
import Derived.Test.YtbjomhdhkpgbaaaGreatDoorY06
import Derived.Test.YtbjomhdhkpgbaaaGreatDoorY04
import Derived.Test.YtbjomhdhkpgbaaaGreatDoorY08
set_option maxHeartbeats 4000000
set_option linter.unusedVariables false
set_option linter.unusedSimpArgs false
namespace Go.Wk
open Go Go.RowKit
section
variable {P : Program} {n : Nat} {wr : World} {fr : Fr} {O : List It} {ty : TypeId} {pos : String} {af : Array Edge} {dst : Option Tmp} {g : Option (Nat × Bool)} {Kp : Value -> List It -> Prop}
theorem Zhw {t kt et : Nat} {x : Operand} {kk : IntKind} {i : Int} [hM : MapT P t kt et] (hx : ev fr x = some (.int kk i)) (k : ∀ b, Kp (.map (some b)) (.mp b [] :: O)) : Stp P n wr fr O ⟨dst, .makeMap t (some x), ty, pos, af, g⟩ Kp :=
 Zce fun a w hs => by
  have hB : Bel w.heap.size w (w.alloc (.map #[] 0)) := (Bel.refl _ _).alloc (Nat.le_refl _) _
  have hu := MapT.parts hM.h
  refine ⟨.map (some w.heap.size), w.alloc (.map #[] 0), _, ?_, hs.old.trans (hB.mono hs.old.size), hs.own.grow (O' := [.mp w.heap.size []]) hB hs.old.size ⟨fun i hi => ?_, fun i hi b hb => ?_, List.pairwise_singleton _ _⟩, k _⟩
  ·simp [execOp, hs.sim.ev hx, Instr.makeMap, run_underlying hu, asInt, asIntOf, newObj, Sem.run]
  ·rw [List.mem_singleton.1 hi]
   exact ⟨#[], 0, heap_alloc_new w _, rfl, ZpN⟩
  ·rw [List.mem_singleton.1 hi] at hb
   simp only [It.S] at hb
   subst hb
   exact ⟨Nat.le_refl _, by simp⟩
theorem Zfu (es : Array MapEntry) (j : Nat) : (es.eraseIdxIfInBounds j).toList = es.toList.eraseIdx j := by
 unfold Array.eraseIdxIfInBounds
 split
 ·simp
 ·rw [List.eraseIdx_of_length_le (by simp; omega)]
theorem Zri {es : Array MapEntry} {c : Nat} (h : stOk es c) (j : Nat) : stOk (es.eraseIdxIfInBounds j) c := by
 unfold stOk
 rw [Zfu]
 have hsub : ((es.toList.eraseIdx j).map (·.born)).Sublist (es.toList.map (·.born)) := (List.eraseIdx_sublist _ _).map _
 exact ⟨h.1.sublist hsub, fun n hn => h.2 n (hsub.subset hn)⟩
theorem Zse {t t2 kt et b : Nat} {x ix : Operand} {m : List (ByteArray × Value)} {k : ByteArray} {O' : List It} [hM : MapT P t kt et] [StringT P kt] (hx : ev fr x = some (.map (some b))) (hi : ev fr ix = some (.string k))
  (hu : Upd O (.mp b m) (.mp b (mdel m k)) O') (kk : Kp (.tuple #[]) O') : Stp P n wr fr O ⟨dst, .call ⟨.builtin .delete, #[x, ix], #[t, t2]⟩, ty, pos, af, g⟩ Kp :=
 Zce fun a w hs => by
  have ht := MapT.parts hM.h
  obtain ⟨es, c, h1, h2, h9⟩ := hs.own.sat _ hu.mem
  have hf := Zmt k m es.toList 0 h2
  cases hfi : ZeN m k 0 with
  | none =>
   rw [hfi] at hf
   have hst := hs.setMap (es' := es) (c' := c) hu (by unfold ZcK; rw [hf]; exact h2) h9
   refine ⟨.tuple #[], _, O', ?_, hst.1, hst.2, kk⟩
   simp only [execOp, resolve, invoke, builtin, Builtin.delete_, hs.sim.ev hx, hs.sim.ev hi]
   simp [hs.sim.ev hx, hs.sim.ev hi, Builtin.delete_, run_underlying ht, Zbp h1, ZcF _ k 9999, Zc8 k m es.toList w h2, hfi, setObj, Sem.run, h1]
  | some p =>
   obtain ⟨j, u⟩ := p
   rw [hfi] at hf
   obtain ⟨_, hf2⟩ := hf
   rw [Nat.sub_zero] at hf2
   have hst := hs.setMap (es' := es.eraseIdxIfInBounds j) (c' := c) hu (by unfold ZcK; rw [Zfu]; exact hf2) (Zri h9 j)
   refine ⟨.tuple #[], _, O', ?_, hst.1, hst.2, kk⟩
   simp only [execOp, resolve, invoke, builtin, Builtin.delete_, hs.sim.ev hx, hs.sim.ev hi]
   simp [hs.sim.ev hx, hs.sim.ev hi, Builtin.delete_, run_underlying ht, Zbp h1, ZcF _ k 9999, Zc8 k m es.toList w h2, hfi, setObj, Sem.run, h1]
def MpAt (w : World) (b : Nat) (m : List (ByteArray × Value)) : Prop := (It.mp b m).sat w
theorem MpAt.up {w w' : World} {b : Nat} {m : List (ByteArray × Value)} {B : Nat} (h : MpAt w b m) (hb : Bel B w w') (hB : w.heap.size <= B) : MpAt w' b m := by
 refine It.sat_congr h fun k hk => ?_
 obtain rfl : k = b := hk
 obtain ⟨es, c, h1, _⟩ := h
 exact hb.block k (Nat.lt_of_lt_of_le (Array.getElem?_eq_some_iff.1 h1).1 hB)
theorem Zns {t kt et b : Nat} {x ix : Operand} {m : List (ByteArray × Value)} {k : ByteArray} {z v : Value} [hM : MapT P t kt et] [StringT P kt] [ZeroV P et z] (hx : ev fr x = some (.map (some b))) (hi : ev fr ix = some (.string k))
  (hp : MpAt wr b m) (hv : (mget m k).getD z = v) : Pu P n wr fr O (.lookup t x ix false) ty v := hv ▸ Zsi (kt := kt) (et := et) hx hi (fun _ hw _ => hp.up hw (Nat.le_refl _))
theorem ZfE {t kt et b : Nat} {x ix : Operand} {m : List (ByteArray × Value)} {k : ByteArray} {z v : Value} {c : Bool} [hM : MapT P t kt et] [StringT P kt] [ZeroV P et z] (hx : ev fr x = some (.map (some b))) (hi : ev fr ix = some (.string k))
  (hp : MpAt wr b m) (hv : (mget m k).getD z = v) (hc : (mget m k).isSome = c) : Pu P n wr fr O (.lookup t x ix true) ty (.tuple [v, .bool c].toArray) :=
 fun a w hs _ _ _ _ => by
  have := Ze8 (P := P) (t := t) (kt := kt) (et := et) (k := k) (z := z) (hp.up hs.old (Nat.le_refl _)) true
  simp only [execOp, hs.sim.ev hx, hs.sim.ev hi, Sem.run_bind, this, Result.andThen_ok, Sem.run_pure]
  rw [<- hv, <- hc]
  rfl
theorem Zpl {t t' kt et : Nat} {x : Operand} {p : Option Nat} [hM : MapT P t kt et] (hx : ev fr x = some (.map p)) : Pu P n wr fr O (.binOp .eql t x (.const (.map none)) t') ty (.bool p.isNone) :=
 fun a w hs _ _ _ _ => by
  have hu := MapT.parts hM.h
  have h : (binOp .eql t (.map p) (.map none)).run P w = .ok (.bool p.isNone) w := by
   simp only [binOp]
   have : ∀ d, (Op.equalIn (d + 1) t (.map p) (.map none)).run P w = .ok p.isNone w := fun d => by cases p <;> simp [Op.equalIn, run_underlying hu]
   rw [show Op.equal t (.map p) (.map none) = Op.equalIn (9999 + 1) t (.map p) (.map none) from rfl]
   simp only [Sem.run_bind, this 9999, Result.andThen_ok, Sem.run_pure]
  have hc : a.eval (.const (.map none)) = .map none := rfl
  simp [execOp, hs.sim.ev hx, hc, eqGuard, h]
theorem Zpk {t kt et : Nat} {x : Operand} {v : Value} [hM : MapT P t kt et] (hx : ev fr x = some v) : Pu P n wr fr O (.makeInterface t x) ty (.iface t v) :=
 fun a w hs _ _ _ _ => by
  have hu := MapT.parts hM.h
  simp [execOp, hs.sim.ev hx, Instr.makeInterface, run_underlying hu]
theorem Zny {t xt kt et : Nat} {x : Operand} {v : Value} [hM : MapT P t kt et] (hx : ev fr x = some (.iface t v)) : Pu P n wr fr O (.typeAssert x xt t false) ty v :=
 fun a w hs _ _ _ _ => by
  have hu := MapT.parts hM.h
  simp [execOp, hs.sim.ev hx, Instr.typeAssert, run_underlying hu]
def ZtU (P : Program) (f : FuncId) : Prop := ∀ (args : Array Value) (w : World), (callFunc f args).run P w = ((Extern.MapsClone.clone args).run P w).andThen fun v w' => .ok (.value v) w'
theorem Zlt {f t b : Nat} {x : Operand} {ts : Array TypeId} {m : List (ByteArray × Value)} (hf : ZtU P f) (hx : ev fr x = some (.iface t (.map (some b)))) (hp : ∀ w, Bel wr.heap.size wr w -> Zat wr.heap.size O w -> MpAt w b m)
  (kk : ∀ b2, Kp (.iface t (.map (some b2))) (.mp b2 m :: O)) : Stp P n wr fr O ⟨dst, .call ⟨.value (.func f), #[x], ts⟩, ty, pos, af, g⟩ Kp :=
 Zce fun a w hs => by
  obtain ⟨es, c, h1, h2⟩ := hp w hs.old hs.own
  have hB : Bel w.heap.size w (w.alloc (.map es c)) := (Bel.refl _ _).alloc (Nat.le_refl _) _
  have hrun : (Extern.MapsClone.clone #[.iface t (.map (some b))]).run P w = .ok (.iface t (.map (some w.heap.size))) (w.alloc (.map es c)) := by
   have e : Extern.MapsClone.clone #[.iface t (.map (some b))] = (getObj b >>= fun o => match o with
     | .map entries clock => (newObj (.map entries clock) >>= fun n => pure (.iface t (.map (some n))))
     | _ => stuck "maps.clone: a map expected") := rfl
   rw [e]
   simp [Zbp h1, newObj, Sem.run]
  refine ⟨.iface t (.map (some w.heap.size)), w.alloc (.map es c), _, ?_, hs.old.trans (hB.mono hs.old.size), hs.own.grow (O' := [.mp w.heap.size m]) hB hs.old.size ⟨fun i hi => ?_, fun i hi b hb => ?_, List.pairwise_singleton _ _⟩, kk _⟩
  ·have hev := hs.sim.ev hx
   have he : a.eval (.func f) = .func (.func f) #[] #[] := rfl
   have hc := hf #[.iface t (.map (some b))] w
   rw [hrun, Result.andThen_ok] at hc
   simp [execOp, resolve, he, Deferred.ofValue, invoke, hc, hev]
  ·rw [List.mem_singleton.1 hi]
   exact ⟨es, c, heap_alloc_new w _, h2⟩
  ·rw [List.mem_singleton.1 hi] at hb
   simp only [It.S] at hb
   subst hb
   exact ⟨Nat.le_refl _, by simp⟩
end
def Nd (m : List (ByteArray × Value)) : Prop := (m.map (·.1)).Nodup
theorem Zgd (k : ByteArray) : ∀ m : List (ByteArray × Value), mget m k = none ↔ k ∉ m.map (·.1)
 | [] => by simp [mget]
 | (x, v) :: r => by
  simp only [mget, List.map_cons, List.mem_cons, not_or]
  by_cases h : k = x
  ·simp [h]
  ·simp [h, Zgd k r]
theorem Zhl (k : ByteArray) (v : Value) : ∀ m : List (ByteArray × Value), k ∈ m.map (·.1) -> (mset m k v).map (·.1) = m.map (·.1)
 | [], h => by simp at h
 | (x, u) :: r, h => by
  simp only [mset]
  by_cases hk : k = x
  ·simp [hk]
  ·rw [if_neg hk]
   simp only [List.map_cons, List.mem_cons, hk, false_or] at h ⊢
   rw [Zhl k v r h]
theorem Zgc (k : ByteArray) (v : Value) : ∀ m : List (ByteArray × Value), k ∉ m.map (·.1) -> (mset m k v).map (·.1) = m.map (·.1) ++ [k]
 | [], _ => by simp [mset]
 | (x, u) :: r, h => by
  simp only [List.map_cons, List.mem_cons, not_or] at h
  simp only [mset, if_neg h.1, List.map_cons, Zgc k v r h.2, List.cons_append]
theorem Nd.set {m : List (ByteArray × Value)} (h : Nd m) (k : ByteArray) (v : Value) : Nd (mset m k v) := by
 unfold Nd at h ⊢
 by_cases hk : k ∈ m.map (·.1)
 ·rw [Zhl k v m hk]; exact h
 ·rw [Zgc k v m hk, List.nodup_append]
  exact ⟨h, by simp, fun a ha b hb => by simp only [List.mem_singleton] at hb; subst hb; exact fun e => hk (e ▸ ha)⟩
theorem Zqd (k : ByteArray) : ∀ m : List (ByteArray × Value), (mdel m k).Sublist m
 | [] => List.Sublist.slnil
 | (x, u) :: r => by
  simp only [mdel]
  split
  ·exact List.sublist_cons_self _ _
  ·exact (Zqd k r).cons_cons _
theorem Nd.del {m : List (ByteArray × Value)} (h : Nd m) (k : ByteArray) : Nd (mdel m k) := List.Nodup.sublist ((Zqd k m).map _) h
theorem Zmq (k x : ByteArray) : ∀ {m : List (ByteArray × Value)}, Nd m -> mget (mdel m k) x = if x = k then none else mget m x
 | [], _ => by simp [mdel, mget]
 | (y, u) :: r, h => by
  unfold Nd at h
  simp only [List.map_cons, List.nodup_cons] at h
  simp only [mdel]
  by_cases hk : k = y
  ·subst hk
   rw [if_pos rfl]
   by_cases hx : x = k
   ·subst hx
    rw [if_pos rfl]
    exact (Zgd x r).2 h.1
   ·rw [if_neg hx, mget, if_neg hx]
  ·rw [if_neg hk]
   simp only [mget]
   by_cases hx : x = y
   ·subst hx
    rw [if_pos rfl, if_pos rfl, if_neg (fun e => hk e.symm)]
   ·rw [if_neg hx, if_neg hx, Zmq k x h.2]
theorem Zqe (k : ByteArray) : ∀ {m : List (ByteArray × Value)}, (mget m k).isSome = true -> (mdel m k).length + 1 = m.length
 | [], h => by simp [mget] at h
 | (y, u) :: r, h => by
  simp only [mget] at h
  simp only [mdel]
  by_cases hk : k = y
  ·simp [hk]
  ·rw [if_neg hk] at h ⊢
   simp [Zqe k h]
theorem ZkV (k : ByteArray) (v : Value) : ∀ m : List (ByteArray × Value), (mset m k v).length <= m.length + 1
 | [] => by simp [mset]
 | (y, u) :: r => by
  simp only [mset]
  split
  ·simp
  ·simp [ZkV k v r]
section
variable {P : Program} {n : Nat} {wr : World} {Q : Exit -> Fr -> List It -> Prop} {fr : Fr} {O : List It} {K : Fr -> List It -> Prop}
theorem Zw3 {l : Nat} {rs : List ResultVar} {R : Value -> List It -> Prop} : ¬ retQ P wr rs R (.goto l) fr O := id
theorem ZzA {c : Code} (hg : ∀ l fr O, ¬ Q (.goto l) fr O) (h : W P n wr c Q fr O) : W P n wr (.scope c) Q fr O := by
 intro a w hs
 refine wp_scope_straight (wp_mono (h a w hs) ?_)
 rintro e a' w' ⟨fr', O', hs', hq⟩
 cases e with
 | goto l => exact (hg l _ _ hq).elim
 | _ => exact ⟨fr', O', hs', hq⟩
theorem ZzC {l : Nat} (h : Q .normal fr O) : W P n wr (.label l) Q fr O := fun _ _ hs => wp_label ⟨fr, O, hs, h⟩
end
section
variable {P : Program} {n : Nat} {wr : World} {fr : Fr} {O : List It} {ty : TypeId} {pos : String} {af : Array Edge} {dst : Option Tmp} {g : Option (Nat × Bool)} {Kp : Value -> List It -> Prop}
theorem Znr {t len e sz b : Nat} {ag : Bool} {x y : Operand} {h : Int} [hA : ArrT P t len e sz ag] (hx : ev fr x = some (.pointer (some ⟨b, 0, none⟩))) (hy : ev fr y = some (.int .i64 h)) (h0 : 0 <= h) (h1 : h <= len) :
  Pu P n wr fr O (.slice t x none (some y) none) ty (.slice (some ⟨b, 0, none⟩) h.toNat len) :=
 fun a w hs _ _ _ _ => by
  have h := hA.h
  unfold Zkn at h
  split at h
  ·rename_i len' e' hu
   split at h
   ·rename_i sz' ag' ht
    simp only [Option.some.injEq, Prod.mk.injEq] at h
    obtain ⟨rfl, rfl, rfl, rfl⟩ := h
    obtain ⟨inf, dd, hinf, hsz, _, _⟩ := Ty.parts ht
    simp [execOp, hs.sim.ev hx, hs.sim.ev hy, Instr.sliceAt, run_underlying hu, Instr.sureAddr, Instr.sliceBounds, run_sliceBound, h0, h1, sizeOf, ZaR hinf, Addr.add]
   ·cases h
  ·cases h
theorem Zjk {t sz b p : Nat} {x : Operand} {cs : List Value} {bt : TypeId} {v : Value} {R : List It} [Ty P t sz false] (hx : ev fr x = some (.pointer (some ((adr (some ⟨b, 0, none⟩)).add p))))
  (hp : Pick (.blk b cs bt) O R) (hv : cs[p]? = some v) : Pu P n wr fr O (.load t x) ty v :=
 Pu_loadB1 (by rw [hx, show adr (some (⟨b, 0, none⟩ : Addr)) = ⟨b, 0, none⟩ from rfl, Zcd, Nat.zero_add]) hp hv
theorem Znt {t sz b p : Nat} {x : Operand} {cs : List Value} {bt : TypeId} {v : Value} {R : List It} [Ty P t sz false] (hx : ev fr x = some (.pointer (some ((⟨b, 0, none⟩ : Addr).add p))))
  (hp : Pick (.blk b cs bt) O R) (hv : cs[p]? = some v) : Pu P n wr fr O (.load t x) ty v :=
 Pu_loadB1 (by rw [hx, Zcd, Nat.zero_add]) hp hv
theorem Zgz {t : TypeId} {x : Operand} {i : Int} (hx : ev fr x = some (.int .i64 i)) (h : -9223372036854775807 <= i /\ i <= 9223372036854775807) : Pu P n wr fr O (.unOp .neg t x) ty (.int .i64 (-i)) := by
 have := Pu_negW (P := P) (n := n) (wr := wr) (O := O) (ty := ty) (t := t) hx
 rwa [Int.zero_sub, ZbU (by omega)] at this
def ZoU (c : UInt8) : Value := .int .u8 (c.toNat : Int)
theorem Znx {t t' e sz bytes et c : Nat} {x : Operand} {A : Option Addr} {m : Nat} {l : List UInt8} {xs : List Value} {R : List It} [hE : ElemT P t e sz bytes] [hU : IntT P e .u8] [hS : StringT P t'] (hx : ev fr x = some (.slice A m c))
  (hp : Pick (.row (.slice A m c) et 1 m xs) O R) (hxs : xs = l.map ZoU) (hm : m = l.length) (hA : A ≠ none) : Pu P n wr fr O (.convert t t' x) ty (.string ⟨l.toArray⟩) :=
 fun a w hs _ _ _ _ => by
  have h := hE.h
  unfold ZgZ at h
  split at h
  ·rename_i e' hu
   split at h
   ·simp only [Option.some.injEq, Prod.mk.injEq] at h
    obtain ⟨rfl, _, _⟩ := h
    obtain ⟨ad, rfl⟩ := Option.ne_none_iff_exists'.1 hA
    subst hm hxs
    have hsat := hs.own.sat _ (hp.perm.mem_iff.2 List.mem_cons_self)
    have hc : ∀ j (hj : j < l.length), w.cell? (ad.add j) = some (.int .u8 (l[j].toNat : Int)) := fun j hj => by
     have := ZbP hsat (j := j) (u := ZoU l[j]) (by rw [List.getElem?_map, List.getElem?_eq_getElem hj]; rfl)
     exact this.2
    have hrun := run_convert_bytes_back (P := P) w t t' e' ad c l hu hU.h hS.h hc
    simp [execOp, hs.sim.ev hx, hrun]
   ·cases h
  ·cases h
theorem Zbt {t t' : TypeId} {x y : Operand} {kk : IntKind} {i j : Int} {b : Bool} (hx : ev fr x = some (.int kk i)) (hy : ev fr y = some (.int kk j)) (h : decide (i < j) = b) : Pu P n wr fr O (.binOp .lss t x y t') ty (.bool b) := h ▸ Pu_lss hx hy
theorem ZlA {t t' : TypeId} {x y : Operand} {kk : IntKind} {i j : Int} {b : Bool} (hx : ev fr x = some (.int kk i)) (hy : ev fr y = some (.int kk j)) (h : decide (i <= j) = b) : Pu P n wr fr O (.binOp .leq t x y t') ty (.bool b) := h ▸ Pu_leq hx hy
theorem Za0 {t t' : TypeId} {x y : Operand} {kk : IntKind} {i j : Int} {b : Bool} (hx : ev fr x = some (.int kk i)) (hy : ev fr y = some (.int kk j)) (h : decide (j < i) = b) : Pu P n wr fr O (.binOp .gtr t x y t') ty (.bool b) := h ▸ Pu_gtr hx hy
theorem Ze3 {t t' : TypeId} {x y : Operand} {kk : IntKind} {i j : Int} {b : Bool} (hx : ev fr x = some (.int kk i)) (hy : ev fr y = some (.int kk j)) (h : decide (j <= i) = b) : Pu P n wr fr O (.binOp .geq t x y t') ty (.bool b) := h ▸ Pu_geq hx hy
theorem ZaH {t t' : TypeId} {x y : Operand} {kk : IntKind} {i j : Int} {b : Bool} (hx : ev fr x = some (.int kk i)) (hy : ev fr y = some (.int kk j)) (h : decide (i = j) = b) : Pu P n wr fr O (.binOp .eql t x y t') ty (.bool b) := h ▸ Pu_eql hx hy
theorem ZaG {t t' : TypeId} {x y : Operand} {kk : IntKind} {i j : Int} {b : Bool} (hx : ev fr x = some (.int kk i)) (hy : ev fr y = some (.int kk j)) (h : (!decide (i = j)) = b) : Pu P n wr fr O (.binOp .neq t x y t') ty (.bool b) := h ▸ Pu_neq hx hy
theorem Zen {t t' : TypeId} {x y : Operand} {i j : ByteArray} {b : Bool} (hx : ev fr x = some (.string i)) (hy : ev fr y = some (.string j)) (h : decide (i = j) = b) : Pu P n wr fr O (.binOp .eql t x y t') ty (.bool b) := h ▸ Pu_eqlS hx hy
theorem Zgy {t t' : TypeId} {x y : Operand} {i j : ByteArray} {b : Bool} (hx : ev fr x = some (.string i)) (hy : ev fr y = some (.string j)) (h : (!decide (i = j)) = b) : Pu P n wr fr O (.binOp .neq t x y t') ty (.bool b) := h ▸ Pu_neqS hx hy
end
end Go.Wk
namespace Go.Proofs.YtbjomhdhkpgbaaaGreatDoor
open Go Go.RowKit Go.Wk
attribute [local irreducible] W RL Does Zap Zak retQ Calls Pu Stp RD Qy Ay
theorem ZaT {G G' : Prop} (k : G') (h : Hold G' -> G := by intro k9; (first | refine walk ?_ | (refine jn ?_; (try intro F); (apply Zag; exact PuA); refine fin ?_)); exact k9.out) : G := h ⟨k⟩
theorem ZhV {G G' : Prop} (k : G') (h : Hold G' -> G := by intro k9; (first | (apply RL_pu; rfl; exact PuI) | (apply RD_Q; rfl; rfl; decide +kernel; rfl; rfl; exact QyI) | refine walk1 ?_ | (refine jn ?_; (try intro F); (apply Zag; first | exact PuI | exact PuA); first | refine ⟨_, EndsA, QFI, ?_⟩ | refine fin ?_)); exact k9.out) : G := h ⟨k⟩
theorem ZiV (A B : Option Addr) (ca cb : Nat) (x y : List ByteArray) (w : World) (hA : RdSl w A ca ZaI 1 x) (hB : RdSl w B cb ZaI 1 y) :
  Does Tryz.prog 19 [.slice A x.length ca, .slice B y.length cb] w (fun v O => v = .bool (decide (x = y)) /\ O = []) := by
 have hs1 := hA.le
 have hs2 := hA.cap
 unfold maxLen at hs2
 generalize hres : decide (x = y) = res
 refine Zaa Tryz.func19 rfl rfl rfl rfl ?_
 repeat refine ZaT ?_
 refine Zah rfl (fun h1 => ?_) (fun h1 => ?_)
 ·repeat refine ZaT ?_
  exact ret_1 _ [] (.tmp rfl) .nil ⟨by rw [<- hres, Zg2]; simp at h1; omega, rfl⟩
 have hlen : x.length = y.length := by simp at h1; omega
 clear h1
 repeat refine ZaT ?_
 refine Zaq [(0, _), (1, _), (4, _), (12, _)] _ (fun k : Nat => [(13, .int .i64 k)]) (fun _ => []) (fun k => k <= x.length /\ decide (x.drop k = y.drop k) = res) (fun k => x.length - k) 0 ⟨rfl, rfl, rfl, rfl, rfl, trivial⟩ (.refl _) ⟨by omega, hres⟩ ?_
 rintro k ⟨hk, hi⟩
 repeat refine ZaT ?_
 refine Zah rfl (fun hc => ?_) (fun hc => ?_)
 ·simp only [decide_eq_true_eq, Int.ofNat_lt] at hc
  have hcy : k < y.length := by omega
  obtain ⟨hna, hca⟩ := hA.rd k _ (List.getElem?_eq_getElem hc)
  obtain ⟨hnb, hcb⟩ := hB.rd k _ (List.getElem?_eq_getElem hcy)
  rw [Zan hc, Zan hcy, Zfi] at hi
  generalize x[k] = p at *
  generalize y[k] = q at *
  repeat refine ZhV ?_
  refine Zah rfl (fun h3 => ?_) (fun h3 => ?_)
  ·repeat refine ZaT ?_
   exact ret_1 _ [] (.tmp rfl) .nil ⟨by simp at h3; simp [<- hi, h3], rfl⟩
  repeat refine ZaT ?_
  simp at h3
  exact ⟨k + 1, by omega, ⟨by omega, by rw [<- hi]; simp [h3]⟩, SFA, SOA⟩
 simp only [decide_eq_false_iff_not, Int.ofNat_lt] at hc
 repeat refine ZaT ?_
 exact ret_1 _ [] (.tmp rfl) .nil ⟨by rw [<- hi, Zg1 (by omega) (by omega)], rfl⟩
theorem ZiX (A B : Option Addr) (ca cb : Nat) (x y : List DEra) (w : World) (hA : RdSl w A ca DEra.enc 13 x) (hB : RdSl w B cb DEra.enc 13 y) :
  Does Tryz.prog 70 [.slice A x.length ca, .slice B y.length cb] w (fun v O => v = .bool (decide (x = y)) /\ O = []) := by
 have hs1 := hA.le
 have hs2 := hA.cap
 unfold maxLen at hs2
 generalize hres : decide (x = y) = res
 refine Zaa Tryz.func70 rfl rfl rfl rfl ?_
 repeat refine ZaT ?_
 refine Zah rfl (fun h1 => ?_) (fun h1 => ?_)
 ·repeat refine ZaT ?_
  exact ret_1 _ [] (.tmp rfl) .nil ⟨by rw [<- hres, Zg2]; simp at h1; omega, rfl⟩
 have hlen : x.length = y.length := by simp at h1; omega
 clear h1
 repeat refine ZaT ?_
 refine Zaq [(0, _), (1, _), (4, _), (12, _)] _ (fun k : Nat => [(13, .int .i64 k)]) (fun _ => []) (fun k => k <= x.length /\ decide (x.drop k = y.drop k) = res) (fun k => x.length - k) 0 ⟨rfl, rfl, rfl, rfl, rfl, trivial⟩ (.refl _) ⟨by omega, hres⟩ ?_
 rintro k ⟨hk, hi⟩
 repeat refine ZaT ?_
 refine Zah rfl (fun hc => ?_) (fun hc => ?_)
 ·simp only [decide_eq_true_eq, Int.ofNat_lt] at hc
  have hcy : k < y.length := by omega
  obtain ⟨hna, hca⟩ := hA.rd k _ (List.getElem?_eq_getElem hc)
  obtain ⟨hnb, hcb⟩ := hB.rd k _ (List.getElem?_eq_getElem hcy)
  rw [Zan hc, Zan hcy, Zfi] at hi
  generalize x[k] = p at *
  generalize y[k] = q at *
  repeat refine ZhV ?_
  refine Zah rfl (fun h3 => ?_) (fun h3 => ?_)
  ·repeat refine ZaT ?_
   exact ret_1 _ [] (.tmp rfl) .nil ⟨by simp at h3; simp [<- hi, h3], rfl⟩
  repeat refine ZaT ?_
  simp at h3
  exact ⟨k + 1, by omega, ⟨by omega, by rw [<- hi]; simp [h3]⟩, SFA, SOA⟩
 simp only [decide_eq_false_iff_not, Int.ofNat_lt] at hc
 repeat refine ZaT ?_
 exact ret_1 _ [] (.tmp rfl) .nil ⟨by rw [<- hi, Zg1 (by omega) (by omega)], rfl⟩
theorem ZfS (A B : Option Addr) (ca cb : Nat) (x y : List DLink) (w : World) (hA : RdSl w A ca DLink.enc 2 x) (hB : RdSl w B cb DLink.enc 2 y) :
  Does Tryz.prog 17 [.slice A x.length ca, .slice B y.length cb] w (fun v O => v = .bool (decide (x = y)) /\ O = []) := by
 have hs1 := hA.le
 have hs2 := hA.cap
 unfold maxLen at hs2
 generalize hres : decide (x = y) = res
 refine Zaa Tryz.func17 rfl rfl rfl rfl ?_
 repeat refine ZaT ?_
 refine Zah rfl (fun h1 => ?_) (fun h1 => ?_)
 ·repeat refine ZaT ?_
  exact ret_1 _ [] (.tmp rfl) .nil ⟨by rw [<- hres, Zg2]; simp at h1; omega, rfl⟩
 have hlen : x.length = y.length := by simp at h1; omega
 clear h1
 repeat refine ZaT ?_
 refine Zaq [(0, _), (1, _), (4, _), (12, _)] _ (fun k : Nat => [(13, .int .i64 k)]) (fun _ => []) (fun k => k <= x.length /\ decide (x.drop k = y.drop k) = res) (fun k => x.length - k) 0 ⟨rfl, rfl, rfl, rfl, rfl, trivial⟩ (.refl _) ⟨by omega, hres⟩ ?_
 rintro k ⟨hk, hi⟩
 repeat refine ZaT ?_
 refine Zah rfl (fun hc => ?_) (fun hc => ?_)
 ·simp only [decide_eq_true_eq, Int.ofNat_lt] at hc
  have hcy : k < y.length := by omega
  obtain ⟨hna, hca⟩ := hA.rd k _ (List.getElem?_eq_getElem hc)
  obtain ⟨hnb, hcb⟩ := hB.rd k _ (List.getElem?_eq_getElem hcy)
  rw [Zan hc, Zan hcy, Zfi] at hi
  generalize x[k] = p at *
  generalize y[k] = q at *
  repeat refine ZhV ?_
  refine Zah rfl (fun h3 => ?_) (fun h3 => ?_)
  ·repeat refine ZaT ?_
   exact ret_1 _ [] (.tmp rfl) .nil ⟨by simp at h3; simp [<- hi, h3], rfl⟩
  repeat refine ZaT ?_
  simp at h3
  exact ⟨k + 1, by omega, ⟨by omega, by rw [<- hi]; simp [h3]⟩, SFA, SOA⟩
 simp only [decide_eq_false_iff_not, Int.ofNat_lt] at hc
 repeat refine ZaT ?_
 exact ret_1 _ [] (.tmp rfl) .nil ⟨by rw [<- hi, Zg1 (by omega) (by omega)], rfl⟩
theorem Zge (k : ByteArray) (v : Value) (x : ByteArray) : ∀ m : List (ByteArray × Value), mget (mset m k v) x = if x = k then some v else mget m x
 | [] => by simp [mset, mget]
 | (y, u) :: r => by
  simp only [mset]
  split
  ·rename_i h; subst h; simp only [mget]; split <;> simp_all
  ·rename_i h
   simp only [mget, Zge k v x r]
   split
   ·rename_i h2; subst h2; rw [if_neg (fun e => h e.symm)]
   ·rfl
def MpB (m : List (ByteArray × Value)) (l : List ByteArray) : Prop := ∀ x, (mget m x).getD (.bool false) = .bool (memB x l)
theorem MpB.set {m : List (ByteArray × Value)} {l : List ByteArray} (h : MpB m l) (y : ByteArray) : MpB (mset m y (.bool true)) (l ++ [y]) := fun x => by
 rw [Zge, Zio]
 by_cases e : x = y
 ·subst e; simp
 ·rw [if_neg e, h x]; simp [show ¬ y = x from fun h => e h.symm]
theorem MpB.nil : MpB [] [] := fun _ => rfl
structure MG (α : Type) where
 k : Nat
 A : Option Addr
 c : Nat
 m : Nat
 xs : List Value
 acc : List α
 mp : List (ByteArray × Value)
theorem ZjV (Ar Az Al As : Option Addr) (cr cz cl cs : Nat) (a : Zab) (w : World) (hA : Zaj w Ar Az Al As cr cz cl cs a) (hn : a.rules.length <= 1000000) :
  Does Tryz.prog 86 [srcV Ar Az Al As cr cz cl cs a] w (ZhD 9 1 ZaI (ZaP a.rules [])) := by
 generalize hres : ZaP a.rules [] = res
 refine Zaa Tryz.func86 rfl rfl rfl rfl ?_
 repeat (first | (refine js ?_; (refine bx ?_; intro bk)) | refine walk ?_)
 refine Zdu 9 1 ?_
 refine Zaq [(3, _), (9, _), (10, _)] [] (fun g : MG ByteArray => [(4, .slice g.A g.m g.c), (11, .int .i64 g.k)]) (fun g => [.row (.slice g.A g.m g.c) 9 1 g.m g.xs, .mp _ g.mp]) (fun g => g.k <= a.rules.length /\ g.m = g.acc.length /\ g.xs = g.acc.flatMap ZaI /\ g.m <= g.k /\ MpB g.mp g.acc /\ ZaP (a.rules.drop g.k) g.acc = res) (fun g => a.rules.length - g.k) ⟨0, none, 0, 0, [], [], []⟩ ⟨rfl, rfl, rfl, rfl, rfl, trivial⟩ SOA ⟨by simp, rfl, rfl, Nat.le_refl _, .nil, by simpa using hres⟩ ?_
 rintro ⟨k, A, c, m, xs, acc, mp⟩ ⟨hk, hm, hx, hmk, hp, hi⟩
 dsimp only at hk hm hx hmk hp hi ⊢
 repeat (first | (refine js ?_; (refine bx ?_; intro bk)) | refine walk ?_)
 refine Zah rfl (fun hc => ?_) (fun hc => ?_)
 ·simp only [decide_eq_true_eq, Int.ofNat_lt] at hc
  obtain ⟨hna, hca⟩ := hA.r.rd k _ (List.getElem?_eq_getElem hc)
  have hnb := hna
  have hcb := hca
  rw [Zan hc, ZaP] at hi
  generalize a.rules[k] = r at *
  repeat (first | (apply RL_pu; rfl; (first | exact PuI | (apply Zha; rfl; rfl; (focus repeat' constructor); exact hp _))) | (refine js ?_; (refine bx ?_; intro bk)) | refine walk1 ?_)
  refine Zah rfl (fun h3 => ?_) (fun h3 => ?_)
  ·simp only [Bool.not_eq_true'] at h3
   rw [h3] at hi
   repeat (first | (apply RL_pu; rfl; exact PuI) | (refine js ?_; (first | (apply ZaC; rfl; rfl; (intro A' c'; (focus repeat' constructor)); (intro w' _ hO; exact ZbD (hO.of (by repeat' constructor))); rfl; rfl; (simp only [maxLen]; omega); omega; intro A' c' hc1 hc2 hc3) | (refine bx ?_; intro bk))) | refine walk1 ?_)
   exact ⟨⟨k + 1, A', c', m + 1, xs ++ ZaI r.name, acc ++ [r.name], mset mp r.name (.bool true)⟩, OA, ⟨OA, by simp [hm], by rw [hx]; exact ZmP acc r.name, OA, hp.set _, by rw [<- hi]; simp⟩, SFA, SOA⟩
  simp only [Bool.not_eq_false'] at h3
  rw [h3] at hi
  repeat (first | (refine js ?_; (refine bx ?_; intro bk)) | refine walk ?_)
  exact ⟨⟨k + 1, A, c, m, xs, acc, mp⟩, OA, ⟨OA, hm, hx, OA, hp, by rw [<- hi]; simp⟩, SFA, SOA⟩
 simp only [decide_eq_false_iff_not, Int.ofNat_lt] at hc
 rw [List.drop_eq_nil_of_le (by omega), ZaP] at hi
 subst hi
 repeat (first | (refine js ?_; (refine bx ?_; intro bk)) | refine walk ?_)
 exact ret_1 _ [.row (.slice A acc.length c) 9 1 acc.length (acc.flatMap ZaI)] (.tmp rfl) (by subst hm hx; exact SOA) ⟨A, c, by rw [hm], rfl⟩
structure ZqS where
 name : ByteArray
 rs : List DRule
 A : Option Addr
 c : Nat
 m : Nat
 xs : List Value
def ZqS.v (g : ZqS) : Value := .slice g.A g.m g.c
def ZqS.row (g : ZqS) : It := .row (.slice g.A g.m g.c) 56 11 g.m g.xs
def ZAB (m : List (ByteArray × Value)) (rs : List DRule) : Prop :=
 ∀ x, match mget m x with
  | none => ofB rs x = []
  | some v => ofB rs x ≠ [] /\ ∃ A c, v = .slice A (ofB rs x).length c
def ZAC (m : List (ByteArray × Value)) (rs : List DRule) (w : World) : Prop :=
 ∀ x A n c, mget m x = some (.slice A n c) -> RdSl w A c DRule.enc 11 (ofB rs x)
structure Fits (a : Zab) : Prop where
 r : a.rules.length <= 1000000
 z : a.zones.length <= 1000000
 l : a.links.length <= 1000000
 s : a.shifts.length <= 1000000
 e : ∀ z ∈ a.zones, z.eras.length <= 1000000
structure ZE where
 z : ZaX
 A : Option Addr
 c : Nat
def ZE.enc (q : ZE) : List Value := [.string q.z.name, .slice q.A q.z.eras.length q.c]
theorem ZE.len (x : ZE) : x.enc.length = 2 := rfl
theorem oneZ (x : ZE) : x.enc.all Value.oneCell' = true := rfl
def Zax (Zs : List ZE) (w : World) : Prop := ∀ q ∈ Zs, RdSl w q.A q.c DEra.enc 13 q.z.eras
theorem ZpH {w : World} {A : Option Addr} {c : Nat} {Zs : List ZE} (h : RdSl w A c ZE.enc 2 Zs) (he : Zax Zs w) : RdZ w A (Zs.map ZE.z) := fun k z hz => by
 rw [List.getElem?_map] at hz
 cases hq : Zs[k]? with
 | none => rw [hq] at hz; cases hz
 | some q =>
  rw [hq] at hz
  injection hz with hz
  subst hz
  exact ⟨(h.rd k q hq).1, q.enc, ⟨q.A, q.c, he q (List.mem_of_getElem? hq), rfl⟩, (h.rd k q hq).2⟩
abbrev rowR (A : Option Addr) (c : Nat) (l : List DRule) : It := .row (.slice A l.length c) 56 11 l.length (l.flatMap DRule.enc)
abbrev rowZ (A : Option Addr) (c : Nat) (l : List ZE) : It := .row (.slice A l.length c) 46 2 l.length (l.flatMap ZE.enc)
abbrev rowL (A : Option Addr) (c : Nat) (l : List DLink) : It := .row (.slice A l.length c) 69 2 l.length (l.flatMap DLink.enc)
abbrev rowS (A : Option Addr) (c : Nat) (l : List ByteArray) : It := .row (.slice A l.length c) 9 1 l.length (l.flatMap ZaI)
def ZgD (s : Zab) (v : Value) (O : List It) : Prop :=
 ∃ Ar cr Az cz Al cl As cs Zs S, v = srcV Ar Az Al As cr cz cl cs s /\ Zs.map ZE.z = s.zones /\ O = [rowR Ar cr s.rules, rowZ Az cz Zs, rowL Al cl s.links, rowS As cs s.shifts, .fact S (Zax Zs)]
theorem Zb2 {w : World} {Ar Az Al As : Option Addr} {cr cz cl cs : Nat} {Zs : List ZE} {S : Nat -> Prop} {s : Zab} (hz : Zs.map ZE.z = s.zones) (h1 : (rowR Ar cr s.rules).sat w) (h2 : (rowZ Az cz Zs).sat w) (h3 : (rowL Al cl s.links).sat w) (h4 : (rowS As cs s.shifts).sat w) (h5 : (It.fact S (Zax Zs)).sat w) :
  Zaj w Ar Az Al As cr cz cl cs s := by
 have h := Za4 ZE.len h2
 have hl : s.zones.length = Zs.length := by rw [<- hz, List.length_map]
 exact ⟨Za4 DRule.len h1, by rw [hl]; exact h.le, h.cap, hz ▸ ZpH h (Za1 h5), Za4 DLink.len h3, Za4 ZaI.len h4⟩
end Go.Proofs.YtbjomhdhkpgbaaaGreatDoor
namespace Go.Proofs.YtbjomhdhkpgbaaaGreatDoor
open Go Go.RowKit Go.Wk
abbrev Zau (q : ZE) : It := .row (.slice q.A q.z.eras.length q.c) 54 13 q.z.eras.length (q.z.eras.flatMap DEra.enc)
def Zdq (s : Zab) (v : Value) (O : List It) : Prop :=
 ∃ Ar cr Az cz Al cl As cs Zs, v = srcV Ar Az Al As cr cz cl cs s /\ Zs.map ZE.z = s.zones /\ O = rowR Ar cr s.rules :: rowZ Az cz Zs :: rowL Al cl s.links :: rowS As cs s.shifts :: Zs.map Zau
theorem ZcG {s : Zab} {v : Value} {O : List It} (h : Zdq s v O) : ∃ O', ZgD s v O' /\ ∀ base w', Zat base O w' -> Zat base O' w' := by
 obtain ⟨Ar, cr, Az, cz, Al, cl, As, cs, Zs, rfl, hz, rfl⟩ := h
 refine ⟨_, ⟨Ar, cr, Az, cz, Al, cl, As, cs, Zs, foot (Zs.map Zau), rfl, hz, rfl⟩, fun base w' hH => ?_⟩
 have h1 : Zat base (Zs.map Zau ++ [rowR Ar cr s.rules, rowZ Az cz Zs, rowL Al cl s.links, rowS As cs s.shifts]) w' := hH.perm (List.perm_append_comm (l₁ := [rowR Ar cr s.rules, rowZ Az cz Zs, rowL Al cl s.links, rowS As cs s.shifts]))
 have h2 := h1.fact (p := Zax Zs) (fun w2 hi q hq => Za4 DEra.len (hi (Zau q) (List.mem_map.2 ⟨q, hq, rfl⟩)))
 exact h2.perm (List.perm_append_comm (l₁ := [_]) (l₂ := [rowR Ar cr s.rules, rowZ Az cz Zs, rowL Al cl s.links, rowS As cs s.shifts]))
theorem SubO.permT {l A B O : List It} (h : SubO (l ++ A) O) (hp : A.Perm B) : SubO (l ++ B) O := by
 obtain ⟨R, hR⟩ := h.perm
 exact SubO.ofPerm (R := R) (hR.trans ((hp.append_left l).append_right R))
section
variable {P : Program} {n : Nat} {wr : World} {fr : Fr} {O : List It} {ops : Array Oper} {K : Fr -> List It -> Prop}
end
attribute [local irreducible] W RL Does Zap Zak retQ Calls Pu Stp RD Qy Ay
attribute [local irreducible] Zal
theorem ZxQ {P : Program} {wr : World} {fr : Fr} {O : List It} {R : Value -> List It -> Prop} (O' : List It) (hO : SubO O' O) (hR : R (.tuple #[]) O') : retQ P wr [] R .ret fr O := by unfold retQ; exact ⟨[], O', rfl, hO, hR⟩
def cntB (x : ByteArray) : List ByteArray -> Nat
 | [] => 0
 | y :: l => (if y = x then 1 else 0) + cntB x l
theorem Zm8 (x y : ByteArray) : ∀ l, cntB x (l ++ [y]) = cntB x l + if y = x then 1 else 0
 | [] => by simp [cntB]
 | z :: l => by simp only [List.cons_append, cntB, Zm8 x y l]; omega
def CntB (m : List (ByteArray × Value)) (l : List ByteArray) : Prop := ∀ x, (mget m x).getD (.int .i64 0) = .int .i64 (cntB x l)
theorem CntB.set {m : List (ByteArray × Value)} {l : List ByteArray} (h : CntB m l) (y : ByteArray) : CntB (mset m y (.int .i64 ((cntB y l : Int) + 1))) (l ++ [y]) := fun x => by
 rw [Zge, Zm8]
 by_cases e : x = y
 ·subst e
  simp
 ·rw [if_neg e, if_neg (fun h => e h.symm), Nat.add_zero]
  exact h x
theorem ZzZ {w : World} {A : Option Addr} : ∀ (zs : List ZaX) (off : Nat), (∀ k z, zs[k]? = some z -> A ≠ none /\ ∃ cs, Znk w z cs /\ Zam w ((adr A).add ((off + k) * 2)) cs) ->
  ∃ Zs : List ZE, Zs.map ZE.z = zs /\ (∀ k q, Zs[k]? = some q -> A ≠ none /\ Zam w ((adr A).add ((off + k) * 2)) q.enc) /\ Zax Zs w
 | [], _, _ => ⟨[], rfl, fun _ _ h => by simp at h, fun _ h => by simp at h⟩
 | z :: zs, off, h => by
  obtain ⟨h1, cs, ⟨A', c', h2, rfl⟩, h3⟩ := h 0 z rfl
  obtain ⟨Zs, h4, h5, h6⟩ := ZzZ (A := A) zs (off + 1) fun k z' hz => by
   have := h (k + 1) z' (by simpa using hz)
   rwa [show off + (k + 1) = off + 1 + k from by omega] at this
  refine ⟨⟨z, A', c'⟩ :: Zs, by simp [h4], fun k q hq => ?_, fun q hq => ?_⟩
  ·cases k with
   | zero =>
    simp only [List.getElem?_cons_zero, Option.some.injEq] at hq
    subst hq
    exact ⟨h1, h3⟩
   | succ k =>
    have := h5 k q (by simpa using hq)
    rwa [show off + 1 + k = off + (k + 1) from by omega] at this
  ·rcases List.mem_cons.1 hq with rfl | hq
   ·exact h2
   ·exact h6 q hq
theorem ZxN {w : World} {Ar Az Al As : Option Addr} {cr cz cl cs : Nat} {s : Zab} (h : Zaj w Ar Az Al As cr cz cl cs s) : ∃ Zs : List ZE, Zs.map ZE.z = s.zones /\ RdSl w Az cz ZE.enc 2 Zs /\ Zax Zs w := by
 obtain ⟨Zs, h1, h2, h3⟩ := ZzZ s.zones 0 (fun k z hz => by simpa using h.z k z hz)
 exact ⟨Zs, h1, ⟨by rw [<- List.length_map (f := ZE.z), h1]; exact h.zle, h.zcap, fun k q hq => by simpa using h2 k q hq⟩, h3⟩
theorem ZzY (L : List ZE) (k : Nat) (z : ZE) (hk : L[k]? = some z) : (L.flatMap ZE.enc)[k * 2 + 1]? = some (.slice z.A z.z.eras.length z.c) := ZaF ZE.len L k z 1 _ hk rfl
theorem ZzX (L : List ZE) (k : Nat) (z : ZE) (A : Option Addr) (c : Nat) (hk : L[k]? = some z) : (L.flatMap ZE.enc).set (k * 2 + 1) (.slice A z.z.eras.length c) = (L.set k ⟨z.z, A, c⟩).flatMap ZE.enc := by
 induction L generalizing k with
 | nil => simp at hk
 | cons y L ih =>
  cases k with
  | zero =>
   simp only [List.getElem?_cons_zero, Option.some.injEq] at hk
   subst hk
   rfl
  | succ k =>
   rw [List.getElem?_cons_succ] at hk
   have := ih k hk
   rw [show (k + 1) * 2 + 1 = (k * 2 + 1) + 1 + 1 from by omega, List.set_cons_succ, List.flatMap_cons, List.flatMap_cons, <- this]
   rfl
theorem Zi7 (A : Option Addr) (c : Nat) (x : List ZE) (w : World) (hA : RdSl w A c ZE.enc 2 x) (hn : x.length <= 1000000) :
  Does Tryz.prog 265 [.slice A x.length c] w (fun v O => ∃ A c, v = .slice A x.length c /\ O = [.row (.slice A x.length c) 46 2 x.length (x.flatMap ZE.enc)] /\ (0 < x.length -> A ≠ none)) := by
 refine Zaa Tryz.func265 rfl rfl rfl rfl ?_
 repeat (first | (refine js ?_; (refine bx ?_; intro bk)) | refine walk ?_)
 refine Zah rfl (fun h1 => ?_) (fun h1 => ?_)
 ·obtain rfl := hA.none h1
  refine Zdu 46 2 ?_
  repeat (first | (refine js ?_; (refine bx ?_; intro bk)) | refine walk ?_)
  exact ret_1 _ [.row (.slice none 0 0) 46 2 0 []] (.tmp rfl) SOA ⟨none, 0, rfl, rfl, fun h => absurd h (by simp)⟩
 repeat (first | (refine js ?_; (first | (apply Zdo; rfl; rfl; (intro A' c'; (focus repeat' constructor)); (intro w' hw _; exact (hA.up hw).rd.raw ZE.len (by decide)); exact ZaE ZE.len x; exact ZcC oneZ x; (simp only [maxLen]; omega); omega; intro A' c' hc1 hc2 hc3) | (refine bx ?_; intro bk))) | refine walk ?_)
 exact ret_1 _ _ (.tmp rfl) (.refl _) ⟨A', c', rfl, rfl, hc3⟩
structure CpG where
 k : Nat
 Zr : List ZE
theorem Zq6 {G : Prop} (h : G := by (first | (apply Pu_indexAddr; rfl; rfl; omega; omega; exact hAn) | (apply ZcM; rfl; (focus repeat' constructor); exact hx1))) : G := h
set_option maxHeartbeats 4000000 in
theorem ZrZ (Ar Az Al As : Option Addr) (cr cz cl cs : Nat) (a : Zab) (w : World) (hA : Zaj w Ar Az Al As cr cz cl cs a) (hn : Fits a) :
  Does Tryz.prog 225 [srcV Ar Az Al As cr cz cl cs a] w (Zdq a) := by
 obtain ⟨hnr, hnz, hnl, hns, hne⟩ := hn
 obtain ⟨Zo, hZo, hZr, hZe⟩ := ZxN hA
 have hzl : a.zones.length = Zo.length := by rw [<- hZo, List.length_map]
 refine Zaa Tryz.func225 rfl rfl rfl rfl ?_
 unfold srcV
 rw [hzl] at hnz ⊢
 repeat (first | refine walk ?_ | (refine jg ?_; (try intro F); (first | (apply Zac (h := fun w' hw _ => Zi7 Az cz Zo w' (hZr.up hw) hnz); rfl; rintro v O' ⟨A2, c2, rfl, rfl, hA2⟩) | (refine bx ?_; intro bk) | (refine stA ?_)); refine fin ?_) | (refine jn ?_; (try intro F); (first | (refine bx ?_; intro bk) | (refine stA ?_) | (apply Zag; exact PuA)); refine fin ?_) | (apply RD_W; rfl; intro bk))
 rename_i b1
 generalize bk = b2
 refine ZfC (fun g : CpG => [(10, .int .i64 g.k), (1, _), (2, _), (3, _), (9, _)]) (fun g => .row (.slice A2 Zo.length c2) 46 2 Zo.length ((g.Zr.reverse ++ Zo.drop g.k).flatMap ZE.enc) :: .blk b2 _ _ :: .blk b1 _ _ :: g.Zr.map Zau)
  (fun g => g.k <= Zo.length /\ g.Zr.length = g.k /\ g.Zr.reverse.map ZE.z = (Zo.take g.k).map ZE.z) (fun g => Zo.length - g.k) ⟨0, []⟩ SFA STA ⟨by simp, rfl, by simp⟩ ?_
 rintro ⟨k, Zr⟩ ⟨hk, hZl, hZz⟩
 dsimp only at hk hZl hZz ⊢
 rw [<- List.length_reverse] at hZl
 obtain ⟨Zs, hZs⟩ : ∃ Zs, Zr.reverse = Zs := ⟨_, rfl⟩
 rw [hZs] at hZl hZz
 rw [hZs]
 generalize hT : Zr.map Zau = T
 repeat (first | refine walk ?_ | (refine jn ?_; (try intro F); (first | (refine bx ?_; intro bk) | (refine stA ?_) | (apply Zag; exact PuA)); refine fin ?_) | (apply RD_W; rfl; intro bk))
 refine Zah rfl (fun hc => ?_) (fun hc => ?_)
 ·simp only [decide_eq_true_eq, Int.ofNat_lt] at hc
  have hAn := hA2 (by omega)
  have hEr := hZe _ (List.getElem_mem hc)
  have hlen : Zo[k].z.eras.length <= 1000000 := hne _ (by rw [<- hZo]; exact List.mem_map.2 ⟨_, List.getElem_mem hc, rfl⟩)
  have hget : (Zs ++ Zo.drop k)[k]? = some Zo[k] := by rw [List.getElem?_append_right (by omega), hZl, Nat.sub_self, List.getElem?_drop, Nat.add_zero, List.getElem?_eq_getElem hc]
  have hset : ∀ q : ZE, (Zs ++ Zo.drop k).set k q = (Zs ++ [q]) ++ Zo.drop (k + 1) := fun q => by
   rw [List.set_append_right _ _ (by omega), hZl, Nat.sub_self, Zan hc, List.set_cons_zero]
   simp
  have htk : (Zo.take (k + 1)).map ZE.z = (Zo.take k).map ZE.z ++ [Zo[k].z] := by rw [<- List.take_append_getElem hc, List.map_append]; rfl
  have hLl : (Zs ++ Zo.drop k).length = Zo.length := by rw [List.length_append, List.length_drop]; omega
  generalize Zo[k] = z at *
  have hx1 : ((Zs ++ Zo.drop k).flatMap ZE.enc)[((k : Int)).toNat * 2 + 1]? = some (.slice z.A z.z.eras.length z.c) := by
   rw [show ((k : Int)).toNat * 2 + 1 = k * 2 + 1 from by omega]; exact ZzY _ k z hget
  repeat (first | (apply RL_pu; rfl; exact Zq6) | (refine js ?_; (first | (apply Zac (h := fun w' hw _ => Zct z.A z.c z.z.eras w' (hEr.up hw) hlen); rfl; rintro v O' ⟨Ae2, ce2, rfl, rfl⟩) | (apply Zbi; rfl; rfl; (focus repeat' constructor); rfl; rfl; rfl; (rw [ZaE ZE.len, hLl]; omega); decide; rfl) | (refine bx ?_; intro bk))) | (apply RD_Q; rfl; rfl; decide +kernel; rfl; rfl; exact QyKeepH0) | refine walk1 ?_ | (refine ZdC ?_; intro F; (apply Zac (h := fun w' hw _ => Zct z.A z.c z.z.eras w' (hEr.up hw) hlen); rfl; rintro v O' ⟨Ae2, ce2, rfl, rfl⟩); refine ⟨_, EndsA, SubO.right _ _, ?_⟩) | (refine RD_Lw ?_; intro F; (first | (apply Zac (h := fun w' hw _ => Zct z.A z.c z.z.eras w' (hEr.up hw) hlen); rfl; rintro v O' ⟨Ae2, ce2, rfl, rfl⟩) | (apply Zbi; rfl; rfl; (focus repeat' constructor); rfl; rfl; rfl; (rw [ZaE ZE.len, hLl]; omega); decide; rfl) | (refine bx ?_; intro bk) | (refine stA ?_) | (apply Zag; first | exact Zq6 | exact PuA)); refine ⟨_, EndsA, QFKeepH0, ?_⟩) | (apply RD_W; rfl; intro bk))
  have hfin : lay ((Zs ++ Zo.drop k).flatMap ZE.enc) (((k : Int)).toNat * 2 + 1) (Value.slice Ae2 z.z.eras.length ce2).cells.toList = ((Zs ++ [(⟨z.z, Ae2, ce2⟩ : ZE)]) ++ Zo.drop (k + 1)).flatMap ZE.enc := by
   rw [show ((k : Int)).toNat * 2 + 1 = k * 2 + 1 from by omega, <- hset, <- ZzX _ k z Ae2 ce2 hget]
   rfl
  subst hT
  have hrev : (⟨z.z, Ae2, ce2⟩ :: Zr : List ZE).reverse = Zs ++ [⟨z.z, Ae2, ce2⟩] := by rw [List.reverse_cons, hZs]
  exact ⟨⟨k + 1, ⟨z.z, Ae2, ce2⟩ :: Zr⟩, OA, ⟨OA, by rw [<- List.length_reverse, hrev]; simp [hZl], by rw [hrev, List.map_append, hZz]; exact htk.symm⟩, SFA, by rw [hrev, <- hfin]; exact STA⟩
 simp only [decide_eq_false_iff_not, Int.ofNat_lt] at hc
 have hkl : k = Zo.length := by omega
 subst hkl
 rw [List.drop_length, List.append_nil]
 rw [List.take_length, hZo] at hZz
 subst hT
 refine ZqR _ (SubO.permT (l := [_, _, _]) (.refl _) ((List.reverse_perm Zr).symm.map Zau)) ?_
 rw [hZs]
 rw [<- hZl]
 repeat (first | refine walk ?_ | (refine jg ?_; (try intro F); (first | (apply Zac (h := fun w' hw _ => Zcs Ar cr a.rules w' (hA.r.up hw) hnr); rfl; rintro v O' ⟨A3, c3, rfl, rfl⟩) | (apply Zac (h := fun w' hw _ => Zed Al cl a.links w' (hA.l.up hw) hnl); rfl; rintro v O' ⟨A4, c4, rfl, rfl⟩) | (apply Zac (h := fun w' hw _ => Zcr As cs a.shifts w' (hA.s.up hw) hns); rfl; rintro v O' ⟨A5, c5, rfl, rfl⟩) | (refine bx ?_; intro bk) | (refine stA ?_)); refine fin ?_) | (refine jn ?_; (try intro F); (first | (refine bx ?_; intro bk) | (refine stA ?_) | (apply Zag; exact PuA)); refine fin ?_) | (apply RD_W; rfl; intro bk))
 have hl : Zs.length = a.zones.length := by rw [<- hZz, List.length_map]
 exact ret_1 _ (rowR A3 c3 a.rules :: rowZ A2 c2 Zs :: rowL A4 c4 a.links :: rowS A5 c5 a.shifts :: Zs.map Zau) (.cellB rfl (by repeat' constructor) rfl rfl) STA ⟨A3, c3, A2, c2, A4, c4, A5, c5, Zs, by rw [srcV, <- hl]; rfl, hZz, rfl⟩
theorem Zyo {G : Prop} (h : G := by (apply ZaH; rfl; rfl; exact e1)) : G := h
theorem ZjX (c : DClock) (x : Int) (w : World) (hc : -1000000000 <= c.sec /\ c.sec <= 1000000000) (hx : -1000000000 <= x /\ x <= 1000000000) :
  Does Tryz.prog 260 [.agg c.enc.toArray, .int .i64 x] w (fun v O => v = .agg (mvC c x).enc.toArray /\ O = []) := by
 obtain ⟨s, b⟩ := c
 dsimp only at hc
 show Does _ _ [.agg #[.int .i64 s, .int .i64 b], _] w _
 unfold mvC
 dsimp only
 by_cases h : b = 1
 ·subst h
  have e1 : decide ((1 : Int) = 1) = true := rfl
  rw [if_pos rfl]
  refine Zaa Tryz.func260 rfl rfl rfl rfl ?_
  repeat (first | (apply RL_pu; rfl; exact Zyo) | (refine js ?_; (refine bx ?_; intro bk)) | refine walk1 ?_)
  exact ret_1 _ [] (.cellB rfl (by repeat' constructor) rfl rfl) .nil ⟨rfl, rfl⟩
 ·have e1 : decide (b = 1) = false := decide_eq_false h
  rw [if_neg h]
  refine Zaa Tryz.func260 rfl rfl rfl rfl ?_
  repeat (first | (apply RL_pu; rfl; exact Zyo) | (refine js ?_; (refine bx ?_; intro bk)) | refine walk1 ?_)
  exact ret_1 _ [] (.cellB rfl (by repeat' constructor) rfl rfl) .nil ⟨rfl, rfl⟩
theorem Zq4 {G : Prop} (h : G := by (apply Pu_loadO1; rfl; exact hb 0 _ rfl)) : G := h
theorem Zyd {G : Prop} (h : G := by first | (apply Qy_y; rfl; exact Zq4) | exact QyA) : G := h
theorem Zyi {G : Prop} (h : G := by repeat (first | exact QF.nil | (apply QF.mk; rfl; rfl; decide +kernel; exact Zyd))) : G := h
theorem Zrr (r : DRule) (x : Int) (b : Nat) (w : World) (hr : rulM r = true) (hx : -1000000000 <= x /\ x <= 1000000000) (hb : Zam w ⟨b, 0, none⟩ [.int .i64 x]) :
  Does Tryz.prog 264 [.agg r.enc.toArray, .pointer (some ⟨b, 0, none⟩)] w (fun v O => v = .agg (shR x r).enc.toArray /\ O = []) := by
 unfold rulM at hr
 rw [Bool.and_eq_true, ZbL, ZbL] at hr
 obtain ⟨hs, hc⟩ := hr
 have hmv := fun w' => ZjX r.at_ x w' hc hx
 obtain ⟨nm, fr, to, mo, ⟨dk, dw, dd⟩, ⟨cs, cb⟩, sv, le⟩ := r
 dsimp only at hs hc hmv
 unfold shR
 dsimp only
 generalize mvC ⟨cs, cb⟩ x = m at *
 obtain ⟨ms, mb⟩ := m
 simp only [DClock.enc] at hmv
 show Does _ _ [.agg #[.string nm, .int .i64 fr, .int .i64 to, .int .i64 mo, .int .i64 dk, .int .i64 dw, .int .i64 dd, .int .i64 cs, .int .i64 cb, .int .i64 sv, .string le], _] w _
 refine Zaa Tryz.func264 rfl rfl rfl rfl ?_
 repeat (first | (apply RL_pu; rfl; exact Zq4) | (apply RD_Q; rfl; rfl; decide +kernel; rfl; rfl; exact Zyd) | refine walk1 ?_ | (refine jg ?_; (try intro F); (first | (refine Zad (fun w' _ => hmv w') ?_) | (refine bx ?_; intro bk) | (refine stA ?_)); first | refine ⟨_, EndsA, Zyi, ?_⟩ | refine fin ?_) | (refine jn ?_; (try intro F); (first | (refine bx ?_; intro bk) | (refine stA ?_) | (apply Zag; first | exact Zq4 | exact PuA)); first | refine ⟨_, EndsA, Zyi, ?_⟩ | refine fin ?_) | (apply RD_W; rfl; intro bk))
 exact ret_1 _ [] (.cellB rfl (by repeat' constructor) rfl rfl) .nil ⟨rfl, rfl⟩
def RuV (x : Int) (v : Value) (O : List It) : Prop := ∃ b, v = .func (.func 264) #[] #[.pointer (some ⟨b, 0, none⟩)] /\ O = [.blk b [.int .i64 x] 2]
theorem Zn1 (x : Int) (w : World) : Does Tryz.prog 224 [.int .i64 x] w (RuV x) := by
 refine Zaa Tryz.func224 rfl rfl rfl rfl ?_
 repeat (first | (refine js ?_; (refine bx ?_; intro bk)) | refine walk ?_)
 exact ret_1 _ [.blk _ [.int .i64 x] 2] (.tmp rfl) SOA ⟨_, rfl, rfl⟩
theorem Zmb (r : DRule) (set : ByteArray) (b : Nat) (w : World) (hb : Zam w ⟨b, 0, none⟩ [.string set]) :
  Does Tryz.prog 220 [.agg r.enc.toArray, .pointer (some ⟨b, 0, none⟩)] w (fun v O => v = .bool (decide (r.name = set)) /\ O = []) := by
 obtain ⟨nm, fr, to, mo, ⟨dk, dw, dd⟩, ⟨cs, cb⟩, sv, le⟩ := r
 show Does _ _ [.agg #[.string nm, .int .i64 fr, .int .i64 to, .int .i64 mo, .int .i64 dk, .int .i64 dw, .int .i64 dd, .int .i64 cs, .int .i64 cb, .int .i64 sv, .string le], _] w _
 refine Zaa Tryz.func220 rfl rfl rfl rfl ?_
 repeat (first | (apply RL_pu; rfl; exact Zq4) | (refine js ?_; (refine bx ?_; intro bk)) | refine walk1 ?_)
 exact rtA
end Go.Proofs.YtbjomhdhkpgbaaaGreatDoor
