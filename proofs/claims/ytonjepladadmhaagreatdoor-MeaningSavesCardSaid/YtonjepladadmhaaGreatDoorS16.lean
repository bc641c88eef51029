/- Engine: ranges over maps. Contracts: links.zones, targets, follow; maps.Clone. Contracts: maps.Copy. Contracts: strings.Index at one byte, strings.SplitSeq, name.Zone. -/
import Derived.Maps.RangeRun
import Derived.ChangeMaps4
import Derived.Test.YtonjepladadmhaaGreatDoorS14
import Derived.Test.YtonjepladadmhaaGreatDoorS09
import Derived.Test.YtonjepladadmhaaGreatDoorS12
import Derived.Test.YtonjepladadmhaaGreatDoorS15
import Derived.Test.YtonjepladadmhaaGreatDoorS11
set_option maxHeartbeats 4000000
set_option linter.unusedVariables false
set_option linter.unusedSimpArgs false
namespace Go.Wk
open Go Go.RowKit Go.ChangeMaps
def Rng (b r : Nat) (m left : List (ByteArray × Value)) (cur : Option (ByteArray × Value)) (w : World) : Prop :=
 ∃ (es : Array MapEntry) (clock since : Nat) (seen : Array Nat) (c0 : Nat), w.heap[b]? = some (.map es clock) ∧ entriesOf m es ∧ stOk es clock ∧ (∀ x ∈ es.toList, x.born < since) ∧ since ≤ c0 ∧ since ≤ clock ∧ w.heap[r]? = some (.mapIter (some b) since seen c0) ∧ entriesOf left (leftOf es seen) ∧
  ∀ kv, cur = some kv → ∃ e ∈ es.toList, ∃ s0 : Array Nat, seen = s0.push e.born ∧ c0 = clock ∧ e.key = .string kv.1 ∧ e.val = kv.2
theorem Rng.congr {b r : Nat} {m left : List (ByteArray × Value)} {cur : Option (ByteArray × Value)} {w w' : World} (h : Rng b r m left cur w) (h1 : w'.heap[b]? = w.heap[b]?) (h2 : w'.heap[r]? = w.heap[r]?) : Rng b r m left cur w' := by
 obtain ⟨es, clock, since, seen, c0, a1, a2, a3, a4, a5, a5', a6, a7, a8⟩ := h
 exact ⟨es, clock, since, seen, c0, h1.trans a1, a2, a3, a4, a5, a5', h2.trans a6, a7, a8⟩
abbrev rng (b r : Nat) (m left : List (ByteArray × Value)) (cur : Option (ByteArray × Value)) : It := .fact (fun k => k = b ∨ k = r) (Rng b r m left cur)
theorem rng_sat {b r : Nat} {m left : List (ByteArray × Value)} {cur : Option (ByteArray × Value)} {w : World} (h : Rng b r m left cur w) : (rng b r m left cur).sat w := fun _ ha => h.congr (ha b (.inl rfl)) (ha r (.inr rfl))
theorem alloc_old (w : World) (o : Obj) (i : Nat) (h : i < w.heap.size) : (w.alloc o).heap[i]? = w.heap[i]? := by
 show (w.heap.push o)[i]? = _
 rw [Array.getElem?_push, if_neg (by omega)]
theorem left_all (es : Array MapEntry) : leftOf es #[] = es := by
 unfold leftOf
 rw [Array.filter_eq_self]
 intro x _
 simp
theorem left_push (es : Array MapEntry) (seen : Array Nat) (n : Nat) : (leftOf es (seen.push n)).toList = (leftOf es seen).toList.filter fun x => !decide (x.born = n) := by
 unfold leftOf
 rw [Array.toList_filter, Array.toList_filter, List.filter_filter]
 refine List.filter_congr fun x _ => ?_
 rw [Array.contains_push]
 cases seen.contains x.born <;> simp [beq_iff_eq, Bool.beq_eq_decide_eq, eq_comm]
theorem filter_out {LA LB : List MapEntry} {e : MapEntry} (h : ((LA ++ e :: LB).map (·.born)).Nodup) : (LA ++ e :: LB).filter (fun x => !decide (x.born = e.born)) = LA ++ LB := by
 rw [List.map_append, List.map_cons, List.nodup_append] at h
 obtain ⟨_, h2, h3⟩ := h
 rw [List.nodup_cons] at h2
 rw [List.filter_append, List.filter_cons, if_neg (by simp)]
 congr 1
 ·refine List.filter_eq_self.2 fun x hx => ?_
  have := h3 x.born (List.mem_map.2 ⟨x, hx, rfl⟩) e.born List.mem_cons_self
  simp [this]
 ·refine List.filter_eq_self.2 fun x hx => ?_
  have : x.born ≠ e.born := fun hh => h2.1 (hh ▸ List.mem_map.2 ⟨x, hx, rfl⟩)
  simp [this]
section
variable {P : Program} {n : Nat} {wr : World} {fr : Fr} {O : List It} {ty : TypeId} {pos : String} {af : Array Edge} {dst : Option Tmp} {g : Option (Nat × Bool)} {Kp : Value → List It → Prop}
theorem Stp_range {t kt et b : Nat} {x : Operand} {m : List (ByteArray × Value)} {O' : Nat → List It} [hM : MapT P t kt et] (hx : ev fr x = some (.map (some b))) (hu : ∀ r, Upd O (.mp b m) (rng b r m m none) (O' r)) (kk : ∀ r, Kp (.pointer (some ⟨r, 0, none⟩)) (O' r)) :
  Stp P n wr fr O ⟨dst, .range t x, ty, pos, af, g⟩ Kp :=
 Stp_val fun a w hs => by
  obtain ⟨es, c, h1, h2, h9⟩ := hs.own.sat _ (hu 0).mem
  have ht := MapT.parts hM.h
  have hin := hs.own.inb _ (hu 0).mem b rfl
  have hb2 : (w.alloc (.mapIter (some b) c #[] c)).heap[b]? = some (.map es c) := by
   rw [alloc_old w _ b hin.2, h1]
  refine ⟨.pointer (some ⟨w.heap.size, 0, none⟩), w.alloc (.mapIter (some b) c #[] c), O' w.heap.size, ?_, hs.old.alloc hs.old.size _, hs.own.upd (hu _) hs.old.size (by simp) (fun i hi _ => alloc_old w _ i hi) (rng_sat ?_) (fun i hi => ?_), kk _⟩
  ·simp [execOp, hs.sim.ev hx, run_range_map w t kt et b es c ht h1]
  ·exact ⟨es, c, c, #[], c, hb2, h2, h9, fun x hx => h9.2 _ (List.mem_map.2 ⟨x, hx, rfl⟩), Nat.le_refl _, Nat.le_refl _, heap_alloc_new w _, by rw [left_all]; exact h2, fun kv h => by cases h⟩
  ·rcases hi with rfl | rfl
   ·exact .inl rfl
   ·exact .inr ⟨Nat.le_refl _, by simp⟩
theorem Stp_next {b r : Nat} {x : Operand} {m left : List (ByteArray × Value)} {cur : Option (ByteArray × Value)} {O' : List (ByteArray × Value) → Option (ByteArray × Value) → List It} (hx : ev fr x = some (.pointer (some ⟨r, 0, none⟩)))
  (hu : ∀ l c, Upd O (rng b r m left cur) (rng b r m l c) (O' l c)) (k0 : left = [] → Kp (.tuple #[.bool false]) O) (k1 : ∀ A kv B, left = A ++ kv :: B → Kp (.tuple #[.bool true, .string kv.1, kv.2]) (O' (A ++ B) (some kv))) :
  Stp P n wr fr O ⟨dst, .next x false, ty, pos, af, g⟩ Kp :=
 Stp_val fun a w hs => by
  obtain ⟨es, clock, since, seen, c0, a1, a2, a3, a4, a5, a5', a6, a7, a8⟩ := fact_at (hs.own.sat _ (hu [] none).mem)
  have hin := hs.own.inb _ (hu [] none).mem r (.inr rfl)
  have hbr : b ≠ r := by
   rintro rfl
   rw [a1] at a6
   cases a6
  rcases run_next_at (P := P) w ty r b since c0 seen es clock a6 a1 a4 a5 with ⟨h1, h2⟩ | ⟨e, he, w1, hw1, h2⟩
  ·refine ⟨_, w, O, ?_, hs.old, hs.own, k0 ?_⟩
   ·simp only [execOp, hs.sim.ev hx, h2, Sem.run_bind, Result.andThen_ok, Sem.run_pure]
   ·have hl := congrArg List.length a7
    rw [List.length_map, List.length_map, Array.length_toList, h1] at hl
    exact List.eq_nil_of_length_eq_zero hl.symm
  ·obtain ⟨LA, LB, hl⟩ := List.append_of_mem he
   have hm : left.map (fun x => (Value.string x.1, x.2)) = (LA ++ e :: LB).map (fun e => (e.key, e.val)) := by rw [← hl]; exact a7.symm
   rw [List.map_append] at hm
   obtain ⟨A, R, hAR, hA, hR⟩ := List.map_eq_append_iff.1 hm
   obtain ⟨kv, B, hkv, hk1, hB⟩ := List.map_eq_cons_iff.1 hR
   subst hkv
   have hke : e.key = .string kv.1 ∧ e.val = kv.2 := by
    have h1 := congrArg Prod.fst hk1
    have h2 := congrArg Prod.snd hk1
    exact ⟨h1.symm, h2.symm⟩
   rw [hke.1, hke.2] at h2
   have hes : e ∈ es.toList := by
    unfold leftOf at he
    rw [Array.toList_filter] at he
    exact (List.mem_filter.1 he).1
   have hnd : ((leftOf es seen).toList.map (·.born)).Nodup := by
    unfold leftOf
    rw [Array.toList_filter]
    exact a3.1.sublist ((List.filter_sublist).map _)
   have hH : w1.heap = w.heap := by rcases hw1 with rfl | rfl <;> rfl
   have hb2 : (setBlock w1 r (.mapIter (some b) since (seen.push e.born) clock)).heap[b]? = some (.map es clock) := by
    show (w1.heap.setIfInBounds r _)[b]? = _
    rw [Array.getElem?_setIfInBounds_ne (Ne.symm hbr), hH, a1]
   have hr2 : (setBlock w1 r (.mapIter (some b) since (seen.push e.born) clock)).heap[r]? = some (.mapIter (some b) since (seen.push e.born) clock) := by
    show (w1.heap.setIfInBounds r _)[r]? = _
    rw [Array.getElem?_setIfInBounds, if_pos rfl, if_pos (by rw [hH]; exact hin.2)]
   have hold : ∀ i, i ≠ r → (setBlock w1 r (.mapIter (some b) since (seen.push e.born) clock)).heap[i]? = w.heap[i]? := fun i hi => by
    show (w1.heap.setIfInBounds r _)[i]? = _
    rw [Array.getElem?_setIfInBounds_ne (Ne.symm hi), hH]
   have hsz : w.heap.size ≤ (setBlock w1 r (.mapIter (some b) since (seen.push e.born) clock)).heap.size := by
    show _ ≤ (w1.heap.setIfInBounds r _).size
    rw [Array.size_setIfInBounds, hH]
    exact Nat.le_refl _
   have hbel : Bel wr.heap.size wr w1 := by
    rcases hw1 with rfl | rfl
    ·exact hs.old
    ·exact hs.old.drew
   refine ⟨_, setBlock w1 r (.mapIter (some b) since (seen.push e.born) clock), O' (A ++ B) (some kv), ?_, ?_, hs.own.upd (hu _ _) hs.old.size hsz (fun i hi hn => hold i fun hh => hn (.inr hh)) (rng_sat ?_) (fun i hi => .inl hi), k1 A kv B hAR⟩
   ·simp only [execOp, hs.sim.ev hx, h2, Sem.run_bind, Result.andThen_ok, Sem.run_pure]
   ·refine hbel.trans ⟨⟨rfl, rfl, rfl, by show _ ≤ (w1.heap.setIfInBounds r _).size; rw [Array.size_setIfInBounds]; exact Nat.le_refl _, fun i hi => ?_⟩⟩
    show (w1.heap.setIfInBounds r _)[i]? = _
    rw [Array.getElem?_setIfInBounds_ne (by omega)]
   ·refine ⟨es, clock, since, seen.push e.born, clock, hb2, a2, a3, a4, a5', a5', hr2, ?_, fun kv' hk => ?_⟩
    ·unfold entriesOf
     rw [left_push, hl, filter_out (by rw [← hl]; exact hnd), List.map_append, List.map_append, hA, hB]
    ·cases hk
     exact ⟨e, hes, seen, rfl, rfl, hke.1, hke.2⟩
theorem Pu_entry {b r : Nat} {x : Operand} {m left : List (ByteArray × Value)} {kv : ByteArray × Value} {R : List It} (hx : ev fr x = some (.pointer (some ⟨r, 0, none⟩))) (hp : Pick (rng b r m left (some kv)) O R) : Pu P n wr fr O (.entry x) ty (.tuple #[.string kv.1, kv.2]) :=
 fun a w hs _ _ _ _ => by
  obtain ⟨es, clock, since, seen, c0, a1, a2, a3, a4, a5, a5', a6, a7, a8⟩ := fact_at (hs.own.sat _ (hp.perm.mem_iff.2 List.mem_cons_self))
  obtain ⟨e, he, s0, rfl, rfl, h1, h2⟩ := a8 kv rfl
  have := run_entry_at (P := P) w r b since s0 es c0 e a6 a1 he a3.1
  simp only [execOp, hs.sim.ev hx, this, Sem.run_bind, Result.andThen_ok, Sem.run_pure, h1, h2]
theorem RL_unrng {ops : Array Oper} {rest : List Oper} {K : Fr → List It → Prop} {b r : Nat} {m left : List (ByteArray × Value)} {cur : Option (ByteArray × Value)} {O' : List It} (hu : Upd O (rng b r m left cur) (.mp b m) O') (h : RL P n wr ops rest K fr O') : RL P n wr ops rest K fr O := fun a w hs => by
 refine h a w ⟨hs.sim, hs.old, ?_⟩
 obtain ⟨es, clock, since, seen, c0, a1, a2, a3, _⟩ := fact_at (hs.own.sat _ hu.mem)
 exact hs.own.upd hu hs.old.size (Nat.le_refl _) (fun _ _ _ => rfl) ⟨es, clock, a1, a2, a3⟩ (fun i hi => .inl (.inl hi))
end
end Go.Wk
namespace Go.Proofs.YtonjepladadmhaaGreatDoor
open Go Go.RowKit Go.Wk
attribute [local irreducible] W RL Does thenQ blockQ retQ Calls Pu Stp RD Qy Ay DoesIn
theorem firstZ_snoc (x : ByteArray) (z : DZone) : ∀ (l : List DZone) (k : Nat), firstZ x (l ++ [z]) k = (firstZ x l k).or (if z.name = x then some (k + l.length) else none)
 | [], k => by simp [firstZ]
 | y :: l, k => by
  simp only [List.cons_append, firstZ, firstZ_snoc x z l]
  split
  ·rfl
  ·rw [List.length_cons, show k + 1 + l.length = k + (l.length + 1) by omega]
theorem firstL_snoc (x : ByteArray) (z : DLink) : ∀ (l : List DLink) (k : Nat), firstL x (l ++ [z]) k = (firstL x l k).or (if z.name = x then some (k + l.length) else none)
 | [], k => by simp [firstL]
 | y :: l, k => by
  simp only [List.cons_append, firstL, firstL_snoc x z l]
  split
  ·rfl
  ·rw [List.length_cons, show k + 1 + l.length = k + (l.length + 1) by omega]
theorem firstL_lt (x : ByteArray) : ∀ (l : List DLink) (k i : Nat), firstL x l k = some i → k ≤ i ∧ i < k + l.length
 | [], _, _, h => by cases h
 | z :: l, k, i, h => by
  simp only [firstL] at h
  split at h
  ·simp only [Option.some.injEq] at h; subst h; simp
  ·have := firstL_lt x l (k + 1) i h; simp only [List.length_cons]; omega
theorem firstZ_mem {z : DZone} : ∀ {l : List DZone} (k : Nat), z ∈ l → ∃ j, firstZ z.name l k = some j
 | y :: l, k, h => by
  simp only [firstZ]
  split
  ·exact ⟨_, rfl⟩
  ·rename_i hn
   rcases List.mem_cons.1 h with rfl | h
   ·exact absurd rfl hn
   ·exact firstZ_mem (k + 1) h
theorem firstL_mem {z : DLink} : ∀ {l : List DLink} (k : Nat), z ∈ l → ∃ j, firstL z.name l k = some j
 | y :: l, k, h => by
  simp only [firstL]
  split
  ·exact ⟨_, rfl⟩
  ·rename_i hn
   rcases List.mem_cons.1 h with rfl | h
   ·exact absurd rfl hn
   ·exact firstL_mem (k + 1) h
def IxM (m : List (ByteArray × Value)) (f : ByteArray → Option Nat) : Prop := ∀ x, mget m x = (f x).map fun i : Nat => Value.int .i64 (i : Int)
theorem IxM.some {m : List (ByteArray × Value)} {f : ByteArray → Option Nat} (h : IxM m f) {x : ByteArray} {i : Nat} (hf : f x = some i) : (mget m x).getD (.int .i64 0) = .int .i64 i ∧ (mget m x).isSome = true := by
 rw [h x, hf]; exact ⟨rfl, rfl⟩
theorem IxM.none {m : List (ByteArray × Value)} {f : ByteArray → Option Nat} (h : IxM m f) {x : ByteArray} (hf : f x = none) : (mget m x).getD (.int .i64 0) = .int .i64 0 ∧ (mget m x).isSome = false := by
 rw [h x, hf]; exact ⟨rfl, rfl⟩
theorem IxM.set {m : List (ByteArray × Value)} {f f' : ByteArray → Option Nat} (h : IxM m f) {k : ByteArray} {i : Nat} (hf : ∀ x, f' x = if x = k then Option.some i else f x) : IxM (mset m k (.int .i64 i)) f' := fun x => by
 rw [mget_mset, hf x]
 split
 ·rfl
 ·exact h x
def NewIx (f : ByteArray → Option Nat) (N : Nat) (v : Value) (O : List It) : Prop := ∃ b m, v = .map (some b) ∧ O = [.mp b m] ∧ IxM m f ∧ Nd m ∧ m.length ≤ N
structure LG where
 k : Nat
 mp : List (ByteArray × Value)
theorem PuLnk0 {G : Prop} (h : G := by (first | exact PuI | (apply Pu_lookupOkC; rfl; rfl; (focus repeat' constructor); exact hv0; exact hc0))) : G := h
theorem lzones_spec (Ar Az Al As : Option Addr) (cr cz cl cs : Nat) (a : DSource) (w : World) (hA : RdSource w Ar Az Al As cr cz cl cs a) (hn : a.zones.length ≤ 1000000) :
  Does Tryz.prog 86 [srcV Ar Az Al As cr cz cl cs a] w (NewIx (fun x => firstZ x a.zones 0) a.zones.length) := by
 refine Does_of_W Tryz.func86 rfl rfl rfl rfl ?_
 repeat (first | (refine js ?_; (first | (apply Stp_makeMapN; rfl; intro bk) | (refine bx ?_; intro bk))) | refine walk ?_)
 refine W_loopF [(3, .map (some bk)), (13, .slice Az a.zones.length cz), (14, .int .i64 a.zones.length)] [] (fun g : LG => [(15, .int .i64 g.k)]) (fun g => [.mp bk g.mp]) (fun g => g.k ≤ a.zones.length ∧ IxM g.mp (fun x => firstZ x (a.zones.take g.k) 0) ∧ Nd g.mp ∧ g.mp.length ≤ g.k) (fun g => a.zones.length - g.k) ⟨0, []⟩ SFA SOA ⟨Nat.zero_le _, fun x => rfl, List.nodup_nil, Nat.le_refl _⟩ ?_
 obtain ⟨bm, hbm⟩ : ∃ bm, bk = bm := ⟨_, rfl⟩
 rw [hbm]
 clear hbm bk
 rintro ⟨k, mp⟩ ⟨hk, hm, hd, hl⟩
 dsimp only at hk hm hd hl ⊢
 repeat (first | (refine js ?_; (refine bx ?_; intro bk)) | refine walk ?_)
 refine W_cond rfl (fun hc => ?_) (fun hc => ?_)
 ·simp only [decide_eq_true_eq, Int.ofNat_lt] at hc
  obtain ⟨hna, cs1, ⟨Ae, ce, _, rfl⟩, hca⟩ := hA.z k _ (List.getElem?_eq_getElem hc)
  have ht := List.take_append_getElem hc
  have hlen : (a.zones.take k).length = k := by rw [List.length_take]; omega
  generalize a.zones[k] = z at *
  have hsn := fun x => firstZ_snoc x z (a.zones.take k) 0
  rw [ht, hlen] at hsn
  cases hf : firstZ z.name (a.zones.take k) 0 with
  | none =>
   obtain ⟨hv0, hc0⟩ := hm.none hf
   repeat (first | (apply RL_pu; rfl; exact PuLnk0) | (refine js ?_; (refine bx ?_; intro bk)) | refine walk1 ?_)
   refine ⟨⟨k + 1, mset mp z.name (.int .i64 k)⟩, OA, ⟨OA, hm.set (k := z.name) (i := k) (fun x => ?_), hd.set _ _, ?_⟩, SFA, SOA⟩
   ·dsimp only
    rw [hsn x]
    by_cases e : x = z.name
    ·subst e; simp [hf]
    ·rw [if_neg e, if_neg (fun h => e h.symm), Option.or_none]
   ·have := mset_len z.name (.int .i64 (k : Int)) mp
    dsimp only
    omega
  | some j =>
   obtain ⟨hv0, hc0⟩ := hm.some hf
   repeat (first | (apply RL_pu; rfl; exact PuLnk0) | (refine js ?_; (refine bx ?_; intro bk)) | refine walk1 ?_)
   refine ⟨⟨k + 1, mp⟩, OA, ⟨OA, fun x => ?_, hd, OA⟩, SFA, SOA⟩
   dsimp only
   rw [hm x, hsn x]
   dsimp only
   by_cases e : z.name = x
   ·subst e; rw [hf]; rfl
   ·rw [if_neg e, Option.or_none]
 ·simp only [decide_eq_false_iff_not, Int.ofNat_lt] at hc
  rw [List.take_of_length_le (by omega)] at hm
  repeat (first | (refine js ?_; (refine bx ?_; intro bk)) | refine walk ?_)
  exact ret_1 _ [.mp bm mp] (.tmp rfl) SOA ⟨bm, mp, rfl, rfl, hm, hd, by omega⟩
theorem ltargets_spec (Ar Az Al As : Option Addr) (cr cz cl cs : Nat) (a : DSource) (w : World) (hA : RdSource w Ar Az Al As cr cz cl cs a) (hn : a.links.length ≤ 1000000) :
  Does Tryz.prog 88 [srcV Ar Az Al As cr cz cl cs a] w (NewIx (fun x => firstL x a.links 0) a.links.length) := by
 refine Does_of_W Tryz.func88 rfl rfl rfl rfl ?_
 repeat (first | (refine js ?_; (first | (apply Stp_makeMapN; rfl; intro bk) | (refine bx ?_; intro bk))) | refine walk ?_)
 refine W_loopF [(3, .map (some bk)), (13, .slice Al a.links.length cl), (14, .int .i64 a.links.length)] [] (fun g : LG => [(15, .int .i64 g.k)]) (fun g => [.mp bk g.mp]) (fun g => g.k ≤ a.links.length ∧ IxM g.mp (fun x => firstL x (a.links.take g.k) 0) ∧ Nd g.mp ∧ g.mp.length ≤ g.k) (fun g => a.links.length - g.k) ⟨0, []⟩ SFA SOA ⟨Nat.zero_le _, fun x => rfl, List.nodup_nil, Nat.le_refl _⟩ ?_
 obtain ⟨bm, hbm⟩ : ∃ bm, bk = bm := ⟨_, rfl⟩
 rw [hbm]
 clear hbm bk
 rintro ⟨k, mp⟩ ⟨hk, hm, hd, hl⟩
 dsimp only at hk hm hd hl ⊢
 repeat (first | (refine js ?_; (refine bx ?_; intro bk)) | refine walk ?_)
 refine W_cond rfl (fun hc => ?_) (fun hc => ?_)
 ·simp only [decide_eq_true_eq, Int.ofNat_lt] at hc
  obtain ⟨hna, hca⟩ := hA.l.rd k _ (List.getElem?_eq_getElem hc)
  have ht := List.take_append_getElem hc
  have hlen : (a.links.take k).length = k := by rw [List.length_take]; omega
  generalize a.links[k] = z at *
  have hsn := fun x => firstL_snoc x z (a.links.take k) 0
  rw [ht, hlen] at hsn
  cases hf : firstL z.name (a.links.take k) 0 with
  | none =>
   obtain ⟨hv0, hc0⟩ := hm.none hf
   repeat (first | (apply RL_pu; rfl; exact PuLnk0) | (refine js ?_; (refine bx ?_; intro bk)) | refine walk1 ?_)
   refine ⟨⟨k + 1, mset mp z.name (.int .i64 k)⟩, OA, ⟨OA, hm.set (k := z.name) (i := k) (fun x => ?_), hd.set _ _, ?_⟩, SFA, SOA⟩
   ·dsimp only
    rw [hsn x]
    by_cases e : x = z.name
    ·subst e; simp [hf]
    ·rw [if_neg e, if_neg (fun h => e h.symm), Option.or_none]
   ·have := mset_len z.name (.int .i64 (k : Int)) mp
    dsimp only
    omega
  | some j =>
   obtain ⟨hv0, hc0⟩ := hm.some hf
   repeat (first | (apply RL_pu; rfl; exact PuLnk0) | (refine js ?_; (refine bx ?_; intro bk)) | refine walk1 ?_)
   refine ⟨⟨k + 1, mp⟩, OA, ⟨OA, fun x => ?_, hd, OA⟩, SFA, SOA⟩
   dsimp only
   rw [hm x, hsn x]
   dsimp only
   by_cases e : z.name = x
   ·subst e; rw [hf]; rfl
   ·rw [if_neg e, Option.or_none]
 ·simp only [decide_eq_false_iff_not, Int.ofNat_lt] at hc
  rw [List.take_of_length_le (by omega)] at hm
  repeat (first | (refine js ?_; (refine bx ?_; intro bk)) | refine walk ?_)
  exact ret_1 _ [.mp bm mp] (.tmp rfl) SOA ⟨bm, mp, rfl, rfl, hm, hd, by omega⟩
theorem clone_is : isClone Tryz.prog 183 := fun args w => by
 rw [run_callFunc_extern Tryz.func183 (by kernel_rfl) (by kernel_rfl) (by kernel_rfl) (e := Extern.MapsClone.clone) (by kernel_rfl)]
theorem mclone_spec (b : Nat) (m : List (ByteArray × Value)) (w : World) (h : MpAt w b m) :
  Does Tryz.prog 142 [.map (some b)] w (fun v O => ∃ b2, v = .map (some b2) ∧ O = [.mp b2 m]) := by
 refine Does_of_W Tryz.func142 rfl rfl rfl rfl ?_
 repeat (first | (apply RL_pu; rfl; (first | (apply Pu_eqNilMap; rfl) | (apply Pu_ifaceMap; rfl) | (apply Pu_assertMap; rfl))) | (refine js ?_; (apply Stp_mapsClone; exact clone_is; rfl; (intro w' hw _; exact h.up hw (Nat.le_refl _)); intro bk)) | refine walk1 ?_)
 exact ret_1 _ _ (.tmp rfl) (.refl _) ⟨_, rfl, rfl⟩
structure FG where
 seen : List ByteArray
 x : ByteArray
 mp : List (ByteArray × Value)
 f : Nat
theorem memB_cons (x y : ByteArray) (l : List ByteArray) : memB x (y :: l) = (decide (y = x) || memB x l) := rfl
theorem PuLnk2 {G : Prop} (h : G := by (apply Pu_lookupOkOld; rfl; rfl; exact h1; exact hv0; exact hc0)) : G := h
theorem PuLnk3 {G : Prop} (h : G := by (first | exact PuLnk2 | (apply Pu_lookupOkOld; rfl; rfl; exact h2; exact hv1; exact hc1) | (apply Pu_lookupOkC; rfl; rfl; (focus repeat' constructor); exact hv2; exact hc2))) : G := h
theorem follow_spec (Ar Az Al As : Option Addr) (cr cz cl cs : Nat) (a : DSource) (b1 b2 : Nat) (mk ml : List (ByteArray × Value)) (name : ByteArray) (w : World) (hA : RdSource w Ar Az Al As cr cz cl cs a) (h1 : MpAt w b1 mk) (h2 : MpAt w b2 ml)
  (hk : IxM mk fun x => firstZ x a.zones 0) (hl : IxM ml fun x => firstL x a.links 0) (hd : Nd ml) (hlen : ml.length ≤ a.links.length) :
  Does Tryz.prog 91 [srcV Ar Az Al As cr cz cl cs a, .map (some b1), .map (some b2), .string name] w (fun v O => v = .tuple #[.int .i64 (followD a (a.links.length + 1) [] name).1, .int .i64 (followD a (a.links.length + 1) [] name).2] ∧ O = []) := by
 obtain ⟨res, hres⟩ : ∃ res, followD a (a.links.length + 1) [] name = res := ⟨_, rfl⟩
 rw [hres]
 refine Does_of_W Tryz.func91 rfl rfl rfl rfl ?_
 repeat (first | (refine js ?_; (first | (apply Stp_call (h := fun w' hw _ => mclone_spec b2 ml w' (h2.up hw (Nat.le_refl _))); rfl; rintro v O' ⟨bc, rfl, rfl⟩) | (refine bx ?_; intro bk))) | refine walk ?_)
 refine W_loopF [(1, .map (some b1)), (2, .map (some b2)), (4, .pointer (some ⟨bk, 0, none⟩)), (10, .map (some bc))] [.blk bk [.slice Ar a.rules.length cr, .slice Az a.zones.length cz, .slice Al a.links.length cl, .slice As a.shifts.length cs] 45] (fun g : FG => [(3, .string g.x)]) (fun g => [.mp bc g.mp])
  (fun g => Nd g.mp ∧ (∀ x, mget g.mp x = if memB x g.seen then none else mget ml x) ∧ followD a g.f g.seen g.x = res ∧ g.mp.length < g.f) (fun g => g.mp.length) ⟨[], name, ml, a.links.length + 1⟩ SFA SOA ⟨hd, fun x => rfl, hres, by dsimp only; omega⟩ ?_
 rintro ⟨seen, x, mp, f⟩ ⟨hd2, hm, hi, hf⟩
 dsimp only at hd2 hm hi hf ⊢
 obtain ⟨f, rfl⟩ : ∃ f', f = f' + 1 := ⟨f - 1, by omega⟩
 rw [followD] at hi
 cases hz : firstZ x a.zones 0 with
 | some i =>
  rw [hz] at hi
  obtain ⟨hv0, hc0⟩ := hk.some hz
  repeat (first | (apply RL_pu; rfl; exact PuLnk2) | (refine js ?_; (refine bx ?_; intro bk)) | refine walk1 ?_)
  exact ret_2 _ _ [] (.tmp rfl) (.tmp rfl) .nil ⟨by rw [← hi] <;> rfl, rfl⟩
 | none =>
  rw [hz] at hi
  obtain ⟨hv0, hc0⟩ := hk.none hz
  cases hy : firstL x a.links 0 with
  | none =>
   rw [hy] at hi
   obtain ⟨hv1, hc1⟩ := hl.none hy
   have hg : mget mp x = none := by
    rw [hm x, hl x]
    dsimp only
    rw [hy]
    split <;> rfl
   have hv2 : (mget mp x).getD (.int .i64 0) = .int .i64 0 := by rw [hg]; rfl
   have hc2 : (mget mp x).isSome = false := by rw [hg]; rfl
   repeat (first | (apply RL_pu; rfl; exact PuLnk3) | (refine js ?_; (refine bx ?_; intro bk)) | refine walk1 ?_)
   exact ret_2 _ _ [] (.tmp rfl) (.tmp rfl) .nil ⟨by rw [← hi] <;> rfl, rfl⟩
  | some i =>
   rw [hy] at hi
   dsimp only at hi
   obtain ⟨hv1, hc1⟩ := hl.some hy
   cases hs : memB x seen with
   | true =>
    rw [hs, if_pos rfl] at hi
    have hg : mget mp x = none := by rw [hm x, hs]; rfl
    have hv2 : (mget mp x).getD (.int .i64 0) = .int .i64 0 := by rw [hg]; rfl
    have hc2 : (mget mp x).isSome = false := by rw [hg]; rfl
    repeat (first | (apply RL_pu; rfl; exact PuLnk3) | (refine js ?_; (refine bx ?_; intro bk)) | refine walk1 ?_)
    exact ret_2 _ _ [] (.tmp rfl) (.tmp rfl) .nil ⟨by rw [← hi] <;> rfl, rfl⟩
   | false =>
    rw [hs, if_neg (by decide)] at hi
    have hg : mget mp x = some (.int .i64 i) := by rw [hm x, hs, hl x]; dsimp only; rw [hy]; rfl
    have hv2 : (mget mp x).getD (.int .i64 0) = .int .i64 i := by rw [hg]; rfl
    have hc2 : (mget mp x).isSome = true := by rw [hg]; rfl
    have hdl := mdel_len x hc2
    have hlt : i < a.links.length := by have := firstL_lt x a.links 0 i hy; omega
    obtain ⟨hna, hca⟩ := hA.l.rd i _ (List.getElem?_eq_getElem hlt)
    rw [List.getElem?_eq_getElem hlt] at hi
    generalize a.links[i] = lk at *
    simp only [Option.map_some, Option.getD_some] at hi
    repeat (first | (apply RL_pu; rfl; (first | exact PuLnk3 | exact PuI)) | (refine js ?_; (first | (apply Stp_delete; rfl; rfl; (focus repeat' constructor)) | (refine bx ?_; intro bk))) | refine walk1 ?_)
    refine ⟨⟨x :: seen, lk.target, mdel mp x, f⟩, OA, ⟨hd2.del _, fun y => ?_, hi, OA⟩, SFA, SOA⟩
    dsimp only
    rw [mget_mdel x y hd2, hm y, memB_cons]
    by_cases e : x = y
    ·subst e; simp
    ·rw [if_neg (fun h => e h.symm), show decide (x = y) = false from decide_eq_false e, Bool.false_or]
def msets (m : List (ByteArray × Value)) : List (ByteArray × Value) → List (ByteArray × Value)
 | [] => m
 | e :: l => msets (mset m e.1 e.2) l
theorem msets_app (m a b : List (ByteArray × Value)) : msets m (a ++ b) = msets (msets m a) b := by
 induction a generalizing m with
 | nil => rfl
 | cons e a ih => rw [List.cons_append, msets, msets, ih]
structure MRG where
 left : List (ByteArray × Value)
 cur : Option (ByteArray × Value)
 done : List (ByteArray × Value)
set_option maxHeartbeats 2000000 in
theorem mcopy_spec (b1 b2 : Nat) (m1 m2 : List (ByteArray × Value)) (wr : World) :
  DoesIn Tryz.prog 87 [.map (some b1), .map (some b2)] wr [.mp b1 m1, .mp b2 m2] (fun v O => v = .tuple #[] ∧ ∃ l, l.Perm m2 ∧ O = [.mp b1 (msets m1 l), .mp b2 m2]) := by
 refine DoesIn_of_W Tryz.func87 rfl rfl rfl rfl ?_
 repeat (first | (refine js ?_; (apply Stp_range; rfl; (intro r; (focus repeat' constructor)); intro r)) | refine walk ?_)
 refine W_loopF [(0, .map (some b1)), (7, .pointer (some ⟨r, 0, none⟩))] [] (fun _ : MRG => []) (fun g => [.mp b1 (msets m1 g.done), rng b2 r m2 g.left g.cur]) (fun g => (g.done ++ g.left).Perm m2) (fun g => g.left.length) ⟨m2, none, []⟩ SFA SOA (List.Perm.refl _) ?_
 rintro ⟨left, cur, dn⟩ hp
 dsimp only at hp ⊢
 apply W_seq
 apply W_region
 apply RL_st
 rfl
 refine Stp_next (O' := fun l c => [.mp b1 (msets m1 dn), rng b2 r m2 l c]) rfl (fun l c => .there .here) (fun h0 => ?_) (fun A kv B hl => ?_)
 ·subst h0
  rw [List.append_nil] at hp
  refine RL_unrng (O' := [.mp b1 (msets m1 dn), .mp b2 m2]) (.there .here) ?_
  repeat (first | refine walk ?_)
  exact ret_0 _ (.refl _) ⟨rfl, dn, hp, rfl⟩
 ·obtain ⟨k, v⟩ := kv
  subst hl
  repeat (first | (apply RL_pu; rfl; (apply Pu_entry; rfl; (focus repeat' constructor))) | refine walk1 ?_)
  refine ⟨⟨A ++ B, some (k, v), dn ++ [(k, v)]⟩, by simp, ?_, SFA, ?_⟩
  ·exact (show ((dn ++ [(k, v)]) ++ (A ++ B)).Perm m2 by rw [List.append_assoc]; exact (List.Perm.append_left dn (List.perm_middle (a := (k, v)) (l₁ := A) (l₂ := B)).symm).trans hp)
  ·rw [msets_app]
   exact SOA
end Go.Proofs.YtonjepladadmhaaGreatDoor
namespace Go.Wk
open Go Go.RowKit
def cutI (l : List UInt8) : Option Nat := l.findIdx? (· == 47)
theorem cutSl_acc : ∀ (l acc : List UInt8), cutSl l acc = match cutI l with | none => [acc ++ l] | some i => (acc ++ l.take i) :: cutSl (l.drop (i + 1)) []
 | [], acc => by simp [cutSl, cutI]
 | c :: l, acc => by
  rw [cutSl]
  by_cases h : c = 47
  ·subst h
   simp [cutI, List.findIdx?_cons]
  ·rw [if_neg h, cutSl_acc l]
   have hb : (c == 47) = false := by simpa using h
   simp only [cutI, List.findIdx?_cons, hb]
   cases h2 : l.findIdx? (· == 47) with
   | none => simp
   | some i => simp
theorem cutI_lt {l : List UInt8} {i : Nat} (h : cutI l = some i) : i < l.length := (List.findIdx?_eq_some_iff_findIdx_eq.1 h).1
theorem firstIdx_cut (s : ByteArray) : firstIdx s 47 = match cutI s.data.toList with | none => -1 | some i => (i : Int) := by
 unfold firstIdx cutI
 have hsz : s.size = s.data.toList.length := rfl
 have key : ∀ (l : List UInt8) (f : Nat → UInt8), (∀ i, i < l.length → f i = l.getD i 0) → (List.range l.length).find? (fun i => f i == 47) = l.findIdx? (· == 47) := by
  intro l
  induction l with
  | nil => intro f _; rfl
  | cons c l ih =>
   intro f hf
   rw [List.length_cons, List.range_succ_eq_map, List.find?_cons, List.findIdx?_cons]
   have h0 : f 0 = c := by rw [hf 0 (by simp)]; rfl
   rw [h0]
   cases hc : c == 47 with
   | true => rfl
   | false =>
    rw [List.find?_map]
    have := ih (fun i => f (i + 1)) (fun i hi => by rw [hf (i + 1) (by simp; omega)]; rfl)
    simp only [Function.comp_def] at this ⊢
    rw [show (fun x : Nat => f (Nat.succ x) == 47) = fun i => f (i + 1) == 47 from rfl, this]
    cases l.findIdx? (· == 47) <;> rfl
 have hk := key s.data.toList (fun i => s[i]!) (fun i hi => by
  have : i < s.size := hi
  rw [List.getD_eq_getElem?_getD, List.getElem?_eq_getElem hi]
  simp [getElem!_def, this]
  rfl)
 rw [hsz]
 rw [hk]
 cases s.data.toList.findIdx? (· == 47) <;> rfl
end Go.Wk
namespace Go.Proofs.YtonjepladadmhaaGreatDoor
open Go Go.RowKit Go.Wk
attribute [local irreducible] W RL Does thenQ blockQ retQ Calls Pu Stp RD Qy Ay DoesIn
theorem ixb_run (args : Array Value) (w : World) : (callFunc 249 args).run Tryz.prog w = ((Extern.BytealgIndexByte.indexByte args).run Tryz.prog w).andThen fun v w' => .ok (.value v) w' := by
 rw [run_callFunc_extern Tryz.func249 (by kernel_rfl) (by kernel_rfl) (by kernel_rfl) (e := Extern.BytealgIndexByte.indexByte) (by kernel_rfl)]
section
variable {n : Nat} {wr : World} {fr : Fr} {O : List It} {ty : TypeId} {pos : String} {af : Array Edge} {dst : Option Tmp} {g : Option (Nat × Bool)} {Kp : Value → List It → Prop}
theorem Stp_ixb {x y : Operand} {ts : Array TypeId} {s : ByteArray} {c : Int} (hx : ev fr x = some (.string s)) (hy : ev fr y = some (.int .u8 c)) (kk : Kp (.int .i64 (firstIdx s c.toNat.toUInt8)) O) :
  Stp Tryz.prog n wr fr O ⟨dst, .call ⟨.value (.func 249), #[x, y], ts⟩, ty, pos, af, g⟩ Kp :=
 Stp_val fun a w hs => by
  refine ⟨_, w, O, ?_, hs.old, hs.own, kk⟩
  have h1 := hs.sim.ev hx
  have h2 := hs.sim.ev hy
  have he : a.eval (.func 249) = .func (.func 249) #[] #[] := rfl
  have hc := ixb_run #[.string s, .int .u8 c] w
  rw [run_indexByte_string, Result.andThen_ok] at hc
  simp [execOp, resolve, he, Deferred.ofValue, invoke, hc, h1, h2]
end
theorem ixB_spec (s : ByteArray) (c : Int) (w : World) : Does Tryz.prog 237 [.string s, .int .u8 c] w (fun v O => v = .int .i64 (firstIdx s c.toNat.toUInt8) ∧ O = []) := by
 refine Does_of_W Tryz.func237 rfl rfl rfl rfl ?_
 repeat (first | (refine js ?_; (apply Stp_ixb; rfl; rfl)) | refine walk ?_)
 exact rtA
theorem firstIdx_one (s : ByteArray) (c : UInt8) (h : (⟨#[c]⟩ : ByteArray) = s) : firstIdx s c = 0 := by
 subst h
 have hs : (⟨#[c]⟩ : ByteArray).size = 1 := rfl
 unfold firstIdx
 rw [hs]
 have : (⟨#[c]⟩ : ByteArray)[0]! = c := rfl
 simp [List.range_succ, this]
theorem PuZone0 {G : Prop} (h : G := by (apply Pu_eqlSB; rfl; rfl; exact hb)) : G := h
theorem ix1_spec (s : ByteArray) (c : UInt8) (w : World) : Does Tryz.prog 223 [.string s, .string ⟨#[c]⟩] w (fun v O => v = .int .i64 (firstIdx s c) ∧ O = []) := by
 have hu : ((c.toNat : Int)).toNat.toUInt8 = c := by simp
 have hi := fun w' => ixB_spec s (c.toNat : Int) w'
 rw [hu] at hi
 have hsz : (0 : Int) < ((⟨#[c]⟩ : ByteArray).size : Int) := show (0 : Int) < 1 by decide
 by_cases he : (⟨#[c]⟩ : ByteArray) = s
 ·have hb : decide ((⟨#[c]⟩ : ByteArray) = s) = true := decide_eq_true he
  have h0 := firstIdx_one s c he
  refine Does_of_W Tryz.func223 rfl rfl rfl rfl ?_
  repeat (first | (apply RL_pu; rfl; exact PuZone0) | refine walk1 ?_)
  exact ret_1 _ [] (.tmp rfl) .nil ⟨by rw [h0], rfl⟩
 ·have hb : decide ((⟨#[c]⟩ : ByteArray) = s) = false := decide_eq_false he
  refine Does_of_W Tryz.func223 rfl rfl rfl rfl ?_
  repeat (first | (apply RL_pu; rfl; (first | exact PuZone0 | (apply Pu_indexS; rfl; rfl; decide; exact hsz))) | (refine js ?_; (refine callE (fun w' _ => hi w') ?_)) | refine walk1 ?_)
  exact rtA
theorem index1_spec (s : ByteArray) (c : UInt8) (w : World) : Does Tryz.prog 234 [.string s, .string ⟨#[c]⟩] w (fun v O => v = .int .i64 (firstIdx s c) ∧ O = []) := by
 have hi := fun w' => ix1_spec s c w'
 refine Does_of_W Tryz.func234 rfl rfl rfl rfl ?_
 repeat (first | (refine js ?_; (refine callE (fun w' _ => hi w') ?_)) | refine walk ?_)
 exact rtA
def itO (b1 b2 b3 : Nat) (s p : ByteArray) : List It := [.blk b1 [.string s] 9, .blk b2 [.string p] 9, .blk b3 [.int .i64 0] 3]
def itV (b1 b2 b3 : Nat) : Value := .func (.func 232) #[] #[.pointer (some ⟨b2, 0, none⟩), .pointer (some ⟨b1, 0, none⟩), .pointer (some ⟨b3, 0, none⟩)]
theorem splitSeq_spec (s p : ByteArray) (w : World) : Does Tryz.prog 221 [.string s, .string p, .int .i64 0] w (fun v O => ∃ b1 b2 b3, v = itV b1 b2 b3 ∧ O = itO b1 b2 b3 s p) := by
 refine Does_of_W Tryz.func221 rfl rfl rfl rfl ?_
 apply W_seq
 apply W_region
 apply RL_st; rfl; (apply Stp_boxNf; rfl; (focus repeat (first | exact Nf.nil | apply Nf.cons)); intro b1)
 apply RL_st; rfl; (apply Stp_boxNf; rfl; (focus repeat (first | exact Nf.nil | apply Nf.cons)); intro b2)
 apply RL_st; rfl; (apply Stp_boxNf; rfl; (focus repeat (first | exact Nf.nil | apply Nf.cons)); intro b3)
 repeat (first | (refine js ?_; (refine bx ?_; intro bk)) | refine walk ?_)
 exact ret_1 _ (itO b1 b2 b3 s p) (.tmp rfl) SOA ⟨b1, b2, b3, rfl, rfl⟩
theorem SplitSeq_spec (s p : ByteArray) (w : World) : Does Tryz.prog 200 [.string s, .string p] w (fun v O => ∃ b1 b2 b3, v = itV b1 b2 b3 ∧ O = itO b1 b2 b3 s p) := by
 have hi := fun w' => splitSeq_spec s p w'
 refine Does_of_W Tryz.func200 rfl rfl rfl rfl ?_
 repeat (first | (refine js ?_; (apply Stp_call (h := fun w' _ _ => hi w'); rfl; rintro v O' ⟨b1, b2, b3, rfl, rfl⟩)) | refine walk ?_)
 exact ret_1 _ (itO b1 b2 b3 s p) (.tmp rfl) SOA ⟨b1, b2, b3, rfl, rfl⟩
end Go.Proofs.YtonjepladadmhaaGreatDoor
