/- Parts of the proof. -/
import Derived.Test.YtpcpmndldgejiaaGreatDoorV16
import Derived.Test.YtpcpmndldgejiaaGreatDoorV12
import Derived.Test.YtpcpmndldgejiaaGreatDoorV06
import Derived.Test.YtpcpmndldgejiaaGreatDoorV13
set_option maxHeartbeats 4000000
set_option linter.unusedVariables false
set_option linter.unusedSimpArgs false
namespace Go.Proofs.YtpcpmndldgejiaaGreatDoor
open Go Go.RowKit Go.Wk
attribute [local irreducible] W RL Does Zat Zak retQ Calls Pu Stp RD Qy Ay Zam
theorem firstZ_snoc (x : ByteArray) (z : ZaN) : ∀ (l : List ZaN) (k : Nat), Zaw x (l ++ [z]) k = (Zaw x l k).or (if z.name = x then some (k + l.length) else none)
 | [], k => by simp [Zaw]
 | y :: l, k => by
  simp only [List.cons_append, Zaw, firstZ_snoc x z l]
  split
  ·rfl
  ·rw [List.length_cons, show k + 1 + l.length = k + (l.length + 1) by omega]
theorem firstL_snoc (x : ByteArray) (z : ZaC) : ∀ (l : List ZaC) (k : Nat), Zaz x (l ++ [z]) k = (Zaz x l k).or (if z.name = x then some (k + l.length) else none)
 | [], k => by simp [Zaz]
 | y :: l, k => by
  simp only [List.cons_append, Zaz, firstL_snoc x z l]
  split
  ·rfl
  ·rw [List.length_cons, show k + 1 + l.length = k + (l.length + 1) by omega]
theorem firstL_lt (x : ByteArray) : ∀ (l : List ZaC) (k i : Nat), Zaz x l k = some i → k ≤ i ∧ i < k + l.length
 | [], _, _, h => by cases h
 | z :: l, k, i, h => by
  simp only [Zaz] at h
  split at h
  ·simp only [Option.some.injEq] at h; subst h; simp
  ·have := firstL_lt x l (k + 1) i h; simp only [List.length_cons]; omega
theorem firstZ_mem {z : ZaN} : ∀ {l : List ZaN} (k : Nat), z ∈ l → ∃ j, Zaw z.name l k = some j
 | y :: l, k, h => by
  simp only [Zaw]
  split
  ·exact ⟨_, rfl⟩
  ·rename_i hn
   rcases List.mem_cons.1 h with rfl | h
   ·exact absurd rfl hn
   ·exact firstZ_mem (k + 1) h
theorem firstL_mem {z : ZaC} : ∀ {l : List ZaC} (k : Nat), z ∈ l → ∃ j, Zaz z.name l k = some j
 | y :: l, k, h => by
  simp only [Zaz]
  split
  ·exact ⟨_, rfl⟩
  ·rename_i hn
   rcases List.mem_cons.1 h with rfl | h
   ·exact absurd rfl hn
   ·exact firstL_mem (k + 1) h
def IxM (m : List (ByteArray × Value)) (f : ByteArray → Option Nat) : Prop := ∀ x, mget m x = (f x).map fun i : Nat => Value.int .i64 (i : Int)
theorem IxM.some {m : List (ByteArray × Value)} {f : ByteArray → Option Nat} (h : IxM m f) {x : ByteArray} {i : Nat} (hf : f x = some i) : (mget m x).getD (.int .i64 0) = .int .i64 i ∧ (mget m x).isSome = true := by
 rw [h x, hf]; exact ⟨rfl, rfl⟩
theorem IxM.none {m : List (ByteArray × Value)} {f : ByteArray → Option Nat} (h : IxM m f) {x : ByteArray} (hf : f x = none) : (mget m x).getD (.int .i64 0) = .int .i64 0 ∧ (mget m x).isSome = false := by
 rw [h x, hf]; exact ⟨rfl, rfl⟩
theorem IxM.set {m : List (ByteArray × Value)} {f f' : ByteArray → Option Nat} (h : IxM m f) {k : ByteArray} {i : Nat} (hf : ∀ x, f' x = if x = k then Option.some i else f x) : IxM (mset m k (.int .i64 i)) f' := fun x => by
 rw [Zcz, hf x]
 split
 ·rfl
 ·exact h x
def NewIx (f : ByteArray → Option Nat) (N : Nat) (v : Value) (O : List It) : Prop := ∃ b m, v = .map (some b) ∧ O = [.mp b m] ∧ IxM m f ∧ Nd m ∧ m.length ≤ N
structure LG where
 k : Nat
 mp : List (ByteArray × Value)
theorem PuLnk0 {G : Prop} (h : G := by (first | exact PuI | (apply Zbk; rfl; rfl; (focus repeat' constructor); exact hv0; exact hc0))) : G := h
theorem lzones_spec (Ar Az Al As : Option Addr) (cr cz cl cs : Nat) (a : Zaf) (w : World) (hA : Zao w Ar Az Al As cr cz cl cs a) (hn : a.zones.length ≤ 1000000) :
  Does Tryz.prog 50 [srcV Ar Az Al As cr cz cl cs a] w (NewIx (fun x => Zaw x a.zones 0) a.zones.length) := by
 refine Zab Tryz.func50 rfl rfl rfl rfl ?_
 repeat (first | (refine js ?_; (first | (apply Stp_makeMapN; rfl; intro bk) | (refine bx ?_; intro bk))) | refine walk ?_)
 refine Zal [(3, .map (some bk)), (13, .slice Az a.zones.length cz), (14, .int .i64 a.zones.length)] [] (fun g : LG => [(15, .int .i64 g.k)]) (fun g => [.mp bk g.mp]) (fun g => g.k ≤ a.zones.length ∧ IxM g.mp (fun x => Zaw x (a.zones.take g.k) 0) ∧ Nd g.mp ∧ g.mp.length ≤ g.k) (fun g => a.zones.length - g.k) ⟨0, []⟩ SFA SOA ⟨Nat.zero_le _, fun x => rfl, List.nodup_nil, Nat.le_refl _⟩ ?_
 obtain ⟨bm, hbm⟩ : ∃ bm, bk = bm := ⟨_, rfl⟩
 rw [hbm]
 clear hbm bk
 rintro ⟨k, mp⟩ ⟨hk, hm, hd, hl⟩
 dsimp only at hk hm hd hl ⊢
 repeat (first | (refine js ?_; (refine bx ?_; intro bk)) | refine walk ?_)
 refine Zag rfl (fun hc => ?_) (fun hc => ?_)
 ·simp only [decide_eq_true_eq, Int.ofNat_lt] at hc
  obtain ⟨hna, cs1, ⟨Ae, ce, _, rfl⟩, hca⟩ := hA.z k _ (List.getElem?_eq_getElem hc)
  have ht := List.take_append_getElem hc
  have hlen : (a.zones.take k).length = k := by rw [List.length_take]; omega
  generalize a.zones[k] = z at *
  have hsn := fun x => firstZ_snoc x z (a.zones.take k) 0
  rw [ht, hlen] at hsn
  cases hf : Zaw z.name (a.zones.take k) 0 with
  | none =>
   obtain ⟨hv0, hc0⟩ := hm.none hf
   repeat (first | (apply RL_pu; rfl; exact PuLnk0) | (refine js ?_; (refine bx ?_; intro bk)) | refine walk1 ?_)
   refine ⟨⟨k + 1, mset mp z.name (.int .i64 k)⟩, OA, ⟨OA, hm.set (k := z.name) (i := k) (fun x => ?_), hd.set _ _, ?_⟩, SFA, SOA⟩
   ·dsimp only
    rw [hsn x]
    by_cases e : x = z.name
    ·subst e; simp [hf]
    ·rw [if_neg e, if_neg (fun h => e h.symm), Option.or_none]
   ·have := mset_len z.name (.int .i64 (k : Int)) mp
    dsimp only
    omega
  | some j =>
   obtain ⟨hv0, hc0⟩ := hm.some hf
   repeat (first | (apply RL_pu; rfl; exact PuLnk0) | (refine js ?_; (refine bx ?_; intro bk)) | refine walk1 ?_)
   refine ⟨⟨k + 1, mp⟩, OA, ⟨OA, fun x => ?_, hd, OA⟩, SFA, SOA⟩
   dsimp only
   rw [hm x, hsn x]
   dsimp only
   by_cases e : z.name = x
   ·subst e; rw [hf]; rfl
   ·rw [if_neg e, Option.or_none]
 ·simp only [decide_eq_false_iff_not, Int.ofNat_lt] at hc
  rw [List.take_of_length_le (by omega)] at hm
  repeat (first | (refine js ?_; (refine bx ?_; intro bk)) | refine walk ?_)
  exact ret_1 _ [.mp bm mp] (.tmp rfl) SOA ⟨bm, mp, rfl, rfl, hm, hd, by omega⟩
theorem ZdU (Ar Az Al As : Option Addr) (cr cz cl cs : Nat) (a : Zaf) (w : World) (hA : Zao w Ar Az Al As cr cz cl cs a) (hn : a.links.length ≤ 1000000) :
  Does Tryz.prog 52 [srcV Ar Az Al As cr cz cl cs a] w (NewIx (fun x => Zaz x a.links 0) a.links.length) := by
 refine Zab Tryz.func52 rfl rfl rfl rfl ?_
 repeat (first | (refine js ?_; (first | (apply Stp_makeMapN; rfl; intro bk) | (refine bx ?_; intro bk))) | refine walk ?_)
 refine Zal [(3, .map (some bk)), (13, .slice Al a.links.length cl), (14, .int .i64 a.links.length)] [] (fun g : LG => [(15, .int .i64 g.k)]) (fun g => [.mp bk g.mp]) (fun g => g.k ≤ a.links.length ∧ IxM g.mp (fun x => Zaz x (a.links.take g.k) 0) ∧ Nd g.mp ∧ g.mp.length ≤ g.k) (fun g => a.links.length - g.k) ⟨0, []⟩ SFA SOA ⟨Nat.zero_le _, fun x => rfl, List.nodup_nil, Nat.le_refl _⟩ ?_
 obtain ⟨bm, hbm⟩ : ∃ bm, bk = bm := ⟨_, rfl⟩
 rw [hbm]
 clear hbm bk
 rintro ⟨k, mp⟩ ⟨hk, hm, hd, hl⟩
 dsimp only at hk hm hd hl ⊢
 repeat (first | (refine js ?_; (refine bx ?_; intro bk)) | refine walk ?_)
 refine Zag rfl (fun hc => ?_) (fun hc => ?_)
 ·simp only [decide_eq_true_eq, Int.ofNat_lt] at hc
  obtain ⟨hna, hca⟩ := hA.l.rd k _ (List.getElem?_eq_getElem hc)
  have ht := List.take_append_getElem hc
  have hlen : (a.links.take k).length = k := by rw [List.length_take]; omega
  generalize a.links[k] = z at *
  have hsn := fun x => firstL_snoc x z (a.links.take k) 0
  rw [ht, hlen] at hsn
  cases hf : Zaz z.name (a.links.take k) 0 with
  | none =>
   obtain ⟨hv0, hc0⟩ := hm.none hf
   repeat (first | (apply RL_pu; rfl; exact PuLnk0) | (refine js ?_; (refine bx ?_; intro bk)) | refine walk1 ?_)
   refine ⟨⟨k + 1, mset mp z.name (.int .i64 k)⟩, OA, ⟨OA, hm.set (k := z.name) (i := k) (fun x => ?_), hd.set _ _, ?_⟩, SFA, SOA⟩
   ·dsimp only
    rw [hsn x]
    by_cases e : x = z.name
    ·subst e; simp [hf]
    ·rw [if_neg e, if_neg (fun h => e h.symm), Option.or_none]
   ·have := mset_len z.name (.int .i64 (k : Int)) mp
    dsimp only
    omega
  | some j =>
   obtain ⟨hv0, hc0⟩ := hm.some hf
   repeat (first | (apply RL_pu; rfl; exact PuLnk0) | (refine js ?_; (refine bx ?_; intro bk)) | refine walk1 ?_)
   refine ⟨⟨k + 1, mp⟩, OA, ⟨OA, fun x => ?_, hd, OA⟩, SFA, SOA⟩
   dsimp only
   rw [hm x, hsn x]
   dsimp only
   by_cases e : z.name = x
   ·subst e; rw [hf]; rfl
   ·rw [if_neg e, Option.or_none]
 ·simp only [decide_eq_false_iff_not, Int.ofNat_lt] at hc
  rw [List.take_of_length_le (by omega)] at hm
  repeat (first | (refine js ?_; (refine bx ?_; intro bk)) | refine walk ?_)
  exact ret_1 _ [.mp bm mp] (.tmp rfl) SOA ⟨bm, mp, rfl, rfl, hm, hd, by omega⟩
theorem clone_is : isClone Tryz.prog 188 := fun args w => by
 rw [run_callFunc_extern Tryz.func188 (by kernel_rfl) (by kernel_rfl) (by kernel_rfl) (e := Extern.MapsClone.clone) (by kernel_rfl)]
theorem mclone_spec (b : Nat) (m : List (ByteArray × Value)) (w : World) (h : MpAt w b m) :
  Does Tryz.prog 142 [.map (some b)] w (fun v O => ∃ b2, v = .map (some b2) ∧ O = [.mp b2 m]) := by
 refine Zab Tryz.func142 rfl rfl rfl rfl ?_
 repeat (first | (apply RL_pu; rfl; (first | (apply Pu_eqNilMap; rfl) | (apply Pu_ifaceMap; rfl) | (apply Pu_assertMap; rfl))) | (refine js ?_; (apply Stp_mapsClone; exact clone_is; rfl; (intro w' hw _; exact h.up hw (Nat.le_refl _)); intro bk)) | refine walk1 ?_)
 exact ret_1 _ _ (.tmp rfl) (.refl _) ⟨_, rfl, rfl⟩
structure FG where
 seen : List ByteArray
 x : ByteArray
 mp : List (ByteArray × Value)
 f : Nat
theorem memB_cons (x y : ByteArray) (l : List ByteArray) : memB x (y :: l) = (decide (y = x) || memB x l) := rfl
theorem PuLnk2 {G : Prop} (h : G := by (apply Pu_lookupOkOld; rfl; rfl; exact h1; exact hv0; exact hc0)) : G := h
theorem PuLnk3 {G : Prop} (h : G := by (first | exact PuLnk2 | (apply Pu_lookupOkOld; rfl; rfl; exact h2; exact hv1; exact hc1) | (apply Zbk; rfl; rfl; (focus repeat' constructor); exact hv2; exact hc2))) : G := h
theorem follow_spec (Ar Az Al As : Option Addr) (cr cz cl cs : Nat) (a : Zaf) (b1 b2 : Nat) (mk ml : List (ByteArray × Value)) (name : ByteArray) (w : World) (hA : Zao w Ar Az Al As cr cz cl cs a) (h1 : MpAt w b1 mk) (h2 : MpAt w b2 ml)
  (hk : IxM mk fun x => Zaw x a.zones 0) (hl : IxM ml fun x => Zaz x a.links 0) (hd : Nd ml) (hlen : ml.length ≤ a.links.length) :
  Does Tryz.prog 102 [srcV Ar Az Al As cr cz cl cs a, .map (some b1), .map (some b2), .string name] w (fun v O => v = .tuple #[.int .i64 (Zar a (a.links.length + 1) [] name).1, .int .i64 (Zar a (a.links.length + 1) [] name).2] ∧ O = []) := by
 obtain ⟨res, hres⟩ : ∃ res, Zar a (a.links.length + 1) [] name = res := ⟨_, rfl⟩
 rw [hres]
 refine Zab Tryz.func102 rfl rfl rfl rfl ?_
 repeat (first | (refine js ?_; (first | (apply Zah (h := fun w' hw _ => mclone_spec b2 ml w' (h2.up hw (Nat.le_refl _))); rfl; rintro v O' ⟨bc, rfl, rfl⟩) | (refine bx ?_; intro bk))) | refine walk ?_)
 refine Zal [(1, .map (some b1)), (2, .map (some b2)), (4, .pointer (some ⟨bk, 0, none⟩)), (10, .map (some bc))] [.blk bk [.slice Ar a.rules.length cr, .slice Az a.zones.length cz, .slice Al a.links.length cl, .slice As a.shifts.length cs] 34] (fun g : FG => [(3, .string g.x)]) (fun g => [.mp bc g.mp])
  (fun g => Nd g.mp ∧ (∀ x, mget g.mp x = if memB x g.seen then none else mget ml x) ∧ Zar a g.f g.seen g.x = res ∧ g.mp.length < g.f) (fun g => g.mp.length) ⟨[], name, ml, a.links.length + 1⟩ SFA SOA ⟨hd, fun x => rfl, hres, by dsimp only; omega⟩ ?_
 rintro ⟨seen, x, mp, f⟩ ⟨hd2, hm, hi, hf⟩
 dsimp only at hd2 hm hi hf ⊢
 obtain ⟨f, rfl⟩ : ∃ f', f = f' + 1 := ⟨f - 1, by omega⟩
 rw [Zar] at hi
 cases hz : Zaw x a.zones 0 with
 | some i =>
  rw [hz] at hi
  obtain ⟨hv0, hc0⟩ := hk.some hz
  repeat (first | (apply RL_pu; rfl; exact PuLnk2) | (refine js ?_; (refine bx ?_; intro bk)) | refine walk1 ?_)
  exact ret_2 _ _ [] (.tmp rfl) (.tmp rfl) .nil ⟨by rw [← hi] <;> rfl, rfl⟩
 | none =>
  rw [hz] at hi
  obtain ⟨hv0, hc0⟩ := hk.none hz
  cases hy : Zaz x a.links 0 with
  | none =>
   rw [hy] at hi
   obtain ⟨hv1, hc1⟩ := hl.none hy
   have hg : mget mp x = none := by
    rw [hm x, hl x]
    dsimp only
    rw [hy]
    split <;> rfl
   have hv2 : (mget mp x).getD (.int .i64 0) = .int .i64 0 := by rw [hg]; rfl
   have hc2 : (mget mp x).isSome = false := by rw [hg]; rfl
   repeat (first | (apply RL_pu; rfl; exact PuLnk3) | (refine js ?_; (refine bx ?_; intro bk)) | refine walk1 ?_)
   exact ret_2 _ _ [] (.tmp rfl) (.tmp rfl) .nil ⟨by rw [← hi] <;> rfl, rfl⟩
  | some i =>
   rw [hy] at hi
   dsimp only at hi
   obtain ⟨hv1, hc1⟩ := hl.some hy
   cases hs : memB x seen with
   | true =>
    rw [hs, if_pos rfl] at hi
    have hg : mget mp x = none := by rw [hm x, hs]; rfl
    have hv2 : (mget mp x).getD (.int .i64 0) = .int .i64 0 := by rw [hg]; rfl
    have hc2 : (mget mp x).isSome = false := by rw [hg]; rfl
    repeat (first | (apply RL_pu; rfl; exact PuLnk3) | (refine js ?_; (refine bx ?_; intro bk)) | refine walk1 ?_)
    exact ret_2 _ _ [] (.tmp rfl) (.tmp rfl) .nil ⟨by rw [← hi] <;> rfl, rfl⟩
   | false =>
    rw [hs, if_neg (by decide)] at hi
    have hg : mget mp x = some (.int .i64 i) := by rw [hm x, hs, hl x]; dsimp only; rw [hy]; rfl
    have hv2 : (mget mp x).getD (.int .i64 0) = .int .i64 i := by rw [hg]; rfl
    have hc2 : (mget mp x).isSome = true := by rw [hg]; rfl
    have hdl := mdel_len x hc2
    have hlt : i < a.links.length := by have := firstL_lt x a.links 0 i hy; omega
    obtain ⟨hna, hca⟩ := hA.l.rd i _ (List.getElem?_eq_getElem hlt)
    rw [List.getElem?_eq_getElem hlt] at hi
    generalize a.links[i] = lk at *
    simp only [Option.map_some, Option.getD_some] at hi
    repeat (first | (apply RL_pu; rfl; (first | exact PuLnk3 | exact PuI)) | (refine js ?_; (first | (apply Stp_delete; rfl; rfl; (focus repeat' constructor)) | (refine bx ?_; intro bk))) | refine walk1 ?_)
    refine ⟨⟨x :: seen, lk.target, mdel mp x, f⟩, OA, ⟨hd2.del _, fun y => ?_, hi, OA⟩, SFA, SOA⟩
    dsimp only
    rw [mget_mdel x y hd2, hm y, memB_cons]
    by_cases e : x = y
    ·subst e; simp
    ·rw [if_neg (fun h => e h.symm), show decide (x = y) = false from decide_eq_false e, Bool.false_or]
def Zdp (m : List (ByteArray × Value)) : List (ByteArray × Value) → List (ByteArray × Value)
 | [] => m
 | e :: l => Zdp (mset m e.1 e.2) l
theorem msets_app (m a b : List (ByteArray × Value)) : Zdp m (a ++ b) = Zdp (Zdp m a) b := by
 induction a generalizing m with
 | nil => rfl
 | cons e a ih => rw [List.cons_append, Zdp, Zdp, ih]
structure MRG where
 left : List (ByteArray × Value)
 cur : Option (ByteArray × Value)
 done : List (ByteArray × Value)
set_option maxHeartbeats 2000000 in
theorem mcopy_spec (b1 b2 : Nat) (m1 m2 : List (ByteArray × Value)) (wr : World) :
  Zam Tryz.prog 51 [.map (some b1), .map (some b2)] wr [.mp b1 m1, .mp b2 m2] (fun v O => v = .tuple #[] ∧ ∃ l, l.Perm m2 ∧ O = [.mp b1 (Zdp m1 l), .mp b2 m2]) := by
 refine ZaY Tryz.func51 rfl rfl rfl rfl ?_
 repeat (first | (refine js ?_; (apply Stp_range; rfl; (intro r; (focus repeat' constructor)); intro r)) | refine walk ?_)
 refine Zal [(0, .map (some b1)), (7, .pointer (some ⟨r, 0, none⟩))] [] (fun _ : MRG => []) (fun g => [.mp b1 (Zdp m1 g.done), rng b2 r m2 g.left g.cur]) (fun g => (g.done ++ g.left).Perm m2) (fun g => g.left.length) ⟨m2, none, []⟩ SFA SOA (List.Perm.refl _) ?_
 rintro ⟨left, cur, dn⟩ hp
 dsimp only at hp ⊢
 apply W_seq
 apply W_region
 apply RL_st
 rfl
 refine Stp_next (O' := fun l c => [.mp b1 (Zdp m1 dn), rng b2 r m2 l c]) rfl (fun l c => .there .here) (fun h0 => ?_) (fun A kv B hl => ?_)
 ·subst h0
  rw [List.append_nil] at hp
  refine RL_unrng (O' := [.mp b1 (Zdp m1 dn), .mp b2 m2]) (.there .here) ?_
  repeat (first | refine walk ?_)
  exact ret_0 _ (.refl _) ⟨rfl, dn, hp, rfl⟩
 ·obtain ⟨k, v⟩ := kv
  subst hl
  repeat (first | (apply RL_pu; rfl; (apply Pu_entry; rfl; (focus repeat' constructor))) | refine walk1 ?_)
  refine ⟨⟨A ++ B, some (k, v), dn ++ [(k, v)]⟩, by simp, ?_, SFA, ?_⟩
  ·exact (show ((dn ++ [(k, v)]) ++ (A ++ B)).Perm m2 by rw [List.append_assoc]; exact (List.Perm.append_left dn (List.perm_middle (a := (k, v)) (l₁ := A) (l₂ := B)).symm).trans hp)
  ·rw [msets_app]
   exact SOA
end Go.Proofs.YtpcpmndldgejiaaGreatDoor
namespace Go.Wk
open Go Go.RowKit
def cutI (l : List UInt8) : Option Nat := l.findIdx? (· == 47)
theorem cutSl_acc : ∀ (l acc : List UInt8), cutSl l acc = match cutI l with | none => [acc ++ l] | some i => (acc ++ l.take i) :: cutSl (l.drop (i + 1)) []
 | [], acc => by simp [cutSl, cutI]
 | c :: l, acc => by
  rw [cutSl]
  by_cases h : c = 47
  ·subst h
   simp [cutI, List.findIdx?_cons]
  ·rw [if_neg h, cutSl_acc l]
   have hb : (c == 47) = false := by simpa using h
   simp only [cutI, List.findIdx?_cons, hb]
   cases h2 : l.findIdx? (· == 47) with
   | none => simp
   | some i => simp
theorem cutI_lt {l : List UInt8} {i : Nat} (h : cutI l = some i) : i < l.length := (List.findIdx?_eq_some_iff_findIdx_eq.1 h).1
theorem firstIdx_cut (s : ByteArray) : firstIdx s 47 = match cutI s.data.toList with | none => -1 | some i => (i : Int) := by
 unfold firstIdx cutI
 have hsz : s.size = s.data.toList.length := rfl
 have key : ∀ (l : List UInt8) (f : Nat → UInt8), (∀ i, i < l.length → f i = l.getD i 0) → (List.range l.length).find? (fun i => f i == 47) = l.findIdx? (· == 47) := by
  intro l
  induction l with
  | nil => intro f _; rfl
  | cons c l ih =>
   intro f hf
   rw [List.length_cons, List.range_succ_eq_map, List.find?_cons, List.findIdx?_cons]
   have h0 : f 0 = c := by rw [hf 0 (by simp)]; rfl
   rw [h0]
   cases hc : c == 47 with
   | true => rfl
   | false =>
    rw [List.find?_map]
    have := ih (fun i => f (i + 1)) (fun i hi => by rw [hf (i + 1) (by simp; omega)]; rfl)
    simp only [Function.comp_def] at this ⊢
    rw [show (fun x : Nat => f (Nat.succ x) == 47) = fun i => f (i + 1) == 47 from rfl, this]
    cases l.findIdx? (· == 47) <;> rfl
 have hk := key s.data.toList (fun i => s[i]!) (fun i hi => by
  have : i < s.size := hi
  rw [List.getD_eq_getElem?_getD, List.getElem?_eq_getElem hi]
  simp [getElem!_def, this]
  rfl)
 rw [hsz]
 rw [hk]
 cases s.data.toList.findIdx? (· == 47) <;> rfl
end Go.Wk
namespace Go.Proofs.YtpcpmndldgejiaaGreatDoor
open Go Go.RowKit Go.Wk
attribute [local irreducible] W RL Does Zat Zak retQ Calls Pu Stp RD Qy Ay Zam
theorem ixb_run (args : Array Value) (w : World) : (callFunc 251 args).run Tryz.prog w = ((Extern.BytealgIndexByte.indexByte args).run Tryz.prog w).andThen fun v w' => .ok (.value v) w' := by
 rw [run_callFunc_extern Tryz.func251 (by kernel_rfl) (by kernel_rfl) (by kernel_rfl) (e := Extern.BytealgIndexByte.indexByte) (by kernel_rfl)]
section
variable {n : Nat} {wr : World} {fr : Fr} {O : List It} {ty : TypeId} {pos : String} {af : Array Edge} {dst : Option Tmp} {g : Option (Nat × Bool)} {Kp : Value → List It → Prop}
theorem Stp_ixb {x y : Operand} {ts : Array TypeId} {s : ByteArray} {c : Int} (hx : ev fr x = some (.string s)) (hy : ev fr y = some (.int .u8 c)) (kk : Kp (.int .i64 (firstIdx s c.toNat.toUInt8)) O) :
  Stp Tryz.prog n wr fr O ⟨dst, .call ⟨.value (.func 251), #[x, y], ts⟩, ty, pos, af, g⟩ Kp :=
 ZbB fun a w hs => by
  refine ⟨_, w, O, ?_, hs.old, hs.own, kk⟩
  have h1 := hs.sim.ev hx
  have h2 := hs.sim.ev hy
  have he : a.eval (.func 251) = .func (.func 251) #[] #[] := rfl
  have hc := ixb_run #[.string s, .int .u8 c] w
  rw [run_indexByte_string, Result.andThen_ok] at hc
  simp [execOp, resolve, he, Deferred.ofValue, invoke, hc, h1, h2]
end
theorem ixB_spec (s : ByteArray) (c : Int) (w : World) : Does Tryz.prog 237 [.string s, .int .u8 c] w (fun v O => v = .int .i64 (firstIdx s c.toNat.toUInt8) ∧ O = []) := by
 refine Zab Tryz.func237 rfl rfl rfl rfl ?_
 repeat (first | (refine js ?_; (apply Stp_ixb; rfl; rfl)) | refine walk ?_)
 exact rtA
theorem firstIdx_one (s : ByteArray) (c : UInt8) (h : (⟨#[c]⟩ : ByteArray) = s) : firstIdx s c = 0 := by
 subst h
 have hs : (⟨#[c]⟩ : ByteArray).size = 1 := rfl
 unfold firstIdx
 rw [hs]
 have : (⟨#[c]⟩ : ByteArray)[0]! = c := rfl
 simp [List.range_succ, this]
theorem PuZone0 {G : Prop} (h : G := by (apply Pu_eqlSB; rfl; rfl; exact hb)) : G := h
theorem ix1_spec (s : ByteArray) (c : UInt8) (w : World) : Does Tryz.prog 219 [.string s, .string ⟨#[c]⟩] w (fun v O => v = .int .i64 (firstIdx s c) ∧ O = []) := by
 have hu : ((c.toNat : Int)).toNat.toUInt8 = c := by simp
 have hi := fun w' => ixB_spec s (c.toNat : Int) w'
 rw [hu] at hi
 have hsz : (0 : Int) < ((⟨#[c]⟩ : ByteArray).size : Int) := show (0 : Int) < 1 by decide
 by_cases he : (⟨#[c]⟩ : ByteArray) = s
 ·have hb : decide ((⟨#[c]⟩ : ByteArray) = s) = true := decide_eq_true he
  have h0 := firstIdx_one s c he
  refine Zab Tryz.func219 rfl rfl rfl rfl ?_
  repeat (first | (apply RL_pu; rfl; exact PuZone0) | refine walk1 ?_)
  exact ret_1 _ [] (.tmp rfl) .nil ⟨by rw [h0], rfl⟩
 ·have hb : decide ((⟨#[c]⟩ : ByteArray) = s) = false := decide_eq_false he
  refine Zab Tryz.func219 rfl rfl rfl rfl ?_
  repeat (first | (apply RL_pu; rfl; (first | exact PuZone0 | (apply Pu_indexS; rfl; rfl; decide; exact hsz))) | (refine js ?_; (refine Zad (fun w' _ => hi w') ?_)) | refine walk1 ?_)
  exact rtA
theorem index1_spec (s : ByteArray) (c : UInt8) (w : World) : Does Tryz.prog 232 [.string s, .string ⟨#[c]⟩] w (fun v O => v = .int .i64 (firstIdx s c) ∧ O = []) := by
 have hi := fun w' => ix1_spec s c w'
 refine Zab Tryz.func232 rfl rfl rfl rfl ?_
 repeat (first | (refine js ?_; (refine Zad (fun w' _ => hi w') ?_)) | refine walk ?_)
 exact rtA
def itO (b1 b2 b3 : Nat) (s p : ByteArray) : List It := [.blk b1 [.string s] 9, .blk b2 [.string p] 9, .blk b3 [.int .i64 0] 3]
def itV (b1 b2 b3 : Nat) : Value := .func (.func 230) #[] #[.pointer (some ⟨b2, 0, none⟩), .pointer (some ⟨b1, 0, none⟩), .pointer (some ⟨b3, 0, none⟩)]
theorem splitSeq_spec (s p : ByteArray) (w : World) : Does Tryz.prog 205 [.string s, .string p, .int .i64 0] w (fun v O => ∃ b1 b2 b3, v = itV b1 b2 b3 ∧ O = itO b1 b2 b3 s p) := by
 refine Zab Tryz.func205 rfl rfl rfl rfl ?_
 apply W_seq
 apply W_region
 apply RL_st; rfl; (apply Stp_boxNf; rfl; (focus repeat (first | exact Nf.nil | apply Nf.cons)); intro b1)
 apply RL_st; rfl; (apply Stp_boxNf; rfl; (focus repeat (first | exact Nf.nil | apply Nf.cons)); intro b2)
 apply RL_st; rfl; (apply Stp_boxNf; rfl; (focus repeat (first | exact Nf.nil | apply Nf.cons)); intro b3)
 repeat (first | (refine js ?_; (refine bx ?_; intro bk)) | refine walk ?_)
 exact ret_1 _ (itO b1 b2 b3 s p) (.tmp rfl) SOA ⟨b1, b2, b3, rfl, rfl⟩
theorem SplitSeq_spec (s p : ByteArray) (w : World) : Does Tryz.prog 172 [.string s, .string p] w (fun v O => ∃ b1 b2 b3, v = itV b1 b2 b3 ∧ O = itO b1 b2 b3 s p) := by
 have hi := fun w' => splitSeq_spec s p w'
 refine Zab Tryz.func172 rfl rfl rfl rfl ?_
 repeat (first | (refine js ?_; (apply Zah (h := fun w' _ _ => hi w'); rfl; rintro v O' ⟨b1, b2, b3, rfl, rfl⟩)) | refine walk ?_)
 exact ret_1 _ (itO b1 b2 b3 s p) (.tmp rfl) SOA ⟨b1, b2, b3, rfl, rfl⟩
end Go.Proofs.YtpcpmndldgejiaaGreatDoor
namespace Go.Wk
open Go Go.RowKit
theorem ZdR {P : Program} {n : Nat} {wr : World} {x y : Code} {Q2 : Exit → Act → World → Prop} {fr : Fr} {O : List It} (I : Fr → List It → Prop) (h : W P n wr x (fun e fr O => e = .normal ∧ I fr O) fr O) (k : ∀ a w fr' O', St n wr fr' O' a w → I fr' O' → y.wp P Q2 a w) :
  ∀ a w, St n wr fr O a w → (Code.seq x y).wp P Q2 a w := by
 intro a w hs
 refine wp_seq (wp_mono (h a w hs) ?_)
 rintro e a' w' ⟨fr', O', hs', rfl, hi⟩
 exact k a' w' fr' O' hs' hi
theorem St.sub {n : Nat} {wr : World} {fr fr' : Fr} {O O' : List It} {a : Act} {w : World} (h : St n wr fr O a w) (hf : Sub fr' fr) (hO : SubO O' O) : St n wr fr' O' a w := ⟨h.sim.sub hf, h.old, h.own.sub hO⟩
end Go.Wk
namespace Go.Proofs.YtpcpmndldgejiaaGreatDoor
open Go Go.RowKit Go.Wk
attribute [local irreducible] W RL Does Zat Zak retQ Calls Pu Stp RD Qy Ay Zam RLI WI
def Asks (l b1 b2 b3 : Nat) (ok : List UInt8 → Bool) (OC OF : List It) (wr : World) : Prop :=
 ∀ x rest : ByteArray, (x.size : Int) ≤ 9223372036854775807 → Zd4 Tryz.prog l (.string x) wr (itO b1 b2 b3 rest ⟨#[47]⟩ ++ OC) fun b O' => b = ok x.data.toList ∧ (b = true → SubO (itO b1 b2 b3 rest ⟨#[47]⟩ ++ OC) O') ∧ (b = false → SubO OF O')
theorem PuZoneB0 {G : Prop} (h : G := by (apply Pu_loadB1; rfl; (focus repeat' constructor); rfl)) : G := h
theorem splitIt_spec (l b1 b2 b3 : Nat) (ok : List UInt8 → Bool) (OC OF : List It) (wr : World) (hY : Asks l b1 b2 b3 ok OC OF wr) (s : ByteArray) (hs : (s.size : Int) ≤ 9223372036854775807) :
  Zam Tryz.prog 230 [.func (.yield l) #[] #[], .pointer (some ⟨b2, 0, none⟩), .pointer (some ⟨b1, 0, none⟩), .pointer (some ⟨b3, 0, none⟩)] wr (itO b1 b2 b3 s ⟨#[47]⟩ ++ OC)
   (fun v O' => v = .tuple #[] ∧ ((cutSl s.data.toList []).all ok = true → SubO OC O') ∧ ((cutSl s.data.toList []).all ok = false → SubO OF O')) := by
 obtain ⟨res, hres⟩ : ∃ res, (cutSl s.data.toList []).all ok = res := ⟨_, rfl⟩
 rw [hres]
 have hix := fun (t : ByteArray) w' => index1_spec t 47 w'
 unfold itO at *
 simp only [List.cons_append, List.nil_append] at *
 refine ZaY Tryz.func230 rfl rfl rfl rfl ?_
 repeat (first | refine walk ?_)
 refine Zal [(0, .func (.yield l) #[] #[]), (1, .pointer (some ⟨b2, 0, none⟩)), (2, .pointer (some ⟨b1, 0, none⟩)), (3, .pointer (some ⟨b3, 0, none⟩))] [] (fun _ : ByteArray => []) (fun g => .blk b1 [.string g] 9 :: .blk b2 [.string ⟨#[47]⟩] 9 :: .blk b3 [.int .i64 0] 3 :: OC)
  (fun g => (g.size : Int) ≤ 9223372036854775807 ∧ (cutSl g.data.toList []).all ok = res) (fun g => g.size) s SFA ?_ ⟨hs, hres⟩ ?_
 ·rw [List.append_nil]; exact .refl _
 rintro g ⟨hg, hi⟩
 rw [List.append_nil]
 have hfi := firstIdx_cut g
 rw [cutSl_acc] at hi
 cases hc : cutI g.data.toList with
 | none =>
  rw [hc] at hfi hi
  dsimp only at hfi hi
  have hix2 := hix g
  rw [hfi] at hix2
  have hsY := hg
  repeat (first | (apply W_regionY; rfl; rfl; rfl; (intro c h; cases h); rfl; (first | (apply Pu_loadB1; rfl; (focus repeat' constructor); rfl) | (apply Pu_move; rfl)); rfl; rfl; exact hY _ _ hsY; rintro b O' ⟨rfl, hb2, hb3⟩) | (apply RL_pu; rfl; exact PuZoneB0) | (refine js ?_; (refine Zad (fun w' _ => hix2 w') ?_)) | refine walk1 ?_)
  refine Za5 ?_
  rw [List.nil_append, List.all_cons, List.all_nil, Bool.and_true] at hi
  refine ret_0 O' (.refl _) ⟨rfl, fun h => ?_, fun h => hb3 (by rw [hi]; exact h)⟩
  exact (SubO.trans (SubO.right (itO b1 b2 b3 g ⟨#[47]⟩) OC) (hb2 (by rw [hi]; exact h)))
 | some i =>
  rw [hc] at hfi hi
  dsimp only at hfi hi
  have hix2 := hix g
  rw [hfi] at hix2
  have hlt := cutI_lt hc
  have hsz : g.size = g.data.toList.length := rfl
  have hx0 : (g.extract 0 i).data.toList = g.data.toList.take i := by rw [ByteArray.data_extract]; simp
  have hx1 : (g.extract (i + 1) g.size).data.toList = g.data.toList.drop (i + 1) := by
   rw [ByteArray.data_extract]
   simp only [Array.toList_extract, List.extract_eq_take_drop]
   exact List.take_of_length_le (by rw [List.length_drop]; omega)
  have hi0 : (0 : Int) ≤ (i : Int) := Int.natCast_nonneg i
  have hi1 : (i : Int) < (g.data.toList.length : Int) := Int.ofNat_lt.2 hlt
  have hsY : ((g.extract 0 i).size : Int) ≤ 9223372036854775807 := by rw [ByteArray.size_extract]; omega
  repeat (first | (apply W_regionY; rfl; rfl; rfl; (intro c h; cases h); rfl; (first | (apply Pu_loadB1; rfl; (focus repeat' constructor); rfl) | (apply Pu_move; rfl)); rfl; rfl; exact hY _ _ hsY; rintro b O' ⟨rfl, hb2, hb3⟩) | (apply RL_pu; rfl; (apply Pu_sliceS0; rfl; rfl; omega; omega)) | (refine js ?_; (refine Zad (fun w' _ => hix2 w') ?_)) | refine walk1 ?_)
  rw [List.nil_append, List.all_cons] at hi
  have hx2 : (g.extract 0 (Int.toNat ((i : Int) + 0))).data.toList = g.data.toList.take i := by rw [Int.add_zero]; exact hx0
  rw [hx2] at hb2 hb3
  apply Zb2 (.inl rfl); rfl; (intro c h; cases h); (apply Pu_not; rfl)
  refine Za5 ?_
  apply thenQ_n
  rw [hx2]
  refine Zag rfl (fun h => ?_) (fun h => ?_)
  ·simp only [Bool.not_eq_true'] at h
   rw [h, Bool.false_and] at hi
   subst hi
   repeat (first | refine walk ?_)
   exact ret_0r O' (.refl _) ⟨rfl, fun h2 => (by cases h2), fun _ => hb3 h⟩
  ·simp only [Bool.not_eq_false'] at h
   rw [h, Bool.true_and] at hi
   have hlen : (((⟨#[47]⟩ : ByteArray).size : Nat) : Int) = 1 := rfl
   have htn : ((i : Int) + (((⟨#[47]⟩ : ByteArray).size : Nat) : Int)).toNat = i + 1 := by rw [hlen]; omega
   refine ZbV (fr' := [(7, .int .i64 i), (0, .func (.yield l) #[] #[]), (1, .pointer (some ⟨b2, 0, none⟩)), (2, .pointer (some ⟨b1, 0, none⟩)), (3, .pointer (some ⟨b3, 0, none⟩))]) (O' := .blk b1 [.string g] 9 :: .blk b2 [.string ⟨#[47]⟩] 9 :: .blk b3 [.int .i64 0] 3 :: OC) SFA (hb2 h) ?_
   repeat (first | (apply RL_pu; rfl; (apply Pu_sliceSL; rfl; rfl; omega; omega)) | refine walk1 ?_)
   refine ⟨g.extract ((i : Int) + (((⟨#[47]⟩ : ByteArray).size : Nat) : Int)).toNat g.size, ?_, ⟨?_, ?_⟩, SFA, ?_⟩
   ·rw [htn, ByteArray.size_extract]; omega
   ·rw [htn, ByteArray.size_extract]; omega
   ·rw [htn, hx1]; exact hi
   ·rw [List.append_nil]; exact .refl _
def okP (s : ByteArray) (l : List UInt8) : Bool := decide (s.size ≤ 60) && partB l
theorem okP_all (s : ByteArray) : (cutSl s.data.toList []).all (okP s) = ZcU s := by
 have hne : cutSl s.data.toList [] ≠ [] := by
  rw [cutSl_acc]; split <;> simp
 unfold ZcU okP
 by_cases h : s.size ≤ 60
 ·simp [h]
 ·cases hc : cutSl s.data.toList [] with
  | nil => exact absurd hc hne
  | cons x l => simp [h]
theorem partB_eq (l : List UInt8) : partB l = (Zc2 1 14 31 l && !(match l with | c :: _ => decide (c = 46) || decide (c = 45) | [] => false)) := rfl
def zoneR (s : ByteArray) (w : World) : Ending → World → Prop := fun e w' => ∃ v O, e = .returned v ∧ Bel w.heap.size w w' ∧ Holds w.heap.size O w' ∧ v = .bool (ZcU s) ∧ O = []
theorem turn_def {n : Nat} {wr : World} {fr : Fr} {O : List It} {a : Act} {w : World} {D : Nat} (hs : St n wr fr (Zb4 D :: O) a w) : St n wr fr O a (w.putObj D (.deferred none)) := by
 have hin := hs.own.inb _ List.mem_cons_self D rfl
 refine ⟨hs.sim, hs.old.trans ⟨⟨rfl, rfl, rfl, by rw [ZdQ]; exact Nat.le_refl _, fun i hi => World.putObj_heap_other (by omega)⟩⟩, hs.own.tail.congr (by rw [ZdQ]; exact Nat.le_refl _) fun b ⟨i, hi, hb⟩ => World.putObj_heap_other fun e => ?_⟩
 exact (List.pairwise_cons.1 hs.own.sep).1 i hi D rfl (e ▸ hb)
theorem zone_leave (s : ByteArray) (w : World) {fr : Fr} {O R : List It} {a : Act} {w' : World} {D br : Nat} {b : Bool} (hs : St 28 w fr (Zb4 D :: O) a w') (h2 : Wk.look fr 2 = some (.pointer (some ⟨br, 0, none⟩))) (hp : Pick (.blk br [.bool b] 4) O R) (hb : b = ZcU s) :
  bodyPostM Fence.wide 0 Tryz.prog Tryz.f127 (zoneR s w) .ret (actD (Zet D) a) w' := by
 have hK := Zb4.at (hs.own.sat _ List.mem_cons_self)
 have hs2 := turn_def hs
 refine ⟨by simp, .inl ⟨_, _, rfl, run_takeDeferred hK, ?_⟩⟩
 refine ⟨.bool b, ?_, _, [], rfl, hs2.old, Holds.nil _ _, by rw [hb], rfl⟩
 have hc : (w'.putObj D (.deferred none)).cell? ⟨br, 0, none⟩ = some (.bool b) := by
  rw [Zcu (hs2.own.of hp)]; rfl
 have hres : Tryz.f127.results = [ResultVar.cell 2 4].toArray := rfl
 show (results Tryz.f127 a.tmps).run Tryz.prog _ = _
 unfold results
 rw [hres, List.mapM_toArray]
 simp only [Sem.run_bind, Sem.run_map]
 rw [Zcl (P := Tryz.prog) hs2 _ (fun _ => rfl) (fun _ _ => rfl) [ResultVar.cell 2 4] [.bool b] ⟨_, [], rfl, ⟨_, h2, fun w3 hB hH => ?_⟩, rfl⟩]
 ·simp only [Result.andThen_ok, Sem.run_pure]
  rfl
 ·rw [Zen]
  rw [Zcu (hH.of hp)]; rfl
instance : ZeroT Tryz.prog 179 [.nilFunc] := ⟨by kernel_rfl⟩
theorem zone_spec (s : ByteArray) (hs : (s.size : Int) ≤ 9223372036854775807) (w : World) : Does Tryz.prog 127 [.string s] w (fun v O => v = .bool (ZcU s) ∧ O = []) := by
 unfold Does
 refine Does_marks Tryz.func127 rfl rfl rfl ?_
 intro a0 hst
 -- Zab Tryz.func127
 refine ZdR (fun fr' O' => ∃ bs br, Sub [(1, .pointer (some ⟨bs, 0, none⟩)), (2, .pointer (some ⟨br, 0, none⟩))] fr' ∧ SubO [.blk bs [.string s] 9, .blk br [.bool false] 4] O') ?_ ?_ a0 w hst
 ·apply W_region
  apply RL_st; rfl; (apply Stp_boxNf; rfl; (focus repeat' constructor); intro bs)
  apply RL_st; rfl; (apply Stp_alloc; intro br)
  apply RL_nil
  exact ⟨rfl, bs, br, SFA, SOA⟩
 rintro a1 w1 fr1 O1 hs0 ⟨bs, br, hf1, hO1⟩
 have hs1 := hs0.sub hf1 hO1
 clear hf1 hO1 hs0 hst a0 fr1 O1
 refine ZdR (fun fr' O' => ∃ bf b1 b2 b3 b4, Sub [(1, .pointer (some ⟨bs, 0, none⟩)), (2, .pointer (some ⟨br, 0, none⟩)), (3, .pointer (some ⟨bf, 0, none⟩))] fr' ∧ SubO (.blk bs [.string s] 9 :: .blk br [.bool false] 4 :: .blk bf [ofV b1 b2 b3 b4] 179 :: ofO 1 14 31 b1 b2 b3 b4) O') ?_ ?_ a1 w1 hs1
 ·repeat (first | (refine js ?_; (first | (apply Zah (h := fun w' _ _ => nof_spec 1 14 31 w'); rfl; rintro v O' ⟨b1, b2, b3, b4, rfl, rfl⟩) | (refine bx ?_; intro bk))) | refine walk ?_)
  exact ⟨rfl, _, b1, b2, b3, b4, SFA, SOA⟩
 rintro a2 w2 fr2 O2 hs0 ⟨bf, b1, b2, b3, b4, hf2, hO2⟩
 have hs2 := hs0.sub hf2 hO2
 clear hf2 hO2 hs0 hs1 a1 w1 fr2 O2
 refine wp_seq ?_
 refine ZdR (fun fr' O' => ∃ c1 c2 c3, Sub [(1, .pointer (some ⟨bs, 0, none⟩)), (2, .pointer (some ⟨br, 0, none⟩)), (3, .pointer (some ⟨bf, 0, none⟩)), (7, itV c1 c2 c3)] fr' ∧ SubO (itO c1 c2 c3 s ⟨#[47]⟩ ++ (.blk bs [.string s] 9 :: .blk br [.bool false] 4 :: .blk bf [ofV b1 b2 b3 b4] 179 :: ofO 1 14 31 b1 b2 b3 b4)) O') ?_ ?_ a2 w2 hs2
 ·repeat (first | (apply RL_pu; rfl; exact PuZoneB0) | (refine js ?_; (first | (apply Zah (h := fun w' _ _ => SplitSeq_spec s ⟨#[47]⟩ w'); rfl; rintro v O' ⟨c1, c2, c3, rfl, rfl⟩) | (refine bx ?_; intro bk))) | refine walk1 ?_)
  exact ⟨rfl, c1, c2, c3, SFA, .refl _⟩
 rintro a3 w3 fr3 O3 hs0 ⟨c1, c2, c3, hf3, hO3⟩
 have hs3 := hs0.sub hf3 hO3
 clear hf3 hO3 hs0 hs2 a2 w2 fr3 O3
 refine wp_block ?_
 refine range_wp (gf := 230) (lb := [.pointer (some ⟨c2, 0, none⟩), .pointer (some ⟨c1, 0, none⟩), .pointer (some ⟨c3, 0, none⟩)]) (fun jump O2 => SubO [.blk br [.bool false] 4] O2 ∧ ((jump = none ∧ ZcU s = true) ∨ (jump = some .ret ∧ ZcU s = false))) hs3 rfl ?_ ?_
 ·intro fn l D
  generalize hr : recOf fn a3.tmps 8 _ _ D = r
  have hit := splitIt_spec l c1 c2 c3 (okP s) (Za2 l r :: Zb4 D :: .blk bs [.string s] 9 :: .blk br [.bool false] 4 :: .blk bf [ofV b1 b2 b3 b4] 179 :: ofO 1 14 31 b1 b2 b3 b4) (Za2 l { r with state := .done, pending := some .ret } :: Zb4 D :: [.blk br [.bool false] 4]) w ?_ s hs
  ·refine hit.sub (by unfold itO ofO; exact SOA) fun v O' ⟨_, h1, h2⟩ => ?_
   rw [okP_all] at h1 h2
   cases hz : ZcU s with
   | true => exact ⟨none, _, .ready, SubO.trans (by rw [← hr]; exact .refl _) (h1 hz), by decide, SOA, .inl ⟨rfl, rfl⟩⟩
   | false => exact ⟨some .ret, _, .done, h2 hz, by decide, .refl _, .inr ⟨rfl, rfl⟩⟩
  ·intro x rest hx
   refine yields_round (r := r) (p := 8) (fr := [(1, .pointer (some ⟨bs, 0, none⟩)), (2, .pointer (some ⟨br, 0, none⟩)), (3, .pointer (some ⟨bf, 0, none⟩)), (7, itV c1 c2 c3)]) (a0 := a3) (O1 := itO c1 c2 c3 rest ⟨#[47]⟩ ++ (Za2 l { r with state := .busy } :: Zb4 D :: .blk bs [.string s] 9 :: .blk br [.bool false] 4 :: .blk bf [ofV b1 b2 b3 b4] 179 :: ofO 1 14 31 b1 b2 b3 b4)) (by rw [← hr]; rfl) (by rw [← hr]; rfl) (by rw [← hr]; rfl) hs3.sim rfl (by unfold itO; exact (by repeat' constructor)) (by rw [← hr]; rfl) ?_
   apply Zb2 (Or.inr ⟨_, rfl⟩); rfl; (intro c h; cases h); (apply Pu_assign; rfl)
   refine Za5 ⟨rfl, ?_⟩
   have hbody : ∀ Q fr O, (∀ b : Code, b = r.body → WI (Fence.wide.inRound l) [] Tryz.prog 28 w b Q fr O) → WI (Fence.wide.inRound l) [] Tryz.prog 28 w r.body Q fr O := fun Q fr O h => h _ rfl
   refine hbody _ _ _ fun b hb => ?_
   rw [← hr] at hb
   dsimp only [recOf] at hb
   subst hb
   unfold itO ofO
   simp only [List.cons_append, List.nil_append]
   refine WI_block (WI_seq (Zbp ?_))
   have hsx : (s.size : Int) ≤ 9223372036854775807 := hs
   by_cases hlong : (60 : Int) < (s.size : Int)
   ·have h60 : decide ((60 : Int) < (s.size : Int)) = true := decide_eq_true hlong
    have hbad : false = okP s x.data.toList := by
     unfold okP; rw [decide_eq_false (by omega), Bool.false_and]
    repeat (first | (apply Zb2 (Or.inr ⟨_, rfl⟩); rfl; (intro c h; cases h); (first | (apply Pu_loadB1; rfl; (focus repeat' constructor); rfl) | (apply Pu_lenS; rfl) | (apply ZaX; rfl; rfl; exact h60) | (apply Pu_move; rfl) | (apply Pu_not; rfl) | (apply Pu_pickT; rfl; rfl) | (apply Pu_pickF; rfl; rfl))) | (refine RLI_yes rfl rfl rfl ?_) | (refine RLI_no (Or.inr ⟨_, rfl⟩) rfl rfl rfl rfl rfl ?_) | (refine Za5 ?_))
    refine thenQ_n ?_
    refine Zcp rfl (fun _ => ?_) (fun h => by cases h)
    refine WI_seq (Zbp ?_)
    apply ZbG (Or.inr ⟨_, rfl⟩); (intro d hd; cases hd); (intro c h; cases h); (intro a w hs; exact ZcS a w)
    (apply Stp_storeNf; rfl; rfl; (focus repeat' constructor); (focus repeat (first | exact Nf.nil | apply Nf.cons)); rfl; rfl; rfl; (focus repeat' constructor))
    refine Za5 ?_
    refine thenQ_n ?_
    refine WI_ret ?_
    refine blockQ_r ?_
    exact ⟨_, (by repeat' constructor), hbad, fun h => (by cases h), fun _ => SOA⟩
   have h60 : decide ((60 : Int) < (s.size : Int)) = false := decide_eq_false hlong
   have hok : okP s x.data.toList = partB x.data.toList := by
    unfold okP; rw [decide_eq_true (by omega), Bool.true_and]
   have hoc := fun {base : Nat} {O : List It} {w' : World} (hH : Holds base O w') (hO : SubO (ofO 1 14 31 b1 b2 b3 b4) O) => of_call (a := 1) (b := 14) (m := 31) hx (by decide) hH hO
   rw [hok, partB_eq]
   cases hn : Zc2 1 14 31 x.data.toList with
   | false =>
    rw [hn] at hoc
    have hbad : false = (false && !(match x.data.toList with | c :: _ => decide (c = 46) || decide (c = 45) | [] => false)) := rfl
    repeat (first | (apply Zb2 (Or.inr ⟨_, rfl⟩); rfl; (intro c h; cases h); (first | (apply Pu_loadB1; rfl; (focus repeat' constructor); rfl) | (apply Pu_lenS; rfl) | (apply ZaX; rfl; rfl; exact h60) | (apply Pu_move; rfl) | (apply Pu_not; rfl) | (apply Pu_pickT; rfl; rfl) | (apply Pu_pickF; rfl; rfl))) | (refine RLI_yes rfl rfl rfl ?_) | (refine RLI_no (Or.inr ⟨_, rfl⟩) rfl rfl rfl rfl rfl ?_) | (apply ZbG (Or.inr ⟨_, rfl⟩); (intro d hd; cases hd; rfl); (intro c h; cases h); (intro a w hs; exact ZeV (f := 167) (us := []) (cs := [.pointer (some ⟨b1, 0, none⟩), .pointer (some ⟨b2, 0, none⟩), .pointer (some ⟨b3, 0, none⟩), .pointer (some ⟨b4, 0, none⟩)]) hs rfl); (apply ZaA (f := 167) (us := []) (vs := [.string x]) (cs := [.pointer (some ⟨b1, 0, none⟩), .pointer (some ⟨b2, 0, none⟩), .pointer (some ⟨b3, 0, none⟩), .pointer (some ⟨b4, 0, none⟩)]) (h := fun w' _ hH => hoc hH (by unfold ofO; exact SOA)); rfl; rfl; rintro v O' ⟨rfl, rfl⟩)) | (refine Za5 ?_))
    refine thenQ_n ?_
    refine Zcp rfl (fun _ => ?_) (fun h => by cases h)
    refine WI_seq (Zbp ?_)
    apply ZbG (Or.inr ⟨_, rfl⟩); (intro d hd; cases hd); (intro c h; cases h); (intro a w hs; exact ZcS a w)
    (apply Stp_storeNf; rfl; rfl; (focus repeat' constructor); (focus repeat (first | exact Nf.nil | apply Nf.cons)); rfl; rfl; rfl; (focus repeat' constructor))
    refine Za5 ?_
    refine thenQ_n ?_
    refine WI_ret ?_
    refine blockQ_r ?_
    exact ⟨_, (by repeat' constructor), hbad, fun h => (by cases h), fun _ => SOA⟩
   | true =>
    rw [hn] at hoc
    have hsz := (nameB_size hn).1
    have hxz : (0 : Int) < (x.size : Int) := by omega
    cases hxl : x.data.toList with
    | nil =>
     exfalso
     have h0 : x.size = 0 := by
      have : x.size = x.data.toList.length := rfl
      rw [this, hxl]; rfl
     omega
    | cons c tl =>
    have hxc : x.data.toList.getD (Int.toNat 0) 0 = c := by rw [hxl]; rfl
    dsimp only
    by_cases h46 : c = 46
    ·subst h46
     have e46 : decide (((46 : UInt8).toNat : Int) = 46) = true := by decide
     have e45 := e46
     have hbad : false = (true && !(decide ((46 : UInt8) = 46) || decide ((46 : UInt8) = 45))) := by decide
     repeat (first | (apply Zb2 (Or.inr ⟨_, rfl⟩); rfl; (intro c h; cases h); (first | (apply Pu_loadB1; rfl; (focus repeat' constructor); rfl) | (apply Pu_lenS; rfl) | (apply ZaX; rfl; rfl; exact h60) | (apply Pu_move; rfl) | (apply Pu_not; rfl) | (apply Pu_pickT; rfl; rfl) | (apply Pu_pickF; rfl; rfl) | (apply Pu_indexC; rfl; rfl; decide; exact hxz; exact hxc) | (apply ZaI; rfl; rfl; first | exact e46 | exact e45))) | (refine RLI_yes rfl rfl rfl ?_) | (refine RLI_no (Or.inr ⟨_, rfl⟩) rfl rfl rfl rfl rfl ?_) | (apply ZbG (Or.inr ⟨_, rfl⟩); (intro d hd; cases hd; rfl); (intro c h; cases h); (intro a w hs; exact ZeV (f := 167) (us := []) (cs := [.pointer (some ⟨b1, 0, none⟩), .pointer (some ⟨b2, 0, none⟩), .pointer (some ⟨b3, 0, none⟩), .pointer (some ⟨b4, 0, none⟩)]) hs rfl); (apply ZaA (f := 167) (us := []) (vs := [.string x]) (cs := [.pointer (some ⟨b1, 0, none⟩), .pointer (some ⟨b2, 0, none⟩), .pointer (some ⟨b3, 0, none⟩), .pointer (some ⟨b4, 0, none⟩)]) (h := fun w' _ hH => hoc hH (by unfold ofO; exact SOA)); rfl; rfl; rintro v O' ⟨rfl, rfl⟩)) | (refine Za5 ?_))
     refine thenQ_n ?_
     refine Zcp rfl (fun _ => ?_) (fun h => by cases h)
     refine WI_seq (Zbp ?_)
     apply ZbG (Or.inr ⟨_, rfl⟩); (intro d hd; cases hd); (intro c h; cases h); (intro a w hs; exact ZcS a w)
     (apply Stp_storeNf; rfl; rfl; (focus repeat' constructor); (focus repeat (first | exact Nf.nil | apply Nf.cons)); rfl; rfl; rfl; (focus repeat' constructor))
     refine Za5 ?_
     refine thenQ_n ?_
     refine WI_ret ?_
     refine blockQ_r ?_
     exact ⟨_, (by repeat' constructor), hbad, fun h => (by cases h), fun _ => SOA⟩
    have hne46 : (c.toNat : Int) ≠ 46 := fun e => h46 (UInt8.toNat_inj.1 (by show c.toNat = 46; omega))
    by_cases h45 : c = 45
    ·subst h45
     have e46 : decide (((45 : UInt8).toNat : Int) = 46) = false := by decide
     have e45 : decide (((45 : UInt8).toNat : Int) = 45) = true := by decide
     have hbad : false = (true && !(decide ((45 : UInt8) = 46) || decide ((45 : UInt8) = 45))) := by decide
     repeat (first | (apply Zb2 (Or.inr ⟨_, rfl⟩); rfl; (intro c h; cases h); (first | (apply Pu_loadB1; rfl; (focus repeat' constructor); rfl) | (apply Pu_lenS; rfl) | (apply ZaX; rfl; rfl; exact h60) | (apply Pu_move; rfl) | (apply Pu_not; rfl) | (apply Pu_pickT; rfl; rfl) | (apply Pu_pickF; rfl; rfl) | (apply Pu_indexC; rfl; rfl; decide; exact hxz; exact hxc) | (apply ZaI; rfl; rfl; first | exact e46 | exact e45))) | (refine RLI_yes rfl rfl rfl ?_) | (refine RLI_no (Or.inr ⟨_, rfl⟩) rfl rfl rfl rfl rfl ?_) | (apply ZbG (Or.inr ⟨_, rfl⟩); (intro d hd; cases hd; rfl); (intro c h; cases h); (intro a w hs; exact ZeV (f := 167) (us := []) (cs := [.pointer (some ⟨b1, 0, none⟩), .pointer (some ⟨b2, 0, none⟩), .pointer (some ⟨b3, 0, none⟩), .pointer (some ⟨b4, 0, none⟩)]) hs rfl); (apply ZaA (f := 167) (us := []) (vs := [.string x]) (cs := [.pointer (some ⟨b1, 0, none⟩), .pointer (some ⟨b2, 0, none⟩), .pointer (some ⟨b3, 0, none⟩), .pointer (some ⟨b4, 0, none⟩)]) (h := fun w' _ hH => hoc hH (by unfold ofO; exact SOA)); rfl; rfl; rintro v O' ⟨rfl, rfl⟩)) | (refine Za5 ?_))
     refine thenQ_n ?_
     refine Zcp rfl (fun _ => ?_) (fun h => by cases h)
     refine WI_seq (Zbp ?_)
     apply ZbG (Or.inr ⟨_, rfl⟩); (intro d hd; cases hd); (intro c h; cases h); (intro a w hs; exact ZcS a w)
     (apply Stp_storeNf; rfl; rfl; (focus repeat' constructor); (focus repeat (first | exact Nf.nil | apply Nf.cons)); rfl; rfl; rfl; (focus repeat' constructor))
     refine Za5 ?_
     refine thenQ_n ?_
     refine WI_ret ?_
     refine blockQ_r ?_
     exact ⟨_, (by repeat' constructor), hbad, fun h => (by cases h), fun _ => SOA⟩
    have hne45 : (c.toNat : Int) ≠ 45 := fun e => h45 (UInt8.toNat_inj.1 (by show c.toNat = 45; omega))
    have e46 : decide ((c.toNat : Int) = 46) = false := decide_eq_false hne46
    have e45 : decide ((c.toNat : Int) = 45) = false := decide_eq_false hne45
    have hgood : true = (true && !(decide (c = 46) || decide (c = 45))) := by rw [decide_eq_false h46, decide_eq_false h45]; rfl
    repeat (first | (apply Zb2 (Or.inr ⟨_, rfl⟩); rfl; (intro c h; cases h); (first | (apply Pu_loadB1; rfl; (focus repeat' constructor); rfl) | (apply Pu_lenS; rfl) | (apply ZaX; rfl; rfl; exact h60) | (apply Pu_move; rfl) | (apply Pu_not; rfl) | (apply Pu_pickT; rfl; rfl) | (apply Pu_pickF; rfl; rfl) | (apply Pu_indexC; rfl; rfl; decide; exact hxz; exact hxc) | (apply ZaI; rfl; rfl; first | exact e46 | exact e45))) | (refine RLI_yes rfl rfl rfl ?_) | (refine RLI_no (Or.inr ⟨_, rfl⟩) rfl rfl rfl rfl rfl ?_) | (apply ZbG (Or.inr ⟨_, rfl⟩); (intro d hd; cases hd; rfl); (intro c h; cases h); (intro a w hs; exact ZeV (f := 167) (us := []) (cs := [.pointer (some ⟨b1, 0, none⟩), .pointer (some ⟨b2, 0, none⟩), .pointer (some ⟨b3, 0, none⟩), .pointer (some ⟨b4, 0, none⟩)]) hs rfl); (apply ZaA (f := 167) (us := []) (vs := [.string x]) (cs := [.pointer (some ⟨b1, 0, none⟩), .pointer (some ⟨b2, 0, none⟩), .pointer (some ⟨b3, 0, none⟩), .pointer (some ⟨b4, 0, none⟩)]) (h := fun w' _ hH => hoc hH (by unfold ofO; exact SOA)); rfl; rfl; rintro v O' ⟨rfl, rfl⟩)) | (refine Za5 ?_))
    refine thenQ_n ?_
    refine Zcp rfl (fun h => by cases h) (fun _ => ?_)
    refine WI_skip ?_
    refine blockQ_n ?_
    exact ⟨_, (by repeat' constructor), hgood, fun _ => SubO.trans (by rw [← hr]; exact .refl _) (.refl _), fun h => (by cases h)⟩
 ·rintro jump O2 D w4 ⟨hsub, ⟨rfl, hz⟩ | ⟨rfl, hz⟩⟩ hs4
  ·have hs5 : St 28 w [(2, .pointer (some ⟨br, 0, none⟩))] [Zb4 D, .blk br [.bool false] 4] a3 w4 := hs4.sub SFA (.cons .here hsub)
   show (Code.seq _ _).wp _ _ _ _
   have key : ∀ c Q' Q3, WI Fence.wide (Zet D) Tryz.prog 28 w c Q' [(2, .pointer (some ⟨br, 0, none⟩))] [Zb4 D, .blk br [.bool false] 4] → (∀ e a' w', liftI (Zet D) 28 w Q' e a' w' → Q3 e a' w') → c.wp Tryz.prog Q3 (actD (Zet D) a3) w4 := fun c Q' Q3 h hq => (wpIn_wide (n := 0)).1 (wpIn_mono (h.at hs5) hq)
   refine key _ (fun e fr O => e = .ret ∧ Sub [(2, .pointer (some ⟨br, 0, none⟩))] fr ∧ SubO [Zb4 D, .blk br [.bool true] 4] O) _ (WI_seq (Zbp ?_)) ?_
   ·apply ZbG (.inl rfl); (intro d hd; cases hd); (intro c h; cases h); (intro a w hs; exact ZcS a w)
    (apply Stp_storeNf; rfl; rfl; (focus repeat' constructor); (focus repeat (first | exact Nf.nil | apply Nf.cons)); rfl; rfl; rfl; (focus repeat' constructor))
    refine Za5 ?_
    refine thenQ_n ?_
    refine WI_ret ?_
    exact ⟨rfl, SFA, .refl _⟩
   ·rintro e a' w' ⟨hd, fr', O', hs', rfl, hf, hO⟩
    have h := zone_leave s w (hs'.sub hf hO) rfl (.here) hz.symm
    rw [ZdH hd] at h
    exact h
  ·have hs5 : St 28 w [(2, .pointer (some ⟨br, 0, none⟩))] [Zb4 D, .blk br [.bool false] 4] a3 w4 := hs4.sub SFA (.cons .here hsub)
   refine wp_ret ?_
   exact zone_leave s w hs5 rfl .here hz.symm
end Go.Proofs.YtpcpmndldgejiaaGreatDoor
set_option maxHeartbeats 2000000
namespace Go.Wk
open Go Go.RowKit
theorem DoesIn_marks {P : Program} {n : Nat} {f : FuncId} {fn : Func} {c : Code} {args : List Value} {wr w : World} {O : List It} {R : Ending → World → Prop} (hf : P.funcs[f]? = some fn) (hb : fn.body = some c) (hn : fn.ntmps = n) (ha : Nat.ble args.length n = true)
  (hB : Bel wr.heap.size wr w) (hH : Holds wr.heap.size O w) (h : ∀ a, St n wr (argsFr 0 args) O a w → c.wp P (bodyPostM Fence.wide 0 P fn R) a w) : Calls P f args.toArray w R := by
 refine (callsIn_wide (n := 0)).1 (callsIn_of_wp_marks hf hb trivial ?_)
 refine (wpIn_wide (n := 0)).2 (h _ ?_)
 have ha' : args.length ≤ n := Nat.le_of_ble_eq_true ha
 refine ⟨⟨rfl, by simp; omega, fun t v hv => ?_⟩, hB, hH⟩
 have := (Zc3 args 0 t v hv).2
 simp only [Nat.sub_zero] at this
 have hlt : t < args.length := (List.getElem?_eq_some_iff.1 this).1
 rw [Array.getElem?_append_left (by simpa using hlt)]
 simpa using this
theorem calm_buildSlice {P : Program} {dst : Option Tmp} {t len : Nat} {ps : Array (Nat × Operand)} {ty : TypeId} {pos : String} {af : Array Edge} {g : Option (Nat × Bool)} (a : Act) (w : World) : calm ((execOp a.eval ⟨dst, .buildSlice t len ps, ty, pos, af, g⟩).run P w) := by
 simp only [execOp, Sem.run_bind]
 generalize Sem.run P _ w = r
 cases r <;> simp [calm, Result.andThen]
theorem calm_append {P : Program} {dst : Option Tmp} {x y : Operand} {ts : Array TypeId} {ty : TypeId} {pos : String} {af : Array Edge} {g : Option (Nat × Bool)} (a : Act) (w : World) : calm ((execOp a.eval ⟨dst, .call ⟨.builtin .append, #[x, y], ts⟩, ty, pos, af, g⟩).run P w) := by
 simp only [execOp, resolve, invoke, builtin, Sem.run_bind, Sem.run_pure, Result.andThen_ok]
 generalize Sem.run P _ w = r
 cases r <;> simp [calm, Result.andThen]
end Go.Wk
namespace Go.Proofs.YtpcpmndldgejiaaGreatDoor
open Go Go.RowKit Go.Wk
attribute [local irreducible] W RL Does Zat Zak retQ Calls Pu Stp RD Qy Ay Zam RLI WI
structure MKG (σ : Type) where
 left : List (ByteArray × Value)
 cur : Option (ByteArray × Value)
 done : List (ByteArray × Value)
 s : σ
theorem keysIt_spec {σ : Type} (l bx b : Nat) (m : List (ByteArray × Value)) (OC : σ → List It) (Inv : List (ByteArray × Value) → σ → Prop) (wr : World) (s0 : σ) (h0 : Inv [] s0)
  (hY : ∀ d kv s (X Y : It), d.length < m.length → Inv d s → Zd4 Tryz.prog l (.string kv.1) wr (X :: Y :: OC s) fun bb O' => bb = true ∧ ∃ s', Inv (d ++ [kv]) s' ∧ SubO (X :: Y :: OC s') O') :
  Zam Tryz.prog 97 [.func (.yield l) #[] #[], .pointer (some ⟨bx, 0, none⟩)] wr (.blk bx [.map (some b)] 133 :: .mp b m :: OC s0)
   (fun v O' => v = .tuple #[] ∧ ∃ d s', d.Perm m ∧ Inv d s' ∧ SubO (.blk bx [.map (some b)] 133 :: .mp b m :: OC s') O') := by
 refine ZaY Tryz.func97 rfl rfl rfl rfl ?_
 repeat (first | (refine js ?_; (apply Stp_range; rfl; (intro r; (focus repeat' constructor)); intro r)) | refine walk ?_)
 refine Zal [(0, .func (.yield l) #[] #[]), (1, .pointer (some ⟨bx, 0, none⟩)), (5, .pointer (some ⟨r, 0, none⟩))] [] (fun _ : MKG σ => []) (fun g => .blk bx [.map (some b)] 133 :: rng b r m g.left g.cur :: OC g.s) (fun g => (g.done ++ g.left).Perm m ∧ Inv g.done g.s) (fun g => g.left.length) ⟨m, none, [], s0⟩ SFA ?_ ⟨List.Perm.refl _, h0⟩ ?_
 ·rw [List.append_nil]; exact .refl _
 rintro ⟨left, cur, dn, s⟩ ⟨hp, hi⟩
 dsimp only at hp hi ⊢
 rw [List.append_nil]
 apply W_seq
 apply W_region
 apply RL_st
 rfl
 refine Stp_next (O' := fun l c => .blk bx [.map (some b)] 133 :: rng b r m l c :: OC s) rfl (fun l c => .there .here) (fun h0 => ?_) (fun A kv B hl => ?_)
 ·subst h0
  rw [List.append_nil] at hp
  refine RL_unrng (O' := .blk bx [.map (some b)] 133 :: .mp b m :: OC s) (.there .here) ?_
  repeat (first | refine walk ?_)
  exact ret_0 _ (.refl _) ⟨rfl, dn, s, hp, hi, .refl _⟩
 ·obtain ⟨k, v⟩ := kv
  subst hl
  have hlt : dn.length < m.length := by have := hp.length_eq; simp at this; omega
  repeat (first | (apply W_regionY; rfl; rfl; rfl; (intro c h; cases h); rfl; (apply Pu_move; rfl); rfl; rfl; exact hY dn (k, v) s (.blk bx [.map (some b)] 133) (rng b r m (A ++ B) (some (k, v))) hlt hi; rintro bb O' ⟨rfl, s', hi', hO'⟩) | (apply RL_pu; rfl; (apply Pu_entry; rfl; (focus repeat' constructor))) | refine walk1 ?_)
  apply Zb2 (.inl rfl); rfl; (intro c h; cases h); (apply Pu_not; rfl)
  refine Za5 ?_
  apply thenQ_n
  refine Zag rfl (fun h => (by cases h)) (fun h => ?_)
  refine ZbV (fr' := [(0, .func (.yield l) #[] #[]), (1, .pointer (some ⟨bx, 0, none⟩)), (5, .pointer (some ⟨r, 0, none⟩))]) (O' := .blk bx [.map (some b)] 133 :: rng b r m (A ++ B) (some (k, v)) :: OC s') SFA hO' ?_
  repeat (first | refine walk ?_)
  refine ⟨⟨A ++ B, some (k, v), dn ++ [(k, v)], s'⟩, by simp, ⟨?_, hi'⟩, SFA, ?_⟩
  ·exact (show ((dn ++ [(k, v)]) ++ (A ++ B)).Perm m by rw [List.append_assoc]; exact (List.Perm.append_left dn (List.perm_middle (a := (k, v)) (l₁ := A) (l₂ := B)).symm).trans hp)
  ·rw [List.append_nil]; exact .refl _
end Go.Proofs.YtpcpmndldgejiaaGreatDoor
