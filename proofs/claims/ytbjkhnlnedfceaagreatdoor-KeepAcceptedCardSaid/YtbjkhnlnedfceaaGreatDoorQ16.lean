/- The package-level variables that accept's code reads. Contracts: slices.Clone at four types. Contracts of functions that make maps: ruleset.Names, merge.names, merge.sets. Contracts: links.zones, targets, follow; maps.Clone. Engine: scopes and labels, a part of an array, strings of bytes, tests whose answers are known. -/
import Derived.Test.YtbjkhnlnedfceaaGreatDoorQ12
import Derived.Test.YtbjkhnlnedfceaaGreatDoorQ11
import Derived.Test.YtbjkhnlnedfceaaGreatDoorQ15
import Derived.Scope
import Derived.Laws.IdiomStrings
set_option maxHeartbeats 4000000
set_option linter.unusedVariables false
set_option linter.unusedSimpArgs false
namespace Go.Proofs.YtbjkhnlnedfceaaGreatDoor
open Go Go.RowKit Go.Wk
def fnV (f : Nat) : Value := .func (.func f) #[] #[]
def kindCells : List Value := [.bool false, .bool true, fnV 279, .bool true, .bool false, fnV 280, .bool true, .bool true, fnV 282, .bool true, .bool true, fnV 284]
def condCells : List Value := [fnV 269, .int .i64 3, fnV 271, .int .i64 12, fnV 272, .int .i64 3, fnV 274, .int .i64 3, fnV 276, .int .i64 14, fnV 277, .int .i64 15]
def varCells : List Value := [.string ByteArray.empty, .bool false, .bool false, .bool false, .bool false, .string ⟨#[118, 97, 110, 103, 117, 97, 114, 100]⟩, .bool true, .bool true, .bool false, .bool false, .string ⟨#[109, 97, 105, 110]⟩, .bool true, .bool false, .bool true, .bool false, .string ⟨#[114, 101, 97, 114, 103, 117, 97, 114, 100]⟩, .bool false, .bool false, .bool true, .bool true]
structure Glob (w : World) : Prop where
 bef : CellsAt w ⟨4, 0, none⟩ (beforeL.map fun n => .int .i64 n)
 kin : CellsAt w ⟨2, 3, none⟩ kindCells
 con : CellsAt w ⟨1, 0, none⟩ condCells
 var : CellsAt w ⟨0, 0, none⟩ varCells
theorem Glob.up {w w' : World} (h : Glob w) (hb : Bel w.heap.size w w') : Glob w' :=
 ⟨h.bef.up hb (Nat.le_refl _), h.kin.up hb (Nat.le_refl _), h.con.up hb (Nat.le_refl _), h.var.up hb (Nat.le_refl _)⟩
attribute [local irreducible] W RL Does thenQ blockQ retQ Calls Pu Stp RD Qy Ay
theorem cloneR_spec (A : Option Addr) (c : Nat) (x : List DRule) (w : World) (hA : RdSl w A c DRule.enc 11 x) (hn : x.length ≤ 1000000) :
  Does Tryz.prog 103 [.slice A x.length c] w (NewSl 39 11 DRule.enc x) := by
 refine Does_of_W Tryz.func103 rfl rfl rfl rfl ?_
 repeat (first | (refine js ?_; (refine bx ?_; intro bk)) | refine walk ?_)
 refine W_cond rfl (fun h1 => ?_) (fun h1 => ?_)
 ·obtain rfl := hA.none h1
  refine W_nil 39 11 ?_
  repeat (first | (refine js ?_; (refine bx ?_; intro bk)) | refine walk ?_)
  exact ret_1 _ [.row (.slice none 0 0) 39 11 0 []] (.tmp rfl) SOA ⟨none, 0, rfl, rfl⟩
 repeat (first | (refine js ?_; (first | (apply Stp_append0; rfl; rfl; (intro A' c'; (focus repeat' constructor)); (intro w' hw _; exact (hA.up hw).rd.raw DRule.len (by decide)); exact flat_len DRule.len x; exact all_flat oneR x; (simp only [maxLen]; omega); omega; intro A' c' hc1 hc2 hc3) | (refine bx ?_; intro bk))) | refine walk ?_)
 exact ret_1 _ _ (.tmp rfl) (.refl _) ⟨A', c', rfl, rfl⟩
theorem cloneS_spec (A : Option Addr) (c : Nat) (x : List ByteArray) (w : World) (hA : RdSl w A c strEnc 1 x) (hn : x.length ≤ 1000000) :
  Does Tryz.prog 105 [.slice A x.length c] w (NewSl 9 1 strEnc x) := by
 refine Does_of_W Tryz.func105 rfl rfl rfl rfl ?_
 repeat (first | (refine js ?_; (refine bx ?_; intro bk)) | refine walk ?_)
 refine W_cond rfl (fun h1 => ?_) (fun h1 => ?_)
 ·obtain rfl := hA.none h1
  refine W_nil 9 1 ?_
  repeat (first | (refine js ?_; (refine bx ?_; intro bk)) | refine walk ?_)
  exact ret_1 _ [.row (.slice none 0 0) 9 1 0 []] (.tmp rfl) SOA ⟨none, 0, rfl, rfl⟩
 repeat (first | (refine js ?_; (first | (apply Stp_append0; rfl; rfl; (intro A' c'; (focus repeat' constructor)); (intro w' hw _; exact (hA.up hw).rd.raw strEnc.len (by decide)); exact flat_len strEnc.len x; exact all_flat oneS x; (simp only [maxLen]; omega); omega; intro A' c' hc1 hc2 hc3) | (refine bx ?_; intro bk))) | refine walk ?_)
 exact ret_1 _ _ (.tmp rfl) (.refl _) ⟨A', c', rfl, rfl⟩
theorem cloneE_spec (A : Option Addr) (c : Nat) (x : List DEra) (w : World) (hA : RdSl w A c DEra.enc 13 x) (hn : x.length ≤ 1000000) :
  Does Tryz.prog 102 [.slice A x.length c] w (NewSl 48 13 DEra.enc x) := by
 refine Does_of_W Tryz.func102 rfl rfl rfl rfl ?_
 repeat (first | (refine js ?_; (refine bx ?_; intro bk)) | refine walk ?_)
 refine W_cond rfl (fun h1 => ?_) (fun h1 => ?_)
 ·obtain rfl := hA.none h1
  refine W_nil 48 13 ?_
  repeat (first | (refine js ?_; (refine bx ?_; intro bk)) | refine walk ?_)
  exact ret_1 _ [.row (.slice none 0 0) 48 13 0 []] (.tmp rfl) SOA ⟨none, 0, rfl, rfl⟩
 repeat (first | (refine js ?_; (first | (apply Stp_append0; rfl; rfl; (intro A' c'; (focus repeat' constructor)); (intro w' hw _; exact (hA.up hw).rd.raw DEra.len (by decide)); exact flat_len DEra.len x; exact all_flat oneE x; (simp only [maxLen]; omega); omega; intro A' c' hc1 hc2 hc3) | (refine bx ?_; intro bk))) | refine walk ?_)
 exact ret_1 _ _ (.tmp rfl) (.refl _) ⟨A', c', rfl, rfl⟩
theorem cloneL_spec (A : Option Addr) (c : Nat) (x : List DLink) (w : World) (hA : RdSl w A c DLink.enc 2 x) (hn : x.length ≤ 1000000) :
  Does Tryz.prog 104 [.slice A x.length c] w (NewSl 89 2 DLink.enc x) := by
 refine Does_of_W Tryz.func104 rfl rfl rfl rfl ?_
 repeat (first | (refine js ?_; (refine bx ?_; intro bk)) | refine walk ?_)
 refine W_cond rfl (fun h1 => ?_) (fun h1 => ?_)
 ·obtain rfl := hA.none h1
  refine W_nil 89 2 ?_
  repeat (first | (refine js ?_; (refine bx ?_; intro bk)) | refine walk ?_)
  exact ret_1 _ [.row (.slice none 0 0) 89 2 0 []] (.tmp rfl) SOA ⟨none, 0, rfl, rfl⟩
 repeat (first | (refine js ?_; (first | (apply Stp_append0; rfl; rfl; (intro A' c'; (focus repeat' constructor)); (intro w' hw _; exact (hA.up hw).rd.raw DLink.len (by decide)); exact flat_len DLink.len x; exact all_flat oneL x; (simp only [maxLen]; omega); omega; intro A' c' hc1 hc2 hc3) | (refine bx ?_; intro bk))) | refine walk ?_)
 exact ret_1 _ _ (.tmp rfl) (.refl _) ⟨A', c', rfl, rfl⟩
theorem mget_mset (k : ByteArray) (v : Value) (x : ByteArray) : ∀ m : List (ByteArray × Value), mget (mset m k v) x = if x = k then some v else mget m x
 | [] => by simp [mset, mget]
 | (y, u) :: r => by
  simp only [mset]
  split
  ·rename_i h; subst h; simp only [mget]; split <;> simp_all
  ·rename_i h
   simp only [mget, mget_mset k v x r]
   split
   ·rename_i h2; subst h2; rw [if_neg (fun e => h e.symm)]
   ·rfl
def MpB (m : List (ByteArray × Value)) (l : List ByteArray) : Prop := ∀ x, (mget m x).getD (.bool false) = .bool (memB x l)
theorem MpB.set {m : List (ByteArray × Value)} {l : List ByteArray} (h : MpB m l) (y : ByteArray) : MpB (mset m y (.bool true)) (l ++ [y]) := fun x => by
 rw [mget_mset, memB_snoc]
 by_cases e : x = y
 ·subst e; simp
 ·rw [if_neg e, h x]; simp [show ¬ y = x from fun h => e h.symm]
theorem MpB.nil : MpB [] [] := fun _ => rfl
structure MG (α : Type) where
 k : Nat
 A : Option Addr
 c : Nat
 m : Nat
 xs : List Value
 acc : List α
 mp : List (ByteArray × Value)
theorem names_spec (Ar Az Al As : Option Addr) (cr cz cl cs : Nat) (a : DSource) (w : World) (hA : RdSource w Ar Az Al As cr cz cl cs a) (hn : a.rules.length ≤ 1000000) :
  Does Tryz.prog 81 [srcV Ar Az Al As cr cz cl cs a] w (NewSl 9 1 strEnc (namesB a.rules [])) := by
 generalize hres : namesB a.rules [] = res
 refine Does_of_W Tryz.func81 rfl rfl rfl rfl ?_
 repeat (first | (refine js ?_; (refine bx ?_; intro bk)) | refine walk ?_)
 refine W_nil 9 1 ?_
 refine W_loopF [(3, _), (9, _), (10, _)] [] (fun g : MG ByteArray => [(4, .slice g.A g.m g.c), (11, .int .i64 g.k)]) (fun g => [.row (.slice g.A g.m g.c) 9 1 g.m g.xs, .mp _ g.mp]) (fun g => g.k ≤ a.rules.length ∧ g.m = g.acc.length ∧ g.xs = g.acc.flatMap strEnc ∧ g.m ≤ g.k ∧ MpB g.mp g.acc ∧ namesB (a.rules.drop g.k) g.acc = res) (fun g => a.rules.length - g.k) ⟨0, none, 0, 0, [], [], []⟩ ⟨rfl, rfl, rfl, rfl, rfl, trivial⟩ SOA ⟨by simp, rfl, rfl, Nat.le_refl _, .nil, by simpa using hres⟩ ?_
 rintro ⟨k, A, c, m, xs, acc, mp⟩ ⟨hk, hm, hx, hmk, hp, hi⟩
 dsimp only at hk hm hx hmk hp hi ⊢
 repeat (first | (refine js ?_; (refine bx ?_; intro bk)) | refine walk ?_)
 refine W_cond rfl (fun hc => ?_) (fun hc => ?_)
 ·simp only [decide_eq_true_eq, Int.ofNat_lt] at hc
  obtain ⟨hna, hca⟩ := hA.r.rd k _ (List.getElem?_eq_getElem hc)
  have hnb := hna
  have hcb := hca
  rw [drop_cons hc, namesB] at hi
  generalize a.rules[k] = r at *
  repeat (first | (apply RL_pu; rfl; (first | exact PuI | (apply Pu_lookupC; rfl; rfl; (focus repeat' constructor); exact hp _))) | (refine js ?_; (refine bx ?_; intro bk)) | refine walk1 ?_)
  refine W_cond rfl (fun h3 => ?_) (fun h3 => ?_)
  ·simp only [Bool.not_eq_true'] at h3
   rw [h3] at hi
   repeat (first | (apply RL_pu; rfl; exact PuI) | (refine js ?_; (first | (apply Stp_append; rfl; rfl; (intro A' c'; (focus repeat' constructor)); (intro w' _ hO; exact blkRaw (hO.of (by repeat' constructor))); rfl; rfl; (simp only [maxLen]; omega); omega; intro A' c' hc1 hc2 hc3) | (refine bx ?_; intro bk))) | refine walk1 ?_)
   exact ⟨⟨k + 1, A', c', m + 1, xs ++ strEnc r.name, acc ++ [r.name], mset mp r.name (.bool true)⟩, OA, ⟨OA, by simp [hm], by rw [hx]; exact flat_snoc acc r.name, OA, hp.set _, by rw [← hi]; simp⟩, SFA, SOA⟩
  simp only [Bool.not_eq_false'] at h3
  rw [h3] at hi
  repeat (first | (refine js ?_; (refine bx ?_; intro bk)) | refine walk ?_)
  exact ⟨⟨k + 1, A, c, m, xs, acc, mp⟩, OA, ⟨OA, hm, hx, OA, hp, by rw [← hi]; simp⟩, SFA, SOA⟩
 simp only [decide_eq_false_iff_not, Int.ofNat_lt] at hc
 rw [List.drop_eq_nil_of_le (by omega), namesB] at hi
 subst hi
 repeat (first | (refine js ?_; (refine bx ?_; intro bk)) | refine walk ?_)
 exact ret_1 _ [.row (.slice A acc.length c) 9 1 acc.length (acc.flatMap strEnc)] (.tmp rfl) (by subst hm hx; exact SOA) ⟨A, c, by rw [hm], rfl⟩
structure MG2 where
 k : Nat
 acc : List ByteArray
 mp : List (ByteArray × Value)
end Go.Proofs.YtbjkhnlnedfceaaGreatDoor
namespace Go.Proofs.YtbjkhnlnedfceaaGreatDoor
open Go Go.RowKit Go.Wk
attribute [local irreducible] W RL Does thenQ blockQ retQ Calls Pu Stp RD Qy Ay DoesIn
theorem firstZ_snoc (x : ByteArray) (z : DZone) : ∀ (l : List DZone) (k : Nat), firstZ x (l ++ [z]) k = (firstZ x l k).or (if z.name = x then some (k + l.length) else none)
 | [], k => by simp [firstZ]
 | y :: l, k => by
  simp only [List.cons_append, firstZ, firstZ_snoc x z l]
  split
  ·rfl
  ·rw [List.length_cons, show k + 1 + l.length = k + (l.length + 1) by omega]
theorem firstL_snoc (x : ByteArray) (z : DLink) : ∀ (l : List DLink) (k : Nat), firstL x (l ++ [z]) k = (firstL x l k).or (if z.name = x then some (k + l.length) else none)
 | [], k => by simp [firstL]
 | y :: l, k => by
  simp only [List.cons_append, firstL, firstL_snoc x z l]
  split
  ·rfl
  ·rw [List.length_cons, show k + 1 + l.length = k + (l.length + 1) by omega]
theorem firstL_lt (x : ByteArray) : ∀ (l : List DLink) (k i : Nat), firstL x l k = some i → k ≤ i ∧ i < k + l.length
 | [], _, _, h => by cases h
 | z :: l, k, i, h => by
  simp only [firstL] at h
  split at h
  ·simp only [Option.some.injEq] at h; subst h; simp
  ·have := firstL_lt x l (k + 1) i h; simp only [List.length_cons]; omega
theorem firstZ_mem {z : DZone} : ∀ {l : List DZone} (k : Nat), z ∈ l → ∃ j, firstZ z.name l k = some j
 | y :: l, k, h => by
  simp only [firstZ]
  split
  ·exact ⟨_, rfl⟩
  ·rename_i hn
   rcases List.mem_cons.1 h with rfl | h
   ·exact absurd rfl hn
   ·exact firstZ_mem (k + 1) h
theorem firstL_mem {z : DLink} : ∀ {l : List DLink} (k : Nat), z ∈ l → ∃ j, firstL z.name l k = some j
 | y :: l, k, h => by
  simp only [firstL]
  split
  ·exact ⟨_, rfl⟩
  ·rename_i hn
   rcases List.mem_cons.1 h with rfl | h
   ·exact absurd rfl hn
   ·exact firstL_mem (k + 1) h
def IxM (m : List (ByteArray × Value)) (f : ByteArray → Option Nat) : Prop := ∀ x, mget m x = (f x).map fun i : Nat => Value.int .i64 (i : Int)
theorem IxM.some {m : List (ByteArray × Value)} {f : ByteArray → Option Nat} (h : IxM m f) {x : ByteArray} {i : Nat} (hf : f x = some i) : (mget m x).getD (.int .i64 0) = .int .i64 i ∧ (mget m x).isSome = true := by
 rw [h x, hf]; exact ⟨rfl, rfl⟩
theorem IxM.none {m : List (ByteArray × Value)} {f : ByteArray → Option Nat} (h : IxM m f) {x : ByteArray} (hf : f x = none) : (mget m x).getD (.int .i64 0) = .int .i64 0 ∧ (mget m x).isSome = false := by
 rw [h x, hf]; exact ⟨rfl, rfl⟩
theorem IxM.set {m : List (ByteArray × Value)} {f f' : ByteArray → Option Nat} (h : IxM m f) {k : ByteArray} {i : Nat} (hf : ∀ x, f' x = if x = k then Option.some i else f x) : IxM (mset m k (.int .i64 i)) f' := fun x => by
 rw [mget_mset, hf x]
 split
 ·rfl
 ·exact h x
def NewIx (f : ByteArray → Option Nat) (N : Nat) (v : Value) (O : List It) : Prop := ∃ b m, v = .map (some b) ∧ O = [.mp b m] ∧ IxM m f ∧ Nd m ∧ m.length ≤ N
structure LG where
 k : Nat
 mp : List (ByteArray × Value)
theorem PuLnk0 {G : Prop} (h : G := by (first | exact PuI | (apply Pu_lookupOkC; rfl; rfl; (focus repeat' constructor); exact hv0; exact hc0))) : G := h
theorem lzones_spec (Ar Az Al As : Option Addr) (cr cz cl cs : Nat) (a : DSource) (w : World) (hA : RdSource w Ar Az Al As cr cz cl cs a) (hn : a.zones.length ≤ 1000000) :
  Does Tryz.prog 47 [srcV Ar Az Al As cr cz cl cs a] w (NewIx (fun x => firstZ x a.zones 0) a.zones.length) := by
 refine Does_of_W Tryz.func47 rfl rfl rfl rfl ?_
 repeat (first | (refine js ?_; (first | (apply Stp_makeMapN; rfl; intro bk) | (refine bx ?_; intro bk))) | refine walk ?_)
 refine W_loopF [(3, .map (some bk)), (13, .slice Az a.zones.length cz), (14, .int .i64 a.zones.length)] [] (fun g : LG => [(15, .int .i64 g.k)]) (fun g => [.mp bk g.mp]) (fun g => g.k ≤ a.zones.length ∧ IxM g.mp (fun x => firstZ x (a.zones.take g.k) 0) ∧ Nd g.mp ∧ g.mp.length ≤ g.k) (fun g => a.zones.length - g.k) ⟨0, []⟩ SFA SOA ⟨Nat.zero_le _, fun x => rfl, List.nodup_nil, Nat.le_refl _⟩ ?_
 obtain ⟨bm, hbm⟩ : ∃ bm, bk = bm := ⟨_, rfl⟩
 rw [hbm]
 clear hbm bk
 rintro ⟨k, mp⟩ ⟨hk, hm, hd, hl⟩
 dsimp only at hk hm hd hl ⊢
 repeat (first | (refine js ?_; (refine bx ?_; intro bk)) | refine walk ?_)
 refine W_cond rfl (fun hc => ?_) (fun hc => ?_)
 ·simp only [decide_eq_true_eq, Int.ofNat_lt] at hc
  obtain ⟨hna, cs1, ⟨Ae, ce, _, rfl⟩, hca⟩ := hA.z k _ (List.getElem?_eq_getElem hc)
  have ht := List.take_append_getElem hc
  have hlen : (a.zones.take k).length = k := by rw [List.length_take]; omega
  generalize a.zones[k] = z at *
  have hsn := fun x => firstZ_snoc x z (a.zones.take k) 0
  rw [ht, hlen] at hsn
  cases hf : firstZ z.name (a.zones.take k) 0 with
  | none =>
   obtain ⟨hv0, hc0⟩ := hm.none hf
   repeat (first | (apply RL_pu; rfl; exact PuLnk0) | (refine js ?_; (refine bx ?_; intro bk)) | refine walk1 ?_)
   refine ⟨⟨k + 1, mset mp z.name (.int .i64 k)⟩, OA, ⟨OA, hm.set (k := z.name) (i := k) (fun x => ?_), hd.set _ _, ?_⟩, SFA, SOA⟩
   ·dsimp only
    rw [hsn x]
    by_cases e : x = z.name
    ·subst e; simp [hf]
    ·rw [if_neg e, if_neg (fun h => e h.symm), Option.or_none]
   ·have := mset_len z.name (.int .i64 (k : Int)) mp
    dsimp only
    omega
  | some j =>
   obtain ⟨hv0, hc0⟩ := hm.some hf
   repeat (first | (apply RL_pu; rfl; exact PuLnk0) | (refine js ?_; (refine bx ?_; intro bk)) | refine walk1 ?_)
   refine ⟨⟨k + 1, mp⟩, OA, ⟨OA, fun x => ?_, hd, OA⟩, SFA, SOA⟩
   dsimp only
   rw [hm x, hsn x]
   dsimp only
   by_cases e : z.name = x
   ·subst e; rw [hf]; rfl
   ·rw [if_neg e, Option.or_none]
 ·simp only [decide_eq_false_iff_not, Int.ofNat_lt] at hc
  rw [List.take_of_length_le (by omega)] at hm
  repeat (first | (refine js ?_; (refine bx ?_; intro bk)) | refine walk ?_)
  exact ret_1 _ [.mp bm mp] (.tmp rfl) SOA ⟨bm, mp, rfl, rfl, hm, hd, by omega⟩
theorem ltargets_spec (Ar Az Al As : Option Addr) (cr cz cl cs : Nat) (a : DSource) (w : World) (hA : RdSource w Ar Az Al As cr cz cl cs a) (hn : a.links.length ≤ 1000000) :
  Does Tryz.prog 49 [srcV Ar Az Al As cr cz cl cs a] w (NewIx (fun x => firstL x a.links 0) a.links.length) := by
 refine Does_of_W Tryz.func49 rfl rfl rfl rfl ?_
 repeat (first | (refine js ?_; (first | (apply Stp_makeMapN; rfl; intro bk) | (refine bx ?_; intro bk))) | refine walk ?_)
 refine W_loopF [(3, .map (some bk)), (13, .slice Al a.links.length cl), (14, .int .i64 a.links.length)] [] (fun g : LG => [(15, .int .i64 g.k)]) (fun g => [.mp bk g.mp]) (fun g => g.k ≤ a.links.length ∧ IxM g.mp (fun x => firstL x (a.links.take g.k) 0) ∧ Nd g.mp ∧ g.mp.length ≤ g.k) (fun g => a.links.length - g.k) ⟨0, []⟩ SFA SOA ⟨Nat.zero_le _, fun x => rfl, List.nodup_nil, Nat.le_refl _⟩ ?_
 obtain ⟨bm, hbm⟩ : ∃ bm, bk = bm := ⟨_, rfl⟩
 rw [hbm]
 clear hbm bk
 rintro ⟨k, mp⟩ ⟨hk, hm, hd, hl⟩
 dsimp only at hk hm hd hl ⊢
 repeat (first | (refine js ?_; (refine bx ?_; intro bk)) | refine walk ?_)
 refine W_cond rfl (fun hc => ?_) (fun hc => ?_)
 ·simp only [decide_eq_true_eq, Int.ofNat_lt] at hc
  obtain ⟨hna, hca⟩ := hA.l.rd k _ (List.getElem?_eq_getElem hc)
  have ht := List.take_append_getElem hc
  have hlen : (a.links.take k).length = k := by rw [List.length_take]; omega
  generalize a.links[k] = z at *
  have hsn := fun x => firstL_snoc x z (a.links.take k) 0
  rw [ht, hlen] at hsn
  cases hf : firstL z.name (a.links.take k) 0 with
  | none =>
   obtain ⟨hv0, hc0⟩ := hm.none hf
   repeat (first | (apply RL_pu; rfl; exact PuLnk0) | (refine js ?_; (refine bx ?_; intro bk)) | refine walk1 ?_)
   refine ⟨⟨k + 1, mset mp z.name (.int .i64 k)⟩, OA, ⟨OA, hm.set (k := z.name) (i := k) (fun x => ?_), hd.set _ _, ?_⟩, SFA, SOA⟩
   ·dsimp only
    rw [hsn x]
    by_cases e : x = z.name
    ·subst e; simp [hf]
    ·rw [if_neg e, if_neg (fun h => e h.symm), Option.or_none]
   ·have := mset_len z.name (.int .i64 (k : Int)) mp
    dsimp only
    omega
  | some j =>
   obtain ⟨hv0, hc0⟩ := hm.some hf
   repeat (first | (apply RL_pu; rfl; exact PuLnk0) | (refine js ?_; (refine bx ?_; intro bk)) | refine walk1 ?_)
   refine ⟨⟨k + 1, mp⟩, OA, ⟨OA, fun x => ?_, hd, OA⟩, SFA, SOA⟩
   dsimp only
   rw [hm x, hsn x]
   dsimp only
   by_cases e : z.name = x
   ·subst e; rw [hf]; rfl
   ·rw [if_neg e, Option.or_none]
 ·simp only [decide_eq_false_iff_not, Int.ofNat_lt] at hc
  rw [List.take_of_length_le (by omega)] at hm
  repeat (first | (refine js ?_; (refine bx ?_; intro bk)) | refine walk ?_)
  exact ret_1 _ [.mp bm mp] (.tmp rfl) SOA ⟨bm, mp, rfl, rfl, hm, hd, by omega⟩
theorem clone_is : isClone Tryz.prog 136 := fun args w => by
 rw [run_callFunc_extern Tryz.func136 (by kernel_rfl) (by kernel_rfl) (by kernel_rfl) (e := Extern.MapsClone.clone) (by kernel_rfl)]
theorem mclone_spec (b : Nat) (m : List (ByteArray × Value)) (w : World) (h : MpAt w b m) :
  Does Tryz.prog 95 [.map (some b)] w (fun v O => ∃ b2, v = .map (some b2) ∧ O = [.mp b2 m]) := by
 refine Does_of_W Tryz.func95 rfl rfl rfl rfl ?_
 repeat (first | (apply RL_pu; rfl; (first | (apply Pu_eqNilMap; rfl) | (apply Pu_ifaceMap; rfl) | (apply Pu_assertMap; rfl))) | (refine js ?_; (apply Stp_mapsClone; exact clone_is; rfl; (intro w' hw _; exact h.up hw (Nat.le_refl _)); intro bk)) | refine walk1 ?_)
 exact ret_1 _ _ (.tmp rfl) (.refl _) ⟨_, rfl, rfl⟩
structure FG where
 seen : List ByteArray
 x : ByteArray
 mp : List (ByteArray × Value)
 f : Nat
theorem memB_cons (x y : ByteArray) (l : List ByteArray) : memB x (y :: l) = (decide (y = x) || memB x l) := rfl
theorem PuLnk2 {G : Prop} (h : G := by (apply Pu_lookupOkOld; rfl; rfl; exact h1; exact hv0; exact hc0)) : G := h
theorem PuLnk3 {G : Prop} (h : G := by (first | exact PuLnk2 | (apply Pu_lookupOkOld; rfl; rfl; exact h2; exact hv1; exact hc1) | (apply Pu_lookupOkC; rfl; rfl; (focus repeat' constructor); exact hv2; exact hc2))) : G := h
theorem follow_spec (Ar Az Al As : Option Addr) (cr cz cl cs : Nat) (a : DSource) (b1 b2 : Nat) (mk ml : List (ByteArray × Value)) (name : ByteArray) (w : World) (hA : RdSource w Ar Az Al As cr cz cl cs a) (h1 : MpAt w b1 mk) (h2 : MpAt w b2 ml)
  (hk : IxM mk fun x => firstZ x a.zones 0) (hl : IxM ml fun x => firstL x a.links 0) (hd : Nd ml) (hlen : ml.length ≤ a.links.length) :
  Does Tryz.prog 52 [srcV Ar Az Al As cr cz cl cs a, .map (some b1), .map (some b2), .string name] w (fun v O => v = .tuple #[.int .i64 (followD a (a.links.length + 1) [] name).1, .int .i64 (followD a (a.links.length + 1) [] name).2] ∧ O = []) := by
 obtain ⟨res, hres⟩ : ∃ res, followD a (a.links.length + 1) [] name = res := ⟨_, rfl⟩
 rw [hres]
 refine Does_of_W Tryz.func52 rfl rfl rfl rfl ?_
 repeat (first | (refine js ?_; (first | (apply Stp_call (h := fun w' hw _ => mclone_spec b2 ml w' (h2.up hw (Nat.le_refl _))); rfl; rintro v O' ⟨bc, rfl, rfl⟩) | (refine bx ?_; intro bk))) | refine walk ?_)
 refine W_loopF [(1, .map (some b1)), (2, .map (some b2)), (4, .pointer (some ⟨bk, 0, none⟩)), (10, .map (some bc))] [.blk bk [.slice Ar a.rules.length cr, .slice Az a.zones.length cz, .slice Al a.links.length cl, .slice As a.shifts.length cs] 31] (fun g : FG => [(3, .string g.x)]) (fun g => [.mp bc g.mp])
  (fun g => Nd g.mp ∧ (∀ x, mget g.mp x = if memB x g.seen then none else mget ml x) ∧ followD a g.f g.seen g.x = res ∧ g.mp.length < g.f) (fun g => g.mp.length) ⟨[], name, ml, a.links.length + 1⟩ SFA SOA ⟨hd, fun x => rfl, hres, by dsimp only; omega⟩ ?_
 rintro ⟨seen, x, mp, f⟩ ⟨hd2, hm, hi, hf⟩
 dsimp only at hd2 hm hi hf ⊢
 obtain ⟨f, rfl⟩ : ∃ f', f = f' + 1 := ⟨f - 1, by omega⟩
 rw [followD] at hi
 cases hz : firstZ x a.zones 0 with
 | some i =>
  rw [hz] at hi
  obtain ⟨hv0, hc0⟩ := hk.some hz
  repeat (first | (apply RL_pu; rfl; exact PuLnk2) | (refine js ?_; (refine bx ?_; intro bk)) | refine walk1 ?_)
  exact ret_2 _ _ [] (.tmp rfl) (.tmp rfl) .nil ⟨by rw [← hi] <;> rfl, rfl⟩
 | none =>
  rw [hz] at hi
  obtain ⟨hv0, hc0⟩ := hk.none hz
  cases hy : firstL x a.links 0 with
  | none =>
   rw [hy] at hi
   obtain ⟨hv1, hc1⟩ := hl.none hy
   have hg : mget mp x = none := by
    rw [hm x, hl x]
    dsimp only
    rw [hy]
    split <;> rfl
   have hv2 : (mget mp x).getD (.int .i64 0) = .int .i64 0 := by rw [hg]; rfl
   have hc2 : (mget mp x).isSome = false := by rw [hg]; rfl
   repeat (first | (apply RL_pu; rfl; exact PuLnk3) | (refine js ?_; (refine bx ?_; intro bk)) | refine walk1 ?_)
   exact ret_2 _ _ [] (.tmp rfl) (.tmp rfl) .nil ⟨by rw [← hi] <;> rfl, rfl⟩
  | some i =>
   rw [hy] at hi
   dsimp only at hi
   obtain ⟨hv1, hc1⟩ := hl.some hy
   cases hs : memB x seen with
   | true =>
    rw [hs, if_pos rfl] at hi
    have hg : mget mp x = none := by rw [hm x, hs]; rfl
    have hv2 : (mget mp x).getD (.int .i64 0) = .int .i64 0 := by rw [hg]; rfl
    have hc2 : (mget mp x).isSome = false := by rw [hg]; rfl
    repeat (first | (apply RL_pu; rfl; exact PuLnk3) | (refine js ?_; (refine bx ?_; intro bk)) | refine walk1 ?_)
    exact ret_2 _ _ [] (.tmp rfl) (.tmp rfl) .nil ⟨by rw [← hi] <;> rfl, rfl⟩
   | false =>
    rw [hs, if_neg (by decide)] at hi
    have hg : mget mp x = some (.int .i64 i) := by rw [hm x, hs, hl x]; dsimp only; rw [hy]; rfl
    have hv2 : (mget mp x).getD (.int .i64 0) = .int .i64 i := by rw [hg]; rfl
    have hc2 : (mget mp x).isSome = true := by rw [hg]; rfl
    have hdl := mdel_len x hc2
    have hlt : i < a.links.length := by have := firstL_lt x a.links 0 i hy; omega
    obtain ⟨hna, hca⟩ := hA.l.rd i _ (List.getElem?_eq_getElem hlt)
    rw [List.getElem?_eq_getElem hlt] at hi
    generalize a.links[i] = lk at *
    simp only [Option.map_some, Option.getD_some] at hi
    repeat (first | (apply RL_pu; rfl; (first | exact PuLnk3 | exact PuI)) | (refine js ?_; (first | (apply Stp_delete; rfl; rfl; (focus repeat' constructor)) | (refine bx ?_; intro bk))) | refine walk1 ?_)
    refine ⟨⟨x :: seen, lk.target, mdel mp x, f⟩, OA, ⟨hd2.del _, fun y => ?_, hi, OA⟩, SFA, SOA⟩
    dsimp only
    rw [mget_mdel x y hd2, hm y, memB_cons]
    by_cases e : x = y
    ·subst e; simp
    ·rw [if_neg (fun h => e h.symm), show decide (x = y) = false from decide_eq_false e, Bool.false_or]
end Go.Proofs.YtbjkhnlnedfceaaGreatDoor
namespace Go.Wk
open Go Go.RowKit
section
variable {P : Program} {n : Nat} {wr : World} {Q : Exit → Fr → List It → Prop} {fr : Fr} {O : List It} {K : Fr → List It → Prop}
theorem goto_ret {l : Nat} {rs : List ResultVar} {R : Value → List It → Prop} : ¬ retQ P wr rs R (.goto l) fr O := id
theorem W_scope {c : Code} (hg : ∀ l fr O, ¬ Q (.goto l) fr O) (h : W P n wr c Q fr O) : W P n wr (.scope c) Q fr O := by
 intro a w hs
 refine wp_scope_straight (wp_mono (h a w hs) ?_)
 rintro e a' w' ⟨fr', O', hs', hq⟩
 cases e with
 | goto l => exact (hg l _ _ hq).elim
 | _ => exact ⟨fr', O', hs', hq⟩
theorem W_label {l : Nat} (h : Q .normal fr O) : W P n wr (.label l) Q fr O := fun _ _ hs => wp_label ⟨fr, O, hs, h⟩
end
section
variable {P : Program} {n : Nat} {wr : World} {fr : Fr} {O : List It} {ty : TypeId} {pos : String} {af : Array Edge} {dst : Option Tmp} {g : Option (Nat × Bool)} {Kp : Value → List It → Prop}
theorem Pu_sliceArrH {t len e sz b : Nat} {ag : Bool} {x y : Operand} {h : Int} [hA : ArrT P t len e sz ag] (hx : ev fr x = some (.pointer (some ⟨b, 0, none⟩))) (hy : ev fr y = some (.int .i64 h)) (h0 : 0 ≤ h) (h1 : h ≤ len) :
  Pu P n wr fr O (.slice t x none (some y) none) ty (.slice (some ⟨b, 0, none⟩) h.toNat len) :=
 fun a w hs _ _ _ _ => by
  have h := hA.h
  unfold arrChk at h
  split at h
  ·rename_i len' e' hu
   split at h
   ·rename_i sz' ag' ht
    simp only [Option.some.injEq, Prod.mk.injEq] at h
    obtain ⟨rfl, rfl, rfl, rfl⟩ := h
    obtain ⟨inf, dd, hinf, hsz, _, _⟩ := Ty.parts ht
    simp [execOp, hs.sim.ev hx, hs.sim.ev hy, Instr.sliceAt, run_underlying hu, Instr.sureAddr, Instr.sliceBounds, run_sliceBound, h0, h1, sizeOf, run_typeInfo hinf, Addr.add]
   ·cases h
  ·cases h
theorem Pu_loadBi {t sz b p : Nat} {x : Operand} {cs : List Value} {bt : TypeId} {v : Value} {R : List It} [Ty P t sz false] (hx : ev fr x = some (.pointer (some ((adr (some ⟨b, 0, none⟩)).add p))))
  (hp : Pick (.blk b cs bt) O R) (hv : cs[p]? = some v) : Pu P n wr fr O (.load t x) ty v :=
 Pu_loadB1 (by rw [hx, show adr (some (⟨b, 0, none⟩ : Addr)) = ⟨b, 0, none⟩ from rfl, add_mk, Nat.zero_add]) hp hv
theorem Pu_loadBa {t sz b p : Nat} {x : Operand} {cs : List Value} {bt : TypeId} {v : Value} {R : List It} [Ty P t sz false] (hx : ev fr x = some (.pointer (some ((⟨b, 0, none⟩ : Addr).add p))))
  (hp : Pick (.blk b cs bt) O R) (hv : cs[p]? = some v) : Pu P n wr fr O (.load t x) ty v :=
 Pu_loadB1 (by rw [hx, add_mk, Nat.zero_add]) hp hv
theorem Pu_neg64 {t : TypeId} {x : Operand} {i : Int} (hx : ev fr x = some (.int .i64 i)) (h : -9223372036854775807 ≤ i ∧ i ≤ 9223372036854775807) : Pu P n wr fr O (.unOp .neg t x) ty (.int .i64 (-i)) := by
 have := Pu_negW (P := P) (n := n) (wr := wr) (O := O) (ty := ty) (t := t) hx
 rwa [Int.zero_sub, wrap64_id (by omega)] at this
def byteV (c : UInt8) : Value := .int .u8 (c.toNat : Int)
theorem Pu_convBytes {t t' e sz bytes et c : Nat} {x : Operand} {A : Option Addr} {m : Nat} {l : List UInt8} {xs : List Value} {R : List It} [hE : ElemT P t e sz bytes] [hU : IntT P e .u8] [hS : StringT P t'] (hx : ev fr x = some (.slice A m c))
  (hp : Pick (.row (.slice A m c) et 1 m xs) O R) (hxs : xs = l.map byteV) (hm : m = l.length) (hA : A ≠ none) : Pu P n wr fr O (.convert t t' x) ty (.string ⟨l.toArray⟩) :=
 fun a w hs _ _ _ _ => by
  have h := hE.h
  unfold elemChk at h
  split at h
  ·rename_i e' hu
   split at h
   ·simp only [Option.some.injEq, Prod.mk.injEq] at h
    obtain ⟨rfl, _, _⟩ := h
    obtain ⟨ad, rfl⟩ := Option.ne_none_iff_exists'.1 hA
    subst hm hxs
    have hsat := hs.own.sat _ (hp.perm.mem_iff.2 List.mem_cons_self)
    have hc : ∀ j (hj : j < l.length), w.cell? (ad.add j) = some (.int .u8 (l[j].toNat : Int)) := fun j hj => by
     have := row_cell hsat (j := j) (u := byteV l[j]) (by rw [List.getElem?_map, List.getElem?_eq_getElem hj]; rfl)
     exact this.2
    have hrun := run_convert_bytes_back (P := P) w t t' e' ad c l hu hU.h hS.h hc
    simp [execOp, hs.sim.ev hx, hrun]
   ·cases h
  ·cases h
theorem Pu_lssB {t t' : TypeId} {x y : Operand} {kk : IntKind} {i j : Int} {b : Bool} (hx : ev fr x = some (.int kk i)) (hy : ev fr y = some (.int kk j)) (h : decide (i < j) = b) : Pu P n wr fr O (.binOp .lss t x y t') ty (.bool b) := h ▸ Pu_lss hx hy
theorem Pu_leqB {t t' : TypeId} {x y : Operand} {kk : IntKind} {i j : Int} {b : Bool} (hx : ev fr x = some (.int kk i)) (hy : ev fr y = some (.int kk j)) (h : decide (i ≤ j) = b) : Pu P n wr fr O (.binOp .leq t x y t') ty (.bool b) := h ▸ Pu_leq hx hy
theorem Pu_gtrB {t t' : TypeId} {x y : Operand} {kk : IntKind} {i j : Int} {b : Bool} (hx : ev fr x = some (.int kk i)) (hy : ev fr y = some (.int kk j)) (h : decide (j < i) = b) : Pu P n wr fr O (.binOp .gtr t x y t') ty (.bool b) := h ▸ Pu_gtr hx hy
theorem Pu_geqB {t t' : TypeId} {x y : Operand} {kk : IntKind} {i j : Int} {b : Bool} (hx : ev fr x = some (.int kk i)) (hy : ev fr y = some (.int kk j)) (h : decide (j ≤ i) = b) : Pu P n wr fr O (.binOp .geq t x y t') ty (.bool b) := h ▸ Pu_geq hx hy
theorem Pu_eqlB {t t' : TypeId} {x y : Operand} {kk : IntKind} {i j : Int} {b : Bool} (hx : ev fr x = some (.int kk i)) (hy : ev fr y = some (.int kk j)) (h : decide (i = j) = b) : Pu P n wr fr O (.binOp .eql t x y t') ty (.bool b) := h ▸ Pu_eql hx hy
theorem Pu_neqB' {t t' : TypeId} {x y : Operand} {kk : IntKind} {i j : Int} {b : Bool} (hx : ev fr x = some (.int kk i)) (hy : ev fr y = some (.int kk j)) (h : (!decide (i = j)) = b) : Pu P n wr fr O (.binOp .neq t x y t') ty (.bool b) := h ▸ Pu_neq hx hy
theorem Pu_eqlSB {t t' : TypeId} {x y : Operand} {i j : ByteArray} {b : Bool} (hx : ev fr x = some (.string i)) (hy : ev fr y = some (.string j)) (h : decide (i = j) = b) : Pu P n wr fr O (.binOp .eql t x y t') ty (.bool b) := h ▸ Pu_eqlS hx hy
theorem Pu_neqSB {t t' : TypeId} {x y : Operand} {i j : ByteArray} {b : Bool} (hx : ev fr x = some (.string i)) (hy : ev fr y = some (.string j)) (h : (!decide (i = j)) = b) : Pu P n wr fr O (.binOp .neq t x y t') ty (.bool b) := h ▸ Pu_neqS hx hy
end
end Go.Wk
