/- The shelf's laying of slices.SortFunc at events, written out (by genlay.py). What the shelf asks of a comparison: events.order, walked with the kit's own steps. Plain law: the events sorted; the first that is close to the one in front of it. Contract: slices.SortFunc at events, by the shelf. Contracts: events.In at the years that apart looks at, apart.Check. Contracts: accept.looker.sizes, rule, names. -/
import Derived.Shelf.SlSortCmp.NoneTotal
import Derived.Shelf.Lay
import Derived.Test.YtceekohkjgiabaaGreatDoorQ08
import Derived.Sort.Grow
import Derived.Deep.Draws
import Derived.Deep.RegionHeld3
import Derived.Test.YtceekohkjgiabaaGreatDoorQ17
import Derived.Sort.LotA
import Derived.Test.YtceekohkjgiabaaGreatDoorQ09
import Derived.Test.YtceekohkjgiabaaGreatDoorQ10
import Derived.Test.YtceekohkjgiabaaGreatDoorQ14
import Derived.Test.YtceekohkjgiabaaGreatDoorQ19
import Derived.Test.YtceekohkjgiabaaGreatDoorQ16
set_option maxHeartbeats 4000000
set_option linter.unusedVariables false
set_option linter.unusedSimpArgs false
namespace Go.Proofs.YtceekohkjgiabaaGreatDoor
open Go.Shelf Go.RowKit Go.Lib Go.Sort
def sortLay_ren : Ren where
 f := fun | 6 => 129 | 15 => 163 | 14 => 162 | 28 => 202 | 29 => 203 | 20 => 194 | 21 => 195 | 22 => 196 | 23 => 197 | 24 => 198 | 25 => 199 | 26 => 200 | 27 => 201 | 46 => 227 | 47 => 228 | 48 => 229 | 49 => 230 | 50 => 231 | 57 => 244 | n => n
 t := fun | 22 => 111 | 24 => 78 | 25 => 163 | 3 => 3 | 39 => 189 | 0 => 0 | 53 => 230 | 55 => 159 | 4 => 4 | 46 => 224 | 45 => 223 | 50 => 118 | 5 => 5 | 9 => 9 | 66 => 242 | 70 => 246 | 76 => 262 | 77 => 263 | n => n
 g := fun n => n
theorem sortLay : SlLaysF0.n6 Tryz.prog sortLay_ren where
 mixed := by kernel_rfl
 f6 := ⟨Tryz.f129.name, by decide, Tryz.func129.trans (congrArg some (by kernel_rfl))⟩
 f14 := ⟨Tryz.f162.name, by decide, Tryz.func162.trans (congrArg some (by kernel_rfl))⟩
 f20 := ⟨Tryz.f194.name, by decide, Tryz.func194.trans (congrArg some (by kernel_rfl))⟩
 f21 := ⟨Tryz.f195.name, by decide, Tryz.func195.trans (congrArg some (by kernel_rfl))⟩
 f22 := ⟨Tryz.f196.name, by decide, Tryz.func196.trans (congrArg some (by kernel_rfl))⟩
 f23 := ⟨Tryz.f197.name, by decide, Tryz.func197.trans (congrArg some (by kernel_rfl))⟩
 f24 := ⟨Tryz.f198.name, by decide, Tryz.func198.trans (congrArg some (by kernel_rfl))⟩
 f25 := ⟨Tryz.f199.name, by decide, Tryz.func199.trans (congrArg some (by kernel_rfl))⟩
 f26 := ⟨Tryz.f200.name, by decide, Tryz.func200.trans (congrArg some (by kernel_rfl))⟩
 f27 := ⟨Tryz.f201.name, by decide, Tryz.func201.trans (congrArg some (by kernel_rfl))⟩
 f46 := ⟨Tryz.f227.name, by decide, Tryz.func227.trans (congrArg some (by kernel_rfl))⟩
 f49 := ⟨Tryz.f230.name, by decide, Tryz.func230.trans (congrArg some (by kernel_rfl))⟩
 f50 := ⟨Tryz.f231.name, by decide, Tryz.func231.trans (congrArg some (by kernel_rfl))⟩
 f57 := ⟨Tryz.f244.name, by decide, Tryz.func244.trans (congrArg some (by kernel_rfl))⟩
 f15 := Tryz.func163.trans (congrArg some (by kernel_rfl))
 f28 := Tryz.func202.trans (congrArg some (by kernel_rfl))
 f29 := Tryz.func203.trans (congrArg some (by kernel_rfl))
 f47 := Tryz.func228.trans (congrArg some (by kernel_rfl))
 f48 := Tryz.func229.trans (congrArg some (by kernel_rfl))
 t0 := Tryz.underlying0
 a0 := Tryz.isAgg0
 z0 := Tryz.sizeOf0
 v0 := Tryz.zeroValue0
 t3 := Tryz.underlying3
 a3 := Tryz.isAgg3
 z3 := Tryz.sizeOf3
 v3 := Tryz.zeroValue3
 t4 := Tryz.underlying4
 a4 := Tryz.isAgg4
 z4 := Tryz.sizeOf4
 v4 := Tryz.zeroValue4
 t5 := Tryz.underlying5
 a5 := Tryz.isAgg5
 z5 := Tryz.sizeOf5
 v5 := Tryz.zeroValue5
 t9 := Tryz.underlying9
 a9 := Tryz.isAgg9
 z9 := Tryz.sizeOf9
 v9 := Tryz.zeroValue9
 t22 := Tryz.underlying111
 a22 := Tryz.isAgg111
 z22 := Tryz.sizeOf111
 v22 := Tryz.zeroValue111
 t25 := Tryz.underlying163
 a25 := Tryz.isAgg163
 z25 := Tryz.sizeOf163
 v25 := Tryz.zeroValue163
 t39 := Tryz.underlying189
 a39 := Tryz.isAgg189
 z39 := Tryz.sizeOf189
 v39 := Tryz.zeroValue189
 t45 := Tryz.underlying223
 a45 := Tryz.isAgg223
 z45 := Tryz.sizeOf223
 v45 := Tryz.zeroValue223
 t46 := Tryz.underlying224
 a46 := Tryz.isAgg224
 z46 := Tryz.sizeOf224
 v46 := Tryz.zeroValue224
 t50 := Tryz.underlying118
 a50 := Tryz.isAgg118
 z50 := Tryz.sizeOf118
 v50 := Tryz.zeroValue118
 t53 := Tryz.underlying230
 a53 := Tryz.isAgg230
 z53 := Tryz.sizeOf230
 v53 := Tryz.zeroValue230
 t55 := Tryz.underlying159
 a55 := Tryz.isAgg159
 z55 := Tryz.sizeOf159
 v55 := Tryz.zeroValue159
 t66 := Tryz.underlying242
 a66 := Tryz.isAgg242
 z66 := Tryz.sizeOf242
 v66 := Tryz.zeroValue242
 t70 := Tryz.underlying246
 a70 := Tryz.isAgg246
 z70 := Tryz.sizeOf246
 v70 := Tryz.zeroValue246
 t76 := Tryz.underlying262
 a76 := Tryz.isAgg262
 z76 := Tryz.sizeOf262
 v76 := Tryz.zeroValue262
 t77 := Tryz.underlying263
 a77 := Tryz.isAgg263
 z77 := Tryz.sizeOf263
 v77 := Tryz.zeroValue263
open Go Go.Wk
set_option maxHeartbeats 4000000
theorem cmp64_l (a b : Int) (w : World) : Calls Tryz.prog 165 #[.int .i64 a, .int .i64 b] w fun e w' => e = .returned (.int .i64 (cmpI a b)) ∧ w' = w := by
 go_enter Tryz.func165, Tryz.ntmps165
 go_wp2
 all_goals go_ret
 all_goals (unfold cmpI; repeat' split)
 all_goals first | exact ⟨rfl, rfl⟩ | (exfalso; omega)
theorem cmpN_l (a b : Int) (w : World) : Calls Tryz.prog 166 #[.int .i64 a, .int .i64 b] w fun e w' => e = .returned (.int .i64 (cmpI a b)) ∧ w' = w := by
 go_enter Tryz.func166, Tryz.ntmps166
 go_wp2
 all_goals go_ret
 all_goals (unfold cmpI; repeat' split)
 all_goals first | exact ⟨rfl, rfl⟩ | (exfalso; omega)
theorem or_l (x y z : Int) (b : Nat) (w : World) (h0 : w.cell? ⟨b, 0, none⟩ = some (.int .i64 x)) (h1 : w.cell? ⟨b, 1, none⟩ = some (.int .i64 y)) (h2 : w.cell? ⟨b, 2, none⟩ = some (.int .i64 z)) :
  Calls Tryz.prog 164 #[.slice (some ⟨b, 0, none⟩) 3 3] w fun e w' => e = .returned (.int .i64 (firstNz [x, y, z])) ∧ w' = w := by
 go_enter Tryz.func164, Tryz.ntmps164
 go_wp2
 refine wp_loop_rounds 4 ?_
 rw [rounds_succ]
 by_cases hx : x = 0
 ·subst hx
  go_wp2
  rw [rounds_succ]
  by_cases hy : y = 0
  ·subst hy
   go_wp2
   rw [rounds_succ]
   by_cases hz : z = 0
   ·subst hz
    go_wp2
    rw [rounds_succ]
    go_wp2
    go_ret
    exact ⟨rfl, rfl⟩
   ·go_wp2
    go_ret
    exact ⟨by simp [firstNz, hz], rfl⟩
  ·go_wp2
   go_ret
   exact ⟨by simp [firstNz, hy], rfl⟩
 ·go_wp2
  go_ret
  exact ⟨by simp [firstNz, hx], rfl⟩
attribute [local irreducible] cmpI firstNz
theorem order_lays (a b : DEvent) (w : World) : Calls Tryz.prog 130 #[.agg (DEvent.enc a).toArray, .agg (DEvent.enc b).toArray] w fun e w' => e = .returned (.int .i64 (ordE a b)) ∧ ∃ q os', w' = grow (w.drewN q) os' := by
 rw [ordE_eq]
 obtain ⟨y, r, n⟩ := a
 obtain ⟨y2, r2, n2⟩ := b
 dsimp only
 have h1 := cmp64_l
 have h2 := cmpN_l
 have h3 := or_l
 simp only [DEvent.enc]
 go_enter Tryz.func130, Tryz.ntmps130
 go_wp2_with fail
 go_region_held3 (fun W => W.cell? ⟨w.heap.size, 0, none⟩ = some (.int .i64 y) ∧ W.cell? ⟨w.heap.size, 1, none⟩ = some (.int .i64 r) ∧ W.cell? ⟨w.heap.size, 2, none⟩ = some (.int .i64 n) ∧ W.cell? ⟨w.heap.size + 1, 0, none⟩ = some (.int .i64 y2) ∧ W.cell? ⟨w.heap.size + 1, 1, none⟩ = some (.int .i64 r2) ∧ W.cell? ⟨w.heap.size + 1, 2, none⟩ = some (.int .i64 n2)) (go_keep)
  (first
   | (go_at_call 165; refine (h1 _ _ _).mono ?_; rintro e w' ⟨rfl, rfl⟩)
   | (go_at_call 166; refine (h2 _ _ _).mono ?_; rintro e w' ⟨rfl, rfl⟩)
   | (go_at_call 164; refine (h3 (cmpI n n2) (cmpI r r2) (cmpI y y2) _ _ (by go_simp) (by go_simp) (by go_simp)).mono ?_; rintro e w' ⟨rfl, rfl⟩))
 all_goals (try go_wp2)
 all_goals go_ret
 all_goals exact ⟨rfl, 1, _, by rw [alloc_eq_grow, alloc_eq_grow, alloc_eq_grow, grow_grow, grow_grow]; rfl⟩
end Go.Proofs.YtceekohkjgiabaaGreatDoor
namespace Go.Proofs.YtceekohkjgiabaaGreatDoor
open Go Go.RowKit Go.Wk
theorem ordE_lt (a b : DEvent) : ordE a b < 0 ↔ a.nominal < b.nominal ∨ (a.nominal = b.nominal ∧ (a.rule < b.rule ∨ (a.rule = b.rule ∧ a.year < b.year))) := by
 unfold ordE
 repeat' split
 all_goals omega
def ltE (x y : DEvent) : Bool := decide (ordE x y < 0)
theorem swoE : Go.Sort.SWO ltE where
 irrefl x := by simp only [ltE, ordE_lt, decide_eq_false_iff_not]; omega
 trans x y z h1 h2 := by simp only [ltE, ordE_lt, decide_eq_true_eq] at *; omega
 ntrans x y z h1 h2 := by simp only [ltE, ordE_lt, decide_eq_false_iff_not] at *; omega
theorem totE (x y : DEvent) (h1 : ltE x y = false) (h2 : ltE y x = false) : x = y := by
 simp only [ltE, ordE_lt, decide_eq_false_iff_not] at h1 h2
 obtain ⟨a, b, c⟩ := x
 obtain ⟨d, e, f⟩ := y
 simp only [DEvent.mk.injEq]
 simp only at h1 h2
 omega
def yearC (least y : Int) : List DRule → Nat → List DEvent
 | [], _ => []
 | r :: l, i => (onR least r i y).toList ++ yearC least y l (i + 1)
def allC (l : List DRule) (least from_ : Int) : Nat → List DEvent
 | 0 => []
 | k + 1 => allC l least from_ k ++ yearC least (from_ + k) l 0
def insF (a : List DEvent) (e : DEvent) : List DEvent := insE e a
theorem yearEvs_eq (least y : Int) : ∀ (l : List DRule) (i : Nat) (acc : List DEvent), yearEvs least y l i acc = (yearC least y l i).foldl insF acc
 | [], _, _ => rfl
 | r :: l, i, acc => by
  rw [yearEvs, yearC, yearEvs_eq least y l]
  cases onR least r i y with
  | none => rfl
  | some e => rfl
theorem insE_perm (e : DEvent) : ∀ l, (insE e l).Perm (e :: l)
 | [] => .refl _
 | x :: l => by
  rw [insE]
  split
  ·exact .refl _
  ·exact ((insE_perm e l).cons x).trans (.swap _ _ _)
theorem insF_perm : ∀ (xs acc : List DEvent), (xs.foldl insF acc).Perm (xs ++ acc)
 | [], _ => .refl _
 | x :: xs, acc => by
  rw [List.foldl_cons]
  refine (insF_perm xs _).trans ?_
  refine ((insE_perm x acc).append_left xs).trans ?_
  exact List.perm_middle
theorem allEvs_perm (l : List DRule) (least from_ : Int) : ∀ k, (allEvs l least from_ k).Perm (allC l least from_ k)
 | 0 => .refl _
 | k + 1 => by
  rw [allEvs, allC, yearEvs_eq]
  refine (insF_perm _ _).trans ?_
  refine List.perm_append_comm.trans ?_
  exact (allEvs_perm l least from_ k).append_right _
def DescE (l : List DEvent) : Prop := l.Pairwise fun a b => ltE a b = false
theorem insE_desc (e : DEvent) : ∀ l, DescE l → DescE (insE e l)
 | [], _ => List.pairwise_singleton _ _
 | x :: l, h => by
  obtain ⟨h1, h2⟩ := List.pairwise_cons.1 h
  rw [insE]
  split
  ·rename_i hlt
   have hx : ltE x e = true := decide_eq_true hlt
   have hex : ltE e x = false := by
    cases h3 : ltE e x
    ·rfl
    ·have := swoE.trans x e x hx h3
     rw [swoE.irrefl] at this
     cases this
   refine List.pairwise_cons.2 ⟨fun b hb => ?_, h⟩
   rcases List.mem_cons.1 hb with rfl | hb
   ·exact hex
   ·exact swoE.ntrans e x b hex (h1 b hb)
  ·rename_i hlt
   have hx : ltE x e = false := decide_eq_false hlt
   refine List.pairwise_cons.2 ⟨fun b hb => ?_, insE_desc e l h2⟩
   rcases List.mem_cons.1 ((insE_perm e l).mem_iff.1 hb) with rfl | hb
   ·exact hx
   ·exact h1 b hb
theorem insF_desc : ∀ (xs acc : List DEvent), DescE acc → DescE (xs.foldl insF acc)
 | [], _, h => h
 | x :: xs, acc, h => insF_desc xs _ (insE_desc x acc h)
theorem allEvs_desc (l : List DRule) (least from_ : Int) : ∀ k, DescE (allEvs l least from_ k)
 | 0 => List.Pairwise.nil
 | k + 1 => by
  rw [allEvs, yearEvs_eq]
  exact insF_desc _ _ (allEvs_desc l least from_ k)
theorem sortE_eq (l : List DRule) (least from_ : Int) (k : Nat) : (allC l least from_ k).mergeSort (fun x y => !ltE y x) = (allEvs l least from_ k).reverse := by
 refine List.Perm.eq_of_pairwise (le := fun x y => (!ltE y x) = true) ?_ ?_ ?_ ?_
 ·intro a b _ _ h1 h2
  simp only [Bool.not_eq_true'] at h1 h2
  exact totE a b h2 h1
 ·refine List.pairwise_mergeSort ?_ ?_ _
  ·intro a b c h1 h2
   simp only [Bool.not_eq_true'] at h1 h2 ⊢
   exact swoE.ntrans c b a h2 h1
  ·intro a b
   cases h : ltE b a with
   | false => simp
   | true =>
    have : ltE a b = false := by
     cases h3 : ltE a b
     ·rfl
     ·have := swoE.trans a b a h3 h
      rw [swoE.irrefl] at this
      cases this
    simp [this]
 ·rw [List.pairwise_reverse]
  exact (allEvs_desc l least from_ k).imp fun h => by rw [h]; rfl
 ·exact (List.mergeSort_perm _ _).trans ((allEvs_perm l least from_ k).symm.trans (List.reverse_perm _).symm)
def closeA : List DEvent → Option DEvent
 | a :: b :: l => if b.nominal - a.nominal < 259200 then some b else closeA (b :: l)
 | _ => none
theorem closeA_snoc (x y : DEvent) : ∀ l : List DEvent, closeA (l ++ [x, y]) = (closeA (l ++ [x])).or (if y.nominal - x.nominal < 259200 then some y else none)
 | [] => by simp [closeA]
 | [a] => by
  simp only [List.cons_append, List.nil_append, closeA]
  by_cases h : x.nominal - a.nominal < 259200 <;> simp [h]
 | a :: b :: l => by
  have ih := closeA_snoc x y (b :: l)
  simp only [List.cons_append, closeA] at ih ⊢
  by_cases h : b.nominal - a.nominal < 259200
  ·simp [h]
  ·simp only [if_neg h]
   exact ih
theorem closeA_rev : ∀ l : List DEvent, closeA l.reverse = closeE l
 | [] => rfl
 | [_] => rfl
 | a :: b :: l => by
  have ih := closeA_rev (b :: l)
  rw [List.reverse_cons] at ih
  rw [closeE, ← ih, List.reverse_cons, List.reverse_cons, List.append_assoc]
  exact closeA_snoc b a l.reverse
theorem apartD_eq (l : List DRule) : closeA ((allC l (leastD l) 1850 701).mergeSort fun x y => !ltE y x) = apartD l := by
 rw [sortE_eq, closeA_rev]; rfl
theorem DEvent.len (x : DEvent) : (DEvent.enc x).length = 3 := rfl
def evRow (A : Option Addr) (c : Nat) (l : List DEvent) : It := .row (.slice A l.length c) 78 3 l.length (l.flatMap DEvent.enc)
def sortedE (l : List DEvent) : List DEvent := l.mergeSort fun x y => !ltE y x
theorem sortedE_len (l : List DEvent) : (sortedE l).length = l.length := List.length_mergeSort _
instance : Inhabited DEvent := ⟨dEv0⟩
theorem flatK_eq (l : List DEvent) : Go.Sort.flatK DEvent.enc 3 l.toArray = (l.flatMap DEvent.enc).toArray := by
 have hfl := flat_len DEvent.len l
 refine Go.Sort.ext_get! (by rw [Go.Sort.size_flatK]; simp [hfl]) fun t ht => ?_
 have ht' : t < l.toArray.size * 3 := by rwa [Go.Sort.size_flatK] at ht
 rw [Go.Sort.get_flatK _ _ _ _ ht']
 have hlt : t / 3 < l.length := by simp at ht'; omega
 have h3 : t % 3 < 3 := Nat.mod_lt _ (by decide)
 have hget := flat_get DEvent.len l (t / 3) l[t / 3] (t % 3) ((DEvent.enc l[t / 3])[t % 3]'h3) (List.getElem?_eq_getElem hlt) (List.getElem?_eq_getElem h3)
 rw [show t / 3 * 3 + t % 3 = t by omega] at hget
 rw [getElem!_pos l.toArray (t / 3) (by simpa using hlt)]
 rw [show (l.flatMap DEvent.enc).toArray[t]! = (l.flatMap DEvent.enc)[t]?.getD default from by simp only [getElem!_def, List.getElem?_toArray]; cases (l.flatMap DEvent.enc)[t]? <;> rfl]
 rw [hget]
 rw [getElem!_pos (DEvent.enc _) (t % 3) (by rw [DEvent.len]; exact h3)]
 simp
 rfl
theorem sort_cmp (b : Nat) (l : List DEvent) (w : World) : CmpLays Tryz.prog 130 #[] DEvent.enc 3 ordE b 0 l.toArray.size w :=
 fun m os dk _ x y => by
  have := order_lays x y (sortWorldK DEvent.enc 3 w b 0 m dk os)
  simpa using this
theorem sortEv_in (A : Option Addr) (c : Nat) (l : List DEvent) (wr : World) (hn : l.length ≤ 1000000000) :
  DoesIn Tryz.prog 129 [.slice A l.length c, .func (.func 130) #[] #[]] wr [evRow A c l] (fun v O => v = .tuple #[] ∧ O = [evRow A c (sortedE l)]) := by
 intro w hB hH
 have hsat := hH.sat _ (List.mem_singleton.2 rfl)
 obtain ⟨hxl, ⟨hv, _⟩ | ⟨b, cap, cur, hval, hb0, hg, hmc, hcm, hsz, hcur⟩⟩ := id hsat
 ·injection hv with h1 h2 h3
  obtain rfl := List.eq_nil_of_length_eq_zero h2
  subst h1 h3
  refine Calls.mono (AnyF.slices_SortFunc_none sortLay none 0 (.func (.func 130) #[] #[]) w) ?_
  rintro e w' ⟨rfl, rfl⟩
  exact ⟨_, _, rfl, hB, hH, rfl, by rw [show sortedE [] = [] from by simp [sortedE]]⟩
 injection hval with hA h2 h3
 subst hA h3
 have hbw : b < w.heap.size := (Array.getElem?_eq_some_iff.1 hg).1
 have hin := hH.inb _ (List.mem_singleton.2 rfl) b (by simp [It.S, evRow, Value.ownBlock])
 have hfl := flat_len DEvent.len l
 have hcl : l.length * 3 ≤ cur.size := by
  have := congrArg List.length hcur
  rw [List.length_take, hfl, Array.length_toList] at this
  omega
 have hget : ∀ j, j < l.length * 3 → cur[j]? = (l.flatMap DEvent.enc)[j]? := fun j hj => by
  rw [← hcur, List.getElem?_take, if_pos (by omega)]
  simp
 have hHold : Go.Sort.HoldsK DEvent.enc 3 w b 0 l.toArray := fun j hj => by
  rw [flatK_eq] at hj ⊢
  have hj' : j < l.length * 3 := by simpa [hfl] using hj
  have hjl : j < (l.flatMap DEvent.enc).length := by rw [hfl]; exact hj'
  refine ⟨?_, by simp [World.frozen?, hg]⟩
  rw [Nat.zero_add, show w.cell? ⟨b, j, none⟩ = cur[j]? from by simp [World.cell?, hg], hget j hj', List.getElem?_eq_getElem hjl, getElem!_pos _ j (by simpa using hjl)]
  simp
 have h := AnyQ.slices_SortFunc_total sortLay 3 Tryz.isAgg78 Tryz.sizeOf78 DEvent.enc DEvent.len (fun x v hv => by simp [DEvent.enc] at hv; rcases hv with rfl | rfl | rfl <;> rfl) ordE swoE 130 #[] b 0 c l.toArray w
  (enters_of Tryz.func130 (by kernel_rfl) rfl) (sort_cmp b l w) hHold hbw (by simp; omega) totE
 refine Calls.mono h ?_
 rintro e w' ⟨rfl, n, os, rfl⟩
 rw [show (l.toArray.toList.mergeSort fun x y => !(ltOf ordE) y x) = sortedE l from rfl]
 have hlen := sortedE_len l
 generalize sortedE l = s at hlen ⊢
 have hfs := flat_len DEvent.len s
 have hsh : (sortWorldK DEvent.enc 3 w b 0 n s.toArray os).heap = (w.heap.modify b (Go.Sort.onCells (Go.Sort.putCells id 0 (s.flatMap DEvent.enc).toArray))) ++ os := by
  unfold sortWorldK Go.Sort.putRowK
  rw [flatK_eq]
  rfl
 have hold : ∀ i, i < w.heap.size → i ≠ b → (sortWorldK DEvent.enc 3 w b 0 n s.toArray os).heap[i]? = w.heap[i]? := fun i hi hne => by
  rw [hsh, Array.getElem?_append_left (by simpa using hi), Array.getElem?_modify, if_neg (fun e => hne e.symm)]
 have hnew : (sortWorldK DEvent.enc 3 w b 0 n s.toArray os).heap[b]? = some (.cells (Go.Sort.putCells id 0 (s.flatMap DEvent.enc).toArray cur) 78 (0, 0)) := by
  rw [hsh, Array.getElem?_append_left (by simpa using hbw), Array.getElem?_modify, if_pos rfl, hg]
  rfl
 have hsize : w.heap.size ≤ (sortWorldK DEvent.enc 3 w b 0 n s.toArray os).heap.size := by rw [hsh]; simp
 have hbel : Bel wr.heap.size wr (sortWorldK DEvent.enc 3 w b 0 n s.toArray os) :=
  hB.trans ⟨⟨rfl, rfl, rfl, hsize, fun i hi => hold i (by have := hB.size; omega) (by omega)⟩⟩
 refine ⟨_, [evRow (some ⟨b, 0, none⟩) c s], rfl, hbel, ?_, rfl, rfl⟩
 refine hH.upd (A := evRow (some ⟨b, 0, none⟩) c l) .here hB.size hsize (fun i hi hS => hold i hi (fun e => hS (by rw [e]; simp [It.S, evRow, Value.ownBlock]))) ?_ (fun i hi => .inl hi)
 refine ⟨by rw [hfs], .inr ⟨b, c, _, rfl, Nat.zero_le _, hnew, by omega, hcm, ?_, ?_⟩⟩
 ·simp only [Go.Sort.putCells, Array.size_mapIdx]
  exact hsz
 ·apply List.ext_getElem?
  intro j
  rw [List.getElem?_take]
  by_cases hj : j < s.length * 3
  ·rw [if_pos hj]
   have hjc : j < cur.size := by omega
   have hjs : j < (s.flatMap DEvent.enc).length := by omega
   simp only [Array.getElem?_toList, Go.Sort.putCells, Array.getElem?_mapIdx, Array.getElem?_eq_getElem hjc, Option.map_some, Nat.zero_le, true_and, Nat.zero_add, List.size_toArray, if_pos hjs, Nat.sub_zero]
   rw [List.getElem?_eq_getElem hjs, getElem!_pos _ j (by simpa using hjs)]
   simp
  ·rw [if_neg hj, List.getElem?_eq_none (by omega)]
attribute [local irreducible] W RL Does thenQ blockQ retQ Calls Pu Stp RD Qy Ay DoesIn
structure IG where
 k : Nat
 A : Option Addr
 c : Nat
 m : Nat
 xs : List Value
 acc : List DEvent
def NewEv (l : List DEvent) (v : Value) (O : List It) : Prop := ∃ A c, v = .tuple #[.slice A l.length c, .int .i64 0] ∧ O = [evRow A c l]
theorem u64_big : decide ((1000 : Int) < IntKind.u64.wrap (IntKind.u64.wrap 2550 - IntKind.u64.wrap 1850)) = false := by decide +kernel
theorem in_spec (A : Option Addr) (c : Nat) (l : List DRule) (w : World) (hG : Glob w) (hA : RdSl w A c DRule.enc 11 l) (hn : l.length ≤ 1000000) (hR : ∀ r ∈ l, -4611686018427387904 ≤ r.save ∧ r.save ≤ 4611686018427387904) :
  Does Tryz.prog 80 [.slice A l.length c, .int .i64 1850, .int .i64 2550] w (NewEv (sortedE (allC l (leastD l) 1850 701))) := by
 have hon := fun (i : Nat) r (hi : l[i]? = some r) y w' (hw : Bel w.heap.size w w') => evOn_spec A c l i y r w' (hG.up hw) (hA.up hw) hi hn hR
 generalize leastD l = least at *
 obtain ⟨res, hres⟩ : ∃ res, allC l least 1850 701 = res := ⟨_, rfl⟩
 rw [hres]
 refine Does_of_W Tryz.func80 rfl rfl rfl rfl ?_
 repeat (first | (apply RL_pu; rfl; (first | (apply Pu_sub'; rfl; rfl; (constructor <;> omega)) | (apply Pu_subW; rfl; rfl) | (apply Pu_gtrB; rfl; rfl; exact u64_big) | (apply Pu_convI; rfl))) | (refine js ?_; (refine bx ?_; intro bk)) | refine walk1 ?_)
 refine W_nil 78 3 ?_
 obtain ⟨N, hN⟩ : ∃ N : Int, N = 701 := ⟨_, rfl⟩
 rw [show (2550 : Int) - 1850 + 1 = N by omega]
 refine W_loopF [(0, .slice A l.length c), (1, .int .i64 1850), (27, .int .i64 N)] [] (fun g : IG => [(8, .slice g.A g.m g.c), (28, .int .i64 g.k)]) (fun g => [.row (.slice g.A g.m g.c) 78 3 g.m g.xs])
  (fun g => g.k ≤ 701 ∧ g.m = g.acc.length ∧ g.xs = g.acc.flatMap DEvent.enc ∧ g.m ≤ g.k * 1000000 ∧ g.acc = allC l least 1850 g.k) (fun g => 701 - g.k) ⟨0, none, 0, 0, [], []⟩ SFA SOA ⟨Nat.zero_le _, rfl, rfl, Nat.le_refl _, rfl⟩ ?_
 rintro ⟨k, A1, c1, m, xs, acc⟩ ⟨hk, hm, hx, hmk, hi⟩
 dsimp only at hk hm hx hmk hi ⊢
 repeat (first | (refine js ?_; (refine bx ?_; intro bk)) | refine walk ?_)
 refine W_cond rfl (fun hc => ?_) (fun hc => ?_)
 ·have hk2 : k < 701 := by have := of_decide_eq_true hc; omega
  obtain ⟨nxt, hnxt⟩ : ∃ nxt, allC l least 1850 (k + 1) = nxt := ⟨_, rfl⟩
  have hst : acc ++ yearC least (1850 + k) l 0 = nxt := by rw [← hnxt, allC, hi]
  repeat (first | (refine js ?_; (refine bx ?_; intro bk)) | refine walk ?_)
  refine W_loopF [(0, .slice A l.length c), (1, .int .i64 1850), (27, .int .i64 N), (28, .int .i64 k), (9, .int .i64 k), (31, .slice A l.length c), (32, .int .i64 l.length)] [] (fun g : IG => [(8, .slice g.A g.m g.c), (33, .int .i64 g.k)]) (fun g => [.row (.slice g.A g.m g.c) 78 3 g.m g.xs])
   (fun g => g.k ≤ l.length ∧ g.m = g.acc.length ∧ g.xs = g.acc.flatMap DEvent.enc ∧ g.m ≤ k * 1000000 + g.k ∧ g.acc ++ yearC least (1850 + k) (l.drop g.k) g.k = nxt) (fun g => l.length - g.k) ⟨0, A1, c1, m, xs, acc⟩ SFA SOA ⟨Nat.zero_le _, hm, hx, Nat.le_trans hmk (Nat.le_add_right _ _), by dsimp only; rw [List.drop_zero]; exact hst⟩ ?_
  clear hm hx hmk hi hst hc
  rintro ⟨i, A1, c1, m, xs, acc⟩ ⟨hil, hm, hx, hmk, hi⟩
  dsimp only at hil hm hx hmk hi ⊢
  repeat (first | (refine js ?_; (refine bx ?_; intro bk)) | refine walk ?_)
  refine W_cond rfl (fun hc => ?_) (fun hc => ?_)
  ·simp only [decide_eq_true_eq, Int.ofNat_lt] at hc
   have ho := hon i _ (List.getElem?_eq_getElem hc) (1850 + (k : Int))
   rw [drop_cons hc, yearC] at hi
   generalize onR least l[i] i (1850 + (k : Int)) = o at *
   cases o with
   | none =>
    simp only [evV, DEvent.enc, dEv0, Option.isSome, Option.toList, List.nil_append] at ho hi
    repeat (first | (refine js ?_; (first | (refine callE ho ?_) | (refine bx ?_; intro bk))) | refine walk ?_)
    exact ⟨⟨i + 1, A1, c1, m, xs, acc⟩, OA, ⟨OA, hm, hx, OA, hi⟩, SFA, SOA⟩
   | some e =>
    obtain ⟨ey, er, en⟩ := e
    simp only [evV, DEvent.enc, Option.isSome, Option.toList] at ho hi
    repeat (first | (refine js ?_; (first | (refine callE ho ?_) | (apply Stp_append; rfl; rfl; (intro A' c'; (focus repeat' constructor)); (intro w' _ hO; exact blkRaw (hO.of (by repeat' constructor))); rfl; rfl; (simp only [maxLen]; omega); omega; intro A' c' hc1 hc2 hc3) | (refine bx ?_; intro bk))) | refine walk ?_)
    exact ⟨⟨i + 1, A', c', m + 1, xs ++ [.int .i64 ey, .int .i64 er, .int .i64 en], acc ++ [⟨ey, er, en⟩]⟩, OA, ⟨OA, by simp [hm], by rw [hx]; simp [DEvent.enc], OA, by rw [← hi]; simp⟩, SFA, SOA⟩
  ·simp only [decide_eq_false_iff_not, Int.ofNat_lt] at hc
   rw [List.drop_eq_nil_of_le (by omega), yearC, List.append_nil] at hi
   repeat (first | (refine js ?_; (refine bx ?_; intro bk)) | refine walk ?_)
   exact ⟨⟨k + 1, A1, c1, m, xs, acc⟩, OA, ⟨OA, hm, hx, OA, hi.trans hnxt.symm⟩, SFA, SOA⟩
 ·obtain rfl : k = 701 := by have := of_decide_eq_false hc; omega
  rw [hres] at hi
  subst hi hm hx
  repeat (first | (refine js ?_; (first | (apply Stp_callIn; rfl; exact sortEv_in A1 c1 acc w (by omega); exact .refl _; rintro v O' ⟨rfl, rfl⟩) | (refine bx ?_; intro bk))) | refine walk ?_)
  exact ret_2 _ _ [evRow A1 c1 (sortedE acc)] (.tmp rfl) (.tmp rfl) SOA ⟨A1, c1, by rw [sortedE_len], rfl⟩
def apV : Option DEvent → Value
 | none => .tuple #[.agg (DEvent.enc dEv0).toArray, .int .i64 0]
 | some e => .tuple #[.agg (DEvent.enc e).toArray, .int .i64 13]
theorem closeA_drop {l : List DEvent} {k : Nat} (h : k + 1 < l.length) : closeA (l.drop k) = if (l[k + 1]'h).nominal - (l[k]'(by omega)).nominal < 259200 then some (l[k + 1]'h) else closeA (l.drop (k + 1)) := by
 rw [drop_cons (show k < l.length by omega), drop_cons h, closeA]
theorem closeA_end {l : List DEvent} {k : Nat} (h : l.length ≤ k + 1) : closeA (l.drop k) = none := by
 by_cases hk : k < l.length
 ·rw [drop_cons hk, List.drop_eq_nil_of_le h]; rfl
 ·rw [List.drop_eq_nil_of_le (by omega)]; rfl
theorem evRow_get {l : List DEvent} {k : Nat} (h : k < l.length) (j : Nat) (v : Value) (hj : (DEvent.enc l[k])[j]? = some v) : (l.flatMap DEvent.enc)[k * 3 + j]? = some v := flat_get DEvent.len l k _ j v (List.getElem?_eq_getElem h) hj
def NomOk (e : DEvent) : Prop := -200000000000000000 ≤ e.nominal ∧ e.nominal ≤ 200000000000000000
theorem yearC_ok (least y : Int) (hl : least ≤ 0) : ∀ (l : List DRule) (i : Nat), (yearC least y l i).length ≤ l.length ∧ ∀ e ∈ yearC least y l i, NomOk e
 | [], _ => ⟨Nat.le_refl _, fun _ h => by cases h⟩
 | r :: l, i => by
  obtain ⟨h1, h2⟩ := yearC_ok least y hl l (i + 1)
  have h3 := onR_bd least hl r i y
  simp only [yearC, List.length_append, List.length_cons, List.mem_append]
  generalize onR least r i y = o at *
  cases o with
  | none => exact ⟨by simp only [Option.toList, List.length_nil]; omega, fun e he => by rcases he with h | h; cases h; exact h2 e h⟩
  | some x => exact ⟨by simp only [Option.toList, List.length_cons, List.length_nil]; omega, fun e he => by
    rcases he with h | h
    ·simp only [Option.toList, List.mem_singleton] at h; subst h; exact h3 _ rfl
    ·exact h2 e h⟩
theorem allC_ok (l : List DRule) (least from_ : Int) (hl : least ≤ 0) : ∀ k, (allC l least from_ k).length ≤ k * l.length ∧ ∀ e ∈ allC l least from_ k, NomOk e
 | 0 => ⟨Nat.zero_le _, fun _ h => by cases h⟩
 | k + 1 => by
  obtain ⟨h1, h2⟩ := allC_ok l least from_ hl k
  obtain ⟨h3, h4⟩ := yearC_ok least (from_ + k) hl l 0
  simp only [allC, List.length_append, List.mem_append, Nat.succ_mul]
  exact ⟨by omega, fun e he => he.elim (h2 e) (h4 e)⟩
theorem allC_len (l : List DRule) (least from_ : Int) (hl : least ≤ 0) (hn : l.length ≤ 1000000) : (allC l least from_ 701).length ≤ 701000000 := by
 have := (allC_ok l least from_ hl 701).1
 omega
theorem PuEvI1 {G : Prop} (h : G := by (apply Pu_maxK; rfl; rfl; exact hmx)) : G := h
theorem QyEvI1 {G : Prop} (h : G := by first | (apply Qy_y; rfl; exact PuEvI1) | exact QyA) : G := h
theorem QFEvI1 {G : Prop} (h : G := by repeat (first | exact QF.nil | (apply QF.mk; rfl; rfl; decide +kernel; exact QyEvI1))) : G := h
theorem PuEvI2 {G : Prop} (h : G := by (first | (apply Pu_indexAddrH; rfl; rfl; omega; omega; (intro w' _ hO; exact (row_cell (hO.of (A := .row (.slice A1 s.length c1) 78 3 s.length (s.flatMap DEvent.enc)) (by repeat' constructor)) hg1).1)) | (apply Pu_loadRF; rfl; (focus repeat' constructor); exact hg1) | (apply Pu_loadRF; rfl; (focus repeat' constructor); exact hg2) | (apply Pu_loadRN; rfl; (focus repeat' constructor); exact hgn; rfl) | (apply Pu_lssB; rfl; rfl; exact hb))) : G := h
theorem QyEvI2 {G : Prop} (h : G := by first | (apply Qy_y; rfl; exact PuEvI2) | exact QyA) : G := h
theorem QFEvI2 {G : Prop} (h : G := by repeat (first | exact QF.nil | (apply QF.mk; rfl; rfl; decide +kernel; exact QyEvI2))) : G := h
theorem apart_spec (A : Option Addr) (c : Nat) (l : List DRule) (w : World) (hG : Glob w) (hA : RdSl w A c DRule.enc 11 l) (hn : l.length ≤ 1000000) (hR : ∀ r ∈ l, -4611686018427387904 ≤ r.save ∧ r.save ≤ 4611686018427387904) :
  Does Tryz.prog 43 [.slice A l.length c] w (fun v O => v = apV (apartD l) ∧ O = []) := by
 have hin := fun w' (hw : Bel w.heap.size w w') => in_spec A c l w' (hG.up hw) (hA.up hw) hn hR
 have hle := (leastD_le l hR).2
 have hal := allC_len l (leastD l) 1850 hle hn
 have hok := (allC_ok l (leastD l) 1850 hle 701).2
 rw [← apartD_eq]
 rw [show ((allC l (leastD l) 1850 701).mergeSort fun x y => !ltE y x) = sortedE (allC l (leastD l) 1850 701) from rfl]
 have hsl := sortedE_len (allC l (leastD l) 1850 701)
 have hso : ∀ e ∈ sortedE (allC l (leastD l) 1850 701), NomOk e := fun e he => hok e (List.mem_mergeSort.1 he)
 generalize sortedE (allC l (leastD l) 1850 701) = s at *
 have hsl2 : s.length ≤ 701000000 := by omega
 clear hal hok hsl
 obtain ⟨res, hres⟩ : ∃ res, closeA s = res := ⟨_, rfl⟩
 rw [hres]
 have hmx : (if (s.length : Int) - 1 < 0 then 0 else (s.length : Int) - 1) = ((s.length - 1 : Nat) : Int) := by split <;> omega
 refine Does_of_W Tryz.func43 rfl rfl rfl rfl ?_
 repeat (first | (apply RL_pu; rfl; exact PuEvI1) | (apply RD_Q; rfl; rfl; decide +kernel; rfl; rfl; exact QyEvI1) | refine walk1 ?_ | (refine jg ?_; (try intro F); (first | (apply Stp_call (h := fun w' hw _ => hin w' hw); rfl; rintro v O' ⟨A1, c1, rfl, rfl⟩) | (refine bx ?_; intro bk) | (refine stA ?_)); first | refine ⟨_, EndsA, QFEvI1, ?_⟩ | refine fin ?_) | (refine jn ?_; (try intro F); (first | (refine bx ?_; intro bk) | (refine stA ?_) | (apply Stp_pu; first | exact PuEvI1 | exact PuA)); first | refine ⟨_, EndsA, QFEvI1, ?_⟩ | refine fin ?_) | (apply RD_W; rfl; intro bk))
 have hn1 : s.length - 1 ≤ 701000000 := by omega
 obtain ⟨b2, hb2⟩ : ∃ b2, bk = b2 := ⟨_, rfl⟩
 rw [hb2]
 clear hb2 bk
 refine W_loopF [(2, .pointer (some ⟨b2, 0, none⟩)), (4, .slice A1 s.length c1), (19, .int .i64 (s.length - 1 : Nat))] [.row (.slice A1 s.length c1) 78 3 s.length (s.flatMap DEvent.enc), .blk b2 [.int .i64 0, .int .i64 0, .int .i64 0] 78] (fun k : Nat => [(20, .int .i64 k)]) (fun _ => []) (fun k => k ≤ s.length - 1 ∧ closeA (s.drop k) = res) (fun k => s.length - 1 - k) 0 SFA SOA ⟨Nat.zero_le _, hres⟩ ?_
 rintro k ⟨hk, hi⟩
 repeat (first | refine walk ?_ | (refine jn ?_; (try intro F); (first | (refine bx ?_; intro bk) | (refine stA ?_) | (apply Stp_pu; exact PuA)); refine fin ?_) | (apply RD_W; rfl; intro bk))
 refine W_cond rfl (fun hc => ?_) (fun hc => ?_)
 ·simp only [decide_eq_true_eq, Int.ofNat_lt] at hc
  have hk1 : k + 1 < s.length := by omega
  rw [closeA_drop hk1] at hi
  have hg1 := evRow_get hk1 2 _ rfl
  have hg2 := evRow_get (show k < s.length by omega) 2 _ rfl
  have hgn : ∀ j v, (DEvent.enc s[k + 1])[j]? = some v → (s.flatMap DEvent.enc)[(k + 1) * 3 + j]? = some v := fun j v hj => evRow_get hk1 j v hj
  have o1 := hso _ (List.getElem_mem hk1)
  have o2 := hso _ (List.getElem_mem (show k < s.length by omega))
  generalize s[k + 1] = e1 at *
  generalize s[k] = e2 at *
  obtain ⟨y1, r1, n1⟩ := e1
  obtain ⟨y2, r2, n2⟩ := e2
  simp only [DEvent.enc, NomOk] at hg1 hg2 hgn o1 o2 hi
  have hlen : (s.length : Int) ≤ 701000000 := by omega
  have hkk : (k : Int) + 1 < s.length := by omega
  by_cases h3 : n1 - n2 < 259200
  ·rw [if_pos h3] at hi
   subst hi
   have hb : decide (n1 - n2 < 259200) = true := decide_eq_true h3
   repeat (first | (apply RL_pu; rfl; exact PuEvI2) | (apply RD_Q; rfl; rfl; decide +kernel; rfl; rfl; exact QyEvI2) | refine walk1 ?_ | (refine jn ?_; (try intro F); (first | (refine bx ?_; intro bk) | (refine stA ?_) | (apply Stp_pu; first | exact PuEvI2 | exact PuA)); first | refine ⟨_, EndsA, QFEvI2, ?_⟩ | refine fin ?_) | (apply RD_W; rfl; intro bk))
   exact rtC
  ·rw [if_neg h3] at hi
   have hb : decide (n1 - n2 < 259200) = false := decide_eq_false h3
   repeat (first | (apply RL_pu; rfl; exact PuEvI2) | (apply RD_Q; rfl; rfl; decide +kernel; rfl; rfl; exact QyEvI2) | refine walk1 ?_ | (refine jn ?_; (try intro F); (first | (refine bx ?_; intro bk) | (refine stA ?_) | (apply Stp_pu; first | exact PuEvI2 | exact PuA)); first | refine ⟨_, EndsA, QFEvI2, ?_⟩ | refine fin ?_) | (apply RD_W; rfl; intro bk))
   exact ⟨k + 1, OA, ⟨OA, hi⟩, SFA, SOA⟩
 ·simp only [decide_eq_false_iff_not, Int.ofNat_lt] at hc
  rw [closeA_end (show s.length ≤ k + 1 by omega)] at hi
  subst hi
  repeat (first | refine walk ?_ | (refine jn ?_; (try intro F); (first | (refine bx ?_; intro bk) | (refine stA ?_) | (apply Stp_pu; exact PuA)); refine fin ?_) | (apply RD_W; rfl; intro bk))
  exact rtC
def manyE (z : DZone) : Bool := decide (60 < z.eras.length)
theorem findI_idx {α : Type} (p : α → Bool) : ∀ (l : List α) (k : Nat), findI p l k = match l.findIdx? p with | some i => ((k + i : Nat) : Int) | none => -1
 | [], _ => rfl
 | x :: l, k => by
  rw [findI, List.findIdx?_cons]
  by_cases h : p x = true
  ·rw [if_pos h, if_pos h]; rfl
  ·rw [if_neg h, if_neg h, findI_idx p l (k + 1)]
   cases l.findIdx? p with
   | none => rfl
   | some i => simp only [Option.map_some]; congr 1; omega
theorem sizes1_spec (n : ByteArray) (A : Option Addr) (m c : Nat) (w : World) : Does Tryz.prog 38 [.agg #[.string n, .slice A m c]] w (fun v O => v = .bool (decide (60 < m)) ∧ O = []) := by
 have hb : decide ((60 : Int) < (m : Int)) = decide (60 < m) := by rw [decide_eq_decide]; omega
 refine Does_of_W Tryz.func38 rfl rfl rfl rfl ?_
 repeat (first | (apply RL_pu; rfl; (apply Pu_gtrB; rfl; rfl; exact hb)) | (refine js ?_; (refine bx ?_; intro bk)) | refine walk1 ?_)
 exact rtA
theorem indexZ_spec (Ar Az Al As : Option Addr) (cr cz cl cs : Nat) (a : DSource) (w : World) (hA : RdSource w Ar Az Al As cr cz cl cs a) (hn : a.zones.length ≤ 1000000) :
  Does Tryz.prog 37 [.slice Az a.zones.length cz, .func (.func 38) #[] #[]] w (fun v O => v = .int .i64 (findI manyE a.zones 0) ∧ O = []) := by
 obtain ⟨res, hres⟩ : ∃ res, findI manyE a.zones 0 = res := ⟨_, rfl⟩
 rw [hres]
 refine Does_of_W Tryz.func37 rfl rfl rfl rfl ?_
 repeat (first | refine walk ?_)
 refine W_loopF [(0, .slice Az a.zones.length cz), (1, .func (.func 38) #[] #[]), (7, .int .i64 a.zones.length)] [] (fun k : Nat => [(8, .int .i64 k)]) (fun _ => []) (fun k => k ≤ a.zones.length ∧ findI manyE (a.zones.drop k) k = res) (fun k => a.zones.length - k) 0 SFA .nil ⟨Nat.zero_le _, hres⟩ ?_
 rintro k ⟨hk, hi⟩
 repeat (first | refine walk ?_)
 refine W_cond rfl (fun hc => ?_) (fun hc => ?_)
 ·simp only [decide_eq_true_eq, Int.ofNat_lt] at hc
  obtain ⟨hna, cs1, ⟨Ae, ce, _, rfl⟩, hca⟩ := hA.z k _ (List.getElem?_eq_getElem hc)
  rw [drop_cons hc, findI] at hi
  generalize a.zones[k] = z at *
  have h1 : ∀ w', Does Tryz.prog 38 ([] ++ [.agg #[.string z.name, .slice Ae z.eras.length ce]] ++ []) w' (fun v O => v = .bool (decide (60 < z.eras.length)) ∧ O = []) := fun w' => sizes1_spec z.name Ae z.eras.length ce w'
  rw [show decide (60 < z.eras.length) = manyE z from rfl] at h1
  generalize manyE z = mb at *
  cases mb with
  | true =>
   rw [if_pos rfl] at hi
   subst hi
   repeat (first | (apply RL_pu; rfl; exact PuI) | (refine js ?_; (refine callV (fun w' hw _ => h1 w') ?_)) | refine walk1 ?_)
   exact rtA
  | false =>
   rw [if_neg (by decide)] at hi
   repeat (first | (apply RL_pu; rfl; exact PuI) | (refine js ?_; (refine callV (fun w' hw _ => h1 w') ?_)) | refine walk1 ?_)
   exact ⟨k + 1, OA, ⟨OA, hi⟩, SFA, .nil⟩
 ·simp only [decide_eq_false_iff_not, Int.ofNat_lt] at hc
  rw [List.drop_eq_nil_of_le (by omega), findI] at hi
  subst hi
  repeat (first | refine walk ?_)
  exact rtA
theorem PuAccA1 {G : Prop} (h : G := by (apply Pu_gtrB; rfl; rfl; exact b1)) : G := h
theorem PuAccA2 {G : Prop} (h : G := by (first | exact PuAccA1 | (apply Pu_gtrB; rfl; rfl; exact b2))) : G := h
theorem PuAccA4 {G : Prop} (h : G := by (first | exact PuAccA2 | (apply Pu_gtrB; rfl; rfl; exact b3))) : G := h
theorem PuAccA5 {G : Prop} (h : G := by (first | exact PuAccA4 | (apply Pu_gtrB; rfl; rfl; exact b4))) : G := h
theorem sizes_spec (Ar Az Al As : Option Addr) (cr cz cl cs : Nat) (a : DSource) (w : World) (hA : RdSource w Ar Az Al As cr cz cl cs a) (hn : a.zones.length ≤ 1000000) :
  Does Tryz.prog 22 [srcV Ar Az Al As cr cz cl cs a] w (fun v O => v = ptV (sizesD a) ∧ O = []) := by
 have hix := fun w' (hw : Bel w.heap.size w w') => indexZ_spec Ar Az Al As cr cz cl cs a w' (hA.up hw) hn
 rw [findI_idx] at hix
 unfold sizesD
 rw [show (fun z : DZone => decide (60 < z.eras.length)) = manyE from rfl]
 generalize a.zones.findIdx? manyE = fi at *
 refine Does_of_W Tryz.func22 rfl rfl rfl rfl ?_
 by_cases h1 : 2000 < a.rules.length
 ·have b1 : decide ((2000 : Int) < a.rules.length) = true := decide_eq_true (by omega)
  rw [if_pos h1]
  repeat (first | (apply RL_pu; rfl; exact PuAccA1) | (refine js ?_; (refine bx ?_; intro bk)) | refine walk1 ?_)
  exact rtC
 have b1 : decide ((2000 : Int) < a.rules.length) = false := decide_eq_false (by omega)
 rw [if_neg h1]
 by_cases h2 : 500 < a.zones.length
 ·have b2 : decide ((500 : Int) < a.zones.length) = true := decide_eq_true (by omega)
  rw [if_pos h2]
  repeat (first | (apply RL_pu; rfl; exact PuAccA2) | (refine js ?_; (refine bx ?_; intro bk)) | refine walk1 ?_)
  exact rtC
 have b2 : decide ((500 : Int) < a.zones.length) = false := decide_eq_false (by omega)
 rw [if_neg h2]
 cases fi with
 | some i =>
  dsimp only at hix ⊢
  rw [Nat.zero_add] at hix
  have b3 : decide ((0 : Int) ≤ (i : Int)) = true := decide_eq_true (by omega)
  repeat (first | (apply RL_pu; rfl; (first | exact PuAccA2 | (apply Pu_geqB; rfl; rfl; exact b3))) | (refine js ?_; (first | (refine callE hix ?_) | (refine bx ?_; intro bk))) | refine walk1 ?_)
  exact rtC
 | none =>
  dsimp only at hix ⊢
  by_cases h3 : 1000 < a.links.length
  ·have b3 : decide ((1000 : Int) < a.links.length) = true := decide_eq_true (by omega)
   rw [if_pos h3]
   repeat (first | (apply RL_pu; rfl; exact PuAccA4) | (refine js ?_; (first | (refine callE hix ?_) | (refine bx ?_; intro bk))) | refine walk1 ?_)
   exact rtC
  have b3 : decide ((1000 : Int) < a.links.length) = false := decide_eq_false (by omega)
  rw [if_neg h3]
  by_cases h4 : 2000 < a.shifts.length
  ·have b4 : decide ((2000 : Int) < a.shifts.length) = true := decide_eq_true (by omega)
   rw [if_pos h4]
   repeat (first | (apply RL_pu; rfl; exact PuAccA5) | (refine js ?_; (first | (refine callE hix ?_) | (refine bx ?_; intro bk))) | refine walk1 ?_)
   exact rtC
  have b4 : decide ((2000 : Int) < a.shifts.length) = false := decide_eq_false (by omega)
  rw [if_neg h4]
  repeat (first | (apply RL_pu; rfl; exact PuAccA5) | (refine js ?_; (first | (refine callE hix ?_) | (refine bx ?_; intro bk))) | refine walk1 ?_)
  exact rtC
theorem lnames_spec (Ar Az Al As : Option Addr) (cr cz cl cs : Nat) (a : DSource) (w : World) (hA : RdSource w Ar Az Al As cr cz cl cs a) (hS : SrcOk a) :
  Does Tryz.prog 25 [srcV Ar Az Al As cr cz cl cs a] w (fun v O => v = ptV (linksD a) ∧ O = []) := by
 have h := fun w' (hw : Bel w.heap.size w w') => links_spec Ar Az Al As cr cz cl cs a w' (hA.up hw) hS
 refine Does_of_W Tryz.func25 rfl rfl rfl rfl ?_
 generalize linksD a = o at *
 cases o with
 | none =>
  simp only [ptV, plV, DPlace.enc] at h ⊢
  repeat (first | (refine js ?_; (first | (refine callE h ?_) | (refine bx ?_; intro bk))) | refine walk ?_)
  exact rtC
 | some pe =>
  obtain ⟨⟨p1, p2, p3⟩, e⟩ := pe
  simp only [ptV, plV, DPlace.enc] at h ⊢
  repeat (first | (refine js ?_; (first | (refine callE h ?_) | (refine bx ?_; intro bk))) | refine walk ?_)
  exact rtC
end Go.Proofs.YtceekohkjgiabaaGreatDoor
