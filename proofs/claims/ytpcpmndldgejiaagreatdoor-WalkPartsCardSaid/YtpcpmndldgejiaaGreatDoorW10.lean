/- Parts of the proof. -/
import Derived.Test.YtpcpmndldgejiaaGreatDoorW06
import Derived.Test.YtpcpmndldgejiaaGreatDoorW09
import Derived.Laws.Externs
import Derived.Scope
import Derived.Laws.IdiomStrings
set_option maxHeartbeats 4000000
set_option linter.unusedVariables false
set_option linter.unusedSimpArgs false
namespace Go.Proofs.YtpcpmndldgejiaaGreatDoor
open Go Go.RowKit Go.Wk
attribute [local irreducible] W RL Does Zay Zam retQ Calls Pu Stp RD Qy Ay Zan
theorem ZvD {G : Prop} (h : G := by (first | exact PuI | (apply Pu_loadO1; rfl; first | exact c1 0 _ rfl | exact c2 0 _ rfl | exact c3 0 _ rfl) | (apply Zl8; rfl; rfl; exact hmn))) : G := h
theorem ZxM {G : Prop} (h : G := by first | (apply Qy_y; rfl; exact ZvD) | exact QyA) : G := h
theorem ZxU {G : Prop} (h : G := by repeat (first | exact QF.nil | (apply QF.mk; rfl; rfl; decide +kernel; exact ZxM))) : G := h
theorem Zrh {G : Prop} (h : G := by (apply Pu_loadO1; rfl; first | exact c1 0 _ rfl | exact c2 0 _ rfl | exact c3 0 _ rfl)) : G := h
theorem ZnO (A : Option Addr) (c : Nat) (l : List Zaa) (i : Nat) (r : Zaa) (yr nominal : Int) (b1 b2 b3 : Nat) (w : World) (hG : Glob w) (hA : RdSl w A c Zaa.enc 11 l) (hi : l[i]? = some r) (hn : l.length <= 1000000) (hR : ∀ r ∈ l, -4611686018427387904 <= r.save /\ r.save <= 4611686018427387904)
  (hy : -2000000000 <= yr /\ yr <= 2000000000) (hf : -4611686018427387904 <= r.to) (c1 : Zao w ⟨b1, 0, none⟩ [.slice A l.length c]) (c2 : Zao w ⟨b2, 0, none⟩ [.int .i64 yr]) (c3 : Zao w ⟨b3, 0, none⟩ [.int .i64 nominal]) :
  Does Tryz.prog 189 [.int .i64 i, .pointer (some ⟨b1, 0, none⟩), .pointer (some ⟨b2, 0, none⟩), .pointer (some ⟨b3, 0, none⟩)] w (fun v O => v = .tuple #[evV (beIn (Zak l) nominal r i (min (lastY r) (yr + 2)) 20), .bool (beIn (Zak l) nominal r i (min (lastY r) (yr + 2)) 20).isSome] /\ O = []) := by
 have hlt : i < l.length := (List.getElem?_eq_some_iff.1 hi).1
 obtain ⟨y0, hy0⟩ : ∃ y0, min (lastY r) (yr + 2) = y0 := ⟨_, rfl⟩
 have hlb : -4611686018427387904 <= lastY r /\ lastY r <= 2000000000 := by
  unfold lastY
  split <;> omega
 have hyb : -4611686018427387904 <= y0 /\ y0 <= 2000000002 := by omega
 have hmn : (if yr + 2 < lastY r then yr + 2 else lastY r) = y0 := by rw [<- hy0]; split <;> omega
 have hla := fun w' => ZkE r w'
 rw [hy0]
 obtain ⟨res, hres⟩ : ∃ res, beIn (Zak l) nominal r i y0 20 = res := ⟨_, rfl⟩
 rw [hres]
 have hon := fun y w' (hw : Bel w.heap.size w w') => ZgJ A c l i y r w' (hG.up hw) (hA.up hw) hi hn hR
 obtain ⟨hna, hca⟩ := hA.rd i _ hi
 generalize Zak l = least at *
 generalize lastY r = ly at *
 clear hy0
 obtain ⟨nm, fr, to, mo, ⟨dk, dw, dd⟩, ⟨cs, cb⟩, sv, le⟩ := r
 change Zao w _ [.string nm, .int .i64 fr, .int .i64 to, .int .i64 mo, .int .i64 dk, .int .i64 dw, .int .i64 dd, .int .i64 cs, .int .i64 cb, .int .i64 sv, .string le] at hca
 refine Zab Tryz.func189 rfl rfl rfl rfl ?_
 repeat (first | (apply RL_pu; rfl; exact ZvD) | (apply RD_Q; rfl; rfl; decide +kernel; rfl; rfl; exact ZxM) | refine walk1 ?_ | (refine jg ?_; (try intro F); (first | (refine Zac (fun w' _ => hla w') ?_) | (refine bx ?_; intro bk) | (refine stA ?_)); first | refine ⟨_, EndsA, ZxU, ?_⟩ | refine fin ?_) | (refine jn ?_; (try intro F); (first | (refine bx ?_; intro bk) | (refine stA ?_) | (apply Zae; first | exact ZvD | exact PuA)); first | refine ⟨_, EndsA, ZxU, ?_⟩ | refine fin ?_) | (apply RD_W; rfl; intro bk))
 refine Zaq [(0, .int .i64 i), (1, .pointer (some ⟨b1, 0, none⟩)), (2, .pointer (some ⟨b2, 0, none⟩)), (3, .pointer (some ⟨b3, 0, none⟩)), (7, .int .i64 y0), (5, .pointer (some ⟨bk, 0, none⟩))] [.blk bk [.int .i64 0, .int .i64 0, .int .i64 0] 182] (fun j : Nat => [(19, .int .i64 j)]) (fun _ => []) (fun j => j <= 20 /\ beIn least nominal ⟨nm, fr, to, mo, ⟨dk, dw, dd⟩, ⟨cs, cb⟩, sv, le⟩ i (y0 - j) (20 - j) = res) (fun j => 20 - j) 0 SFA SOA ⟨Nat.zero_le _, by simpa using hres⟩ ?_
 rintro j ⟨hj, hi2⟩
 repeat (first | refine walk ?_ | (refine jn ?_; (try intro F); (first | (refine bx ?_; intro bk) | (refine stA ?_) | (apply Zae; exact PuA)); refine fin ?_) | (apply RD_W; rfl; intro bk))
 refine Zah rfl (fun h => ?_) (fun h => ?_)
 ·have hj20 : j < 20 := by have := of_decide_eq_true h; omega
  rw [show 20 - j = (19 - j) + 1 by omega, beIn] at hi2
  have ho := hon (y0 - j)
  generalize onR least _ i (y0 - j) = o at *
  cases o with
  | none =>
   simp only [evV, Zad.enc, dEv0, Option.isSome] at ho
   repeat (first | (apply RL_pu; rfl; exact Zrh) | (apply RD_Q; rfl; rfl; decide +kernel; rfl; rfl; exact QyBfA1) | refine walk1 ?_ | (refine jg ?_; (try intro F); (first | (refine Zac ho ?_) | (refine bx ?_; intro bk) | (refine stA ?_)); first | refine ⟨_, EndsA, QFBfA1, ?_⟩ | refine fin ?_) | (refine jn ?_; (try intro F); (first | (refine bx ?_; intro bk) | (refine stA ?_) | (apply Zae; first | exact Zrh | exact PuA)); first | refine ⟨_, EndsA, QFBfA1, ?_⟩ | refine fin ?_) | (apply RD_W; rfl; intro bk))
   exact ⟨j + 1, OA, ⟨OA, by rw [show 20 - (j + 1) = 19 - j by omega, show y0 - ((j + 1 : Nat) : Int) = y0 - j - 1 by omega]; exact hi2⟩, SFA, SOA⟩
  | some e =>
   obtain ⟨ey, er, en⟩ := e
   simp only [evV, Zad.enc, Option.isSome] at ho hi2
   repeat (first | (apply RL_pu; rfl; exact Zrh) | (apply RD_Q; rfl; rfl; decide +kernel; rfl; rfl; exact QyBfA1) | refine walk1 ?_ | (refine jg ?_; (try intro F); (first | (refine Zac ho ?_) | (refine bx ?_; intro bk) | (refine stA ?_)); first | refine ⟨_, EndsA, QFBfA1, ?_⟩ | refine fin ?_) | (refine jn ?_; (try intro F); (first | (refine bx ?_; intro bk) | (refine stA ?_) | (apply Zae; first | exact Zrh | exact PuA)); first | refine ⟨_, EndsA, QFBfA1, ?_⟩ | refine fin ?_) | (apply RD_W; rfl; intro bk))
   refine Zah rfl (fun h2 => ?_) (fun h2 => ?_)
   ·rw [if_pos (of_decide_eq_true h2)] at hi2
    subst hi2
    repeat (first | refine walk ?_ | (refine jn ?_; (try intro F); (first | (refine bx ?_; intro bk) | (refine stA ?_) | (apply Zae; exact PuA)); refine fin ?_) | (apply RD_W; rfl; intro bk))
    exact rtC
   ·rw [if_neg (of_decide_eq_false h2)] at hi2
    repeat (first | refine walk ?_ | (refine jn ?_; (try intro F); (first | (refine bx ?_; intro bk) | (refine stA ?_) | (apply Zae; exact PuA)); refine fin ?_) | (apply RD_W; rfl; intro bk))
    exact ⟨j + 1, OA, ⟨OA, by rw [show 20 - (j + 1) = 19 - j by omega, show y0 - ((j + 1 : Nat) : Int) = y0 - j - 1 by omega]; exact hi2⟩, SFA, SOA⟩
 ·obtain rfl : j = 20 := by have := of_decide_eq_false h; omega
  obtain rfl : none = res := by rw [<- hi2]; rfl
  repeat (first | refine walk ?_ | (refine jn ?_; (try intro F); (first | (refine bx ?_; intro bk) | (refine stA ?_) | (apply Zae; exact PuA)); refine fin ?_) | (apply RD_W; rfl; intro bk))
  exact rtC
theorem ZnN (a b : Zad) (w : World) : Does Tryz.prog 191 [.agg (Zad.enc a).toArray, .agg (Zad.enc b).toArray] w (fun v O => v = .int .i64 (ordE b a) /\ O = []) := by
 have h := fun w' => Zkv b a w'
 obtain ⟨y, r, n⟩ := a
 obtain ⟨y2, r2, n2⟩ := b
 show Does _ _ [.agg #[.int .i64 y, .int .i64 r, .int .i64 n], .agg #[.int .i64 y2, .int .i64 r2, .int .i64 n2]] w _
 refine Zab Tryz.func191 rfl rfl rfl rfl ?_
 repeat (first | (refine js ?_; (first | (refine Zac (fun w' _ => h w') ?_) | (refine bx ?_; intro bk))) | refine walk ?_)
 exact rtA
theorem Zse (A : Option Addr) (c : Nat) (l : List Zaa) (yr nominal : Int) (b1 b2 b3 : Nat) (w : World) (hG : Glob w) (hA : RdSl w A c Zaa.enc 11 l) (hn : l.length <= 1000000) (hR : ∀ r ∈ l, (-4611686018427387904 <= r.save /\ r.save <= 4611686018427387904) /\ (r.from_ <= 4611686018427387904 /\ -4611686018427387904 <= r.to))
  (hy : -2000000000 <= yr /\ yr <= 2000000000) (c1 : Zao w ⟨b1, 0, none⟩ [.slice A l.length c]) (c2 : Zao w ⟨b2, 0, none⟩ [.int .i64 yr]) (c3 : Zao w ⟨b3, 0, none⟩ [.int .i64 nominal]) :
  Does Tryz.prog 156 [.slice A l.length c, .func (.func 189) #[] #[.pointer (some ⟨b1, 0, none⟩), .pointer (some ⟨b2, 0, none⟩), .pointer (some ⟨b3, 0, none⟩)], .func (.func 191) #[] #[]] w
   (fun v O => v = .tuple #[evV (Zeo (Zak l) nominal yr l 0 none), .bool (Zeo (Zak l) nominal yr l 0 none).isSome] /\ O = []) := by
 have haf := fun (i : Nat) r (hi : l[i]? = some r) w' (hw : Bel w.heap.size w w') => ZnO A c l i r yr nominal b1 b2 b3 w' (hG.up hw) (hA.up hw) hi hn (fun r hr => (hR r hr).1) hy (hR r (List.mem_of_getElem? hi)).2.2 (c1.up hw (Nat.le_refl _)) (c2.up hw (Nat.le_refl _)) (c3.up hw (Nat.le_refl _))
 obtain ⟨res, hres⟩ : ∃ res, Zeo (Zak l) nominal yr l 0 none = res := ⟨_, rfl⟩
 rw [hres]
 generalize Zak l = least at *
 clear hA hR c1 c2 c3
 refine Zab Tryz.func156 rfl rfl rfl rfl ?_
 repeat (first | (refine js ?_; (refine bx ?_; intro bk)) | refine walk ?_)
 rename_i b6
 refine Zaq [(13, .slice A l.length c), (1, .func (.func 189) #[] #[.pointer (some ⟨b1, 0, none⟩), .pointer (some ⟨b2, 0, none⟩), .pointer (some ⟨b3, 0, none⟩)]), (2, .func (.func 191) #[] #[]), (8, .pointer (some ⟨bk, 0, none⟩)), (6, .pointer (some ⟨b6, 0, none⟩)), (14, .int .i64 l.length)] [.blk b6 [.int .i64 0, .int .i64 0, .int .i64 0] 182]
  (fun g : BG => [(15, .int .i64 g.k), (9, .bool g.b.isSome)]) (fun g => [.blk bk (evC g.b) 182]) (fun g => g.k <= l.length /\ Zeo least nominal yr (l.drop g.k) g.k g.b = res) (fun g => l.length - g.k) ⟨0, none⟩ SFA SOA ⟨Nat.zero_le _, hres⟩ ?_
 rintro ⟨k, b⟩ ⟨hk, hi⟩
 dsimp only at hk hi ⊢
 repeat (first | (refine js ?_; (refine bx ?_; intro bk)) | refine walk ?_)
 refine Zah rfl (fun h => ?_) (fun h => ?_)
 ·have hlt : k < l.length := by simpa using h
  have ho := haf k _ (List.getElem?_eq_getElem hlt)
  rw [Zat hlt, Zeo] at hi
  generalize beIn least nominal l[k] k (min (lastY l[k]) (yr + 2)) 20 = o at *
  have hord := fun e e2 w' => ZnN e e2 w'
  rcases o with _ | ⟨ey, er, en⟩ <;> rcases b with _ | ⟨by_, br, bn⟩ <;> simp only [evV, evC, Zad.enc, dEv0, Option.isSome] at ho hi ⊢
  ·repeat (first | refine und ?_ | (refine js ?_; (first | (apply Zar (f := 189) (us := []) (vs := [.int .i64 k]) (cs := [.pointer (some ⟨b1, 0, none⟩), .pointer (some ⟨b2, 0, none⟩), .pointer (some ⟨b3, 0, none⟩)]) (h := fun w' hw _ => ho w' hw); rfl; rfl; rintro v O' ⟨rfl, rfl⟩) | (refine bx ?_; intro bk))) | refine walk ?_)
   exact ⟨⟨k + 1, none⟩, OA, ⟨OA, hi⟩, SFA, SOA⟩
  ·repeat (first | refine und ?_ | (refine js ?_; (first | (apply Zar (f := 189) (us := []) (vs := [.int .i64 k]) (cs := [.pointer (some ⟨b1, 0, none⟩), .pointer (some ⟨b2, 0, none⟩), .pointer (some ⟨b3, 0, none⟩)]) (h := fun w' hw _ => ho w' hw); rfl; rfl; rintro v O' ⟨rfl, rfl⟩) | (refine bx ?_; intro bk))) | refine walk ?_)
   exact ⟨⟨k + 1, some ⟨by_, br, bn⟩⟩, OA, ⟨OA, hi⟩, SFA, SOA⟩
  ·repeat (first | refine und ?_ | (refine js ?_; (first | (apply Zar (f := 189) (us := []) (vs := [.int .i64 k]) (cs := [.pointer (some ⟨b1, 0, none⟩), .pointer (some ⟨b2, 0, none⟩), .pointer (some ⟨b3, 0, none⟩)]) (h := fun w' hw _ => ho w' hw); rfl; rfl; rintro v O' ⟨rfl, rfl⟩) | (refine bx ?_; intro bk))) | refine walk ?_)
   exact ⟨⟨k + 1, some ⟨ey, er, en⟩⟩, OA, ⟨OA, hi⟩, SFA, SOA⟩
  ·repeat (first | refine und ?_ | (refine js ?_; (first | (apply Zar (f := 189) (us := []) (vs := [.int .i64 k]) (cs := [.pointer (some ⟨b1, 0, none⟩), .pointer (some ⟨b2, 0, none⟩), .pointer (some ⟨b3, 0, none⟩)]) (h := fun w' hw _ => ho w' hw); rfl; rfl; rintro v O' ⟨rfl, rfl⟩) | (apply Zar (f := 191) (us := []) (cs := []) (vs := [.agg #[.int .i64 ey, .int .i64 er, .int .i64 en], .agg #[.int .i64 by_, .int .i64 br, .int .i64 bn]]) (h := fun w' hw _ => hord ⟨ey, er, en⟩ ⟨by_, br, bn⟩ w'); rfl; rfl; rintro v O' ⟨rfl, rfl⟩) | (refine bx ?_; intro bk))) | refine walk ?_)
   refine Zah rfl (fun h2 => ?_) (fun h2 => ?_)
   ·rw [if_pos (of_decide_eq_true h2)] at hi
    repeat (first | (refine js ?_; (refine bx ?_; intro bk)) | refine walk ?_)
    exact ⟨⟨k + 1, some ⟨ey, er, en⟩⟩, OA, ⟨OA, hi⟩, SFA, SOA⟩
   ·rw [if_neg (of_decide_eq_false h2)] at hi
    repeat (first | (refine js ?_; (refine bx ?_; intro bk)) | refine walk ?_)
    exact ⟨⟨k + 1, some ⟨by_, br, bn⟩⟩, OA, ⟨OA, hi⟩, SFA, SOA⟩
 ·obtain rfl : k = l.length := by have := of_decide_eq_false h; omega
  rw [List.drop_length, Zeo] at hi
  subst hi
  rcases b with _ | ⟨by_, br, bn⟩ <;> simp only [evC, Zad.enc, dEv0]
  ·repeat (first | (refine js ?_; (refine bx ?_; intro bk)) | refine walk ?_)
   exact rtC
  ·repeat (first | (refine js ?_; (refine bx ?_; intro bk)) | refine walk ?_)
   exact rtC
def ZAd (l : List Zaa) : Prop := ∀ r ∈ l, (-4611686018427387904 <= r.save /\ r.save <= 4611686018427387904) /\ (r.from_ <= 4611686018427387904 /\ -4611686018427387904 <= r.to)
theorem ZgK (A : Option Addr) (c : Nat) (l : List Zaa) (nominal : Int) (w : World) (hG : Glob w) (hA : RdSl w A c Zaa.enc 11 l) (hn : l.length <= 1000000) (hR : ZAd l) (ht : -4611686018427387904 <= nominal /\ nominal <= 4611686018427387904) :
  Does Tryz.prog 147 [.slice A l.length c, .int .i64 nominal] w (fun v O => v = .tuple #[evV (befD l nominal), .bool (befD l nominal).isSome] /\ O = []) := by
 have hb := fun (b1 b2 b3 : Nat) w' (hw : Bel w.heap.size w w') c1 c2 c3 => Zse A c l (Za2 nominal) nominal b1 b2 b3 w' (hG.up hw) (hA.up hw) hn hR (Zmo nominal) c1 c2 c3
 change ∀ (b1 b2 b3 : Nat) w' (hw : Bel w.heap.size w w') c1 c2 c3, Does _ _ _ w' (fun v O => v = .tuple #[evV (befD l nominal), .bool (befD l nominal).isSome] /\ O = []) at hb
 have hyr := fun w' (hw : Bel w.heap.size w w') => Zmn nominal ht w' (hG.up hw)
 generalize befD l nominal = res at *
 generalize Za2 nominal = yr at *
 refine Zab Tryz.func147 rfl rfl rfl rfl ?_
 rcases res with _ | ⟨ey, er, en⟩ <;> simp only [evV, Zad.enc, dEv0, Option.isSome] at hb ⊢
 ·repeat (first | (refine js ?_; (first | (refine Zac hyr ?_) | (apply Zag (h := fun w' hw hH => hb _ _ _ w' hw (hH.cells (by repeat' constructor)) (hH.cells (by repeat' constructor)) (hH.cells (by repeat' constructor))); rfl; rintro v O' ⟨rfl, rfl⟩) | (refine bx ?_; intro bk))) | refine walk ?_)
  exact rtC
 ·repeat (first | (refine js ?_; (first | (refine Zac hyr ?_) | (apply Zag (h := fun w' hw hH => hb _ _ _ w' hw (hH.cells (by repeat' constructor)) (hH.cells (by repeat' constructor)) (hH.cells (by repeat' constructor))); rfl; rintro v O' ⟨rfl, rfl⟩) | (refine bx ?_; intro bk))) | refine walk ?_)
  exact rtC
end Go.Proofs.YtpcpmndldgejiaaGreatDoor
namespace Go.Wk
open Go Go.RowKit
section
variable {P : Program} {n : Nat} {wr : World} {fr : Fr} {O : List It} {ty : TypeId} {pos : String} {af : Array Edge} {dst : Option Tmp} {g : Option (Nat × Bool)} {Kp : Value -> List It -> Prop}
theorem ZhY {t kt et : Nat} {x : Operand} {kk : IntKind} {i : Int} [hM : MapT P t kt et] (hx : ev fr x = some (.int kk i)) (k : ∀ b, Kp (.map (some b)) (.mp b [] :: O)) : Stp P n wr fr O ⟨dst, .makeMap t (some x), ty, pos, af, g⟩ Kp :=
 Zb4 fun a w hs => by
  have hB : Bel w.heap.size w (w.alloc (.map #[] 0)) := (Bel.refl _ _).alloc (Nat.le_refl _) _
  have hu := MapT.parts hM.h
  refine ⟨.map (some w.heap.size), w.alloc (.map #[] 0), _, ?_, hs.old.trans (hB.mono hs.old.size), hs.own.grow (O' := [.mp w.heap.size []]) hB hs.old.size ⟨fun i hi => ?_, fun i hi b hb => ?_, List.pairwise_singleton _ _⟩, k _⟩
  ·simp [execOp, hs.sim.ev hx, Instr.makeMap, run_underlying hu, asInt, asIntOf, newObj, Sem.run]
  ·rw [List.mem_singleton.1 hi]
   exact ⟨#[], 0, heap_alloc_new w _, rfl, Zp5⟩
  ·rw [List.mem_singleton.1 hi] at hb
   simp only [It.S] at hb
   subst hb
   exact ⟨Nat.le_refl _, by simp⟩
theorem ZfK (es : Array MapEntry) (j : Nat) : (es.eraseIdxIfInBounds j).toList = es.toList.eraseIdx j := by
 unfold Array.eraseIdxIfInBounds
 split
 ·simp
 ·rw [List.eraseIdx_of_length_le (by simp; omega)]
theorem Zrq {es : Array MapEntry} {c : Nat} (h : stOk es c) (j : Nat) : stOk (es.eraseIdxIfInBounds j) c := by
 unfold stOk
 rw [ZfK]
 have hsub : ((es.toList.eraseIdx j).map (·.born)).Sublist (es.toList.map (·.born)) := (List.eraseIdx_sublist _ _).map _
 exact ⟨h.1.sublist hsub, fun n hn => h.2 n (hsub.subset hn)⟩
theorem Zsi {t t2 kt et b : Nat} {x ix : Operand} {m : List (ByteArray × Value)} {k : ByteArray} {O' : List It} [hM : MapT P t kt et] [StringT P kt] (hx : ev fr x = some (.map (some b))) (hi : ev fr ix = some (.string k))
  (hu : Upd O (.mp b m) (.mp b (mdel m k)) O') (kk : Kp (.tuple #[]) O') : Stp P n wr fr O ⟨dst, .call ⟨.builtin .delete, #[x, ix], #[t, t2]⟩, ty, pos, af, g⟩ Kp :=
 Zb4 fun a w hs => by
  have ht := MapT.parts hM.h
  obtain ⟨es, c, h1, h2, h9⟩ := hs.own.sat _ hu.mem
  have hf := ZmW k m es.toList 0 h2
  cases hfi : ZeQ m k 0 with
  | none =>
   rw [hfi] at hf
   have hst := hs.setMap (es' := es) (c' := c) hu (by unfold ZcG; rw [hf]; exact h2) h9
   refine ⟨.tuple #[], _, O', ?_, hst.1, hst.2, kk⟩
   simp only [execOp, resolve, invoke, builtin, Builtin.delete_, hs.sim.ev hx, hs.sim.ev hi]
   simp [hs.sim.ev hx, hs.sim.ev hi, Builtin.delete_, run_underlying ht, Zbc h1, ZcF _ k 9999, Zc8 k m es.toList w h2, hfi, setObj, Sem.run, h1]
  | some p =>
   obtain ⟨j, u⟩ := p
   rw [hfi] at hf
   obtain ⟨_, hf2⟩ := hf
   rw [Nat.sub_zero] at hf2
   have hst := hs.setMap (es' := es.eraseIdxIfInBounds j) (c' := c) hu (by unfold ZcG; rw [ZfK]; exact hf2) (Zrq h9 j)
   refine ⟨.tuple #[], _, O', ?_, hst.1, hst.2, kk⟩
   simp only [execOp, resolve, invoke, builtin, Builtin.delete_, hs.sim.ev hx, hs.sim.ev hi]
   simp [hs.sim.ev hx, hs.sim.ev hi, Builtin.delete_, run_underlying ht, Zbc h1, ZcF _ k 9999, Zc8 k m es.toList w h2, hfi, setObj, Sem.run, h1]
def MpAt (w : World) (b : Nat) (m : List (ByteArray × Value)) : Prop := (It.mp b m).sat w
theorem MpAt.up {w w' : World} {b : Nat} {m : List (ByteArray × Value)} {B : Nat} (h : MpAt w b m) (hb : Bel B w w') (hB : w.heap.size <= B) : MpAt w' b m := by
 refine It.sat_congr h fun k hk => ?_
 obtain rfl : k = b := hk
 obtain ⟨es, c, h1, _⟩ := h
 exact hb.block k (Nat.lt_of_lt_of_le (Array.getElem?_eq_some_iff.1 h1).1 hB)
theorem Zn1 {t kt et b : Nat} {x ix : Operand} {m : List (ByteArray × Value)} {k : ByteArray} {z v : Value} [hM : MapT P t kt et] [StringT P kt] [ZeroV P et z] (hx : ev fr x = some (.map (some b))) (hi : ev fr ix = some (.string k))
  (hp : MpAt wr b m) (hv : (mget m k).getD z = v) : Pu P n wr fr O (.lookup t x ix false) ty v := hv ▸ Zsm (kt := kt) (et := et) hx hi (fun _ hw _ => hp.up hw (Nat.le_refl _))
theorem ZfT {t kt et b : Nat} {x ix : Operand} {m : List (ByteArray × Value)} {k : ByteArray} {z v : Value} {c : Bool} [hM : MapT P t kt et] [StringT P kt] [ZeroV P et z] (hx : ev fr x = some (.map (some b))) (hi : ev fr ix = some (.string k))
  (hp : MpAt wr b m) (hv : (mget m k).getD z = v) (hc : (mget m k).isSome = c) : Pu P n wr fr O (.lookup t x ix true) ty (.tuple [v, .bool c].toArray) :=
 fun a w hs _ _ _ _ => by
  have := Zff (P := P) (t := t) (kt := kt) (et := et) (k := k) (z := z) (hp.up hs.old (Nat.le_refl _)) true
  simp only [execOp, hs.sim.ev hx, hs.sim.ev hi, Sem.run_bind, this, Result.andThen_ok, Sem.run_pure]
  rw [<- hv, <- hc]
  rfl
theorem ZpF {t t' kt et : Nat} {x : Operand} {p : Option Nat} [hM : MapT P t kt et] (hx : ev fr x = some (.map p)) : Pu P n wr fr O (.binOp .eql t x (.const (.map none)) t') ty (.bool p.isNone) :=
 fun a w hs _ _ _ _ => by
  have hu := MapT.parts hM.h
  have h : (binOp .eql t (.map p) (.map none)).run P w = .ok (.bool p.isNone) w := by
   simp only [binOp]
   have : ∀ d, (Op.equalIn (d + 1) t (.map p) (.map none)).run P w = .ok p.isNone w := fun d => by cases p <;> simp [Op.equalIn, run_underlying hu]
   rw [show Op.equal t (.map p) (.map none) = Op.equalIn (9999 + 1) t (.map p) (.map none) from rfl]
   simp only [Sem.run_bind, this 9999, Result.andThen_ok, Sem.run_pure]
  have hc : a.eval (.const (.map none)) = .map none := rfl
  simp [execOp, hs.sim.ev hx, hc, eqGuard, h]
theorem ZpE {t kt et : Nat} {x : Operand} {v : Value} [hM : MapT P t kt et] (hx : ev fr x = some v) : Pu P n wr fr O (.makeInterface t x) ty (.iface t v) :=
 fun a w hs _ _ _ _ => by
  have hu := MapT.parts hM.h
  simp [execOp, hs.sim.ev hx, Instr.makeInterface, run_underlying hu]
theorem Zn8 {t xt kt et : Nat} {x : Operand} {v : Value} [hM : MapT P t kt et] (hx : ev fr x = some (.iface t v)) : Pu P n wr fr O (.typeAssert x xt t false) ty v :=
 fun a w hs _ _ _ _ => by
  have hu := MapT.parts hM.h
  simp [execOp, hs.sim.ev hx, Instr.typeAssert, run_underlying hu]
def ZtL (P : Program) (f : FuncId) : Prop := ∀ (args : Array Value) (w : World), (callFunc f args).run P w = ((Extern.MapsClone.clone args).run P w).andThen fun v w' => .ok (.value v) w'
theorem Zl2 {f t b : Nat} {x : Operand} {ts : Array TypeId} {m : List (ByteArray × Value)} (hf : ZtL P f) (hx : ev fr x = some (.iface t (.map (some b)))) (hp : ∀ w, Bel wr.heap.size wr w -> Zax wr.heap.size O w -> MpAt w b m)
  (kk : ∀ b2, Kp (.iface t (.map (some b2))) (.mp b2 m :: O)) : Stp P n wr fr O ⟨dst, .call ⟨.value (.func f), #[x], ts⟩, ty, pos, af, g⟩ Kp :=
 Zb4 fun a w hs => by
  obtain ⟨es, c, h1, h2⟩ := hp w hs.old hs.own
  have hB : Bel w.heap.size w (w.alloc (.map es c)) := (Bel.refl _ _).alloc (Nat.le_refl _) _
  have hrun : (Extern.MapsClone.clone #[.iface t (.map (some b))]).run P w = .ok (.iface t (.map (some w.heap.size))) (w.alloc (.map es c)) := by
   have e : Extern.MapsClone.clone #[.iface t (.map (some b))] = (getObj b >>= fun o => match o with
     | .map entries clock => (newObj (.map entries clock) >>= fun n => pure (.iface t (.map (some n))))
     | _ => stuck "maps.clone: a map expected") := rfl
   rw [e]
   simp [Zbc h1, newObj, Sem.run]
  refine ⟨.iface t (.map (some w.heap.size)), w.alloc (.map es c), _, ?_, hs.old.trans (hB.mono hs.old.size), hs.own.grow (O' := [.mp w.heap.size m]) hB hs.old.size ⟨fun i hi => ?_, fun i hi b hb => ?_, List.pairwise_singleton _ _⟩, kk _⟩
  ·have hev := hs.sim.ev hx
   have he : a.eval (.func f) = .func (.func f) #[] #[] := rfl
   have hc := hf #[.iface t (.map (some b))] w
   rw [hrun, Result.andThen_ok] at hc
   simp [execOp, resolve, he, Deferred.ofValue, invoke, hc, hev]
  ·rw [List.mem_singleton.1 hi]
   exact ⟨es, c, heap_alloc_new w _, h2⟩
  ·rw [List.mem_singleton.1 hi] at hb
   simp only [It.S] at hb
   subst hb
   exact ⟨Nat.le_refl _, by simp⟩
end
def Nd (m : List (ByteArray × Value)) : Prop := (m.map (·.1)).Nodup
theorem ZgC (k : ByteArray) : ∀ m : List (ByteArray × Value), mget m k = none ↔ k ∉ m.map (·.1)
 | [] => by simp [mget]
 | (x, v) :: r => by
  simp only [mget, List.map_cons, List.mem_cons, not_or]
  by_cases h : k = x
  ·simp [h]
  ·simp [h, ZgC k r]
theorem ZhK (k : ByteArray) (v : Value) : ∀ m : List (ByteArray × Value), k ∈ m.map (·.1) -> (mset m k v).map (·.1) = m.map (·.1)
 | [], h => by simp at h
 | (x, u) :: r, h => by
  simp only [mset]
  by_cases hk : k = x
  ·simp [hk]
  ·rw [if_neg hk]
   simp only [List.map_cons, List.mem_cons, hk, false_or] at h ⊢
   rw [ZhK k v r h]
theorem ZgB (k : ByteArray) (v : Value) : ∀ m : List (ByteArray × Value), k ∉ m.map (·.1) -> (mset m k v).map (·.1) = m.map (·.1) ++ [k]
 | [], _ => by simp [mset]
 | (x, u) :: r, h => by
  simp only [List.map_cons, List.mem_cons, not_or] at h
  simp only [mset, if_neg h.1, List.map_cons, ZgB k v r h.2, List.cons_append]
theorem Nd.set {m : List (ByteArray × Value)} (h : Nd m) (k : ByteArray) (v : Value) : Nd (mset m k v) := by
 unfold Nd at h ⊢
 by_cases hk : k ∈ m.map (·.1)
 ·rw [ZhK k v m hk]; exact h
 ·rw [ZgB k v m hk, List.nodup_append]
  exact ⟨h, by simp, fun a ha b hb => by simp only [List.mem_singleton] at hb; subst hb; exact fun e => hk (e ▸ ha)⟩
theorem Zqo (k : ByteArray) : ∀ m : List (ByteArray × Value), (mdel m k).Sublist m
 | [] => List.Sublist.slnil
 | (x, u) :: r => by
  simp only [mdel]
  split
  ·exact List.sublist_cons_self _ _
  ·exact (Zqo k r).cons_cons _
theorem Nd.del {m : List (ByteArray × Value)} (h : Nd m) (k : ByteArray) : Nd (mdel m k) := List.Nodup.sublist ((Zqo k m).map _) h
theorem ZmT (k x : ByteArray) : ∀ {m : List (ByteArray × Value)}, Nd m -> mget (mdel m k) x = if x = k then none else mget m x
 | [], _ => by simp [mdel, mget]
 | (y, u) :: r, h => by
  unfold Nd at h
  simp only [List.map_cons, List.nodup_cons] at h
  simp only [mdel]
  by_cases hk : k = y
  ·subst hk
   rw [if_pos rfl]
   by_cases hx : x = k
   ·subst hx
    rw [if_pos rfl]
    exact (ZgC x r).2 h.1
   ·rw [if_neg hx, mget, if_neg hx]
  ·rw [if_neg hk]
   simp only [mget]
   by_cases hx : x = y
   ·subst hx
    rw [if_pos rfl, if_pos rfl, if_neg (fun e => hk e.symm)]
   ·rw [if_neg hx, if_neg hx, ZmT k x h.2]
theorem Zqp (k : ByteArray) : ∀ {m : List (ByteArray × Value)}, (mget m k).isSome = true -> (mdel m k).length + 1 = m.length
 | [], h => by simp [mget] at h
 | (y, u) :: r, h => by
  simp only [mget] at h
  simp only [mdel]
  by_cases hk : k = y
  ·simp [hk]
  ·rw [if_neg hk] at h ⊢
   simp [Zqp k h]
theorem ZlB (k : ByteArray) (v : Value) : ∀ m : List (ByteArray × Value), (mset m k v).length <= m.length + 1
 | [] => by simp [mset]
 | (y, u) :: r => by
  simp only [mset]
  split
  ·simp
  ·simp [ZlB k v r]
section
variable {P : Program} {n : Nat} {wr : World} {Q : Exit -> Fr -> List It -> Prop} {fr : Fr} {O : List It} {K : Fr -> List It -> Prop}
theorem Zwv {l : Nat} {rs : List ResultVar} {R : Value -> List It -> Prop} : ¬ retQ P wr rs R (.goto l) fr O := id
theorem Zzj {c : Code} (hg : ∀ l fr O, ¬ Q (.goto l) fr O) (h : W P n wr c Q fr O) : W P n wr (.scope c) Q fr O := by
 intro a w hs
 refine wp_scope_straight (wp_mono (h a w hs) ?_)
 rintro e a' w' ⟨fr', O', hs', hq⟩
 cases e with
 | goto l => exact (hg l _ _ hq).elim
 | _ => exact ⟨fr', O', hs', hq⟩
theorem Zzl {l : Nat} (h : Q .normal fr O) : W P n wr (.label l) Q fr O := fun _ _ hs => wp_label ⟨fr, O, hs, h⟩
end
section
variable {P : Program} {n : Nat} {wr : World} {fr : Fr} {O : List It} {ty : TypeId} {pos : String} {af : Array Edge} {dst : Option Tmp} {g : Option (Nat × Bool)} {Kp : Value -> List It -> Prop}
theorem Zn0 {t len e sz b : Nat} {ag : Bool} {x y : Operand} {h : Int} [hA : ArrT P t len e sz ag] (hx : ev fr x = some (.pointer (some ⟨b, 0, none⟩))) (hy : ev fr y = some (.int .i64 h)) (h0 : 0 <= h) (h1 : h <= len) :
  Pu P n wr fr O (.slice t x none (some y) none) ty (.slice (some ⟨b, 0, none⟩) h.toNat len) :=
 fun a w hs _ _ _ _ => by
  have h := hA.h
  unfold Zk0 at h
  split at h
  ·rename_i len' e' hu
   split at h
   ·rename_i sz' ag' ht
    simp only [Option.some.injEq, Prod.mk.injEq] at h
    obtain ⟨rfl, rfl, rfl, rfl⟩ := h
    obtain ⟨inf, dd, hinf, hsz, _, _⟩ := Ty.parts ht
    simp [execOp, hs.sim.ev hx, hs.sim.ev hy, Instr.sliceAt, run_underlying hu, Instr.sureAddr, Instr.sliceBounds, run_sliceBound, h0, h1, sizeOf, ZaO hinf, Addr.add]
   ·cases h
  ·cases h
theorem ZjQ {t sz b p : Nat} {x : Operand} {cs : List Value} {bt : TypeId} {v : Value} {R : List It} [Ty P t sz false] (hx : ev fr x = some (.pointer (some ((adr (some ⟨b, 0, none⟩)).add p))))
  (hp : Pick (.blk b cs bt) O R) (hv : cs[p]? = some v) : Pu P n wr fr O (.load t x) ty v :=
 Pu_loadB1 (by rw [hx, show adr (some (⟨b, 0, none⟩ : Addr)) = ⟨b, 0, none⟩ from rfl, Zca, Nat.zero_add]) hp hv
theorem Zn3 {t sz b p : Nat} {x : Operand} {cs : List Value} {bt : TypeId} {v : Value} {R : List It} [Ty P t sz false] (hx : ev fr x = some (.pointer (some ((⟨b, 0, none⟩ : Addr).add p))))
  (hp : Pick (.blk b cs bt) O R) (hv : cs[p]? = some v) : Pu P n wr fr O (.load t x) ty v :=
 Pu_loadB1 (by rw [hx, Zca, Nat.zero_add]) hp hv
theorem Zfy {t : TypeId} {x : Operand} {i : Int} (hx : ev fr x = some (.int .i64 i)) (h : -9223372036854775807 <= i /\ i <= 9223372036854775807) : Pu P n wr fr O (.unOp .neg t x) ty (.int .i64 (-i)) := by
 have := Pu_negW (P := P) (n := n) (wr := wr) (O := O) (ty := ty) (t := t) hx
 rwa [Int.zero_sub, ZcC (by omega)] at this
def Zpg (c : UInt8) : Value := .int .u8 (c.toNat : Int)
theorem Zn7 {t t' e sz bytes et c : Nat} {x : Operand} {A : Option Addr} {m : Nat} {l : List UInt8} {xs : List Value} {R : List It} [hE : ElemT P t e sz bytes] [hU : IntT P e .u8] [hS : StringT P t'] (hx : ev fr x = some (.slice A m c))
  (hp : Pick (.row (.slice A m c) et 1 m xs) O R) (hxs : xs = l.map Zpg) (hm : m = l.length) (hA : A ≠ none) : Pu P n wr fr O (.convert t t' x) ty (.string ⟨l.toArray⟩) :=
 fun a w hs _ _ _ _ => by
  have h := hE.h
  unfold Zhs at h
  split at h
  ·rename_i e' hu
   split at h
   ·simp only [Option.some.injEq, Prod.mk.injEq] at h
    obtain ⟨rfl, _, _⟩ := h
    obtain ⟨ad, rfl⟩ := Option.ne_none_iff_exists'.1 hA
    subst hm hxs
    have hsat := hs.own.sat _ (hp.perm.mem_iff.2 List.mem_cons_self)
    have hc : ∀ j (hj : j < l.length), w.cell? (ad.add j) = some (.int .u8 (l[j].toNat : Int)) := fun j hj => by
     have := ZbT hsat (j := j) (u := Zpg l[j]) (by rw [List.getElem?_map, List.getElem?_eq_getElem hj]; rfl)
     exact this.2
    have hrun := run_convert_bytes_back (P := P) w t t' e' ad c l hu hU.h hS.h hc
    simp [execOp, hs.sim.ev hx, hrun]
   ·cases h
  ·cases h
theorem Zbi {t t' : TypeId} {x y : Operand} {kk : IntKind} {i j : Int} {b : Bool} (hx : ev fr x = some (.int kk i)) (hy : ev fr y = some (.int kk j)) (h : decide (i < j) = b) : Pu P n wr fr O (.binOp .lss t x y t') ty (.bool b) := h ▸ Pu_lss hx hy
theorem ZcN {t t' : TypeId} {x y : Operand} {kk : IntKind} {i j : Int} {b : Bool} (hx : ev fr x = some (.int kk i)) (hy : ev fr y = some (.int kk j)) (h : decide (i <= j) = b) : Pu P n wr fr O (.binOp .leq t x y t') ty (.bool b) := h ▸ Pu_leq hx hy
theorem ZaN {t t' : TypeId} {x y : Operand} {kk : IntKind} {i j : Int} {b : Bool} (hx : ev fr x = some (.int kk i)) (hy : ev fr y = some (.int kk j)) (h : decide (j < i) = b) : Pu P n wr fr O (.binOp .gtr t x y t') ty (.bool b) := h ▸ Pu_gtr hx hy
theorem Zcv {t t' : TypeId} {x y : Operand} {kk : IntKind} {i j : Int} {b : Bool} (hx : ev fr x = some (.int kk i)) (hy : ev fr y = some (.int kk j)) (h : decide (j <= i) = b) : Pu P n wr fr O (.binOp .geq t x y t') ty (.bool b) := h ▸ Pu_geq hx hy
theorem ZaG {t t' : TypeId} {x y : Operand} {kk : IntKind} {i j : Int} {b : Bool} (hx : ev fr x = some (.int kk i)) (hy : ev fr y = some (.int kk j)) (h : decide (i = j) = b) : Pu P n wr fr O (.binOp .eql t x y t') ty (.bool b) := h ▸ Pu_eql hx hy
theorem ZaE {t t' : TypeId} {x y : Operand} {kk : IntKind} {i j : Int} {b : Bool} (hx : ev fr x = some (.int kk i)) (hy : ev fr y = some (.int kk j)) (h : (!decide (i = j)) = b) : Pu P n wr fr O (.binOp .neq t x y t') ty (.bool b) := h ▸ Pu_neq hx hy
theorem Zin {t t' : TypeId} {x y : Operand} {i j : ByteArray} {b : Bool} (hx : ev fr x = some (.string i)) (hy : ev fr y = some (.string j)) (h : decide (i = j) = b) : Pu P n wr fr O (.binOp .eql t x y t') ty (.bool b) := h ▸ Pu_eqlS hx hy
theorem Zg1 {t t' : TypeId} {x y : Operand} {i j : ByteArray} {b : Bool} (hx : ev fr x = some (.string i)) (hy : ev fr y = some (.string j)) (h : (!decide (i = j)) = b) : Pu P n wr fr O (.binOp .neq t x y t') ty (.bool b) := h ▸ Pu_neqS hx hy
end
end Go.Wk
namespace Go.Proofs.YtpcpmndldgejiaaGreatDoor
open Go Go.RowKit Go.Wk
attribute [local irreducible] W RL Does Zay Zam retQ Calls Pu Stp RD Qy Ay Zan
theorem Zqd {l : List Zaa} {e : Zad} {r : Zaa} (h : l[e.rule.toNat]? = some r) : ruE l e = r := by
 unfold ruE
 rw [List.getD_eq_getElem?_getD, h]; rfl
def stV (x : Int × ByteArray) : Value := .agg #[.int .i64 x.1, .string x.2]
theorem Zvg {G : Prop} (h : G := by (first | exact PuI | (apply Pu_loadO1; rfl; first | exact hca 9 _ rfl | exact hca 10 _ rfl))) : G := h
theorem ZxE {G : Prop} (h : G := by first | (apply Qy_y; rfl; exact Zvg) | exact QyA) : G := h
theorem ZAu {G : Prop} (h : G := by repeat (first | exact QF.nil | (apply QF.mk; rfl; rfl; decide +kernel; exact ZxE))) : G := h
theorem ZcX (A : Option Addr) (c : Nat) (l : List Zaa) (e : Zad) (w : World) (hA : RdSl w A c Zaa.enc 11 l) (he : 0 <= e.rule /\ e.rule < l.length) :
  Does Tryz.prog 149 [.slice A l.length c, .agg e.enc.toArray] w (fun v O => v = stV (behS l e) /\ O = []) := by
 obtain ⟨r, hr⟩ : ∃ r, l[e.rule.toNat]? = some r := ⟨_, List.getElem?_eq_getElem (by omega)⟩
 have hle := hA.le
 have hcp := hA.cap
 simp only [maxLen] at hcp
 unfold behS
 rw [Zqd hr]
 obtain ⟨hna, hca⟩ := hA.rd _ _ hr
 obtain ⟨y, q, n⟩ := e
 dsimp only at he hr hca
 show Does _ _ [_, .agg #[.int .i64 y, .int .i64 q, .int .i64 n]] w _
 refine Zab Tryz.func149 rfl rfl rfl rfl ?_
 repeat (first | (apply RL_pu; rfl; exact Zvg) | (apply RD_Q; rfl; rfl; decide +kernel; rfl; rfl; exact ZxE) | refine walk1 ?_ | (refine jn ?_; (try intro F); (first | (refine bx ?_; intro bk) | (refine stA ?_) | (apply Zae; first | exact Zvg | exact PuA)); first | refine ⟨_, EndsA, ZAu, ?_⟩ | refine fin ?_) | (apply RD_W; rfl; intro bk))
 exact ret_1 _ [] (.cellB rfl (by repeat' constructor) rfl rfl) .nil ⟨rfl, rfl⟩
theorem Zpk (A : Option Addr) (c : Nat) (l : List Zaa) (w : World) (hA : RdSl w A c Zaa.enc 11 l) : Does Tryz.prog 161 [.slice A l.length c] w (fun v O => v = .int .i64 (max (Zak l) (-10800)) /\ O = []) := by
 have hle := hA.le
 have hcp := hA.cap
 unfold maxLen at hcp
 generalize hres : Zak l = res
 unfold Zak at hres
 have hmx : (if res < -10800 then -10800 else res) = max res (-10800) := by split <;> omega
 refine Zab Tryz.func161 rfl rfl rfl rfl ?_
 repeat (first | (refine js ?_; (refine bx ?_; intro bk)) | refine walk ?_)
 refine Zaq [(6, _), (7, _)] [] (fun g : Nat × Int => [(3, .int .i64 g.2), (8, .int .i64 g.1)]) (fun _ => []) (fun g => g.1 <= l.length /\ (l.drop g.1).foldl (fun m r => min m r.save) g.2 = res) (fun g => l.length - g.1) (0, 0) SFA SOA ⟨Nat.zero_le _, hres⟩ ?_
 rintro ⟨k, m⟩ ⟨hk, hi⟩
 dsimp only at hk hi ⊢
 repeat (first | (refine js ?_; (refine bx ?_; intro bk)) | refine walk ?_)
 refine Zah rfl (fun h => ?_) (fun h => ?_)
 ·have hlt : k < l.length := by simpa using h
  obtain ⟨hna, hca⟩ := hA.rd k _ (List.getElem?_eq_getElem hlt)
  rw [Zat hlt] at hi
  generalize l[k] = r at *
  obtain ⟨nm, fr, to, mo, ⟨dk, dw, dd⟩, ⟨cs, cb⟩, sv, le⟩ := r
  simp only [Zaa.enc, List.foldl_cons] at hca hi
  repeat (first | (apply RL_pu; rfl; (first | exact PuI | (apply Zfc; rfl; rfl))) | (refine js ?_; (refine bx ?_; intro bk)) | refine walk1 ?_)
  rw [show (if sv < m then sv else m) = min m sv by split <;> omega]
  exact ⟨(k + 1, min m sv), OA, ⟨OA, hi⟩, SFA, .nil⟩
 ·have hkl : k = l.length := by
   have := of_decide_eq_false h
   omega
  subst hkl
  rw [List.drop_length] at hi
  obtain rfl : m = res := hi
  repeat (first | (apply RL_pu; rfl; (apply ZhA; rfl; rfl; exact hmx)) | (refine js ?_; (refine bx ?_; intro bk)) | refine walk1 ?_)
  exact rtA
theorem Zym {G : Prop} (h : G := by (first | (apply Zbi; rfl; rfl; exact b1) | (apply ZaN; rfl; rfl; exact b2))) : G := h
theorem Zp4 (a b : Int) (ha : -4000000000000000000 <= a /\ a <= 4000000000000000000) (hb : -4000000000000000000 <= b /\ b <= 4000000000000000000) (w : World) : Does Tryz.prog 110 [.int .i64 a, .int .i64 b] w (fun v O => v = .tuple #[.int .i64 (a - b), .bool true] /\ O = []) := by
 refine Zab Tryz.func110 rfl rfl rfl rfl ?_
 by_cases h : 0 < b
 ·have b1 : decide (a - b < a) = true := decide_eq_true (by omega)
  have b2 : decide (0 < b) = true := decide_eq_true h
  repeat (first | refine und ?_ | (apply RL_pu; rfl; exact Zym) | refine walk1 ?_)
  exact rtB
 ·have b1 : decide (a - b < a) = false := decide_eq_false (by omega)
  have b2 : decide (0 < b) = false := decide_eq_false h
  repeat (first | refine und ?_ | (apply RL_pu; rfl; exact Zym) | refine walk1 ?_)
  exact rtB
theorem Zfk (Z : It) (x t : Int) (b7 b8 : Nat) (wr : World) (hx : -2000000000000000000 <= x /\ x <= 2000000000000000000) (ht : -2000000000000000000 <= t /\ t <= 2000000000000000000) :
  Zan Tryz.prog 160 [.int .i64 x, .pointer (some ⟨b7, 0, none⟩), .pointer (some ⟨b8, 0, none⟩)] wr [Z, .blk b7 [.int .i64 t] 2, .blk b8 [.bool true] 4] (fun v O' => v = .tuple #[] /\ O' = [Z, .blk b7 [.int .i64 (t - x)] 2, .blk b8 [.bool true] 4]) := by
 have hs := fun w' => Zp4 t x (by omega) (by omega) w'
 refine ZbH Tryz.func160 rfl rfl rfl rfl ?_
 repeat (first | (refine js ?_; (refine Zac (fun w' _ => hs w') ?_)) | refine walk ?_)
 exact Zs4 [Z, .blk b7 [.int .i64 (t - x)] 2, .blk b8 [.bool true] 4] SOA ⟨rfl, rfl⟩
end Go.Proofs.YtpcpmndldgejiaaGreatDoor
