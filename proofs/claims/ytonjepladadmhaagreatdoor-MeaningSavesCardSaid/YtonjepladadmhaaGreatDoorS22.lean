/- Contracts: numeric.Parse. -/
import Derived.Test.YtonjepladadmhaaGreatDoorS20
import Derived.Test.YtonjepladadmhaaGreatDoorS21
set_option maxHeartbeats 4000000
set_option linter.unusedVariables false
set_option linter.unusedSimpArgs false
namespace Go.Wk
open Go Go.RowKit
section
variable {P : Program} {n : Nat} {wr : World} {fr : Fr} {O : List It} {ty : TypeId}
theorem Pu_sliceSS {t : TypeId} {x y z : Operand} {s r : ByteArray} {k k' : IntKind} {i j : Int} [hS : StringT P t] (hx : ev fr x = some (.string s)) (hy : ev fr y = some (.int k i)) (hz : ev fr z = some (.int k' j)) (h0 : 0 ≤ i) (h1 : i ≤ j) (h2 : j ≤ s.size) (hr : s.extract i.toNat j.toNat = r) :
  Pu P n wr fr O (.slice t x (some y) (some z) none) ty (.string r) := fun a w hs _ _ _ _ => by
 have h := run_slice_string (P := P) w t s k k' i j hS.h h0 h1 h2
 rw [hr] at h
 simp [execOp, hs.sim.ev hx, hs.sim.ev hy, hs.sim.ev hz, Instr.sliceAt, run_underlying hS.h, h]
theorem Pu_indexArr1 {t len e : Nat} {x ix : Operand} {kk : IntKind} {i : Int} {cs : List Value} {v : Value} [hA : ArrT P t len e 1 false] (hx : ev fr x = some (.agg cs.toArray)) (hi : ev fr ix = some (.int kk i)) (h0 : 0 ≤ i) (h1 : i < len) (hv : cs[i.toNat]? = some v) :
  Pu P n wr fr O (.index t x ix) ty v := fun a w hs _ _ _ _ => by
 have h := hA.h
 unfold arrChk at h
 split at h
 ·rename_i len' e' hu
  split at h
  ·rename_i sz' ag' ht
   simp only [Option.some.injEq, Prod.mk.injEq] at h
   obtain ⟨rfl, rfl, rfl, rfl⟩ := h
   obtain ⟨inf, dd, hinf, hsz, hag, _⟩ := Ty.parts ht
   have : Ty P e' 1 false := ⟨ht⟩
   simp only [execOp, hs.sim.ev hx, hs.sim.ev hi, Instr.index, asIntOf, Sem.run_bind, Sem.run_pure, Result.andThen_ok, run_underlying hu, h0, h1, and_self, if_true, part, run_isAgg, run_sizeOf]
   simp [hv]
  ·cases h
 ·cases h
theorem Pu_neqNilI {t t' : TypeId} {x : Operand} {v : Value} {b : Bool} (hu : ∃ ms, P.underlying t = some (.interface ms)) (hx : ev fr x = some v) (hv : (v = .nilIface ∧ b = false) ∨ (b = true ∧ ∃ te p, v = .iface te (.pointer p))) : Pu P n wr fr O (.binOp .neq t x (.const .nilIface) t') ty (.bool b) := fun a w hs _ _ _ _ => by
 obtain ⟨ms, hu⟩ := hu
 have hc : a.eval (.const .nilIface) = .nilIface := rfl
 have h : (binOp .neq t v .nilIface).run P w = .ok (.bool b) w := by
  have : ∀ d, (Op.equalIn (d + 1) t v .nilIface).run P w = .ok (!b) w := fun d => by
   rcases hv with ⟨rfl, rfl⟩ | ⟨rfl, te, p, rfl⟩ <;> simp [Op.equalIn, run_underlying hu]
  have hb : binOp .neq t v .nilIface = (do pure (.bool (!(← Op.equal t v .nilIface)))) := by rcases hv with ⟨rfl, rfl⟩ | ⟨rfl, te, p, rfl⟩ <;> rfl
  rw [hb, show Op.equal t v .nilIface = Op.equalIn (9999 + 1) t v .nilIface from rfl]
  simp only [Sem.run_bind, this 9999, Result.andThen_ok, Sem.run_pure, Bool.not_not]
 have hg : (eqGuard .neq t x (.const .nilIface) v .nilIface).run P w = .ok () w := by
  rcases hv with ⟨rfl, rfl⟩ | ⟨rfl, te, p, rfl⟩ <;> simp [eqGuard]
 simp only [execOp, hs.sim.ev hx, hc, Sem.run_bind, hg, Result.andThen_ok, h, Sem.run_pure]
theorem Pu_mulE {t t' : TypeId} {x y : Operand} {i j m : Int} (hx : ev fr x = some (.int .i64 i)) (hy : ev fr y = some (.int .i64 j)) (hm : i * j = m) (h : -9223372036854775808 ≤ m ∧ m ≤ 9223372036854775807) : Pu P n wr fr O (.binOp .mul t x y t') ty (.int .i64 m) := hm ▸ Pu_mul hx hy (hm ▸ h)
theorem W_mid {c : Code} {Q : Exit → Fr → List It → Prop} {K' : Fr → List It → Prop} (I : Fr → List It → Prop) (h1 : W P n wr c (thenQ I Q) fr O) (h2 : ∀ fr' O', I fr' O' → K' fr' O') : W P n wr c (thenQ K' Q) fr O :=
 W_mono h1 fun e fr' O' h => by
  cases e with
  | normal => exact h2 fr' O' h
  | _ => exact h
end
theorem two_of (s : ByteArray) (a : Nat) : (s.extract a (min (a + 2) s.size)).data.toList = (s.data.toList.drop a).take 2 := by
 rw [ByteArray.data_extract]
 have hsz : s.size = s.data.toList.length := by simp
 rw [hsz]
 simp only [Array.toList_extract, List.extract_eq_take_drop]
 apply List.ext_getElem?
 intro i
 simp only [List.getElem?_take, List.getElem?_drop]
 by_cases h : i < 2
 ·rw [if_pos h]
  by_cases h2 : a + i < s.data.toList.length
  ·rw [if_pos (by omega)]
  ·rw [List.getElem?_eq_none (by omega)]; simp
 ·rw [if_neg h, if_neg (by omega)]
end Go.Wk
namespace Go.Proofs.YtonjepladadmhaaGreatDoor
open Go Go.RowKit Go.Wk
attribute [local irreducible] W RL Does thenQ blockQ retQ Calls Pu Stp RD Qy Ay DoesIn RW
structure PG where
 k : Nat
 off : Int
def prV : Option Int → Value
 | none => .tuple #[.int .i64 0, .int .i64 5]
 | some o => .tuple #[.int .i64 o, .int .i64 0]
def us60 : List Int := [3600, 60, 1]
theorem us60_ok {k : Nat} {u : Int} (h : us60[k]? = some u) : 1 ≤ u ∧ u ≤ 3600 := by
 unfold us60 at h
 match k, h with
 | 0, h => simp only [List.getElem?_cons_zero, Option.some.injEq] at h; omega
 | 1, h => simp only [List.getElem?_cons_succ, List.getElem?_cons_zero, Option.some.injEq] at h; omega
 | 2, h => simp only [List.getElem?_cons_succ, List.getElem?_cons_zero, Option.some.injEq] at h; omega
 | k + 3, h => simp at h
theorem numU_bd (l : List UInt8) (h : l.length ≤ 2) {n : Int} (hn : numU l = some n) : 0 ≤ n ∧ n ≤ 99 := by
 have := parse8_eq l h
 rw [hn] at this
 obtain ⟨u, _, rfl, h3⟩ := this
 omega
theorem PuNumB1 {G : Prop} (h : G := by (first | (apply Pu_lssB; rfl; rfl; exact hb3) | (apply Pu_indexArr1; rfl; rfl; omega; omega; exact huv) | (apply Pu_mul; rfl; rfl; (constructor <;> omega)) | (apply Pu_geqB; rfl; rfl; exact hbg))) : G := h
theorem PuNumB6 {G : Prop} (h : G := by (apply Pu_eqlSB; rfl; rfl; exact hb)) : G := h
theorem PuNumB7 {G : Prop} (h : G := by (first | exact PuNumB6 | (apply Pu_neqSB; rfl; rfl; exact hb2))) : G := h
theorem parse_spec (s : ByteArray) (w : World) (hL : ∀ w', Bel w.heap.size w w' → LibW w') (hs : s.size ≤ 1000000000000) :
  Does Tryz.prog 205 [.string s] w (fun v O => v = prV (parseN s.data.toList) ∧ O = []) := by
 have hpre := fun w' => pref_spec s ⟨#[45]⟩ w'
 have hsl : s.size = s.data.toList.length := by simp
 have hemp : s = ByteArray.empty ↔ s.data.toList = [] := ⟨fun h => by rw [h]; rfl, fun h => by
  apply ByteArray.ext
  rw [← Array.toArray_toList (xs := s.data), h]
  rfl⟩
 have hp0 : ([45] : List UInt8).isPrefixOf s.data.toList = decide (s.data.toList.head? = some 45) := by
  cases s.data.toList with
  | nil => rfl
  | cons c l =>
   by_cases h : c = 45
   ·subst h; simp
   ·rw [List.isPrefixOf, show ((45 : UInt8) == c) = false from beq_false_of_ne fun e => h e.symm]; simp [h]
 rw [show (⟨#[45]⟩ : ByteArray).data.toList = [45] from rfl, hp0] at hpre
 obtain ⟨r0, hr0⟩ : ∃ r0, parseGo s.data.toList [3600, 60, 1] 0 0 = r0 := ⟨_, rfl⟩
 unfold parseN
 rw [hr0]
 refine Does_of_W Tryz.func205 rfl rfl rfl rfl ?_
 repeat (first | (apply RL_pu; rfl; (apply Pu_buildArr; rfl; rfl; (focus repeat (first | exact Nf.nil | apply Nf.cons)))) | refine walkB1 ?_)
 refine W_mid (fun fr' O' => ∃ o : Int, r0 = some o ∧ (0 ≤ o ∧ o ≤ 1200000) ∧ Sub [(0, .string s), (4, .int .i64 o)] fr') ?_ ?_
 ·apply W_block
  refine W_loopF [(0, .string s), (9, .agg (us60.map (Value.int .i64)).toArray)] [] (fun g : PG => [(4, .int .i64 g.off), (10, .int .i64 g.k)]) (fun _ => []) (fun g => g.k ≤ 3 ∧ (0 ≤ g.off ∧ g.off ≤ 400000 * g.k) ∧ parseGo s.data.toList (us60.drop g.k) g.k g.off = r0) (fun g => 3 - g.k) ⟨0, 0⟩ SFA .nil ⟨Nat.zero_le _, ⟨Int.le_refl _, Int.le_refl _⟩, hr0⟩ ?_
  rintro ⟨k, off⟩ ⟨hk, ho, hi⟩
  dsimp only at hk ho hi ⊢
  by_cases hk3 : k < 3
  ·have hb3 : decide ((k : Int) < 3) = true := decide_eq_true (by omega)
   have hku : k < us60.length := hk3
   have hu := List.getElem?_eq_getElem hku
   rw [drop_cons hku, parseGo] at hi
   generalize us60[k] = u at *
   have hub := us60_ok hu
   have huv : (us60.map (Value.int .i64))[k]? = some (.int .i64 u) := by rw [List.getElem?_map, hu]; rfl
   by_cases hge : s.data.toList.length ≤ 1 + 2 * k
   ·rw [if_pos hge] at hi
    have hbg : decide ((s.size : Int) ≤ 1 + 2 * k) = true := decide_eq_true (by omega)
    repeat (first | (apply RL_pu; rfl; exact PuNumB1) | refine walk1 ?_)
    exact ⟨off, hi.symm, ⟨ho.1, OA⟩, SFA⟩
   ·rw [if_neg hge] at hi
    have hbg : decide ((s.size : Int) ≤ 1 + 2 * k) = false := decide_eq_false (by omega)
    obtain ⟨r, hr⟩ : ∃ r, s.extract (1 + 2 * k) (min (1 + 2 * k + 2) s.size) = r := ⟨_, rfl⟩
    have hrl : r.data.toList = (s.data.toList.drop (1 + 2 * k)).take 2 := by rw [← hr]; exact two_of s _
    have hrs : r.size ≤ 2 := by
     have : r.size = r.data.toList.length := by simp
     rw [this, hrl, List.length_take]
     omega
    have hpu := fun w' (hw : Bel w.heap.size w w') => pu8_spec r w' (hL w' hw) hrs
    rw [hrl] at hpu
    have hmn : (if (s.size : Int) < 3 + 2 * k then (s.size : Int) else 3 + 2 * k) = ((min (1 + 2 * k + 2) s.size : Nat) : Int) := by split <;> omega
    have hex : s.extract (1 + 2 * (k : Int)).toNat ((min (1 + 2 * k + 2) s.size : Nat) : Int).toNat = r := by
     rw [← hr]
     congr 1
    have hm1 : 1 + 2 * (k : Int) ≤ ((min (1 + 2 * k + 2) s.size : Nat) : Int) := by omega
    have hm2 : ((min (1 + 2 * k + 2) s.size : Nat) : Int) ≤ s.size := by omega
    generalize min (1 + 2 * k + 2) s.size = mm at *
    cases hn : numU ((s.data.toList.drop (1 + 2 * k)).take 2) with
    | none =>
     rw [hn] at hi hpu
     dsimp only at hi hpu
     subst hi
     repeat (first | (apply RL_pu; rfl; (first | exact PuNumB1 | (apply Pu_minK; rfl; rfl; exact hmn) | (apply Pu_sliceSS; rfl; rfl; rfl; omega; exact hm1; exact hm2; exact hex) | (apply Pu_neqNilI; exact ⟨_, Tryz.underlying309⟩; rfl; exact .inr ⟨rfl, _, _, rfl⟩))) | (refine js ?_; (apply Stp_call (h := fun w' hw _ => hpu w' hw); rfl; rintro v O' ⟨⟨tt, pp, rfl⟩, rfl⟩)) | refine walk1 ?_)
     exact rtB
    | some n =>
     rw [hn] at hi hpu
     dsimp only at hi hpu
     have hnb : 0 ≤ n ∧ n ≤ 99 := numU_bd _ (List.length_take_le _ _) hn
     ·have h1 : 0 ≤ n * u := Int.mul_nonneg hnb.1 (by omega)
      have h2 : n * u ≤ 99 * 3600 := Int.mul_le_mul hnb.2 hub.2 (by omega) (by omega)
      have hmul : -9223372036854775808 ≤ n * u ∧ n * u ≤ 9223372036854775807 := by omega
      generalize hnu : n * u = m at *
      repeat (first | (apply RL_pu; rfl; (first | (apply Pu_lssB; rfl; rfl; exact hb3) | (apply Pu_indexArr1; rfl; rfl; omega; omega; exact huv) | (apply Pu_mulE; rfl; rfl; exact hnu; exact hmul) | (apply Pu_mul; rfl; rfl; (constructor <;> omega)) | (apply Pu_geqB; rfl; rfl; exact hbg) | (apply Pu_minK; rfl; rfl; exact hmn) | (apply Pu_sliceSS; rfl; rfl; rfl; omega; exact hm1; exact hm2; exact hex) | (apply Pu_neqNilI; exact ⟨_, Tryz.underlying309⟩; rfl; exact .inl ⟨rfl, rfl⟩))) | (refine js ?_; (apply Stp_call (h := fun w' hw _ => hpu w' hw); rfl; rintro v O' ⟨⟨rfl, _, _⟩, rfl⟩)) | refine walk1 ?_)
      exact ⟨⟨k + 1, off + m⟩, OA, ⟨OA, ⟨by dsimp only; omega, by dsimp only; omega⟩, hi⟩, SFA, .nil⟩
  ·obtain rfl : k = 3 := by omega
   have hb3 : decide (((3 : Nat) : Int) < 3) = false := by decide
   rw [show us60.drop 3 = [] from rfl, parseGo] at hi
   repeat (first | (apply RL_pu; rfl; (apply Pu_lssB; rfl; rfl; exact hb3)) | refine walk1 ?_)
   exact ⟨off, hi.symm, ⟨ho.1, OA⟩, SFA⟩
 rintro fr' O' ⟨o, rfl, ho, hfr⟩
 refine W_sub hfr .nil ?_
 clear hfr fr' O' hr0
 dsimp only
 obtain ⟨o2, ho2⟩ : ∃ o2, (if s.data.toList.head? = some 45 then -o else o) = o2 := ⟨_, rfl⟩
 rw [ho2]
 refine W_seq ?_
 refine W_mid (fun fr' O' => Sub [(0, .string s), (4, .int .i64 o2)] fr') ?_ ?_
 ·by_cases hm : s.data.toList.head? = some 45
  ·rw [if_pos hm] at ho2
   subst ho2
   rw [decide_eq_true hm] at hpre
   repeat (first | (apply RL_pu; rfl; (apply Pu_neg64; rfl; (constructor <;> omega))) | (refine js ?_; (refine callE (fun w' hw => hpre w') ?_)) | refine walk1 ?_)
   exact SFA
  ·rw [if_neg hm] at ho2
   subst ho2
   rw [decide_eq_false hm] at hpre
   repeat (first | (refine js ?_; (refine callE (fun w' hw => hpre w') ?_)) | refine walk ?_)
   exact SFA
 intro fr' O' hfr
 refine W_sub hfr .nil ?_
 clear hfr fr' O' ho2
 have htx := fun w' => text_spec o2 w'
 by_cases hE : s.data.toList = []
 ·have hb : decide (s = ByteArray.empty) = true := decide_eq_true (hemp.2 hE)
  rw [if_pos (.inl (by rw [hE]; rfl))]
  repeat (first | (apply RL_pu; rfl; exact PuNumB6) | refine walk1 ?_)
  exact rtB
 ·have hb : decide (s = ByteArray.empty) = false := decide_eq_false (fun h => hE (hemp.1 h))
  by_cases ht : textN o2 = s.data.toList
  ·have hb2 : (!decide ((⟨(textN o2).toArray⟩ : ByteArray) = s)) = false := by
    rw [decide_eq_true (by rw [ht])]; rfl
   rw [if_neg (by rintro (h | h); exact hE (List.isEmpty_iff.1 h); exact h ht)]
   repeat (first | (apply RL_pu; rfl; exact PuNumB7) | (refine js ?_; (refine callE (fun w' hw => htx w') ?_)) | refine walk1 ?_)
   exact rtB
  ·have hb2 : (!decide ((⟨(textN o2).toArray⟩ : ByteArray) = s)) = true := by
    rw [decide_eq_false (fun h => ht (by rw [← h]))]; rfl
   rw [if_pos (.inr ht)]
   repeat (first | (apply RL_pu; rfl; exact PuNumB7) | (refine js ?_; (refine callE (fun w' hw => htx w') ?_)) | refine walk1 ?_)
   exact rtB
end Go.Proofs.YtonjepladadmhaaGreatDoor
