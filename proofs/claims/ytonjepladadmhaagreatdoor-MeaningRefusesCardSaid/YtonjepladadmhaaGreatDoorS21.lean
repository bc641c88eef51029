/- Contracts: numeric.Text. -/
import Derived.Test.YtonjepladadmhaaGreatDoorS15
import Derived.Test.YtonjepladadmhaaGreatDoorS20
set_option maxHeartbeats 4000000
set_option linter.unusedVariables false
set_option linter.unusedSimpArgs false
namespace Go.Wk
open Go Go.RowKit
theorem dig2_V (n : Int) (h0 : 0 ≤ n) (h1 : n ≤ 99) : (dig2 n).map byteV = [.int .u8 (48 + n / 10), .int .u8 (48 + n % 10)] := by
 have a : (UInt8.ofNat (48 + (n / 10).toNat)).toNat = 48 + (n / 10).toNat := by rw [UInt8.toNat_ofNat']; omega
 have b : (UInt8.ofNat (48 + (n % 10).toNat)).toNat = 48 + (n % 10).toNat := by rw [UInt8.toNat_ofNat']; omega
 simp only [dig2, List.map_cons, List.map_nil, byteV, a, b]
 congr 2
 ·congr 1; omega
 ·congr 2; omega
def signB (off : Int) : UInt8 := if off < 0 then 45 else 43
def signV (off : Int) : Int := if off < 0 then 45 else 43
def partN (p q r : Int) : Nat := if r ≠ 0 then 3 else if q ≠ 0 then 2 else 1
theorem textN_eq (off : Int) (h0 : -86400 < off) (h1 : off < 86400) (x : Int) (hx : (if off < 0 then -off else off) = x) : textN off = signB off :: (([x / 3600, x / 60 % 60, x % 60].take (partN (x / 3600) (x / 60 % 60) (x % 60))).flatMap dig2) := by
 unfold textN
 rw [if_neg (by omega)]
 simp only [hx, signB]
 congr 1
 unfold partN
 by_cases h2 : x % 60 = 0
 ·by_cases h3 : x / 60 % 60 = 0
  ·have : x % 3600 = 0 := by omega
   simp [h2, h3, this]
  ·have : ¬ x % 3600 = 0 := by omega
   simp [h2, h3, this]
 ·have : ¬ x % 3600 = 0 := by omega
  simp [h2, this]
section
variable {P : Program} {n : Nat} {wr : World} {fr : Fr} {O : List It} {ty : TypeId}
theorem Pu_buildArr {t len e sz : Nat} {ag : Bool} {ps : List (Nat × Operand)} {vs : List (Nat × Value)} {z cs cs' : List Value} [hA : ArrT P t len e sz ag] [hz : ZeroT P t z] (hx : evpO fr ps = some vs) (hb : bld (places len sz) z vs = some cs) (hn : Nf cs cs') :
  Pu P n wr fr O (.build t ps.toArray) ty (.agg cs'.toArray) := by
 rw [← hn.eq]
 intro a w hs _ _ _ _
 have h := hz.h
 unfold zeroChk at h
 split at h
 ·rename_i i hi
  split at h
  ·rename_i zv hzv
   simp only [Option.some.injEq] at h
   subst h
   have h := hA.h
   unfold arrChk at h
   split at h
   ·rename_i len' e' hu
    split at h
    ·rename_i sz' ag' ht
     simp only [Option.some.injEq, Prod.mk.injEq] at h
     obtain ⟨rfl, rfl, rfl, rfl⟩ := h
     obtain ⟨inf, dd, hinf, hsz, _, _⟩ := Ty.parts ht
     have hf := fill_bldS sz' len' vs zv.cells.toList cs hb
     have hf' : Instr.fill (fun i => some (i * sz', sz')) zv.cells vs = some cs.toArray := by simpa using hf
     have hps : (Array.map (fun (x : Nat × Operand) => (x.1, a.eval x.2)) ps.toArray).toList = vs := by simpa using hs.sim.evpO hx
     simp only [execOp, Instr.build, Sem.run_bind, zeroValue, run_typeInfo hi, Result.andThen_ok, hzv, Sem.run_pure, run_underlying hu, sizeOf, run_typeInfo hinf, hsz]
     rw [hps]
     simp [hf']
    ·cases h
   ·cases h
  ·cases h
 ·cases h
end
end Go.Wk
namespace Go.Proofs.YtonjepladadmhaaGreatDoor
open Go Go.RowKit Go.Wk
attribute [local irreducible] W RL Does thenQ blockQ retQ Calls Pu Stp RD Qy Ay DoesIn RW
structure TG where
 k : Nat
 A : Option Addr
 c : Nat
 xs : List Value
theorem PuTxt0 {G : Prop} (h : G := by (apply Pu_leqB; rfl; rfl; exact hb)) : G := h
theorem PuTxt1 {G : Prop} (h : G := by (first | exact PuTxt0 | (apply Pu_geqB; rfl; rfl; exact hb2))) : G := h
theorem PuTxt4 {G : Prop} (h : G := by (first | (apply Pu_gtrB; rfl; rfl; rfl) | (apply Pu_indexArr; rfl; rfl; decide; decide) | (apply Pu_loadBa; rfl; (focus repeat' constructor); rfl) | (apply Pu_eqlB; rfl; rfl; exact b2))) : G := h
theorem PuTxt5 {G : Prop} (h : G := by (first | (apply Pu_gtrB; rfl; rfl; rfl) | (apply Pu_indexArr; rfl; rfl; decide; decide) | (apply Pu_loadBa; rfl; (focus repeat' constructor); rfl) | (apply Pu_eqlB; rfl; rfl; exact b1))) : G := h
theorem text_spec (off : Int) (w : World) : Does Tryz.prog 136 [.int .i64 off] w (fun v O => v = .string ⟨(textN off).toArray⟩ ∧ O = []) := by
 refine Does_of_W Tryz.func136 rfl rfl rfl rfl ?_
 repeat (first | (refine js ?_; (refine bx ?_; intro bk)) | refine walk ?_)
 refine W_scope (fun _ _ _ => goto_ret) ?_
 by_cases hlo : off ≤ -86400
 ·have e : textN off = [] := by unfold textN; rw [if_pos (.inl hlo)]
  rw [e]
  have hb : decide (off ≤ -86400) = true := decide_eq_true hlo
  repeat (first | (apply RL_pu; rfl; exact PuTxt0) | (refine js ?_; (refine bx ?_; intro bk)) | refine walk1 ?_)
  exact rtA
 have hb : decide (off ≤ -86400) = false := decide_eq_false hlo
 by_cases hhi : 86400 ≤ off
 ·have e : textN off = [] := by unfold textN; rw [if_pos (.inr hhi)]
  rw [e]
  have hb2 : decide (86400 ≤ off) = true := decide_eq_true hhi
  repeat (first | (apply RL_pu; rfl; exact PuTxt1) | (refine js ?_; (refine bx ?_; intro bk)) | refine walk1 ?_)
  exact rtA
 have hb2 : decide (86400 ≤ off) = false := decide_eq_false hhi
 obtain ⟨x, hx⟩ : ∃ x, (if off < 0 then -off else off) = x := ⟨_, rfl⟩
 have hx0 : 0 ≤ x ∧ x < 86400 := by split at hx <;> omega
 have hsg : byteV (signB off) = .int .u8 (signV off) := by unfold byteV signB signV; split <;> rfl
 rw [textN_eq off (by omega) (by omega) x hx]
 generalize signB off = sb at hsg ⊢
 obtain ⟨sg, hsg2⟩ : ∃ sg, signV off = sg := ⟨_, rfl⟩
 rw [hsg2] at hsg
 repeat (first | (apply RL_pu; rfl; exact PuTxt1) | (refine js ?_; (refine bx ?_; intro bk)) | refine walk1 ?_)
 refine W_post (fun fr' O' => Sub [(0, .int .i64 x), (3, .int .u8 sg)] fr') ?_ ?_
 ·refine W_cond rfl (fun hc => ?_) (fun hc => ?_)
  ·have hneg := of_decide_eq_true hc
   rw [if_pos hneg] at hx
   subst hx
   obtain rfl : sg = 45 := by rw [← hsg2, signV, if_pos hneg]
   repeat (first | (apply RL_pu; rfl; (apply Pu_neg64; rfl; (constructor <;> omega))) | (refine js ?_; (refine bx ?_; intro bk)) | refine walk1 ?_)
   exact ⟨rfl, SFA⟩
  ·have hneg := of_decide_eq_false hc
   rw [if_neg hneg] at hx
   subst hx
   obtain rfl : sg = 43 := by rw [← hsg2, signV, if_neg hneg]
   repeat (first | (refine js ?_; (refine bx ?_; intro bk)) | refine walk ?_)
   exact ⟨rfl, SFA⟩
 intro fr' O' hfr
 refine thenQ_n ?_
 refine W_sub hfr .nil ?_
 have hp0 : 0 ≤ x / 3600 ∧ x / 3600 ≤ 99 := by omega
 have hp1 : 0 ≤ x / 60 % 60 ∧ x / 60 % 60 ≤ 99 := by omega
 have hp2 : 0 ≤ x % 60 ∧ x % 60 ≤ 99 := by omega
 repeat (first | (apply RL_pu; rfl; (first | (apply Pu_quo64; rfl; rfl; omega; omega; decide) | (apply Pu_remE; rfl; rfl; omega; decide) | (apply Pu_buildArr; rfl; rfl; (focus repeat (first | exact Nf.nil | apply Nf.cons))))) | (refine js ?_; (refine bx ?_; intro bk)) | refine walk1 ?_)
 generalize x / 3600 = p at *
 generalize x / 60 % 60 = q at *
 generalize x % 60 = r at *
 refine W_label (thenQ_n ?_)
 obtain ⟨N, hN⟩ : ∃ N, partN p q r = N := ⟨_, rfl⟩
 have hN3 : 1 ≤ N ∧ N ≤ 3 := by rw [← hN]; unfold partN; split <;> (try split) <;> omega
 refine W_seq (W_post (fun fr' O' => Sub [(3, .int .u8 sg), (4, .pointer (some ⟨bk, 0, none⟩)), (5, .int .i64 N)] fr' ∧ SubO [.blk bk [.int .i64 p, .int .i64 q, .int .i64 r] 267] O') ?_ ?_)
 ·refine W_block (W_rounds 3 (RW_succ ?_))
  unfold partN at hN
  by_cases h2 : r = 0
  ·rw [if_neg (fun h => h h2)] at hN
   have b2 : decide (r = 0) = true := decide_eq_true h2
   repeat (first | (apply RL_pu; rfl; exact PuTxt4) | (refine js ?_; (refine bx ?_; intro bk)) | refine walk1 ?_)
   refine RW_succ ?_
   by_cases h1 : q = 0
   ·rw [if_neg (fun h => h h1)] at hN
    subst hN
    have b1 : decide (q = 0) = true := decide_eq_true h1
    repeat (first | (apply RL_pu; rfl; exact PuTxt5) | (refine js ?_; (refine bx ?_; intro bk)) | refine walk1 ?_)
    refine RW_succ ?_
    repeat (first | (apply RL_pu; rfl; (apply Pu_gtrB; rfl; rfl; rfl)) | (refine js ?_; (refine bx ?_; intro bk)) | refine walk1 ?_)
    exact ⟨rfl, SFA, SOA⟩
   ·rw [if_pos h1] at hN
    subst hN
    have b1 : decide (q = 0) = false := decide_eq_false h1
    repeat (first | (apply RL_pu; rfl; exact PuTxt5) | (refine js ?_; (refine bx ?_; intro bk)) | refine walk1 ?_)
    exact ⟨rfl, SFA, SOA⟩
  ·rw [if_pos h2] at hN
   subst hN
   have b2 : decide (r = 0) = false := decide_eq_false h2
   repeat (first | (apply RL_pu; rfl; exact PuTxt4) | (refine js ?_; (refine bx ?_; intro bk)) | refine walk1 ?_)
   exact ⟨rfl, SFA, SOA⟩
 rintro fr2 O2 ⟨hf2, hO2⟩
 rw [hN]
 refine thenQ_n ?_
 refine W_sub hf2 hO2 ?_
 clear hf2 hO2 hfr fr2 O2
 obtain ⟨b3, hb3⟩ : ∃ b3, bk = b3 := ⟨_, rfl⟩
 rw [hb3]
 clear hb3 bk
 repeat (first | (apply RL_pu; rfl; (apply Pu_sliceArrH; rfl; rfl; omega; omega)) | (refine js ?_; (refine bx ?_; intro bk)) | refine walk1 ?_)
 refine W_toRow (b := bk) (m := 1) 1 (by repeat' constructor) rfl (by decide) ?_
 obtain ⟨ps, hps⟩ : ∃ ps, [p, q, r] = ps := ⟨_, rfl⟩
 have hpl : ps.length = 3 := by rw [← hps]; rfl
 have hpb : ∀ (k : Nat) (x : Int), ps[k]? = some x → 0 ≤ x ∧ x ≤ 99 := by
  intro k x hk
  rw [← hps] at hk
  match k, hk with
  | 0, hk => simp only [List.getElem?_cons_zero, Option.some.injEq] at hk; omega
  | 1, hk => simp only [List.getElem?_cons_succ, List.getElem?_cons_zero, Option.some.injEq] at hk; omega
  | 2, hk => simp only [List.getElem?_cons_succ, List.getElem?_cons_zero, Option.some.injEq] at hk; omega
  | k + 3, hk => simp at hk
 have hpv : [Value.int .i64 p, .int .i64 q, .int .i64 r] = ps.map (Value.int .i64) := by rw [← hps]; rfl
 rw [hpv, hps]
 refine W_loopF [(40, .slice (some ⟨b3, 0, none⟩) N 3), (41, .int .i64 N)] [.blk b3 (ps.map (Value.int .i64)) 267] (fun g : TG => [(6, .slice g.A (1 + 2 * g.k) g.c), (42, .int .i64 g.k)]) (fun g => [.row (.slice g.A (1 + 2 * g.k) g.c) 5 1 (1 + 2 * g.k) g.xs])
  (fun g => g.k ≤ N ∧ g.A ≠ none ∧ g.xs = (sb :: (ps.take g.k).flatMap dig2).map byteV) (fun g => N - g.k) ⟨0, some ⟨bk, 0, none⟩, 1, [.int .u8 sg]⟩ SFA SOA ⟨Nat.zero_le _, by simp, by rw [← hsg]; rfl⟩ ?_
 rintro ⟨k, A, c, xs⟩ ⟨hk, hA, hx⟩
 dsimp only at hk hA hx ⊢
 repeat (first | (refine js ?_; (refine bx ?_; intro bk)) | refine walk ?_)
 refine W_cond rfl (fun hc => ?_) (fun hc => ?_)
 ·simp only [decide_eq_true_eq, Int.ofNat_lt] at hc
  have hk3 : k < ps.length := by omega
  have hget := List.getElem?_eq_getElem hk3
  have hbd := hpb k _ hget
  have htk := List.take_append_getElem hk3
  generalize ps[k] = x at *
  have hgv : (ps.map (Value.int .i64))[k * 1]? = some (.int .i64 x) := by rw [Nat.mul_one, List.getElem?_map, hget]; rfl
  repeat (first | (apply RL_pu; rfl; (first | (apply Pu_indexAddr; rfl; rfl; omega; omega; simp) | (apply Pu_loadBi; rfl; (focus repeat' constructor); exact hgv) | (apply Pu_quo64; rfl; rfl; omega; omega; decide) | (apply Pu_remE; rfl; rfl; omega; decide) | (apply Pu_conv8; rfl; omega; omega) | (apply Pu_add8; rfl; rfl; (constructor <;> omega)))) | (refine js ?_; (first | (apply Stp_append; rfl; rfl; (intro A' c'; (focus repeat' constructor)); (intro w' _ hO; exact blkRaw (hO.of (by repeat' constructor))); rfl; rfl; (simp only [maxLen]; omega); omega; intro A' c' hc1 hc2 hc3) | (refine bx ?_; intro bk))) | refine walk1 ?_)
  refine ⟨⟨k + 1, A', c', xs ++ [.int .u8 (48 + x / 10), .int .u8 (48 + x % 10)]⟩, OA, ⟨OA, hc3 (by omega), ?_⟩, SFA, SOA⟩
  dsimp only
  rw [← htk, hx, ← dig2_V x hbd.1 hbd.2]
  simp
 ·have hkN : k = N := by simp only [decide_eq_false_iff_not, Int.ofNat_lt] at hc; omega
  subst hkN
  have hlen : 1 + 2 * k = (sb :: (ps.take k).flatMap dig2).length := by
   have : ∀ l : List Int, (l.flatMap dig2).length = 2 * l.length := fun l => by
    induction l with
    | nil => rfl
    | cons y l ih => simp only [List.flatMap_cons, List.length_append, ih, List.length_cons, dig2, List.length_nil]; omega
   rw [List.length_cons, this, List.length_take]
   omega
  repeat (first | (apply RL_pu; rfl; (apply Pu_convBytes; rfl; (focus repeat' constructor); exact hx; exact hlen; exact hA)) | (refine js ?_; (refine bx ?_; intro bk)) | refine walk1 ?_)
  exact rtA
end Go.Proofs.YtonjepladadmhaaGreatDoor
