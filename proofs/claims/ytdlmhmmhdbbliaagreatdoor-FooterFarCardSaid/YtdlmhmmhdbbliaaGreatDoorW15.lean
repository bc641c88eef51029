/- Parts of the proof. -/
import Derived.Lib.TrimUEq
import Derived.Lib.SmallJoins
import Derived.Test.YtdlmhmmhdbbliaaGreatDoorW13
import Derived.Test.YtdlmhmmhdbbliaaGreatDoorW14
import Derived.Test.YtdlmhmmhdbbliaaGreatDoorW07
set_option maxHeartbeats 4000000
set_option linter.unusedVariables false
set_option linter.unusedSimpArgs false
namespace Go.Wk
open Go Go.RowKit Go.Lib
theorem ZeA {P : Program} {f : FuncId} {args : List Value} {w : World} {v : Value} (h : Calls P f args.toArray w fun e w' => e = .returned v /\ Below w.heap.size w w') : Does P f args w fun v' O => v' = v /\ O = [] :=
 h.mono fun _ _ ⟨he, hb⟩ => ⟨v, [], he, ⟨hb⟩, Zaw.nil _ _, rfl, rfl⟩
theorem ZxJ (B : Nat) (w : World) (n : Nat) : Below B w (w.drewN n) := ⟨rfl, rfl, rfl, Nat.le_refl _, fun _ _ => rfl⟩
theorem ZsH (s : ByteArray) : ∀ (f pos : Nat), s.size <= pos + f -> (idxFuncFrom (fun r => Zds (r : Int)) true s f pos < 0 ↔ ZcW (s.data.toList.drop pos) = true)
 | 0, pos, h => by
  rw [List.drop_eq_nil_of_le (by simpa using h)]
  simp [idxFuncFrom, ZcW]
 | f + 1, pos, h => by
  unfold idxFuncFrom
  by_cases hp : pos < s.size
  ·rw [if_pos hp]
   have hp' : pos < s.data.toList.length := by simpa using hp
   rw [List.drop_eq_getElem_cons hp', ZcW, List.all_cons]
   have hg : s.get! pos = s.data.toList[pos] := by
    rw [Array.getElem_toList]
    show s.data[pos]! = _
    rw [getElem!_pos s.data pos (by simpa using hp')]
   have ih := ZsH s f (pos + 1) (by omega)
   unfold ZcW at ih
   have hd : (s.data.toList[pos].toNat < 128 /\ Utf8.decode s pos = (s.data.toList[pos].toNat, 1)) \/ (128 <= s.data.toList[pos].toNat /\ 128 <= (Utf8.decode s pos).1) := by
    unfold Utf8.decode
    simp only [Nat.add_zero, hg]
    generalize s.data.toList[pos].toNat = b
    by_cases hb : b < 128
    ·exact .inl ⟨hb, by rw [if_pos hb]⟩
    ·refine .inr ⟨by omega, ?_⟩
     rw [if_neg hb]
     repeat' split
     all_goals first | (simp only [Utf8.runeError]; omega) | (dsimp only; omega) | (dsimp only; simp only [Bool.and_eq_true, decide_eq_true_eq, ge_iff_le] at *; omega) | decide
   generalize s.data.toList[pos] = b at *
   rcases hd with ⟨hb, hd⟩ | ⟨hb, hd⟩
   ·rw [hd]
    dsimp only
    by_cases hl : Zds (b.toNat : Int) = true
    ·rw [if_pos hl]
     have : decide (Zc8 b.toNat = 1) = false := by
      unfold Zds at hl
      simp only [Bool.and_eq_true, Bool.or_eq_true, decide_eq_true_eq] at hl
      unfold Zc8
      rw [if_neg (by omega)]
      repeat' split
      all_goals decide
     rw [this]
     simp
    ·rw [if_neg hl, ih]
     have : decide (Zc8 b.toNat = 1) = true := by
      unfold Zds at hl
      simp only [Bool.and_eq_true, Bool.or_eq_true, decide_eq_true_eq] at hl
      unfold Zc8
      rw [if_pos (by omega)]
      rfl
     rw [this, Bool.true_and]
   ·have hl : Zds ((Utf8.decode s pos).1 : Int) = true := by
     unfold Zds
     simp only [Bool.and_eq_true, Bool.or_eq_true, decide_eq_true_eq]
     omega
    rw [if_pos hl]
    have : decide (Zc8 b.toNat = 1) = false := by
     unfold Zc8
     rw [if_neg (by omega)]
     repeat' split
     all_goals decide
    rw [this]
    simp
  ·rw [if_neg hp, List.drop_eq_nil_of_le (by simpa using hp)]
   simp [ZcW]
theorem ZlL : ∀ (l : List UInt8), l.length <= 2 -> (match numU l with | some n => ∃ u : Nat, parseUintB 8 l = .ok u /\ n = u /\ u <= 99 | none => parseUintB 8 l = .syntax)
 | [], _ => rfl
 | [a], _ => by
  unfold numU parseUintB
  simp only [parseUintM, List.isEmpty_cons, Bool.false_eq_true, if_false, List.all_cons, List.all_nil, Bool.and_true, List.foldl_cons, List.foldl_nil, reduceCtorEq]
  by_cases h : 48 <= a /\ a <= 57
  ·have h1 : 48 <= a.toNat /\ a.toNat <= 57 := ⟨UInt8.le_iff_toNat_le.1 h.1, UInt8.le_iff_toNat_le.1 h.2⟩
   rw [if_pos (by simp [h.1, h.2]), if_pos h1]
   dsimp only
   refine ⟨_, by rw [if_neg (by omega), if_neg (by omega)], by omega, by omega⟩
  ·have h1 : ¬ (48 <= a.toNat /\ a.toNat <= 57) := fun hh => h ⟨UInt8.le_iff_toNat_le.2 hh.1, UInt8.le_iff_toNat_le.2 hh.2⟩
   rw [if_neg (by simpa using h), if_neg h1]
 | [a, b], _ => by
  unfold numU parseUintB
  simp only [parseUintM, List.isEmpty_cons, Bool.false_eq_true, if_false, List.all_cons, List.all_nil, Bool.and_true, List.foldl_cons, List.foldl_nil, reduceCtorEq]
  by_cases h : 48 <= a /\ a <= 57
  ·have h1 : 48 <= a.toNat /\ a.toNat <= 57 := ⟨UInt8.le_iff_toNat_le.1 h.1, UInt8.le_iff_toNat_le.1 h.2⟩
   by_cases h' : 48 <= b /\ b <= 57
   ·have h2 : 48 <= b.toNat /\ b.toNat <= 57 := ⟨UInt8.le_iff_toNat_le.1 h'.1, UInt8.le_iff_toNat_le.1 h'.2⟩
    rw [if_pos (by simp [h.1, h.2, h'.1, h'.2]), if_pos h1, if_neg (by omega), if_neg (by omega), if_pos h2]
    dsimp only
    refine ⟨_, by rw [if_neg (by omega), if_neg (by omega)], by omega, by omega⟩
   ·have h2 : ¬ (48 <= b.toNat /\ b.toNat <= 57) := fun hh => h' ⟨UInt8.le_iff_toNat_le.2 hh.1, UInt8.le_iff_toNat_le.2 hh.2⟩
    rw [if_neg (by intro hh; simp only [Bool.and_eq_true, decide_eq_true_eq] at hh; exact h' hh.2), if_pos h1, if_neg (by omega), if_neg (by omega), if_neg h2]
  ·have h1 : ¬ (48 <= a.toNat /\ a.toNat <= 57) := fun hh => h ⟨UInt8.le_iff_toNat_le.2 hh.1, UInt8.le_iff_toNat_le.2 hh.2⟩
   rw [if_neg (by intro hh; simp only [Bool.and_eq_true, decide_eq_true_eq] at hh; exact h hh.1), if_neg h1]
 | _ :: _ :: _ :: _, h => by simp only [List.length_cons] at h; omega
end Go.Wk
namespace Go.Proofs.YtdlmhmmhdbbliaaGreatDoor
open Go Go.RowKit Go.Wk Go.Lib
structure LibW (w : World) : Prop where
 mxl : ∃ m, w.cell? ⟨ZjY.g 1, 0, none⟩ = some (.int .i64 m)
 syn : ∃ ev, w.cell? ⟨ZhY.g 0, 0, none⟩ = some ev /\ (ev = .nilIface \/ ∃ te pe, ev = .iface te pe)
theorem ZkP (s p : ByteArray) (w : World) (hL : LibW w) (hs : s.size < 4294967281) :
  Does Tryz.prog 153 [.string s, .string p] w (fun v O => v = .tuple #[.string ⟨(cutV s.data.toList p.data.toList).1.toArray⟩, .string ⟨(cutV s.data.toList p.data.toList).2.1.toArray⟩, .bool (cutV s.data.toList p.data.toList).2.2] /\ O = []) := by
 obtain ⟨m, hm⟩ := hL.mxl
 rw [<- ZxF]
 exact ZeA ((Any.strings_Cut { Zwe with } s p m w hs hm).mono fun e w' ⟨he, n, hw⟩ => ⟨he, hw ▸ ZxJ _ _ _⟩)
theorem Zr1 (s p : ByteArray) (w : World) : Does Tryz.prog 45 [.string s, .string p] w (fun v O => v = .bool (p.data.toList.isPrefixOf s.data.toList) /\ O = []) :=
 ZeA ((Any.strings_HasPrefix Zxi s p w).mono fun e w' ⟨he, hw⟩ => ⟨he, hw ▸ Below.refl _ _⟩)
theorem Ztk (c : Int) (w : World) : Calls Tryz.prog 155 #[.int .i32 c] w fun e w' => e = .returned (.bool (Zds c)) /\ ∃ q, w' = w.drewN q := by
 go_enter Tryz.func155, Tryz.ntmps155
 go_wp2
 all_goals go_ret
 all_goals refine ⟨congrArg Ending.returned (congrArg Value.bool (?_ : _ = Zds c)), 0, rfl⟩
 all_goals unfold Zds
 all_goals first | rfl | (simp [*]; done) | (simp_all; done) | (simp_all; omega)
theorem Zvl (s : ByteArray) (w : World) : Does Tryz.prog 115 [.string s, .func (.func 155) #[] #[]] w (fun v O => v = .int .i64 (idxFunc (fun r => Zds (r : Int)) true s) /\ O = []) :=
 ZeA (Any.strings_IndexFunc_runes ZyJ 155 #[] (enters_of Tryz.func155 (by kernel_rfl) rfl) (fun r => Zds (r : Int)) s w (fun W x _ _ => by unfold FnGives; simpa using Ztk x W))
theorem ZuU (s : ByteArray) (w : World) (hL : LibW w) (hs : s.size <= 2) :
  Does Tryz.prog 223 [.string s, .int .i64 10, .int .i64 8] w (fun v O => (match numU s.data.toList with | some n => v = .tuple #[.int .u64 n, .nilIface] /\ 0 <= n /\ n <= 99 | none => ∃ t p, v = .tuple #[.int .u64 0, .iface t (.pointer p)]) /\ O = []) := by
 have h := ZlL s.data.toList (by simpa using hs)
 cases hn : numU s.data.toList with
 | none =>
  rw [hn] at h
  obtain ⟨ev, h1, h2⟩ := hL.syn
  exact (Any.strconv_ParseUint_10_at8_syntax Zyu s (by omega) h ev w h1 h2).mono fun e w' ⟨N, he, _, _, hb⟩ => ⟨_, [], he, ⟨hb⟩, Zaw.nil _ _, ⟨_, _, rfl⟩, rfl⟩
 | some n =>
  rw [hn] at h
  obtain ⟨u, h1, rfl, h3⟩ := h
  exact (Any.strconv_ParseUint_10_at8_ok Zyu s (by omega) u h1 w).mono fun e w' ⟨he, hb⟩ => ⟨_, [], he, ⟨by rcases hb with rfl | rfl; exact Below.refl _ _; exact Go.Joins.below_bytesWorld _ _ _ _ (Nat.le_refl _)⟩, Zaw.nil _ _, ⟨rfl, by omega, by omega⟩, rfl⟩
end Go.Proofs.YtdlmhmmhdbbliaaGreatDoor
namespace Go.Wk
open Go Go.RowKit
theorem ZyL (n : Int) (h0 : 0 <= n) (h1 : n <= 99) : (dig2 n).map Zn3 = [.int .u8 (48 + n / 10), .int .u8 (48 + n % 10)] := by
 have a : (UInt8.ofNat (48 + (n / 10).toNat)).toNat = 48 + (n / 10).toNat := by rw [UInt8.toNat_ofNat']; omega
 have b : (UInt8.ofNat (48 + (n % 10).toNat)).toNat = 48 + (n % 10).toNat := by rw [UInt8.toNat_ofNat']; omega
 simp only [dig2, List.map_cons, List.map_nil, Zn3, a, b]
 congr 2
 ·congr 1; omega
 ·congr 2; omega
def ZrM (off : Int) : UInt8 := if off < 0 then 45 else 43
def ZrL (off : Int) : Int := if off < 0 then 45 else 43
def Zr4 (p q r : Int) : Nat := if r ≠ 0 then 3 else if q ≠ 0 then 2 else 1
theorem ZuK (off : Int) (h0 : -86400 < off) (h1 : off < 86400) (x : Int) (hx : (if off < 0 then -off else off) = x) : ZbJ off = ZrM off :: (([x / 3600, x / 60 % 60, x % 60].take (Zr4 (x / 3600) (x / 60 % 60) (x % 60))).flatMap dig2) := by
 unfold ZbJ
 rw [if_neg (by omega)]
 simp only [hx, ZrM]
 congr 1
 unfold Zr4
 by_cases h2 : x % 60 = 0
 ·by_cases h3 : x / 60 % 60 = 0
  ·have : x % 3600 = 0 := by omega
   simp [h2, h3, this]
  ·have : ¬ x % 3600 = 0 := by omega
   simp [h2, h3, this]
 ·have : ¬ x % 3600 = 0 := by omega
  simp [h2, this]
section
variable {P : Program} {n : Nat} {wr : World} {fr : Fr} {O : List It} {ty : TypeId}
theorem Zi0 {t len e sz : Nat} {ag : Bool} {ps : List (Nat × Operand)} {vs : List (Nat × Value)} {z cs cs' : List Value} [hA : ArrT P t len e sz ag] [hz : ZeroT P t z] (hx : evpO fr ps = some vs) (hb : bld (places len sz) z vs = some cs) (hn : Nf cs cs') :
  Pu P n wr fr O (.build t ps.toArray) ty (.agg cs'.toArray) := by
 rw [<- hn.eq]
 intro a w hs _ _ _ _
 have h := hz.h
 unfold Zgu at h
 split at h
 ·rename_i i hi
  split at h
  ·rename_i zv hzv
   simp only [Option.some.injEq] at h
   subst h
   have h := hA.h
   unfold Zj5 at h
   split at h
   ·rename_i len' e' hu
    split at h
    ·rename_i sz' ag' ht
     simp only [Option.some.injEq, Prod.mk.injEq] at h
     obtain ⟨rfl, rfl, rfl, rfl⟩ := h
     obtain ⟨inf, dd, hinf, hsz, _, _⟩ := Ty.parts ht
     have hf := Ziq sz' len' vs zv.cells.toList cs hb
     have hf' : Instr.fill (fun i => some (i * sz', sz')) zv.cells vs = some cs.toArray := by simpa using hf
     have hps : (Array.map (fun (x : Nat × Operand) => (x.1, a.eval x.2)) ps.toArray).toList = vs := by simpa using hs.sim.evpO hx
     simp only [execOp, Instr.build, Sem.run_bind, zeroValue, ZaG hi, Result.andThen_ok, hzv, Sem.run_pure, run_underlying hu, sizeOf, ZaG hinf, hsz]
     rw [hps]
     simp [hf']
    ·cases h
   ·cases h
  ·cases h
 ·cases h
end
end Go.Wk
namespace Go.Proofs.YtdlmhmmhdbbliaaGreatDoor
open Go Go.RowKit Go.Wk
attribute [local irreducible] W RL Does Zau Zaj retQ Calls Pu Stp RD Qy Ay Zak RW
structure TG where
 k : Nat
 A : Option Addr
 c : Nat
 xs : List Value
theorem ZwI {G : Prop} (h : G := by (apply ZcA; rfl; rfl; exact hb)) : G := h
theorem ZwH {G : Prop} (h : G := by (first | exact ZwI | (apply Zc3; rfl; rfl; exact hb2))) : G := h
theorem ZwG {G : Prop} (h : G := by (first | (apply ZaM; rfl; rfl; rfl) | (apply Za8; rfl; rfl; decide; decide) | (apply ZmT; rfl; (focus repeat' constructor); rfl) | (apply ZaC; rfl; rfl; exact b2))) : G := h
theorem ZwF {G : Prop} (h : G := by (first | (apply ZaM; rfl; rfl; rfl) | (apply Za8; rfl; rfl; decide; decide) | (apply ZmT; rfl; (focus repeat' constructor); rfl) | (apply ZaC; rfl; rfl; exact b1))) : G := h
theorem Zei (off : Int) (w : World) : Does Tryz.prog 107 [.int .i64 off] w (fun v O => v = .string ⟨(ZbJ off).toArray⟩ /\ O = []) := by
 refine Zab Tryz.func107 rfl rfl rfl rfl ?_
 repeat (first | (refine js ?_; (refine bx ?_; intro bk)) | refine walk ?_)
 refine ZxV (fun _ _ _ => Zvr) ?_
 by_cases hlo : off <= -86400
 ·have e : ZbJ off = [] := by unfold ZbJ; rw [if_pos (.inl hlo)]
  rw [e]
  have hb : decide (off <= -86400) = true := decide_eq_true hlo
  repeat (first | (apply RL_pu; rfl; exact ZwI) | (refine js ?_; (refine bx ?_; intro bk)) | refine walk1 ?_)
  exact rtA
 have hb : decide (off <= -86400) = false := decide_eq_false hlo
 by_cases hhi : 86400 <= off
 ·have e : ZbJ off = [] := by unfold ZbJ; rw [if_pos (.inr hhi)]
  rw [e]
  have hb2 : decide (86400 <= off) = true := decide_eq_true hhi
  repeat (first | (apply RL_pu; rfl; exact ZwH) | (refine js ?_; (refine bx ?_; intro bk)) | refine walk1 ?_)
  exact rtA
 have hb2 : decide (86400 <= off) = false := decide_eq_false hhi
 obtain ⟨x, hx⟩ : ∃ x, (if off < 0 then -off else off) = x := ⟨_, rfl⟩
 have hx0 : 0 <= x /\ x < 86400 := by split at hx <;> omega
 have hsg : Zn3 (ZrM off) = .int .u8 (ZrL off) := by unfold Zn3 ZrM ZrL; split <;> rfl
 rw [ZuK off (by omega) (by omega) x hx]
 generalize ZrM off = sb at hsg ⊢
 obtain ⟨sg, hsg2⟩ : ∃ sg, ZrL off = sg := ⟨_, rfl⟩
 rw [hsg2] at hsg
 repeat (first | (apply RL_pu; rfl; exact ZwH) | (refine js ?_; (refine bx ?_; intro bk)) | refine walk1 ?_)
 refine ZbZ (fun fr' O' => Sub [(0, .int .i64 x), (3, .int .u8 sg)] fr') ?_ ?_
 ·refine Zaf rfl (fun hc => ?_) (fun hc => ?_)
  ·have hneg := of_decide_eq_true hc
   rw [if_pos hneg] at hx
   subst hx
   obtain rfl : sg = 45 := by rw [<- hsg2, ZrL, if_pos hneg]
   repeat (first | (apply RL_pu; rfl; (apply Zk6; rfl; (constructor <;> omega))) | (refine js ?_; (refine bx ?_; intro bk)) | refine walk1 ?_)
   exact ⟨rfl, SFA⟩
  ·have hneg := of_decide_eq_false hc
   rw [if_neg hneg] at hx
   subst hx
   obtain rfl : sg = 43 := by rw [<- hsg2, ZrL, if_neg hneg]
   repeat (first | (refine js ?_; (refine bx ?_; intro bk)) | refine walk ?_)
   exact ⟨rfl, SFA⟩
 intro fr' O' hfr
 refine thenQ_n ?_
 refine Zcz hfr .nil ?_
 have hp0 : 0 <= x / 3600 /\ x / 3600 <= 99 := by omega
 have hp1 : 0 <= x / 60 % 60 /\ x / 60 % 60 <= 99 := by omega
 have hp2 : 0 <= x % 60 /\ x % 60 <= 99 := by omega
 repeat (first | (apply RL_pu; rfl; (first | (apply Pu_quo64; rfl; rfl; omega; omega; decide) | (apply Pu_remE; rfl; rfl; omega; decide) | (apply Zi0; rfl; rfl; (focus repeat (first | exact Nf.nil | apply Nf.cons))))) | (refine js ?_; (refine bx ?_; intro bk)) | refine walk1 ?_)
 generalize x / 3600 = p at *
 generalize x / 60 % 60 = q at *
 generalize x % 60 = r at *
 refine ZxX (thenQ_n ?_)
 obtain ⟨N, hN⟩ : ∃ N, Zr4 p q r = N := ⟨_, rfl⟩
 have hN3 : 1 <= N /\ N <= 3 := by rw [<- hN]; unfold Zr4; split <;> (try split) <;> omega
 refine W_seq (ZbZ (fun fr' O' => Sub [(3, .int .u8 sg), (4, .pointer (some ⟨bk, 0, none⟩)), (5, .int .i64 N)] fr' /\ SubO [.blk bk [.int .i64 p, .int .i64 q, .int .i64 r] 208] O') ?_ ?_)
 ·refine W_block (ZpA 3 (Zd3 ?_))
  unfold Zr4 at hN
  by_cases h2 : r = 0
  ·rw [if_neg (fun h => h h2)] at hN
   have b2 : decide (r = 0) = true := decide_eq_true h2
   repeat (first | (apply RL_pu; rfl; exact ZwG) | (refine js ?_; (refine bx ?_; intro bk)) | refine walk1 ?_)
   refine Zd3 ?_
   by_cases h1 : q = 0
   ·rw [if_neg (fun h => h h1)] at hN
    subst hN
    have b1 : decide (q = 0) = true := decide_eq_true h1
    repeat (first | (apply RL_pu; rfl; exact ZwF) | (refine js ?_; (refine bx ?_; intro bk)) | refine walk1 ?_)
    refine Zd3 ?_
    repeat (first | (apply RL_pu; rfl; (apply ZaM; rfl; rfl; rfl)) | (refine js ?_; (refine bx ?_; intro bk)) | refine walk1 ?_)
    exact ⟨rfl, SFA, SOA⟩
   ·rw [if_pos h1] at hN
    subst hN
    have b1 : decide (q = 0) = false := decide_eq_false h1
    repeat (first | (apply RL_pu; rfl; exact ZwF) | (refine js ?_; (refine bx ?_; intro bk)) | refine walk1 ?_)
    exact ⟨rfl, SFA, SOA⟩
  ·rw [if_pos h2] at hN
   subst hN
   have b2 : decide (r = 0) = false := decide_eq_false h2
   repeat (first | (apply RL_pu; rfl; exact ZwG) | (refine js ?_; (refine bx ?_; intro bk)) | refine walk1 ?_)
   exact ⟨rfl, SFA, SOA⟩
 rintro fr2 O2 ⟨hf2, hO2⟩
 rw [hN]
 refine thenQ_n ?_
 refine Zcz hf2 hO2 ?_
 clear hf2 hO2 hfr fr2 O2
 obtain ⟨b3, hb3⟩ : ∃ b3, bk = b3 := ⟨_, rfl⟩
 rw [hb3]
 clear hb3 bk
 repeat (first | (apply RL_pu; rfl; (apply ZmR; rfl; rfl; omega; omega)) | (refine js ?_; (refine bx ?_; intro bk)) | refine walk1 ?_)
 refine Ztu (b := bk) (m := 1) 1 (by repeat' constructor) rfl (by decide) ?_
 obtain ⟨ps, hps⟩ : ∃ ps, [p, q, r] = ps := ⟨_, rfl⟩
 have hpl : ps.length = 3 := by rw [<- hps]; rfl
 have hpb : ∀ (k : Nat) (x : Int), ps[k]? = some x -> 0 <= x /\ x <= 99 := by
  intro k x hk
  rw [<- hps] at hk
  match k, hk with
  | 0, hk => simp only [List.getElem?_cons_zero, Option.some.injEq] at hk; omega
  | 1, hk => simp only [List.getElem?_cons_succ, List.getElem?_cons_zero, Option.some.injEq] at hk; omega
  | 2, hk => simp only [List.getElem?_cons_succ, List.getElem?_cons_zero, Option.some.injEq] at hk; omega
  | k + 3, hk => simp at hk
 have hpv : [Value.int .i64 p, .int .i64 q, .int .i64 r] = ps.map (Value.int .i64) := by rw [<- hps]; rfl
 rw [hpv, hps]
 refine Zao [(40, .slice (some ⟨b3, 0, none⟩) N 3), (41, .int .i64 N)] [.blk b3 (ps.map (Value.int .i64)) 208] (fun g : TG => [(6, .slice g.A (1 + 2 * g.k) g.c), (42, .int .i64 g.k)]) (fun g => [.row (.slice g.A (1 + 2 * g.k) g.c) 5 1 (1 + 2 * g.k) g.xs])
  (fun g => g.k <= N /\ g.A ≠ none /\ g.xs = (sb :: (ps.take g.k).flatMap dig2).map Zn3) (fun g => N - g.k) ⟨0, some ⟨bk, 0, none⟩, 1, [.int .u8 sg]⟩ SFA SOA ⟨Nat.zero_le _, by simp, by rw [<- hsg]; rfl⟩ ?_
 rintro ⟨k, A, c, xs⟩ ⟨hk, hA, hx⟩
 dsimp only at hk hA hx ⊢
 repeat (first | (refine js ?_; (refine bx ?_; intro bk)) | refine walk ?_)
 refine Zaf rfl (fun hc => ?_) (fun hc => ?_)
 ·simp only [decide_eq_true_eq, Int.ofNat_lt] at hc
  have hk3 : k < ps.length := by omega
  have hget := List.getElem?_eq_getElem hk3
  have hbd := hpb k _ hget
  have htk := List.take_append_getElem hk3
  generalize ps[k] = x at *
  have hgv : (ps.map (Value.int .i64))[k * 1]? = some (.int .i64 x) := by rw [Nat.mul_one, List.getElem?_map, hget]; rfl
  repeat (first | (apply RL_pu; rfl; (first | (apply Pu_indexAddr; rfl; rfl; omega; omega; simp) | (apply ZiX; rfl; (focus repeat' constructor); exact hgv) | (apply Pu_quo64; rfl; rfl; omega; omega; decide) | (apply Pu_remE; rfl; rfl; omega; decide) | (apply ZvR; rfl; omega; omega) | (apply ZtV; rfl; rfl; (constructor <;> omega)))) | (refine js ?_; (first | (apply ZaA; rfl; rfl; (intro A' c'; (focus repeat' constructor)); (intro w' _ hO; exact ZbG (hO.of (by repeat' constructor))); rfl; rfl; (simp only [maxLen]; omega); omega; intro A' c' hc1 hc2 hc3) | (refine bx ?_; intro bk))) | refine walk1 ?_)
  refine ⟨⟨k + 1, A', c', xs ++ [.int .u8 (48 + x / 10), .int .u8 (48 + x % 10)]⟩, OA, ⟨OA, hc3 (by omega), ?_⟩, SFA, SOA⟩
  dsimp only
  rw [<- htk, hx, <- ZyL x hbd.1 hbd.2]
  simp
 ·have hkN : k = N := by simp only [decide_eq_false_iff_not, Int.ofNat_lt] at hc; omega
  subst hkN
  have hlen : 1 + 2 * k = (sb :: (ps.take k).flatMap dig2).length := by
   have : ∀ l : List Int, (l.flatMap dig2).length = 2 * l.length := fun l => by
    induction l with
    | nil => rfl
    | cons y l ih => simp only [List.flatMap_cons, List.length_append, ih, List.length_cons, dig2, List.length_nil]; omega
   rw [List.length_cons, this, List.length_take]
   omega
  repeat (first | (apply RL_pu; rfl; (apply ZmW; rfl; (focus repeat' constructor); exact hx; exact hlen; exact hA)) | (refine js ?_; (refine bx ?_; intro bk)) | refine walk1 ?_)
  exact rtA
end Go.Proofs.YtdlmhmmhdbbliaaGreatDoor
namespace Go.Wk
open Go Go.RowKit
section
variable {P : Program} {n : Nat} {wr : World} {fr : Fr} {O : List It} {ty : TypeId}
theorem Zkc {t : TypeId} {x y z : Operand} {s r : ByteArray} {k k' : IntKind} {i j : Int} [hS : StringT P t] (hx : ev fr x = some (.string s)) (hy : ev fr y = some (.int k i)) (hz : ev fr z = some (.int k' j)) (h0 : 0 <= i) (h1 : i <= j) (h2 : j <= s.size) (hr : s.extract i.toNat j.toNat = r) :
  Pu P n wr fr O (.slice t x (some y) (some z) none) ty (.string r) := fun a w hs _ _ _ _ => by
 have h := run_slice_string (P := P) w t s k k' i j hS.h h0 h1 h2
 rw [hr] at h
 simp [execOp, hs.sim.ev hx, hs.sim.ev hy, hs.sim.ev hz, Instr.sliceAt, run_underlying hS.h, h]
theorem Zhk {t len e : Nat} {x ix : Operand} {kk : IntKind} {i : Int} {cs : List Value} {v : Value} [hA : ArrT P t len e 1 false] (hx : ev fr x = some (.agg cs.toArray)) (hi : ev fr ix = some (.int kk i)) (h0 : 0 <= i) (h1 : i < len) (hv : cs[i.toNat]? = some v) :
  Pu P n wr fr O (.index t x ix) ty v := fun a w hs _ _ _ _ => by
 have h := hA.h
 unfold Zj5 at h
 split at h
 ·rename_i len' e' hu
  split at h
  ·rename_i sz' ag' ht
   simp only [Option.some.injEq, Prod.mk.injEq] at h
   obtain ⟨rfl, rfl, rfl, rfl⟩ := h
   obtain ⟨inf, dd, hinf, hsz, hag, _⟩ := Ty.parts ht
   have : Ty P e' 1 false := ⟨ht⟩
   simp only [execOp, hs.sim.ev hx, hs.sim.ev hi, Instr.index, asIntOf, Sem.run_bind, Sem.run_pure, Result.andThen_ok, run_underlying hu, h0, h1, and_self, if_true, part, Zdp, ZcJ]
   simp [hv]
  ·cases h
 ·cases h
theorem Zke {t t' : TypeId} {x : Operand} {v : Value} {b : Bool} (hu : ∃ ms, P.underlying t = some (.interface ms)) (hx : ev fr x = some v) (hv : (v = .nilIface /\ b = false) \/ (b = true /\ ∃ te p, v = .iface te (.pointer p))) : Pu P n wr fr O (.binOp .neq t x (.const .nilIface) t') ty (.bool b) := fun a w hs _ _ _ _ => by
 obtain ⟨ms, hu⟩ := hu
 have hc : a.eval (.const .nilIface) = .nilIface := rfl
 have h : (binOp .neq t v .nilIface).run P w = .ok (.bool b) w := by
  have : ∀ d, (Op.equalIn (d + 1) t v .nilIface).run P w = .ok (!b) w := fun d => by
   rcases hv with ⟨rfl, rfl⟩ | ⟨rfl, te, p, rfl⟩ <;> simp [Op.equalIn, run_underlying hu]
  have hb : binOp .neq t v .nilIface = (do pure (.bool (!(<- Op.equal t v .nilIface)))) := by rcases hv with ⟨rfl, rfl⟩ | ⟨rfl, te, p, rfl⟩ <;> rfl
  rw [hb, show Op.equal t v .nilIface = Op.equalIn (9999 + 1) t v .nilIface from rfl]
  simp only [Sem.run_bind, this 9999, Result.andThen_ok, Sem.run_pure, Bool.not_not]
 have hg : (eqGuard .neq t x (.const .nilIface) v .nilIface).run P w = .ok () w := by
  rcases hv with ⟨rfl, rfl⟩ | ⟨rfl, te, p, rfl⟩ <;> simp [eqGuard]
 simp only [execOp, hs.sim.ev hx, hc, Sem.run_bind, hg, Result.andThen_ok, h, Sem.run_pure]
theorem Zx9 {t t' : TypeId} {x y : Operand} {i j m : Int} (hx : ev fr x = some (.int .i64 i)) (hy : ev fr y = some (.int .i64 j)) (hm : i * j = m) (h : -9223372036854775808 <= m /\ m <= 9223372036854775807) : Pu P n wr fr O (.binOp .mul t x y t') ty (.int .i64 m) := hm ▸ Zdd hx hy (hm ▸ h)
theorem ZxW {c : Code} {Q : Exit -> Fr -> List It -> Prop} {K' : Fr -> List It -> Prop} (I : Fr -> List It -> Prop) (h1 : W P n wr c (Zau I Q) fr O) (h2 : ∀ fr' O', I fr' O' -> K' fr' O') : W P n wr c (Zau K' Q) fr O :=
 Zwh h1 fun e fr' O' h => by
  cases e with
  | normal => exact h2 fr' O' h
  | _ => exact h
end
theorem Zrz (s : ByteArray) (a : Nat) : (s.extract a (min (a + 2) s.size)).data.toList = (s.data.toList.drop a).take 2 := by
 rw [ByteArray.data_extract]
 have hsz : s.size = s.data.toList.length := by simp
 rw [hsz]
 simp only [Array.toList_extract, List.extract_eq_take_drop]
 apply List.ext_getElem?
 intro i
 simp only [List.getElem?_take, List.getElem?_drop]
 by_cases h : i < 2
 ·rw [if_pos h]
  by_cases h2 : a + i < s.data.toList.length
  ·rw [if_pos (by omega)]
  ·rw [List.getElem?_eq_none (by omega)]; simp
 ·rw [if_neg h, if_neg (by omega)]
end Go.Wk
namespace Go.Proofs.YtdlmhmmhdbbliaaGreatDoor
open Go Go.RowKit Go.Wk
attribute [local irreducible] W RL Does Zau Zaj retQ Calls Pu Stp RD Qy Ay Zak RW
structure PG where
 k : Nat
 off : Int
def prV : Option Int -> Value
 | none => .tuple #[.int .i64 0, .int .i64 5]
 | some o => .tuple #[.int .i64 o, .int .i64 0]
def us60 : List Int := [3600, 60, 1]
theorem Zw8 {k : Nat} {u : Int} (h : us60[k]? = some u) : 1 <= u /\ u <= 3600 := by
 unfold us60 at h
 match k, h with
 | 0, h => simp only [List.getElem?_cons_zero, Option.some.injEq] at h; omega
 | 1, h => simp only [List.getElem?_cons_succ, List.getElem?_cons_zero, Option.some.injEq] at h; omega
 | 2, h => simp only [List.getElem?_cons_succ, List.getElem?_cons_zero, Option.some.injEq] at h; omega
 | k + 3, h => simp at h
theorem Zxq (l : List UInt8) (h : l.length <= 2) {n : Int} (hn : numU l = some n) : 0 <= n /\ n <= 99 := by
 have := ZlL l h
 rw [hn] at this
 obtain ⟨u, _, rfl, h3⟩ := this
 omega
theorem Zt4 {G : Prop} (h : G := by (first | (apply Zbg; rfl; rfl; exact hb3) | (apply Zhk; rfl; rfl; omega; omega; exact huv) | (apply Zdd; rfl; rfl; (constructor <;> omega)) | (apply Zc3; rfl; rfl; exact hbg))) : G := h
theorem Zt3 {G : Prop} (h : G := by (apply ZhB; rfl; rfl; exact hb)) : G := h
theorem Zt2 {G : Prop} (h : G := by (first | exact Zt3 | (apply Ze7; rfl; rfl; exact hb2))) : G := h
theorem Zqn (s : ByteArray) (w : World) (hL : ∀ w', Bel w.heap.size w w' -> LibW w') (hs : s.size <= 1000000000000) :
  Does Tryz.prog 193 [.string s] w (fun v O => v = prV (ZbF s.data.toList) /\ O = []) := by
 have hpre := fun w' => Zr1 s ⟨#[45]⟩ w'
 have hsl : s.size = s.data.toList.length := by simp
 have hemp : s = ByteArray.empty ↔ s.data.toList = [] := ⟨fun h => by rw [h]; rfl, fun h => by
  apply ByteArray.ext
  rw [<- Array.toArray_toList (xs := s.data), h]
  rfl⟩
 have hp0 : ([45] : List UInt8).isPrefixOf s.data.toList = decide (s.data.toList.head? = some 45) := by
  cases s.data.toList with
  | nil => rfl
  | cons c l =>
   by_cases h : c = 45
   ·subst h; simp
   ·rw [List.isPrefixOf, show ((45 : UInt8) == c) = false from beq_false_of_ne fun e => h e.symm]; simp [h]
 rw [show (⟨#[45]⟩ : ByteArray).data.toList = [45] from rfl, hp0] at hpre
 obtain ⟨r0, hr0⟩ : ∃ r0, Zfz s.data.toList [3600, 60, 1] 0 0 = r0 := ⟨_, rfl⟩
 unfold ZbF
 rw [hr0]
 refine Zab Tryz.func193 rfl rfl rfl rfl ?_
 repeat (first | (apply RL_pu; rfl; (apply Zi0; rfl; rfl; (focus repeat (first | exact Nf.nil | apply Nf.cons)))) | refine walkB1 ?_)
 refine ZxW (fun fr' O' => ∃ o : Int, r0 = some o /\ (0 <= o /\ o <= 1200000) /\ Sub [(0, .string s), (4, .int .i64 o)] fr') ?_ ?_
 ·apply W_block
  refine Zao [(0, .string s), (9, .agg (us60.map (Value.int .i64)).toArray)] [] (fun g : PG => [(4, .int .i64 g.off), (10, .int .i64 g.k)]) (fun _ => []) (fun g => g.k <= 3 /\ (0 <= g.off /\ g.off <= 400000 * g.k) /\ Zfz s.data.toList (us60.drop g.k) g.k g.off = r0) (fun g => 3 - g.k) ⟨0, 0⟩ SFA .nil ⟨Nat.zero_le _, ⟨Int.le_refl _, Int.le_refl _⟩, hr0⟩ ?_
  rintro ⟨k, off⟩ ⟨hk, ho, hi⟩
  dsimp only at hk ho hi ⊢
  by_cases hk3 : k < 3
  ·have hb3 : decide ((k : Int) < 3) = true := decide_eq_true (by omega)
   have hku : k < us60.length := hk3
   have hu := List.getElem?_eq_getElem hku
   rw [Zan hku, Zfz] at hi
   generalize us60[k] = u at *
   have hub := Zw8 hu
   have huv : (us60.map (Value.int .i64))[k]? = some (.int .i64 u) := by rw [List.getElem?_map, hu]; rfl
   by_cases hge : s.data.toList.length <= 1 + 2 * k
   ·rw [if_pos hge] at hi
    have hbg : decide ((s.size : Int) <= 1 + 2 * k) = true := decide_eq_true (by omega)
    repeat (first | (apply RL_pu; rfl; exact Zt4) | refine walk1 ?_)
    exact ⟨off, hi.symm, ⟨ho.1, OA⟩, SFA⟩
   ·rw [if_neg hge] at hi
    have hbg : decide ((s.size : Int) <= 1 + 2 * k) = false := decide_eq_false (by omega)
    obtain ⟨r, hr⟩ : ∃ r, s.extract (1 + 2 * k) (min (1 + 2 * k + 2) s.size) = r := ⟨_, rfl⟩
    have hrl : r.data.toList = (s.data.toList.drop (1 + 2 * k)).take 2 := by rw [<- hr]; exact Zrz s _
    have hrs : r.size <= 2 := by
     have : r.size = r.data.toList.length := by simp
     rw [this, hrl, List.length_take]
     omega
    have hpu := fun w' (hw : Bel w.heap.size w w') => ZuU r w' (hL w' hw) hrs
    rw [hrl] at hpu
    have hmn : (if (s.size : Int) < 3 + 2 * k then (s.size : Int) else 3 + 2 * k) = ((min (1 + 2 * k + 2) s.size : Nat) : Int) := by split <;> omega
    have hex : s.extract (1 + 2 * (k : Int)).toNat ((min (1 + 2 * k + 2) s.size : Nat) : Int).toNat = r := by
     rw [<- hr]
     congr 1
    have hm1 : 1 + 2 * (k : Int) <= ((min (1 + 2 * k + 2) s.size : Nat) : Int) := by omega
    have hm2 : ((min (1 + 2 * k + 2) s.size : Nat) : Int) <= s.size := by omega
    generalize min (1 + 2 * k + 2) s.size = mm at *
    cases hn : numU ((s.data.toList.drop (1 + 2 * k)).take 2) with
    | none =>
     rw [hn] at hi hpu
     dsimp only at hi hpu
     subst hi
     repeat (first | (apply RL_pu; rfl; (first | exact Zt4 | (apply ZiV; rfl; rfl; exact hmn) | (apply Zkc; rfl; rfl; rfl; omega; exact hm1; exact hm2; exact hex) | (apply Zke; exact ⟨_, Tryz.underlying210⟩; rfl; exact .inr ⟨rfl, _, _, rfl⟩))) | (refine js ?_; (apply Zag (h := fun w' hw _ => hpu w' hw); rfl; rintro v O' ⟨⟨tt, pp, rfl⟩, rfl⟩)) | refine walk1 ?_)
     exact rtB
    | some n =>
     rw [hn] at hi hpu
     dsimp only at hi hpu
     have hnb : 0 <= n /\ n <= 99 := Zxq _ (List.length_take_le _ _) hn
     ·have h1 : 0 <= n * u := Int.mul_nonneg hnb.1 (by omega)
      have h2 : n * u <= 99 * 3600 := Int.mul_le_mul hnb.2 hub.2 (by omega) (by omega)
      have hmul : -9223372036854775808 <= n * u /\ n * u <= 9223372036854775807 := by omega
      generalize hnu : n * u = m at *
      repeat (first | (apply RL_pu; rfl; (first | (apply Zbg; rfl; rfl; exact hb3) | (apply Zhk; rfl; rfl; omega; omega; exact huv) | (apply Zx9; rfl; rfl; exact hnu; exact hmul) | (apply Zdd; rfl; rfl; (constructor <;> omega)) | (apply Zc3; rfl; rfl; exact hbg) | (apply ZiV; rfl; rfl; exact hmn) | (apply Zkc; rfl; rfl; rfl; omega; exact hm1; exact hm2; exact hex) | (apply Zke; exact ⟨_, Tryz.underlying210⟩; rfl; exact .inl ⟨rfl, rfl⟩))) | (refine js ?_; (apply Zag (h := fun w' hw _ => hpu w' hw); rfl; rintro v O' ⟨⟨rfl, _, _⟩, rfl⟩)) | refine walk1 ?_)
      exact ⟨⟨k + 1, off + m⟩, OA, ⟨OA, ⟨by dsimp only; omega, by dsimp only; omega⟩, hi⟩, SFA, .nil⟩
  ·obtain rfl : k = 3 := by omega
   have hb3 : decide (((3 : Nat) : Int) < 3) = false := by decide
   rw [show us60.drop 3 = [] from rfl, Zfz] at hi
   repeat (first | (apply RL_pu; rfl; (apply Zbg; rfl; rfl; exact hb3)) | refine walk1 ?_)
   exact ⟨off, hi.symm, ⟨ho.1, OA⟩, SFA⟩
 rintro fr' O' ⟨o, rfl, ho, hfr⟩
 refine Zcz hfr .nil ?_
 clear hfr fr' O' hr0
 dsimp only
 obtain ⟨o2, ho2⟩ : ∃ o2, (if s.data.toList.head? = some 45 then -o else o) = o2 := ⟨_, rfl⟩
 rw [ho2]
 refine W_seq ?_
 refine ZxW (fun fr' O' => Sub [(0, .string s), (4, .int .i64 o2)] fr') ?_ ?_
 ·by_cases hm : s.data.toList.head? = some 45
  ·rw [if_pos hm] at ho2
   subst ho2
   rw [decide_eq_true hm] at hpre
   repeat (first | (apply RL_pu; rfl; (apply Zk6; rfl; (constructor <;> omega))) | (refine js ?_; (refine Zac (fun w' hw => hpre w') ?_)) | refine walk1 ?_)
   exact SFA
  ·rw [if_neg hm] at ho2
   subst ho2
   rw [decide_eq_false hm] at hpre
   repeat (first | (refine js ?_; (refine Zac (fun w' hw => hpre w') ?_)) | refine walk ?_)
   exact SFA
 intro fr' O' hfr
 refine Zcz hfr .nil ?_
 clear hfr fr' O' ho2
 have htx := fun w' => Zei o2 w'
 by_cases hE : s.data.toList = []
 ·have hb : decide (s = ByteArray.empty) = true := decide_eq_true (hemp.2 hE)
  rw [if_pos (.inl (by rw [hE]; rfl))]
  repeat (first | (apply RL_pu; rfl; exact Zt3) | refine walk1 ?_)
  exact rtB
 ·have hb : decide (s = ByteArray.empty) = false := decide_eq_false (fun h => hE (hemp.1 h))
  by_cases ht : ZbJ o2 = s.data.toList
  ·have hb2 : (!decide ((⟨(ZbJ o2).toArray⟩ : ByteArray) = s)) = false := by
    rw [decide_eq_true (by rw [ht])]; rfl
   rw [if_neg (by rintro (h | h); exact hE (List.isEmpty_iff.1 h); exact h ht)]
   repeat (first | (apply RL_pu; rfl; exact Zt2) | (refine js ?_; (refine Zac (fun w' hw => htx w') ?_)) | refine walk1 ?_)
   exact rtB
  ·have hb2 : (!decide ((⟨(ZbJ o2).toArray⟩ : ByteArray) = s)) = true := by
    rw [decide_eq_false (fun h => ht (by rw [<- h]))]; rfl
   rw [if_pos (.inr ht)]
   repeat (first | (apply RL_pu; rfl; exact Zt2) | (refine js ?_; (refine Zac (fun w' hw => htx w') ?_)) | refine walk1 ?_)
   exact rtB
open Go Go.RowKit Go.Wk Go.Lib
def I64 (n : Int) : Prop := -9223372036854775808 <= n /\ n <= 9223372036854775807
theorem Zni (a b : Int) (ha : I64 a) (hb : I64 b) (w : World) : Does Tryz.prog 248 [.int .i64 a, .int .i64 b] w (fun v O => v = .tuple #[.int .i64 (IntKind.i64.wrap (a + b)), .bool (Zc7 (a + b))] /\ O = []) := by
 unfold I64 at ha hb
 have hd : (decide (a < IntKind.i64.wrap (a + b)) == decide (0 < b)) = Zc7 (a + b) := by
  unfold Zc7
  have hw : IntKind.i64.wrap (a + b) = if a + b < -9223372036854775808 then a + b + 18446744073709551616 else if 9223372036854775807 < a + b then a + b - 18446744073709551616 else a + b := by
   rw [IntKind.wrap_i64]
   repeat' split
   all_goals omega
  rw [hw]
  rw [Bool.eq_iff_iff]
  simp only [beq_iff_eq, Bool.and_eq_true, decide_eq_true_eq]
  rw [decide_eq_decide]
  repeat' split
  all_goals omega
 refine Zab Tryz.func248 rfl rfl rfl rfl ?_
 repeat (first | (apply RL_pu; rfl; (apply Zla; rfl; rfl)) | refine walk1 ?_)
 exact ret_2 _ _ [] (.tmp rfl) (.tmp rfl) .nil ⟨by rw [hd], rfl⟩
theorem ZsC (A : Option Addr) (c : Nat) (l : List ByteArray) (w : World) (hR : (It.row (.slice A l.length c) 9 1 l.length (l.flatMap ZaW)).sat w) (hn : l.length <= 1000000) (hlen : (Lib.join (l.map (·.data.toList)) [47]).length <= 140737488355328) :
  Does Tryz.prog 249 [.slice A l.length c, .string ⟨#[47]⟩] w (fun v O => v = .string ⟨(Lib.join (l.map (·.data.toList)) [47]).toArray⟩ /\ O = []) := by
 have hcl := fun j x hj => ZaU hR (u := x) (j := j) hj
 obtain ⟨hxl, ⟨hv, _⟩ | ⟨b, cap, cur, hval, hb0, hg, hmc, hcm, hsz, hcur⟩⟩ := id hR
 ·injection hv with h1 h2 h3
  obtain rfl := List.eq_nil_of_length_eq_zero h2
  subst h1 h3
  exact ZeA ((Any.strings_Join_none ZsD Zma none 0 ⟨#[47]⟩ w).mono fun e w' ⟨he, hw⟩ => ⟨he, hw ▸ Below.refl _ _⟩)
 injection hval with hA h2 h3
 subst hA h3
 have hbw : b < w.heap.size := (Array.getElem?_eq_some_iff.1 hg).1
 exact ZeA (Any.strings_Join ZsD Zma b 0 c l ⟨#[47]⟩ w (fun j x hj => by
  have hg := ZaB (enc := ZaW) (fun _ => rfl) l j x 0 (.string x) hj rfl
  have := (hcl _ _ hg).2
  rw [show adr (some (⟨b, 0, none⟩ : Addr)) = ⟨b, 0, none⟩ from rfl, ZbY] at this
  simpa using this) hbw (by omega) (by omega) hlen)
theorem ZkD : ∀ (l : List (List UInt8)), Lib.join l [47] = ZcN l
 | [] => rfl
 | [x] => by simp [Lib.join, ZcN]
 | x :: y :: l => by
  have ih := ZkD (y :: l)
  unfold Lib.join at ih ⊢
  rw [show ZcN (x :: y :: l) = x ++ 47 :: ZcN (y :: l) from rfl, <- ih]
  simp [List.intercalate, List.intersperse]
def bsE (l : List (List UInt8)) : List ByteArray := l.map fun t => ⟨t.toArray⟩
theorem Zpu (l : List (List UInt8)) : (bsE l).map (·.data.toList) = l := by
 rw [bsE, List.map_map]
 exact (List.map_congr_left fun _ _ => rfl).trans (List.map_id l)
theorem ZhP : ∀ (l : List (List UInt8)), (∀ t ∈ l, t.length <= 1000) -> (ZcN l).length <= 1001 * l.length
 | [], _ => Nat.le_refl _
 | [x], h => by have := h x List.mem_cons_self; simp only [ZcN, List.length_cons, List.length_nil]; omega
 | x :: y :: l, h => by
  have ih := ZhP (y :: l) fun t ht => h t (List.mem_cons_of_mem _ ht)
  have := h x List.mem_cons_self
  simp only [ZcN, List.length_append, List.length_cons] at ih ⊢
  omega
def jnV : Option (List (List UInt8)) -> Value
 | none => .tuple #[.string ByteArray.empty, .int .i64 3]
 | some r => .tuple #[.string ⟨(ZcN r).toArray⟩, .int .i64 0]
structure JG where
 k : Nat
 A : Option Addr
 c : Nat
 m : Nat
 ys : List Value
 acc : List (List UInt8)
theorem ZhK (n : Int) : (ZbJ n).length <= 7 := by
 unfold ZbJ
 split
 ·simp
 ·simp only [List.length_cons, List.length_append, dig2, List.length_nil]
  repeat' split
  all_goals simp
theorem Zt1 {G : Prop} (h : G := by (first | exact PuI | (apply ZhB; rfl; rfl; exact hb))) : G := h
theorem Zib (A : Option Addr) (c : Nat) (off : Int) (xs : List Int) (w : World) (hA : RdSl w A c iEnc 1 xs) (hoff : I64 off) (hxs : ∀ x ∈ xs, I64 x) (hn : xs.length <= 1000000) :
  Does Tryz.prog 232 [.int .i64 off, .slice A xs.length c] w (fun v O => v = jnV (Zfb off xs) /\ O = []) := by
 obtain ⟨res, hres⟩ : ∃ res, Zfb off xs = res := ⟨_, rfl⟩
 rw [hres]
 refine Zab Tryz.func232 rfl rfl rfl rfl ?_
 repeat (first | (refine js ?_; (refine bx ?_; intro bk)) | refine walk ?_)
 refine Zfc 9 1 ?_
 refine Zao [(0, .int .i64 off), (12, .slice A xs.length c), (13, .int .i64 xs.length)] [] (fun g : JG => [(6, .slice g.A g.m g.c), (14, .int .i64 g.k)]) (fun g => [.row (.slice g.A g.m g.c) 9 1 g.m g.ys])
  (fun g => g.k <= xs.length /\ g.m = g.k /\ g.m = g.acc.length /\ g.ys = (bsE g.acc).flatMap ZaW /\ (∀ t ∈ g.acc, t.length <= 1000) /\ (Zfb off (xs.drop g.k)).map (g.acc ++ ·) = res) (fun g => xs.length - g.k) ⟨0, none, 0, 0, [], []⟩ SFA SOA ⟨Nat.zero_le _, rfl, rfl, rfl, nofun, by rw [<- hres]; dsimp only; rw [List.drop_zero]; cases Zfb off xs <;> rfl⟩ ?_
 rintro ⟨k, A1, c1, m, ys, acc⟩ ⟨hk, hmk, hm, hy, ht, hi⟩
 dsimp only at hk hmk hm hy ht hi ⊢
 repeat (first | (refine js ?_; (refine bx ?_; intro bk)) | refine walk ?_)
 refine Zaf rfl (fun hc => ?_) (fun hc => ?_)
 ·simp only [decide_eq_true_eq, Int.ofNat_lt] at hc
  obtain ⟨hna, hca⟩ := hA.rd k _ (List.getElem?_eq_getElem hc)
  have hxk := hxs _ (List.getElem_mem hc)
  rw [Zan hc, Zfb] at hi
  generalize xs[k] = x at *
  have hsm := fun w' => Zni off x hoff hxk w'
  have htl := ZhK (off + x)
  cases hok : Zc7 (off + x) with
  | false =>
   rw [if_pos (.inl hok)] at hi
   subst hi
   rw [hok] at hsm
   have htx := fun w' => Zei (IntKind.i64.wrap (off + x)) w'
   repeat (first | (apply RL_pu; rfl; exact PuI) | (refine js ?_; (first | (refine Zac (fun w' hw => hsm w') ?_) | (refine Zac (fun w' hw => htx w') ?_) | (refine bx ?_; intro bk))) | refine walk1 ?_)
   exact rtB
  | true =>
   have hwr : IntKind.i64.wrap (off + x) = off + x := Zcj (by simpa [Zc7] using hok)
   rw [hok, hwr] at hsm
   have htx := fun w' => Zei (off + x) w'
   generalize ZbJ (off + x) = tt at *
   by_cases he : tt = []
   ·rw [if_pos (.inr he)] at hi
    subst hi
    subst he
    have hb : decide ((⟨([] : List UInt8).toArray⟩ : ByteArray) = ByteArray.empty) = true := by decide
    repeat (first | (apply RL_pu; rfl; exact Zt1) | (refine js ?_; (first | (refine Zac (fun w' hw => hsm w') ?_) | (refine Zac (fun w' hw => htx w') ?_) | (refine bx ?_; intro bk))) | refine walk1 ?_)
    exact rtB
   ·rw [if_neg (by rintro (h | h); rw [hok] at h; cases h; exact he h)] at hi
    have hb : decide ((⟨tt.toArray⟩ : ByteArray) = ByteArray.empty) = false := decide_eq_false (fun h => he (by simpa using congrArg (fun b : ByteArray => b.data.toList) h))
    repeat (first | (apply RL_pu; rfl; exact Zt1) | (refine js ?_; (first | (refine Zac (fun w' hw => hsm w') ?_) | (refine Zac (fun w' hw => htx w') ?_) | (apply ZaA; rfl; rfl; (intro A' c'; (focus repeat' constructor)); (intro w' _ hO; exact ZbG (hO.of (by repeat' constructor))); rfl; rfl; (simp only [maxLen]; omega); omega; intro A' c' hc1 hc2 hc3) | (refine bx ?_; intro bk))) | refine walk1 ?_)
    exact ⟨⟨k + 1, A', c', m + 1, ys ++ [.string ⟨tt.toArray⟩], acc ++ [tt]⟩, OA, ⟨OA, OA, by simp [hm], by rw [hy]; simp [bsE, ZaW], by
     intro t htm
     rcases List.mem_append.1 htm with h | h
     ·exact ht t h
     ·simp only [List.mem_singleton] at h; subst h; omega, by
     rw [<- hi]
     cases Zfb off (xs.drop (k + 1)) with
     | none => rfl
     | some r => simp⟩, SFA, SOA⟩
 ·simp only [decide_eq_false_iff_not, Int.ofNat_lt] at hc
  rw [List.drop_eq_nil_of_le (by omega), Zfb] at hi
  simp only [Option.map_some, List.append_nil] at hi
  subst hi hy
  have hbl : (bsE acc).length = m := by rw [hm]; simp [bsE]
  have hj := fun w' h => ZsC A1 c1 (bsE acc) w' h (by omega) (by
   rw [Zpu, ZkD]
   have := ZhP acc ht
   omega)
  rw [Zpu, ZkD, hbl] at hj
  repeat (first | (refine js ?_; (first | (refine ZaV (fun w' hw hO => hj w' (hO.of (A := .row (.slice A1 m c1) 9 1 m ((bsE acc).flatMap ZaW)) (by repeat' constructor))) ?_) | (refine bx ?_; intro bk))) | refine walk ?_)
  exact rtB
def xpV (x : List UInt8 × Int) : Value := .tuple #[.string ⟨x.1.toArray⟩, .int .i64 x.2]
theorem ZjB : ∀ (l : List Zaa) (x : Int), (∀ r ∈ l, I64 r.save) -> I64 x -> I64 (Zcu l x).1
 | [], _, _, hx => hx
 | r :: l, x, h, hx => by
  have hr := h r List.mem_cons_self
  have ht := fun y => ZjB l y fun s hs => h s (List.mem_cons_of_mem _ hs)
  unfold Zcu
  split
  ·exact ht x hx
  ·split
   ·exact ⟨by decide, by decide⟩
   ·exact ht _ hr
def anyS (l : List Zaa) : Bool := l.any fun r => !decide (r.save = 0)
theorem Zor {G : Prop} (h : G := by (apply ZaC; rfl; rfl; exact hb0)) : G := h
theorem Zlb {G : Prop} (h : G := by (first | exact Zor | (apply ZaC; rfl; rfl; exact hb1))) : G := h
theorem ZnU (e : DEra) (A : Option Addr) (c : Nat) (l : List Zaa) (w : World) (hA : RdSl w A c Zaa.enc 11 l) (ho : I64 e.off) (hs : I64 e.save) (hr : ∀ r ∈ l, I64 r.save) (hn : l.length <= 1000000) :
  Does Tryz.prog 217 [.agg e.enc.toArray, .slice A l.length c] w (fun v O => v = xpV (ZfG e l) /\ O = []) := by
 have h1 := fun (x : Int) (hx : I64 x) (bk : Nat) w' (hc : Zal w' ⟨bk, 0, none⟩ [.int .i64 x]) => Zib (some ⟨bk, 0, none⟩) 1 e.off [x] w' (Zn2 (fun _ => rfl) (Nat.le_refl 1) (by decide) hc) ho (fun y hy => by simp only [List.mem_singleton] at hy; subst hy; exact hx) (by simp)
 have h2 := fun (x : Int) (hx : I64 x) (bk : Nat) w' (hc : Zal w' ⟨bk, 0, none⟩ [.int .i64 0, .int .i64 x]) => Zib (some ⟨bk, 0, none⟩) 2 e.off [0, x] w' (Zn2 (fun _ => rfl) (Nat.le_refl 2) (by decide) hc) ho (fun y hy => by
  simp only [List.mem_cons, List.not_mem_nil, or_false] at hy
  rcases hy with rfl | rfl
  ·exact ⟨by decide, by decide⟩
  ·exact hx) (by simp)
 have hot := fun w' (hw : Bel w.heap.size w w') => ZjA A c l w' (hA.up hw)
 have hx := ZjB l 0 hr ⟨by decide, by decide⟩
 rw [show Zcu l 0 = ZcT l from rfl] at hx
 obtain ⟨off, kind, save, set, format, til⟩ := e
 unfold ZfG
 dsimp only at ho hs h1 h2 ⊢
 refine Zab Tryz.func217 rfl rfl rfl rfl ?_
 simp only [DEra.enc]
 by_cases hk0 : kind = 0
 ·subst hk0
  rw [if_pos rfl]
  have hj1 := h1 0 ⟨by decide, by decide⟩
  generalize Zfb off [0] = j at *
  cases j with
  | none =>
   simp only [jnV] at hj1
   repeat (first | (refine js ?_; (first | (apply Zag (h := fun w' _ hH => hj1 _ w' (hH.cells (by repeat' constructor))); rfl; rintro v O' ⟨rfl, rfl⟩) | (refine bx ?_; intro bk))) | refine walk ?_)
   exact rtB
  | some r =>
   simp only [jnV] at hj1
   repeat (first | (refine js ?_; (first | (apply Zag (h := fun w' _ hH => hj1 _ w' (hH.cells (by repeat' constructor))); rfl; rintro v O' ⟨rfl, rfl⟩) | (refine bx ?_; intro bk))) | refine walk ?_)
   exact rtB
 have hb0 : decide (kind = 0) = false := decide_eq_false hk0
 rw [if_neg hk0]
 by_cases hk1 : kind = 1
 ·subst hk1
  rw [if_pos rfl]
  have hj1 := h1 save hs
  generalize Zfb off [save] = j at *
  cases j with
  | none =>
   simp only [jnV] at hj1
   repeat (first | (apply RL_pu; rfl; exact Zor) | (refine js ?_; (first | (apply Zag (h := fun w' _ hH => hj1 _ w' (hH.cells (by repeat' constructor))); rfl; rintro v O' ⟨rfl, rfl⟩) | (refine bx ?_; intro bk))) | refine walk1 ?_)
   exact rtB
  | some r =>
   simp only [jnV] at hj1
   repeat (first | (apply RL_pu; rfl; exact Zor) | (refine js ?_; (first | (apply Zag (h := fun w' _ hH => hj1 _ w' (hH.cells (by repeat' constructor))); rfl; rintro v O' ⟨rfl, rfl⟩) | (refine bx ?_; intro bk))) | refine walk1 ?_)
   exact rtB
 have hb1 : decide (kind = 1) = false := decide_eq_false hk1
 rw [if_neg hk1]
 by_cases hk2 : kind = 2
 ·subst hk2
  rw [if_pos rfl]
  generalize ZcT l = od at *
  obtain ⟨ox, ob⟩ := od
  dsimp only at hx hot ⊢
  cases ob with
  | true =>
   have hj1 := h2 ox hx
   rw [if_pos rfl]
   generalize Zfb off [0, ox] = j at *
   cases j with
   | none =>
    simp only [jnV] at hj1
    repeat (first | (apply RL_pu; rfl; exact Zlb) | (refine js ?_; (first | (refine Zac hot ?_) | (apply Zag (h := fun w' _ hH => hj1 _ w' (hH.cells (by repeat' constructor))); rfl; rintro v O' ⟨rfl, rfl⟩) | (refine bx ?_; intro bk))) | refine walk1 ?_)
    exact rtB
   | some r =>
    simp only [jnV] at hj1
    repeat (first | (apply RL_pu; rfl; exact Zlb) | (refine js ?_; (first | (refine Zac hot ?_) | (apply Zag (h := fun w' _ hH => hj1 _ w' (hH.cells (by repeat' constructor))); rfl; rintro v O' ⟨rfl, rfl⟩) | (refine bx ?_; intro bk))) | refine walk1 ?_)
    exact rtB
  | false =>
   rw [if_neg (by decide)]
   obtain ⟨an, han⟩ : ∃ an, anyS l = an := ⟨_, rfl⟩
   rw [show (l.any fun r => !decide (r.save = 0)) = an from han]
   repeat (first | (apply RL_pu; rfl; exact Zlb) | (refine js ?_; (first | (refine Zac hot ?_) | (refine bx ?_; intro bk))) | refine walk1 ?_)
   obtain ⟨b2, hb2⟩ : ∃ b2, bk = b2 := ⟨_, rfl⟩
   rw [hb2]
   clear hb2 bk
   refine Zao [(2, .pointer (some ⟨b2, 0, none⟩)), (45, .slice A l.length c), (46, .int .i64 l.length)] [.blk b2 [.int .i64 off, .int .i64 2, .int .i64 save, .string set, .string format, .bool til.is, .int .i64 til.year, .int .i64 til.month, .int .i64 til.day.kind, .int .i64 til.day.week, .int .i64 til.day.day, .int .i64 til.at_.sec, .int .i64 til.at_.base] 75] (fun k : Nat => [(47, .int .i64 k)]) (fun _ => []) (fun k => k <= l.length /\ anyS (l.drop k) = an) (fun k => l.length - k) 0 SFA SOA ⟨Nat.zero_le _, han⟩ ?_
   rintro k ⟨hk, hi⟩
   repeat (first | (refine js ?_; (refine bx ?_; intro bk)) | refine walk ?_)
   refine Zaf rfl (fun hc => ?_) (fun hc => ?_)
   ·simp only [decide_eq_true_eq, Int.ofNat_lt] at hc
    obtain ⟨hna, hca⟩ := hA.rd k _ (List.getElem?_eq_getElem hc)
    rw [Zan hc, anyS, List.any_cons] at hi
    generalize l[k] = r at *
    repeat (first | (apply RL_pu; rfl; exact PuI) | (refine js ?_; (refine bx ?_; intro bk)) | refine walk1 ?_)
    refine Zaf rfl (fun h3 => ?_) (fun h3 => ?_)
    ·rw [h3] at hi
     simp only [Bool.true_or] at hi
     subst hi
     rw [if_pos rfl]
     repeat (first | (refine js ?_; (refine bx ?_; intro bk)) | refine walk ?_)
     exact rtB
    ·rw [h3, Bool.false_or] at hi
     repeat (first | (refine js ?_; (refine bx ?_; intro bk)) | refine walk ?_)
     exact ⟨k + 1, OA, ⟨OA, hi⟩, SFA, SOA⟩
   ·simp only [decide_eq_false_iff_not, Int.ofNat_lt] at hc
    rw [List.drop_eq_nil_of_le (by omega)] at hi
    subst hi
    rw [show anyS [] = false from rfl, if_neg (by decide)]
    have hj1 := h1 0 ⟨by decide, by decide⟩
    generalize Zfb off [0] = j at *
    cases j with
    | none =>
     simp only [jnV] at hj1
     repeat (first | (refine js ?_; (first | (apply Zag (h := fun w' _ hH => hj1 _ w' (hH.cells (by repeat' constructor))); rfl; rintro v O' ⟨rfl, rfl⟩) | (refine bx ?_; intro bk))) | refine walk ?_)
     exact rtB
    | some r =>
     simp only [jnV] at hj1
     repeat (first | (refine js ?_; (first | (apply Zag (h := fun w' _ hH => hj1 _ w' (hH.cells (by repeat' constructor))); rfl; rintro v O' ⟨rfl, rfl⟩) | (refine bx ?_; intro bk))) | refine walk ?_)
     exact rtB
 have hb2 : decide (kind = 2) = false := decide_eq_false hk2
 rw [if_neg hk2]
 repeat (first | (apply RL_pu; rfl; (first | exact Zlb | (apply ZaC; rfl; rfl; exact hb2))) | (refine js ?_; (refine bx ?_; intro bk)) | refine walk1 ?_)
 exact rtB
end Go.Proofs.YtdlmhmmhdbbliaaGreatDoor
