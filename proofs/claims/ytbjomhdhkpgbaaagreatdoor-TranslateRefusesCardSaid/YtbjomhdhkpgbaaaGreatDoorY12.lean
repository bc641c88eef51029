/- Parts of the proof. -/
import Derived.Test.YtbjomhdhkpgbaaaGreatDoorY11
import Derived.Lib.TrimUEq
import Derived.Lib.SmallJoins
import Derived.Test.YtbjomhdhkpgbaaaGreatDoorY10
import Derived.Test.YtbjomhdhkpgbaaaGreatDoorY09
import Derived.Test.YtbjomhdhkpgbaaaGreatDoorY08
set_option maxHeartbeats 4000000
set_option linter.unusedVariables false
set_option linter.unusedSimpArgs false
namespace Go.Wk
open Go Go.RowKit
def ZdM (c : Int) : Bool := (decide (c < 65) || decide (90 < c)) && (decide (c < 97) || decide (122 < c))
end Go.Wk
namespace Go.Proofs.YtbjomhdhkpgbaaaGreatDoor
open Go Go.RowKit Go.Wk
attribute [local irreducible] W RL Does Zap Zak retQ Calls Pu Stp RD Qy Ay Zal
theorem ZgM (s : ByteArray) (ok : Bool) (w : World) : Does Tryz.prog 115 [.string s, .bool ok] w (fun v O => v = .tuple #[.string (if ok then s else ByteArray.empty), .int .i64 (if ok then 0 else 15)] /\ O = []) := by
 rw [show ByteArray.empty = ⟨#[]⟩ from rfl]
 refine Zaa Tryz.func115 rfl rfl rfl rfl ?_
 cases ok
 ·repeat' (first | refine walk ?_ | (refine Zah rfl (fun hc => ?_) (fun hc => ?_)))
  all_goals exact clo2
 ·repeat' (first | refine walk ?_ | (refine Zah rfl (fun hc => ?_) (fun hc => ?_)))
  all_goals exact clo2
end Go.Proofs.YtbjomhdhkpgbaaaGreatDoor
namespace Go.Wk
open Go Go.RowKit Go.Lib
theorem ZiY {P : Program} {f : FuncId} {args : List Value} {w : World} {v : Value} (h : Calls P f args.toArray w fun e w' => e = .returned v /\ Below w.heap.size w w') : Does P f args w fun v' O => v' = v /\ O = [] :=
 h.mono fun _ _ ⟨he, hb⟩ => ⟨v, [], he, ⟨hb⟩, Zat.nil _ _, rfl, rfl⟩
theorem Zzv (B : Nat) (w : World) (n : Nat) : Below B w (w.drewN n) := ⟨rfl, rfl, rfl, Nat.le_refl _, fun _ _ => rfl⟩
theorem ZtX (s : ByteArray) : ∀ (f pos : Nat), s.size <= pos + f -> (idxFuncFrom (fun r => ZdM (r : Int)) true s f pos < 0 ↔ Zdg (s.data.toList.drop pos) = true)
 | 0, pos, h => by
  rw [List.drop_eq_nil_of_le (by simpa using h)]
  simp [idxFuncFrom, Zdg]
 | f + 1, pos, h => by
  unfold idxFuncFrom
  by_cases hp : pos < s.size
  ·rw [if_pos hp]
   have hp' : pos < s.data.toList.length := by simpa using hp
   rw [List.drop_eq_getElem_cons hp', Zdg, List.all_cons]
   have hg : s.get! pos = s.data.toList[pos] := by
    rw [Array.getElem_toList]
    show s.data[pos]! = _
    rw [getElem!_pos s.data pos (by simpa using hp')]
   have ih := ZtX s f (pos + 1) (by omega)
   unfold Zdg at ih
   have hd : (s.data.toList[pos].toNat < 128 /\ Utf8.decode s pos = (s.data.toList[pos].toNat, 1)) \/ (128 <= s.data.toList[pos].toNat /\ 128 <= (Utf8.decode s pos).1) := by
    unfold Utf8.decode
    simp only [Nat.add_zero, hg]
    generalize s.data.toList[pos].toNat = b
    by_cases hb : b < 128
    ·exact .inl ⟨hb, by rw [if_pos hb]⟩
    ·refine .inr ⟨by omega, ?_⟩
     rw [if_neg hb]
     repeat' split
     all_goals first | (simp only [Utf8.runeError]; omega) | (dsimp only; omega) | (dsimp only; simp only [Bool.and_eq_true, decide_eq_true_eq, ge_iff_le] at *; omega) | decide
   generalize s.data.toList[pos] = b at *
   rcases hd with ⟨hb, hd⟩ | ⟨hb, hd⟩
   ·rw [hd]
    dsimp only
    by_cases hl : ZdM (b.toNat : Int) = true
    ·rw [if_pos hl]
     have : decide (Zds b.toNat = 1) = false := by
      unfold ZdM at hl
      simp only [Bool.and_eq_true, Bool.or_eq_true, decide_eq_true_eq] at hl
      unfold Zds
      rw [if_neg (by omega)]
      repeat' split
      all_goals decide
     rw [this]
     simp
    ·rw [if_neg hl, ih]
     have : decide (Zds b.toNat = 1) = true := by
      unfold ZdM at hl
      simp only [Bool.and_eq_true, Bool.or_eq_true, decide_eq_true_eq] at hl
      unfold Zds
      rw [if_pos (by omega)]
      rfl
     rw [this, Bool.true_and]
   ·have hl : ZdM ((Utf8.decode s pos).1 : Int) = true := by
     unfold ZdM
     simp only [Bool.and_eq_true, Bool.or_eq_true, decide_eq_true_eq]
     omega
    rw [if_pos hl]
    have : decide (Zds b.toNat = 1) = false := by
     unfold Zds
     rw [if_neg (by omega)]
     repeat' split
     all_goals decide
    rw [this]
    simp
  ·rw [if_neg hp, List.drop_eq_nil_of_le (by simpa using hp)]
   simp [Zdg]
theorem Zml : ∀ (l : List UInt8), l.length <= 2 -> (match numU l with | some n => ∃ u : Nat, parseUintB 8 l = .ok u /\ n = u /\ u <= 99 | none => parseUintB 8 l = .syntax)
 | [], _ => rfl
 | [a], _ => by
  unfold numU parseUintB
  simp only [parseUintM, List.isEmpty_cons, Bool.false_eq_true, if_false, List.all_cons, List.all_nil, Bool.and_true, List.foldl_cons, List.foldl_nil, reduceCtorEq]
  by_cases h : 48 <= a /\ a <= 57
  ·have h1 : 48 <= a.toNat /\ a.toNat <= 57 := ⟨UInt8.le_iff_toNat_le.1 h.1, UInt8.le_iff_toNat_le.1 h.2⟩
   rw [if_pos (by simp [h.1, h.2]), if_pos h1]
   dsimp only
   refine ⟨_, by rw [if_neg (by omega), if_neg (by omega)], by omega, by omega⟩
  ·have h1 : ¬ (48 <= a.toNat /\ a.toNat <= 57) := fun hh => h ⟨UInt8.le_iff_toNat_le.2 hh.1, UInt8.le_iff_toNat_le.2 hh.2⟩
   rw [if_neg (by simpa using h), if_neg h1]
 | [a, b], _ => by
  unfold numU parseUintB
  simp only [parseUintM, List.isEmpty_cons, Bool.false_eq_true, if_false, List.all_cons, List.all_nil, Bool.and_true, List.foldl_cons, List.foldl_nil, reduceCtorEq]
  by_cases h : 48 <= a /\ a <= 57
  ·have h1 : 48 <= a.toNat /\ a.toNat <= 57 := ⟨UInt8.le_iff_toNat_le.1 h.1, UInt8.le_iff_toNat_le.1 h.2⟩
   by_cases h' : 48 <= b /\ b <= 57
   ·have h2 : 48 <= b.toNat /\ b.toNat <= 57 := ⟨UInt8.le_iff_toNat_le.1 h'.1, UInt8.le_iff_toNat_le.1 h'.2⟩
    rw [if_pos (by simp [h.1, h.2, h'.1, h'.2]), if_pos h1, if_neg (by omega), if_neg (by omega), if_pos h2]
    dsimp only
    refine ⟨_, by rw [if_neg (by omega), if_neg (by omega)], by omega, by omega⟩
   ·have h2 : ¬ (48 <= b.toNat /\ b.toNat <= 57) := fun hh => h' ⟨UInt8.le_iff_toNat_le.2 hh.1, UInt8.le_iff_toNat_le.2 hh.2⟩
    rw [if_neg (by intro hh; simp only [Bool.and_eq_true, decide_eq_true_eq] at hh; exact h' hh.2), if_pos h1, if_neg (by omega), if_neg (by omega), if_neg h2]
  ·have h1 : ¬ (48 <= a.toNat /\ a.toNat <= 57) := fun hh => h ⟨UInt8.le_iff_toNat_le.2 hh.1, UInt8.le_iff_toNat_le.2 hh.2⟩
   rw [if_neg (by intro hh; simp only [Bool.and_eq_true, decide_eq_true_eq] at hh; exact h hh.1), if_neg h1]
 | _ :: _ :: _ :: _, h => by simp only [List.length_cons] at h; omega
end Go.Wk
namespace Go.Proofs.YtbjomhdhkpgbaaaGreatDoor
open Go Go.RowKit Go.Wk Go.Lib
structure LibW (w : World) : Prop where
 mxl : ∃ m, w.cell? ⟨Zkf.g 1, 0, none⟩ = some (.int .i64 m)
 syn : ∃ ev, w.cell? ⟨Zf7.g 0, 0, none⟩ = some ev /\ (ev = .nilIface \/ ∃ te pe, ev = .iface te pe)
theorem Zlb (s p : ByteArray) (w : World) (hL : LibW w) (hs : s.size < 4294967281) :
  Does Tryz.prog 98 [.string s, .string p] w (fun v O => v = .tuple #[.string ⟨(cutV s.data.toList p.data.toList).1.toArray⟩, .string ⟨(cutV s.data.toList p.data.toList).2.1.toArray⟩, .bool (cutV s.data.toList p.data.toList).2.2] /\ O = []) := by
 obtain ⟨m, hm⟩ := hL.mxl
 rw [<- Zzp]
 exact ZiY ((Any.strings_Cut { Zul with } s p m w hs hm).mono fun e w' ⟨he, n, hw⟩ => ⟨he, hw ▸ Zzv _ _ _⟩)
theorem Zth (s p : ByteArray) (w : World) : Does Tryz.prog 184 [.string s, .string p] w (fun v O => v = .bool (p.data.toList.isPrefixOf s.data.toList) /\ O = []) :=
 ZiY ((Any.strings_HasPrefix ZyX s p w).mono fun e w' ⟨he, hw⟩ => ⟨he, hw ▸ Below.refl _ _⟩)
theorem ZuD (c : Int) (w : World) : Calls Tryz.prog 142 #[.int .i32 c] w fun e w' => e = .returned (.bool (ZdM c)) /\ ∃ q, w' = w.drewN q := by
 go_enter Tryz.func142, Tryz.ntmps142
 go_wp2
 all_goals go_ret
 all_goals refine ⟨congrArg Ending.returned (congrArg Value.bool (?_ : _ = ZdM c)), 0, rfl⟩
 all_goals unfold ZdM
 all_goals first | rfl | (simp [*]; done) | (simp_all; done) | (simp_all; omega)
theorem ZwS (s : ByteArray) (w : World) : Does Tryz.prog 141 [.string s, .func (.func 142) #[] #[]] w (fun v O => v = .int .i64 (idxFunc (fun r => ZdM (r : Int)) true s) /\ O = []) :=
 ZiY (Any.strings_IndexFunc_runes ZAu 142 #[] (enters_of Tryz.func142 (by kernel_rfl) rfl) (fun r => ZdM (r : Int)) s w (fun W x _ _ => by unfold FnGives; simpa using ZuD x W))
theorem Zwn (s : ByteArray) (w : World) (hL : LibW w) (hs : s.size <= 2) :
  Does Tryz.prog 183 [.string s, .int .i64 10, .int .i64 8] w (fun v O => (match numU s.data.toList with | some n => v = .tuple #[.int .u64 n, .nilIface] /\ 0 <= n /\ n <= 99 | none => ∃ t p, v = .tuple #[.int .u64 0, .iface t (.pointer p)]) /\ O = []) := by
 have h := Zml s.data.toList (by simpa using hs)
 cases hn : numU s.data.toList with
 | none =>
  rw [hn] at h
  obtain ⟨ev, h1, h2⟩ := hL.syn
  exact (Any.strconv_ParseUint_10_at8_syntax ZAi s (by omega) h ev w h1 h2).mono fun e w' ⟨N, he, _, _, hb⟩ => ⟨_, [], he, ⟨hb⟩, Zat.nil _ _, ⟨_, _, rfl⟩, rfl⟩
 | some n =>
  rw [hn] at h
  obtain ⟨u, h1, rfl, h3⟩ := h
  exact (Any.strconv_ParseUint_10_at8_ok ZAi s (by omega) u h1 w).mono fun e w' ⟨he, hb⟩ => ⟨_, [], he, ⟨by rcases hb with rfl | rfl; exact Below.refl _ _; exact Go.Joins.below_bytesWorld _ _ _ _ (Nat.le_refl _)⟩, Zat.nil _ _, ⟨rfl, by omega, by omega⟩, rfl⟩
end Go.Proofs.YtbjomhdhkpgbaaaGreatDoor
namespace Go.Wk
open Go Go.RowKit
theorem ZAw (n : Int) (h0 : 0 <= n) (h1 : n <= 99) : (dig2 n).map ZoU = [.int .u8 (48 + n / 10), .int .u8 (48 + n % 10)] := by
 have a : (UInt8.ofNat (48 + (n / 10).toNat)).toNat = 48 + (n / 10).toNat := by rw [UInt8.toNat_ofNat']; omega
 have b : (UInt8.ofNat (48 + (n % 10).toNat)).toNat = 48 + (n % 10).toNat := by rw [UInt8.toNat_ofNat']; omega
 simp only [dig2, List.map_cons, List.map_nil, ZoU, a, b]
 congr 2
 ·congr 1; omega
 ·congr 2; omega
def Zs2 (off : Int) : UInt8 := if off < 0 then 45 else 43
def Zs0 (off : Int) : Int := if off < 0 then 45 else 43
def Ztk (p q r : Int) : Nat := if r ≠ 0 then 3 else if q ≠ 0 then 2 else 1
theorem Zwb (off : Int) (h0 : -86400 < off) (h1 : off < 86400) (x : Int) (hx : (if off < 0 then -off else off) = x) : ZaS off = Zs2 off :: (([x / 3600, x / 60 % 60, x % 60].take (Ztk (x / 3600) (x / 60 % 60) (x % 60))).flatMap dig2) := by
 unfold ZaS
 rw [if_neg (by omega)]
 simp only [hx, Zs2]
 congr 1
 unfold Ztk
 by_cases h2 : x % 60 = 0
 ·by_cases h3 : x / 60 % 60 = 0
  ·have : x % 3600 = 0 := by omega
   simp [h2, h3, this]
  ·have : ¬ x % 3600 = 0 := by omega
   simp [h2, h3, this]
 ·have : ¬ x % 3600 = 0 := by omega
  simp [h2, this]
section
variable {P : Program} {n : Nat} {wr : World} {fr : Fr} {O : List It} {ty : TypeId}
theorem Zjl {t len e sz : Nat} {ag : Bool} {ps : List (Nat × Operand)} {vs : List (Nat × Value)} {z cs cs' : List Value} [hA : ArrT P t len e sz ag] [hz : ZeroT P t z] (hx : evpO fr ps = some vs) (hb : bld (places len sz) z vs = some cs) (hn : Nf cs cs') :
  Pu P n wr fr O (.build t ps.toArray) ty (.agg cs'.toArray) := by
 rw [<- hn.eq]
 intro a w hs _ _ _ _
 have h := hz.h
 unfold ZgG at h
 split at h
 ·rename_i i hi
  split at h
  ·rename_i zv hzv
   simp only [Option.some.injEq] at h
   subst h
   have h := hA.h
   unfold Zkn at h
   split at h
   ·rename_i len' e' hu
    split at h
    ·rename_i sz' ag' ht
     simp only [Option.some.injEq, Prod.mk.injEq] at h
     obtain ⟨rfl, rfl, rfl, rfl⟩ := h
     obtain ⟨inf, dd, hinf, hsz, _, _⟩ := Ty.parts ht
     have hf := ZiP sz' len' vs zv.cells.toList cs hb
     have hf' : Instr.fill (fun i => some (i * sz', sz')) zv.cells vs = some cs.toArray := by simpa using hf
     have hps : (Array.map (fun (x : Nat × Operand) => (x.1, a.eval x.2)) ps.toArray).toList = vs := by simpa using hs.sim.evpO hx
     simp only [execOp, Instr.build, Sem.run_bind, zeroValue, ZaR hi, Result.andThen_ok, hzv, Sem.run_pure, run_underlying hu, sizeOf, ZaR hinf, hsz]
     rw [hps]
     simp [hf']
    ·cases h
   ·cases h
  ·cases h
 ·cases h
end
end Go.Wk
namespace Go.Proofs.YtbjomhdhkpgbaaaGreatDoor
open Go Go.RowKit Go.Wk
attribute [local irreducible] W RL Does Zap Zak retQ Calls Pu Stp RD Qy Ay Zal RW
structure TG where
 k : Nat
 A : Option Addr
 c : Nat
 xs : List Value
theorem Zym {G : Prop} (h : G := by (apply ZlA; rfl; rfl; exact hb)) : G := h
theorem Zyl {G : Prop} (h : G := by (first | exact Zym | (apply Ze3; rfl; rfl; exact hb2))) : G := h
theorem Zyk {G : Prop} (h : G := by (first | (apply Za0; rfl; rfl; rfl) | (apply ZbC; rfl; rfl; decide; decide) | (apply Znt; rfl; (focus repeat' constructor); rfl) | (apply ZaH; rfl; rfl; exact b2))) : G := h
theorem Zyj {G : Prop} (h : G := by (first | (apply Za0; rfl; rfl; rfl) | (apply ZbC; rfl; rfl; decide; decide) | (apply Znt; rfl; (focus repeat' constructor); rfl) | (apply ZaH; rfl; rfl; exact b1))) : G := h
theorem ZeG (off : Int) (w : World) : Does Tryz.prog 117 [.int .i64 off] w (fun v O => v = .string ⟨(ZaS off).toArray⟩ /\ O = []) := by
 refine Zaa Tryz.func117 rfl rfl rfl rfl ?_
 repeat (first | (refine js ?_; (refine bx ?_; intro bk)) | refine walk ?_)
 refine ZzA (fun _ _ _ => Zw3) ?_
 by_cases hlo : off <= -86400
 ·have e : ZaS off = [] := by unfold ZaS; rw [if_pos (.inl hlo)]
  rw [e]
  have hb : decide (off <= -86400) = true := decide_eq_true hlo
  repeat (first | (apply RL_pu; rfl; exact Zym) | (refine js ?_; (refine bx ?_; intro bk)) | refine walk1 ?_)
  exact rtA
 have hb : decide (off <= -86400) = false := decide_eq_false hlo
 by_cases hhi : 86400 <= off
 ·have e : ZaS off = [] := by unfold ZaS; rw [if_pos (.inr hhi)]
  rw [e]
  have hb2 : decide (86400 <= off) = true := decide_eq_true hhi
  repeat (first | (apply RL_pu; rfl; exact Zyl) | (refine js ?_; (refine bx ?_; intro bk)) | refine walk1 ?_)
  exact rtA
 have hb2 : decide (86400 <= off) = false := decide_eq_false hhi
 obtain ⟨x, hx⟩ : ∃ x, (if off < 0 then -off else off) = x := ⟨_, rfl⟩
 have hx0 : 0 <= x /\ x < 86400 := by split at hx <;> omega
 have hsg : ZoU (Zs2 off) = .int .u8 (Zs0 off) := by unfold ZoU Zs2 Zs0; split <;> rfl
 rw [Zwb off (by omega) (by omega) x hx]
 generalize Zs2 off = sb at hsg ⊢
 obtain ⟨sg, hsg2⟩ : ∃ sg, Zs0 off = sg := ⟨_, rfl⟩
 rw [hsg2] at hsg
 repeat (first | (apply RL_pu; rfl; exact Zyl) | (refine js ?_; (refine bx ?_; intro bk)) | refine walk1 ?_)
 refine Zcm (fun fr' O' => Sub [(0, .int .i64 x), (3, .int .u8 sg)] fr') ?_ ?_
 ·refine Zah rfl (fun hc => ?_) (fun hc => ?_)
  ·have hneg := of_decide_eq_true hc
   rw [if_pos hneg] at hx
   subst hx
   obtain rfl : sg = 45 := by rw [<- hsg2, Zs0, if_pos hneg]
   repeat (first | (apply RL_pu; rfl; (apply Zgz; rfl; (constructor <;> omega))) | (refine js ?_; (refine bx ?_; intro bk)) | refine walk1 ?_)
   exact ⟨rfl, SFA⟩
  ·have hneg := of_decide_eq_false hc
   rw [if_neg hneg] at hx
   subst hx
   obtain rfl : sg = 43 := by rw [<- hsg2, Zs0, if_neg hneg]
   repeat (first | (refine js ?_; (refine bx ?_; intro bk)) | refine walk ?_)
   exact ⟨rfl, SFA⟩
 intro fr' O' hfr
 refine thenQ_n ?_
 refine Zcu hfr .nil ?_
 have hp0 : 0 <= x / 3600 /\ x / 3600 <= 99 := by omega
 have hp1 : 0 <= x / 60 % 60 /\ x / 60 % 60 <= 99 := by omega
 have hp2 : 0 <= x % 60 /\ x % 60 <= 99 := by omega
 repeat (first | (apply RL_pu; rfl; (first | (apply Pu_quo64; rfl; rfl; omega; omega; decide) | (apply Pu_remE; rfl; rfl; omega; decide) | (apply Zjl; rfl; rfl; (focus repeat (first | exact Nf.nil | apply Nf.cons))))) | (refine js ?_; (refine bx ?_; intro bk)) | refine walk1 ?_)
 generalize x / 3600 = p at *
 generalize x / 60 % 60 = q at *
 generalize x % 60 = r at *
 refine ZzC (thenQ_n ?_)
 obtain ⟨N, hN⟩ : ∃ N, Ztk p q r = N := ⟨_, rfl⟩
 have hN3 : 1 <= N /\ N <= 3 := by rw [<- hN]; unfold Ztk; split <;> (try split) <;> omega
 refine W_seq (Zcm (fun fr' O' => Sub [(3, .int .u8 sg), (4, .pointer (some ⟨bk, 0, none⟩)), (5, .int .i64 N)] fr' /\ SubO [.blk bk [.int .i64 p, .int .i64 q, .int .i64 r] 249] O') ?_ ?_)
 ·refine W_block (ZhQ 3 (ZbN ?_))
  unfold Ztk at hN
  by_cases h2 : r = 0
  ·rw [if_neg (fun h => h h2)] at hN
   have b2 : decide (r = 0) = true := decide_eq_true h2
   repeat (first | (apply RL_pu; rfl; exact Zyk) | (refine js ?_; (refine bx ?_; intro bk)) | refine walk1 ?_)
   refine ZbN ?_
   by_cases h1 : q = 0
   ·rw [if_neg (fun h => h h1)] at hN
    subst hN
    have b1 : decide (q = 0) = true := decide_eq_true h1
    repeat (first | (apply RL_pu; rfl; exact Zyj) | (refine js ?_; (refine bx ?_; intro bk)) | refine walk1 ?_)
    refine ZbN ?_
    repeat (first | (apply RL_pu; rfl; (apply Za0; rfl; rfl; rfl)) | (refine js ?_; (refine bx ?_; intro bk)) | refine walk1 ?_)
    exact ⟨rfl, SFA, SOA⟩
   ·rw [if_pos h1] at hN
    subst hN
    have b1 : decide (q = 0) = false := decide_eq_false h1
    repeat (first | (apply RL_pu; rfl; exact Zyj) | (refine js ?_; (refine bx ?_; intro bk)) | refine walk1 ?_)
    exact ⟨rfl, SFA, SOA⟩
  ·rw [if_pos h2] at hN
   subst hN
   have b2 : decide (r = 0) = false := decide_eq_false h2
   repeat (first | (apply RL_pu; rfl; exact Zyk) | (refine js ?_; (refine bx ?_; intro bk)) | refine walk1 ?_)
   exact ⟨rfl, SFA, SOA⟩
 rintro fr2 O2 ⟨hf2, hO2⟩
 rw [hN]
 refine thenQ_n ?_
 refine Zcu hf2 hO2 ?_
 clear hf2 hO2 hfr fr2 O2
 obtain ⟨b3, hb3⟩ : ∃ b3, bk = b3 := ⟨_, rfl⟩
 rw [hb3]
 clear hb3 bk
 repeat (first | (apply RL_pu; rfl; (apply Znr; rfl; rfl; omega; omega)) | (refine js ?_; (refine bx ?_; intro bk)) | refine walk1 ?_)
 refine ZuP (b := bk) (m := 1) 1 (by repeat' constructor) rfl (by decide) ?_
 obtain ⟨ps, hps⟩ : ∃ ps, [p, q, r] = ps := ⟨_, rfl⟩
 have hpl : ps.length = 3 := by rw [<- hps]; rfl
 have hpb : ∀ (k : Nat) (x : Int), ps[k]? = some x -> 0 <= x /\ x <= 99 := by
  intro k x hk
  rw [<- hps] at hk
  match k, hk with
  | 0, hk => simp only [List.getElem?_cons_zero, Option.some.injEq] at hk; omega
  | 1, hk => simp only [List.getElem?_cons_succ, List.getElem?_cons_zero, Option.some.injEq] at hk; omega
  | 2, hk => simp only [List.getElem?_cons_succ, List.getElem?_cons_zero, Option.some.injEq] at hk; omega
  | k + 3, hk => simp at hk
 have hpv : [Value.int .i64 p, .int .i64 q, .int .i64 r] = ps.map (Value.int .i64) := by rw [<- hps]; rfl
 rw [hpv, hps]
 refine Zaq [(40, .slice (some ⟨b3, 0, none⟩) N 3), (41, .int .i64 N)] [.blk b3 (ps.map (Value.int .i64)) 249] (fun g : TG => [(6, .slice g.A (1 + 2 * g.k) g.c), (42, .int .i64 g.k)]) (fun g => [.row (.slice g.A (1 + 2 * g.k) g.c) 5 1 (1 + 2 * g.k) g.xs])
  (fun g => g.k <= N /\ g.A ≠ none /\ g.xs = (sb :: (ps.take g.k).flatMap dig2).map ZoU) (fun g => N - g.k) ⟨0, some ⟨bk, 0, none⟩, 1, [.int .u8 sg]⟩ SFA SOA ⟨Nat.zero_le _, by simp, by rw [<- hsg]; rfl⟩ ?_
 rintro ⟨k, A, c, xs⟩ ⟨hk, hA, hx⟩
 dsimp only at hk hA hx ⊢
 repeat (first | (refine js ?_; (refine bx ?_; intro bk)) | refine walk ?_)
 refine Zah rfl (fun hc => ?_) (fun hc => ?_)
 ·simp only [decide_eq_true_eq, Int.ofNat_lt] at hc
  have hk3 : k < ps.length := by omega
  have hget := List.getElem?_eq_getElem hk3
  have hbd := hpb k _ hget
  have htk := List.take_append_getElem hk3
  generalize ps[k] = x at *
  have hgv : (ps.map (Value.int .i64))[k * 1]? = some (.int .i64 x) := by rw [Nat.mul_one, List.getElem?_map, hget]; rfl
  repeat (first | (apply RL_pu; rfl; (first | (apply Pu_indexAddr; rfl; rfl; omega; omega; simp) | (apply Zjk; rfl; (focus repeat' constructor); exact hgv) | (apply Pu_quo64; rfl; rfl; omega; omega; decide) | (apply Pu_remE; rfl; rfl; omega; decide) | (apply ZxB; rfl; omega; omega) | (apply Zvg; rfl; rfl; (constructor <;> omega)))) | (refine js ?_; (first | (apply ZaC; rfl; rfl; (intro A' c'; (focus repeat' constructor)); (intro w' _ hO; exact ZbD (hO.of (by repeat' constructor))); rfl; rfl; (simp only [maxLen]; omega); omega; intro A' c' hc1 hc2 hc3) | (refine bx ?_; intro bk))) | refine walk1 ?_)
  refine ⟨⟨k + 1, A', c', xs ++ [.int .u8 (48 + x / 10), .int .u8 (48 + x % 10)]⟩, OA, ⟨OA, hc3 (by omega), ?_⟩, SFA, SOA⟩
  dsimp only
  rw [<- htk, hx, <- ZAw x hbd.1 hbd.2]
  simp
 ·have hkN : k = N := by simp only [decide_eq_false_iff_not, Int.ofNat_lt] at hc; omega
  subst hkN
  have hlen : 1 + 2 * k = (sb :: (ps.take k).flatMap dig2).length := by
   have : ∀ l : List Int, (l.flatMap dig2).length = 2 * l.length := fun l => by
    induction l with
    | nil => rfl
    | cons y l ih => simp only [List.flatMap_cons, List.length_append, ih, List.length_cons, dig2, List.length_nil]; omega
   rw [List.length_cons, this, List.length_take]
   omega
  repeat (first | (apply RL_pu; rfl; (apply Znx; rfl; (focus repeat' constructor); exact hx; exact hlen; exact hA)) | (refine js ?_; (refine bx ?_; intro bk)) | refine walk1 ?_)
  exact rtA
end Go.Proofs.YtbjomhdhkpgbaaaGreatDoor
namespace Go.Wk
open Go Go.RowKit
section
variable {P : Program} {n : Nat} {wr : World} {fr : Fr} {O : List It} {ty : TypeId}
theorem Zkv {t : TypeId} {x y z : Operand} {s r : ByteArray} {k k' : IntKind} {i j : Int} [hS : StringT P t] (hx : ev fr x = some (.string s)) (hy : ev fr y = some (.int k i)) (hz : ev fr z = some (.int k' j)) (h0 : 0 <= i) (h1 : i <= j) (h2 : j <= s.size) (hr : s.extract i.toNat j.toNat = r) :
  Pu P n wr fr O (.slice t x (some y) (some z) none) ty (.string r) := fun a w hs _ _ _ _ => by
 have h := run_slice_string (P := P) w t s k k' i j hS.h h0 h1 h2
 rw [hr] at h
 simp [execOp, hs.sim.ev hx, hs.sim.ev hy, hs.sim.ev hz, Instr.sliceAt, run_underlying hS.h, h]
theorem Zhx {t len e : Nat} {x ix : Operand} {kk : IntKind} {i : Int} {cs : List Value} {v : Value} [hA : ArrT P t len e 1 false] (hx : ev fr x = some (.agg cs.toArray)) (hi : ev fr ix = some (.int kk i)) (h0 : 0 <= i) (h1 : i < len) (hv : cs[i.toNat]? = some v) :
  Pu P n wr fr O (.index t x ix) ty v := fun a w hs _ _ _ _ => by
 have h := hA.h
 unfold Zkn at h
 split at h
 ·rename_i len' e' hu
  split at h
  ·rename_i sz' ag' ht
   simp only [Option.some.injEq, Prod.mk.injEq] at h
   obtain ⟨rfl, rfl, rfl, rfl⟩ := h
   obtain ⟨inf, dd, hinf, hsz, hag, _⟩ := Ty.parts ht
   have : Ty P e' 1 false := ⟨ht⟩
   simp only [execOp, hs.sim.ev hx, hs.sim.ev hi, Instr.index, asIntOf, Sem.run_bind, Sem.run_pure, Result.andThen_ok, run_underlying hu, h0, h1, and_self, if_true, part, ZdL, Zc4]
   simp [hv]
  ·cases h
 ·cases h
theorem Zg9 {t t' : TypeId} {x : Operand} {v : Value} {b : Bool} (hu : ∃ ms, P.underlying t = some (.interface ms)) (hx : ev fr x = some v) (hv : (v = .nilIface /\ b = false) \/ (b = true /\ ∃ te p, v = .iface te (.pointer p))) : Pu P n wr fr O (.binOp .neq t x (.const .nilIface) t') ty (.bool b) := fun a w hs _ _ _ _ => by
 obtain ⟨ms, hu⟩ := hu
 have hc : a.eval (.const .nilIface) = .nilIface := rfl
 have h : (binOp .neq t v .nilIface).run P w = .ok (.bool b) w := by
  have : ∀ d, (Op.equalIn (d + 1) t v .nilIface).run P w = .ok (!b) w := fun d => by
   rcases hv with ⟨rfl, rfl⟩ | ⟨rfl, te, p, rfl⟩ <;> simp [Op.equalIn, run_underlying hu]
  have hb : binOp .neq t v .nilIface = (do pure (.bool (!(<- Op.equal t v .nilIface)))) := by rcases hv with ⟨rfl, rfl⟩ | ⟨rfl, te, p, rfl⟩ <;> rfl
  rw [hb, show Op.equal t v .nilIface = Op.equalIn (9999 + 1) t v .nilIface from rfl]
  simp only [Sem.run_bind, this 9999, Result.andThen_ok, Sem.run_pure, Bool.not_not]
 have hg : (eqGuard .neq t x (.const .nilIface) v .nilIface).run P w = .ok () w := by
  rcases hv with ⟨rfl, rfl⟩ | ⟨rfl, te, p, rfl⟩ <;> simp [eqGuard]
 simp only [execOp, hs.sim.ev hx, hc, Sem.run_bind, hg, Result.andThen_ok, h, Sem.run_pure]
theorem ZzP {t t' : TypeId} {x y : Operand} {i j m : Int} (hx : ev fr x = some (.int .i64 i)) (hy : ev fr y = some (.int .i64 j)) (hm : i * j = m) (h : -9223372036854775808 <= m /\ m <= 9223372036854775807) : Pu P n wr fr O (.binOp .mul t x y t') ty (.int .i64 m) := hm ▸ Zeu hx hy (hm ▸ h)
theorem ZzB {c : Code} {Q : Exit -> Fr -> List It -> Prop} {K' : Fr -> List It -> Prop} (I : Fr -> List It -> Prop) (h1 : W P n wr c (Zap I Q) fr O) (h2 : ∀ fr' O', I fr' O' -> K' fr' O') : W P n wr c (Zap K' Q) fr O :=
 Zyb h1 fun e fr' O' h => by
  cases e with
  | normal => exact h2 fr' O' h
  | _ => exact h
end
theorem ZxK (s : ByteArray) (a : Nat) : (s.extract a (min (a + 2) s.size)).data.toList = (s.data.toList.drop a).take 2 := by
 rw [ByteArray.data_extract]
 have hsz : s.size = s.data.toList.length := by simp
 rw [hsz]
 simp only [Array.toList_extract, List.extract_eq_take_drop]
 apply List.ext_getElem?
 intro i
 simp only [List.getElem?_take, List.getElem?_drop]
 by_cases h : i < 2
 ·rw [if_pos h]
  by_cases h2 : a + i < s.data.toList.length
  ·rw [if_pos (by omega)]
  ·rw [List.getElem?_eq_none (by omega)]; simp
 ·rw [if_neg h, if_neg (by omega)]
end Go.Wk
namespace Go.Proofs.YtbjomhdhkpgbaaaGreatDoor
open Go Go.RowKit Go.Wk
attribute [local irreducible] W RL Does Zap Zak retQ Calls Pu Stp RD Qy Ay Zal RW
structure PG where
 k : Nat
 off : Int
def prV : Option Int -> Value
 | none => .tuple #[.int .i64 0, .int .i64 5]
 | some o => .tuple #[.int .i64 o, .int .i64 0]
def us60 : List Int := [3600, 60, 1]
theorem ZyE {k : Nat} {u : Int} (h : us60[k]? = some u) : 1 <= u /\ u <= 3600 := by
 unfold us60 at h
 match k, h with
 | 0, h => simp only [List.getElem?_cons_zero, Option.some.injEq] at h; omega
 | 1, h => simp only [List.getElem?_cons_succ, List.getElem?_cons_zero, Option.some.injEq] at h; omega
 | 2, h => simp only [List.getElem?_cons_succ, List.getElem?_cons_zero, Option.some.injEq] at h; omega
 | k + 3, h => simp at h
theorem Zy5 (l : List UInt8) (h : l.length <= 2) {n : Int} (hn : numU l = some n) : 0 <= n /\ n <= 99 := by
 have := Zml l h
 rw [hn] at this
 obtain ⟨u, _, rfl, h3⟩ := this
 omega
theorem Zvu {G : Prop} (h : G := by (first | (apply Zbt; rfl; rfl; exact hb3) | (apply Zhx; rfl; rfl; omega; omega; exact huv) | (apply Zeu; rfl; rfl; (constructor <;> omega)) | (apply Ze3; rfl; rfl; exact hbg))) : G := h
theorem Zvt {G : Prop} (h : G := by (apply Zen; rfl; rfl; exact hb)) : G := h
theorem Zvs {G : Prop} (h : G := by (first | exact Zvt | (apply Zgy; rfl; rfl; exact hb2))) : G := h
theorem Zrv (s : ByteArray) (w : World) (hL : ∀ w', Bel w.heap.size w w' -> LibW w') (hs : s.size <= 1000000000000) :
  Does Tryz.prog 143 [.string s] w (fun v O => v = prV (ZbQ s.data.toList) /\ O = []) := by
 have hpre := fun w' => Zth s ⟨#[45]⟩ w'
 have hsl : s.size = s.data.toList.length := by simp
 have hemp : s = ByteArray.empty ↔ s.data.toList = [] := ⟨fun h => by rw [h]; rfl, fun h => by
  apply ByteArray.ext
  rw [<- Array.toArray_toList (xs := s.data), h]
  rfl⟩
 have hp0 : ([45] : List UInt8).isPrefixOf s.data.toList = decide (s.data.toList.head? = some 45) := by
  cases s.data.toList with
  | nil => rfl
  | cons c l =>
   by_cases h : c = 45
   ·subst h; simp
   ·rw [List.isPrefixOf, show ((45 : UInt8) == c) = false from beq_false_of_ne fun e => h e.symm]; simp [h]
 rw [show (⟨#[45]⟩ : ByteArray).data.toList = [45] from rfl, hp0] at hpre
 obtain ⟨r0, hr0⟩ : ∃ r0, ZfN s.data.toList [3600, 60, 1] 0 0 = r0 := ⟨_, rfl⟩
 unfold ZbQ
 rw [hr0]
 refine Zaa Tryz.func143 rfl rfl rfl rfl ?_
 repeat (first | (apply RL_pu; rfl; (apply Zjl; rfl; rfl; (focus repeat (first | exact Nf.nil | apply Nf.cons)))) | refine walkB1 ?_)
 refine ZzB (fun fr' O' => ∃ o : Int, r0 = some o /\ (0 <= o /\ o <= 1200000) /\ Sub [(0, .string s), (4, .int .i64 o)] fr') ?_ ?_
 ·apply W_block
  refine Zaq [(0, .string s), (9, .agg (us60.map (Value.int .i64)).toArray)] [] (fun g : PG => [(4, .int .i64 g.off), (10, .int .i64 g.k)]) (fun _ => []) (fun g => g.k <= 3 /\ (0 <= g.off /\ g.off <= 400000 * g.k) /\ ZfN s.data.toList (us60.drop g.k) g.k g.off = r0) (fun g => 3 - g.k) ⟨0, 0⟩ SFA .nil ⟨Nat.zero_le _, ⟨Int.le_refl _, Int.le_refl _⟩, hr0⟩ ?_
  rintro ⟨k, off⟩ ⟨hk, ho, hi⟩
  dsimp only at hk ho hi ⊢
  by_cases hk3 : k < 3
  ·have hb3 : decide ((k : Int) < 3) = true := decide_eq_true (by omega)
   have hku : k < us60.length := hk3
   have hu := List.getElem?_eq_getElem hku
   rw [Zan hku, ZfN] at hi
   generalize us60[k] = u at *
   have hub := ZyE hu
   have huv : (us60.map (Value.int .i64))[k]? = some (.int .i64 u) := by rw [List.getElem?_map, hu]; rfl
   by_cases hge : s.data.toList.length <= 1 + 2 * k
   ·rw [if_pos hge] at hi
    have hbg : decide ((s.size : Int) <= 1 + 2 * k) = true := decide_eq_true (by omega)
    repeat (first | (apply RL_pu; rfl; exact Zvu) | refine walk1 ?_)
    exact ⟨off, hi.symm, ⟨ho.1, OA⟩, SFA⟩
   ·rw [if_neg hge] at hi
    have hbg : decide ((s.size : Int) <= 1 + 2 * k) = false := decide_eq_false (by omega)
    obtain ⟨r, hr⟩ : ∃ r, s.extract (1 + 2 * k) (min (1 + 2 * k + 2) s.size) = r := ⟨_, rfl⟩
    have hrl : r.data.toList = (s.data.toList.drop (1 + 2 * k)).take 2 := by rw [<- hr]; exact ZxK s _
    have hrs : r.size <= 2 := by
     have : r.size = r.data.toList.length := by simp
     rw [this, hrl, List.length_take]
     omega
    have hpu := fun w' (hw : Bel w.heap.size w w') => Zwn r w' (hL w' hw) hrs
    rw [hrl] at hpu
    have hmn : (if (s.size : Int) < 3 + 2 * k then (s.size : Int) else 3 + 2 * k) = ((min (1 + 2 * k + 2) s.size : Nat) : Int) := by split <;> omega
    have hex : s.extract (1 + 2 * (k : Int)).toNat ((min (1 + 2 * k + 2) s.size : Nat) : Int).toNat = r := by
     rw [<- hr]
     congr 1
    have hm1 : 1 + 2 * (k : Int) <= ((min (1 + 2 * k + 2) s.size : Nat) : Int) := by omega
    have hm2 : ((min (1 + 2 * k + 2) s.size : Nat) : Int) <= s.size := by omega
    generalize min (1 + 2 * k + 2) s.size = mm at *
    cases hn : numU ((s.data.toList.drop (1 + 2 * k)).take 2) with
    | none =>
     rw [hn] at hi hpu
     dsimp only at hi hpu
     subst hi
     repeat (first | (apply RL_pu; rfl; (first | exact Zvu | (apply Zph; rfl; rfl; exact hmn) | (apply Zkv; rfl; rfl; rfl; omega; exact hm1; exact hm2; exact hex) | (apply Zg9; exact ⟨_, Tryz.underlying271⟩; rfl; exact .inr ⟨rfl, _, _, rfl⟩))) | (refine js ?_; (apply Zac (h := fun w' hw _ => hpu w' hw); rfl; rintro v O' ⟨⟨tt, pp, rfl⟩, rfl⟩)) | refine walk1 ?_)
     exact rtB
    | some n =>
     rw [hn] at hi hpu
     dsimp only at hi hpu
     have hnb : 0 <= n /\ n <= 99 := Zy5 _ (List.length_take_le _ _) hn
     ·have h1 : 0 <= n * u := Int.mul_nonneg hnb.1 (by omega)
      have h2 : n * u <= 99 * 3600 := Int.mul_le_mul hnb.2 hub.2 (by omega) (by omega)
      have hmul : -9223372036854775808 <= n * u /\ n * u <= 9223372036854775807 := by omega
      generalize hnu : n * u = m at *
      repeat (first | (apply RL_pu; rfl; (first | (apply Zbt; rfl; rfl; exact hb3) | (apply Zhx; rfl; rfl; omega; omega; exact huv) | (apply ZzP; rfl; rfl; exact hnu; exact hmul) | (apply Zeu; rfl; rfl; (constructor <;> omega)) | (apply Ze3; rfl; rfl; exact hbg) | (apply Zph; rfl; rfl; exact hmn) | (apply Zkv; rfl; rfl; rfl; omega; exact hm1; exact hm2; exact hex) | (apply Zg9; exact ⟨_, Tryz.underlying271⟩; rfl; exact .inl ⟨rfl, rfl⟩))) | (refine js ?_; (apply Zac (h := fun w' hw _ => hpu w' hw); rfl; rintro v O' ⟨⟨rfl, _, _⟩, rfl⟩)) | refine walk1 ?_)
      exact ⟨⟨k + 1, off + m⟩, OA, ⟨OA, ⟨by dsimp only; omega, by dsimp only; omega⟩, hi⟩, SFA, .nil⟩
  ·obtain rfl : k = 3 := by omega
   have hb3 : decide (((3 : Nat) : Int) < 3) = false := by decide
   rw [show us60.drop 3 = [] from rfl, ZfN] at hi
   repeat (first | (apply RL_pu; rfl; (apply Zbt; rfl; rfl; exact hb3)) | refine walk1 ?_)
   exact ⟨off, hi.symm, ⟨ho.1, OA⟩, SFA⟩
 rintro fr' O' ⟨o, rfl, ho, hfr⟩
 refine Zcu hfr .nil ?_
 clear hfr fr' O' hr0
 dsimp only
 obtain ⟨o2, ho2⟩ : ∃ o2, (if s.data.toList.head? = some 45 then -o else o) = o2 := ⟨_, rfl⟩
 rw [ho2]
 refine W_seq ?_
 refine ZzB (fun fr' O' => Sub [(0, .string s), (4, .int .i64 o2)] fr') ?_ ?_
 ·by_cases hm : s.data.toList.head? = some 45
  ·rw [if_pos hm] at ho2
   subst ho2
   rw [decide_eq_true hm] at hpre
   repeat (first | (apply RL_pu; rfl; (apply Zgz; rfl; (constructor <;> omega))) | (refine js ?_; (refine Zad (fun w' hw => hpre w') ?_)) | refine walk1 ?_)
   exact SFA
  ·rw [if_neg hm] at ho2
   subst ho2
   rw [decide_eq_false hm] at hpre
   repeat (first | (refine js ?_; (refine Zad (fun w' hw => hpre w') ?_)) | refine walk ?_)
   exact SFA
 intro fr' O' hfr
 refine Zcu hfr .nil ?_
 clear hfr fr' O' ho2
 have htx := fun w' => ZeG o2 w'
 by_cases hE : s.data.toList = []
 ·have hb : decide (s = ByteArray.empty) = true := decide_eq_true (hemp.2 hE)
  rw [if_pos (.inl (by rw [hE]; rfl))]
  repeat (first | (apply RL_pu; rfl; exact Zvt) | refine walk1 ?_)
  exact rtB
 ·have hb : decide (s = ByteArray.empty) = false := decide_eq_false (fun h => hE (hemp.1 h))
  by_cases ht : ZaS o2 = s.data.toList
  ·have hb2 : (!decide ((⟨(ZaS o2).toArray⟩ : ByteArray) = s)) = false := by
    rw [decide_eq_true (by rw [ht])]; rfl
   rw [if_neg (by rintro (h | h); exact hE (List.isEmpty_iff.1 h); exact h ht)]
   repeat (first | (apply RL_pu; rfl; exact Zvs) | (refine js ?_; (refine Zad (fun w' hw => htx w') ?_)) | refine walk1 ?_)
   exact rtB
  ·have hb2 : (!decide ((⟨(ZaS o2).toArray⟩ : ByteArray) = s)) = true := by
    rw [decide_eq_false (fun h => ht (by rw [<- h]))]; rfl
   rw [if_pos (.inr ht)]
   repeat (first | (apply RL_pu; rfl; exact Zvs) | (refine js ?_; (refine Zad (fun w' hw => htx w') ?_)) | refine walk1 ?_)
   exact rtB
open Go Go.RowKit Go.Wk Go.Lib
def I64 (n : Int) : Prop := -9223372036854775808 <= n /\ n <= 9223372036854775807
theorem ZnW (a b : Int) (ha : I64 a) (hb : I64 b) (w : World) : Does Tryz.prog 245 [.int .i64 a, .int .i64 b] w (fun v O => v = .tuple #[.int .i64 (IntKind.i64.wrap (a + b)), .bool (Zdr (a + b))] /\ O = []) := by
 unfold I64 at ha hb
 have hd : (decide (a < IntKind.i64.wrap (a + b)) == decide (0 < b)) = Zdr (a + b) := by
  unfold Zdr
  have hw : IntKind.i64.wrap (a + b) = if a + b < -9223372036854775808 then a + b + 18446744073709551616 else if 9223372036854775807 < a + b then a + b - 18446744073709551616 else a + b := by
   rw [IntKind.wrap_i64]
   repeat' split
   all_goals omega
  rw [hw]
  rw [Bool.eq_iff_iff]
  simp only [beq_iff_eq, Bool.and_eq_true, decide_eq_true_eq]
  rw [decide_eq_decide]
  repeat' split
  all_goals omega
 refine Zaa Tryz.func245 rfl rfl rfl rfl ?_
 repeat (first | (apply RL_pu; rfl; (apply ZlE; rfl; rfl)) | refine walk1 ?_)
 exact ret_2 _ _ [] (.tmp rfl) (.tmp rfl) .nil ⟨by rw [hd], rfl⟩
theorem ZtS (A : Option Addr) (c : Nat) (l : List ByteArray) (w : World) (hR : (It.row (.slice A l.length c) 9 1 l.length (l.flatMap ZaI)).sat w) (hn : l.length <= 1000000) (hlen : (Lib.join (l.map (·.data.toList)) [47]).length <= 140737488355328) :
  Does Tryz.prog 246 [.slice A l.length c, .string ⟨#[47]⟩] w (fun v O => v = .string ⟨(Lib.join (l.map (·.data.toList)) [47]).toArray⟩ /\ O = []) := by
 have hcl := fun j x hj => ZbP hR (u := x) (j := j) hj
 obtain ⟨hxl, ⟨hv, _⟩ | ⟨b, cap, cur, hval, hb0, hg, hmc, hcm, hsz, hcur⟩⟩ := id hR
 ·injection hv with h1 h2 h3
  obtain rfl := List.eq_nil_of_length_eq_zero h2
  subst h1 h3
  exact ZiY ((Any.strings_Join_none ZtT ZmI none 0 ⟨#[47]⟩ w).mono fun e w' ⟨he, hw⟩ => ⟨he, hw ▸ Below.refl _ _⟩)
 injection hval with hA h2 h3
 subst hA h3
 have hbw : b < w.heap.size := (Array.getElem?_eq_some_iff.1 hg).1
 exact ZiY (Any.strings_Join ZtT ZmI b 0 c l ⟨#[47]⟩ w (fun j x hj => by
  have hg := ZaF (enc := ZaI) (fun _ => rfl) l j x 0 (.string x) hj rfl
  have := (hcl _ _ hg).2
  rw [show adr (some (⟨b, 0, none⟩ : Addr)) = ⟨b, 0, none⟩ from rfl, Zcd] at this
  simpa using this) hbw (by omega) (by omega) hlen)
theorem Zk2 : ∀ (l : List (List UInt8)), Lib.join l [47] = Zb9 l
 | [] => rfl
 | [x] => by simp [Lib.join, Zb9]
 | x :: y :: l => by
  have ih := Zk2 (y :: l)
  unfold Lib.join at ih ⊢
  rw [show Zb9 (x :: y :: l) = x ++ 47 :: Zb9 (y :: l) from rfl, <- ih]
  simp [List.intercalate, List.intersperse]
def bsE (l : List (List UInt8)) : List ByteArray := l.map fun t => ⟨t.toArray⟩
theorem ZqM (l : List (List UInt8)) : (bsE l).map (·.data.toList) = l := by
 rw [bsE, List.map_map]
 exact (List.map_congr_left fun _ _ => rfl).trans (List.map_id l)
theorem Zh8 : ∀ (l : List (List UInt8)), (∀ t ∈ l, t.length <= 1000) -> (Zb9 l).length <= 1001 * l.length
 | [], _ => Nat.le_refl _
 | [x], h => by have := h x List.mem_cons_self; simp only [Zb9, List.length_cons, List.length_nil]; omega
 | x :: y :: l, h => by
  have ih := Zh8 (y :: l) fun t ht => h t (List.mem_cons_of_mem _ ht)
  have := h x List.mem_cons_self
  simp only [Zb9, List.length_append, List.length_cons] at ih ⊢
  omega
def jnV : Option (List (List UInt8)) -> Value
 | none => .tuple #[.string ByteArray.empty, .int .i64 3]
 | some r => .tuple #[.string ⟨(Zb9 r).toArray⟩, .int .i64 0]
structure JG where
 k : Nat
 A : Option Addr
 c : Nat
 m : Nat
 ys : List Value
 acc : List (List UInt8)
theorem Zh2 (n : Int) : (ZaS n).length <= 7 := by
 unfold ZaS
 split
 ·simp
 ·simp only [List.length_cons, List.length_append, dig2, List.length_nil]
  repeat' split
  all_goals simp
theorem Zvr {G : Prop} (h : G := by (first | exact PuI | (apply Zen; rfl; rfl; exact hb))) : G := h
theorem Ziz (A : Option Addr) (c : Nat) (off : Int) (xs : List Int) (w : World) (hA : RdSl w A c iEnc 1 xs) (hoff : I64 off) (hxs : ∀ x ∈ xs, I64 x) (hn : xs.length <= 1000000) :
  Does Tryz.prog 206 [.int .i64 off, .slice A xs.length c] w (fun v O => v = jnV (Zd7 off xs) /\ O = []) := by
 obtain ⟨res, hres⟩ : ∃ res, Zd7 off xs = res := ⟨_, rfl⟩
 rw [hres]
 refine Zaa Tryz.func206 rfl rfl rfl rfl ?_
 repeat (first | (refine js ?_; (refine bx ?_; intro bk)) | refine walk ?_)
 refine Zdu 9 1 ?_
 refine Zaq [(0, .int .i64 off), (12, .slice A xs.length c), (13, .int .i64 xs.length)] [] (fun g : JG => [(6, .slice g.A g.m g.c), (14, .int .i64 g.k)]) (fun g => [.row (.slice g.A g.m g.c) 9 1 g.m g.ys])
  (fun g => g.k <= xs.length /\ g.m = g.k /\ g.m = g.acc.length /\ g.ys = (bsE g.acc).flatMap ZaI /\ (∀ t ∈ g.acc, t.length <= 1000) /\ (Zd7 off (xs.drop g.k)).map (g.acc ++ ·) = res) (fun g => xs.length - g.k) ⟨0, none, 0, 0, [], []⟩ SFA SOA ⟨Nat.zero_le _, rfl, rfl, rfl, nofun, by rw [<- hres]; dsimp only; rw [List.drop_zero]; cases Zd7 off xs <;> rfl⟩ ?_
 rintro ⟨k, A1, c1, m, ys, acc⟩ ⟨hk, hmk, hm, hy, ht, hi⟩
 dsimp only at hk hmk hm hy ht hi ⊢
 repeat (first | (refine js ?_; (refine bx ?_; intro bk)) | refine walk ?_)
 refine Zah rfl (fun hc => ?_) (fun hc => ?_)
 ·simp only [decide_eq_true_eq, Int.ofNat_lt] at hc
  obtain ⟨hna, hca⟩ := hA.rd k _ (List.getElem?_eq_getElem hc)
  have hxk := hxs _ (List.getElem_mem hc)
  rw [Zan hc, Zd7] at hi
  generalize xs[k] = x at *
  have hsm := fun w' => ZnW off x hoff hxk w'
  have htl := Zh2 (off + x)
  cases hok : Zdr (off + x) with
  | false =>
   rw [if_pos (.inl hok)] at hi
   subst hi
   rw [hok] at hsm
   have htx := fun w' => ZeG (IntKind.i64.wrap (off + x)) w'
   repeat (first | (apply RL_pu; rfl; exact PuI) | (refine js ?_; (first | (refine Zad (fun w' hw => hsm w') ?_) | (refine Zad (fun w' hw => htx w') ?_) | (refine bx ?_; intro bk))) | refine walk1 ?_)
   exact rtB
  | true =>
   have hwr : IntKind.i64.wrap (off + x) = off + x := ZbU (by simpa [Zdr] using hok)
   rw [hok, hwr] at hsm
   have htx := fun w' => ZeG (off + x) w'
   generalize ZaS (off + x) = tt at *
   by_cases he : tt = []
   ·rw [if_pos (.inr he)] at hi
    subst hi
    subst he
    have hb : decide ((⟨([] : List UInt8).toArray⟩ : ByteArray) = ByteArray.empty) = true := by decide
    repeat (first | (apply RL_pu; rfl; exact Zvr) | (refine js ?_; (first | (refine Zad (fun w' hw => hsm w') ?_) | (refine Zad (fun w' hw => htx w') ?_) | (refine bx ?_; intro bk))) | refine walk1 ?_)
    exact rtB
   ·rw [if_neg (by rintro (h | h); rw [hok] at h; cases h; exact he h)] at hi
    have hb : decide ((⟨tt.toArray⟩ : ByteArray) = ByteArray.empty) = false := decide_eq_false (fun h => he (by simpa using congrArg (fun b : ByteArray => b.data.toList) h))
    repeat (first | (apply RL_pu; rfl; exact Zvr) | (refine js ?_; (first | (refine Zad (fun w' hw => hsm w') ?_) | (refine Zad (fun w' hw => htx w') ?_) | (apply ZaC; rfl; rfl; (intro A' c'; (focus repeat' constructor)); (intro w' _ hO; exact ZbD (hO.of (by repeat' constructor))); rfl; rfl; (simp only [maxLen]; omega); omega; intro A' c' hc1 hc2 hc3) | (refine bx ?_; intro bk))) | refine walk1 ?_)
    exact ⟨⟨k + 1, A', c', m + 1, ys ++ [.string ⟨tt.toArray⟩], acc ++ [tt]⟩, OA, ⟨OA, OA, by simp [hm], by rw [hy]; simp [bsE, ZaI], by
     intro t htm
     rcases List.mem_append.1 htm with h | h
     ·exact ht t h
     ·simp only [List.mem_singleton] at h; subst h; omega, by
     rw [<- hi]
     cases Zd7 off (xs.drop (k + 1)) with
     | none => rfl
     | some r => simp⟩, SFA, SOA⟩
 ·simp only [decide_eq_false_iff_not, Int.ofNat_lt] at hc
  rw [List.drop_eq_nil_of_le (by omega), Zd7] at hi
  simp only [Option.map_some, List.append_nil] at hi
  subst hi hy
  have hbl : (bsE acc).length = m := by rw [hm]; simp [bsE]
  have hj := fun w' h => ZtS A1 c1 (bsE acc) w' h (by omega) (by
   rw [ZqM, Zk2]
   have := Zh8 acc ht
   omega)
  rw [ZqM, Zk2, hbl] at hj
  repeat (first | (refine js ?_; (first | (refine ZaW (fun w' hw hO => hj w' (hO.of (A := .row (.slice A1 m c1) 9 1 m ((bsE acc).flatMap ZaI)) (by repeat' constructor))) ?_) | (refine bx ?_; intro bk))) | refine walk ?_)
  exact rtB
def xpV (x : List UInt8 × Int) : Value := .tuple #[.string ⟨x.1.toArray⟩, .int .i64 x.2]
theorem ZjT : ∀ (l : List DRule) (x : Int), (∀ r ∈ l, I64 r.save) -> I64 x -> I64 (ZcP l x).1
 | [], _, _, hx => hx
 | r :: l, x, h, hx => by
  have hr := h r List.mem_cons_self
  have ht := fun y => ZjT l y fun s hs => h s (List.mem_cons_of_mem _ hs)
  unfold ZcP
  split
  ·exact ht x hx
  ·split
   ·exact ⟨by decide, by decide⟩
   ·exact ht _ hr
def anyS (l : List DRule) : Bool := l.any fun r => !decide (r.save = 0)
theorem Zps {G : Prop} (h : G := by (apply ZaH; rfl; rfl; exact hb0)) : G := h
theorem ZlH {G : Prop} (h : G := by (first | exact Zps | (apply ZaH; rfl; rfl; exact hb1))) : G := h
theorem ZfR (e : DEra) (A : Option Addr) (c : Nat) (l : List DRule) (w : World) (hA : RdSl w A c DRule.enc 11 l) (ho : I64 e.off) (hs : I64 e.save) (hr : ∀ r ∈ l, I64 r.save) (hn : l.length <= 1000000) :
  Does Tryz.prog 177 [.agg e.enc.toArray, .slice A l.length c] w (fun v O => v = xpV (Zba e l) /\ O = []) := by
 have h1 := fun (x : Int) (hx : I64 x) (bk : Nat) w' (hc : Zam w' ⟨bk, 0, none⟩ [.int .i64 x]) => Ziz (some ⟨bk, 0, none⟩) 1 e.off [x] w' (ZoP (fun _ => rfl) (Nat.le_refl 1) (by decide) hc) ho (fun y hy => by simp only [List.mem_singleton] at hy; subst hy; exact hx) (by simp)
 have h2 := fun (x : Int) (hx : I64 x) (bk : Nat) w' (hc : Zam w' ⟨bk, 0, none⟩ [.int .i64 0, .int .i64 x]) => Ziz (some ⟨bk, 0, none⟩) 2 e.off [0, x] w' (ZoP (fun _ => rfl) (Nat.le_refl 2) (by decide) hc) ho (fun y hy => by
  simp only [List.mem_cons, List.not_mem_nil, or_false] at hy
  rcases hy with rfl | rfl
  ·exact ⟨by decide, by decide⟩
  ·exact hx) (by simp)
 have hot := fun w' (hw : Bel w.heap.size w w') => ZgN A c l w' (hA.up hw)
 have hx := ZjT l 0 hr ⟨by decide, by decide⟩
 rw [show ZcP l 0 = Zbg l from rfl] at hx
 obtain ⟨off, kind, save, set, format, til⟩ := e
 unfold Zba
 dsimp only at ho hs h1 h2 ⊢
 refine Zaa Tryz.func177 rfl rfl rfl rfl ?_
 simp only [DEra.enc]
 by_cases hk0 : kind = 0
 ·subst hk0
  rw [if_pos rfl]
  have hj1 := h1 0 ⟨by decide, by decide⟩
  generalize Zd7 off [0] = j at *
  cases j with
  | none =>
   simp only [jnV] at hj1
   repeat (first | (refine js ?_; (first | (apply Zac (h := fun w' _ hH => hj1 _ w' (hH.cells (by repeat' constructor))); rfl; rintro v O' ⟨rfl, rfl⟩) | (refine bx ?_; intro bk))) | refine walk ?_)
   exact rtB
  | some r =>
   simp only [jnV] at hj1
   repeat (first | (refine js ?_; (first | (apply Zac (h := fun w' _ hH => hj1 _ w' (hH.cells (by repeat' constructor))); rfl; rintro v O' ⟨rfl, rfl⟩) | (refine bx ?_; intro bk))) | refine walk ?_)
   exact rtB
 have hb0 : decide (kind = 0) = false := decide_eq_false hk0
 rw [if_neg hk0]
 by_cases hk1 : kind = 1
 ·subst hk1
  rw [if_pos rfl]
  have hj1 := h1 save hs
  generalize Zd7 off [save] = j at *
  cases j with
  | none =>
   simp only [jnV] at hj1
   repeat (first | (apply RL_pu; rfl; exact Zps) | (refine js ?_; (first | (apply Zac (h := fun w' _ hH => hj1 _ w' (hH.cells (by repeat' constructor))); rfl; rintro v O' ⟨rfl, rfl⟩) | (refine bx ?_; intro bk))) | refine walk1 ?_)
   exact rtB
  | some r =>
   simp only [jnV] at hj1
   repeat (first | (apply RL_pu; rfl; exact Zps) | (refine js ?_; (first | (apply Zac (h := fun w' _ hH => hj1 _ w' (hH.cells (by repeat' constructor))); rfl; rintro v O' ⟨rfl, rfl⟩) | (refine bx ?_; intro bk))) | refine walk1 ?_)
   exact rtB
 have hb1 : decide (kind = 1) = false := decide_eq_false hk1
 rw [if_neg hk1]
 by_cases hk2 : kind = 2
 ·subst hk2
  rw [if_pos rfl]
  generalize Zbg l = od at *
  obtain ⟨ox, ob⟩ := od
  dsimp only at hx hot ⊢
  cases ob with
  | true =>
   have hj1 := h2 ox hx
   rw [if_pos rfl]
   generalize Zd7 off [0, ox] = j at *
   cases j with
   | none =>
    simp only [jnV] at hj1
    repeat (first | (apply RL_pu; rfl; exact ZlH) | (refine js ?_; (first | (refine Zad hot ?_) | (apply Zac (h := fun w' _ hH => hj1 _ w' (hH.cells (by repeat' constructor))); rfl; rintro v O' ⟨rfl, rfl⟩) | (refine bx ?_; intro bk))) | refine walk1 ?_)
    exact rtB
   | some r =>
    simp only [jnV] at hj1
    repeat (first | (apply RL_pu; rfl; exact ZlH) | (refine js ?_; (first | (refine Zad hot ?_) | (apply Zac (h := fun w' _ hH => hj1 _ w' (hH.cells (by repeat' constructor))); rfl; rintro v O' ⟨rfl, rfl⟩) | (refine bx ?_; intro bk))) | refine walk1 ?_)
    exact rtB
  | false =>
   rw [if_neg (by decide)]
   obtain ⟨an, han⟩ : ∃ an, anyS l = an := ⟨_, rfl⟩
   rw [show (l.any fun r => !decide (r.save = 0)) = an from han]
   repeat (first | (apply RL_pu; rfl; exact ZlH) | (refine js ?_; (first | (refine Zad hot ?_) | (refine bx ?_; intro bk))) | refine walk1 ?_)
   obtain ⟨b2, hb2⟩ : ∃ b2, bk = b2 := ⟨_, rfl⟩
   rw [hb2]
   clear hb2 bk
   refine Zaq [(2, .pointer (some ⟨b2, 0, none⟩)), (45, .slice A l.length c), (46, .int .i64 l.length)] [.blk b2 [.int .i64 off, .int .i64 2, .int .i64 save, .string set, .string format, .bool til.is, .int .i64 til.year, .int .i64 til.month, .int .i64 til.day.kind, .int .i64 til.day.week, .int .i64 til.day.day, .int .i64 til.at_.sec, .int .i64 til.at_.base] 54] (fun k : Nat => [(47, .int .i64 k)]) (fun _ => []) (fun k => k <= l.length /\ anyS (l.drop k) = an) (fun k => l.length - k) 0 SFA SOA ⟨Nat.zero_le _, han⟩ ?_
   rintro k ⟨hk, hi⟩
   repeat (first | (refine js ?_; (refine bx ?_; intro bk)) | refine walk ?_)
   refine Zah rfl (fun hc => ?_) (fun hc => ?_)
   ·simp only [decide_eq_true_eq, Int.ofNat_lt] at hc
    obtain ⟨hna, hca⟩ := hA.rd k _ (List.getElem?_eq_getElem hc)
    rw [Zan hc, anyS, List.any_cons] at hi
    generalize l[k] = r at *
    repeat (first | (apply RL_pu; rfl; exact PuI) | (refine js ?_; (refine bx ?_; intro bk)) | refine walk1 ?_)
    refine Zah rfl (fun h3 => ?_) (fun h3 => ?_)
    ·rw [h3] at hi
     simp only [Bool.true_or] at hi
     subst hi
     rw [if_pos rfl]
     repeat (first | (refine js ?_; (refine bx ?_; intro bk)) | refine walk ?_)
     exact rtB
    ·rw [h3, Bool.false_or] at hi
     repeat (first | (refine js ?_; (refine bx ?_; intro bk)) | refine walk ?_)
     exact ⟨k + 1, OA, ⟨OA, hi⟩, SFA, SOA⟩
   ·simp only [decide_eq_false_iff_not, Int.ofNat_lt] at hc
    rw [List.drop_eq_nil_of_le (by omega)] at hi
    subst hi
    rw [show anyS [] = false from rfl, if_neg (by decide)]
    have hj1 := h1 0 ⟨by decide, by decide⟩
    generalize Zd7 off [0] = j at *
    cases j with
    | none =>
     simp only [jnV] at hj1
     repeat (first | (refine js ?_; (first | (apply Zac (h := fun w' _ hH => hj1 _ w' (hH.cells (by repeat' constructor))); rfl; rintro v O' ⟨rfl, rfl⟩) | (refine bx ?_; intro bk))) | refine walk ?_)
     exact rtB
    | some r =>
     simp only [jnV] at hj1
     repeat (first | (refine js ?_; (first | (apply Zac (h := fun w' _ hH => hj1 _ w' (hH.cells (by repeat' constructor))); rfl; rintro v O' ⟨rfl, rfl⟩) | (refine bx ?_; intro bk))) | refine walk ?_)
     exact rtB
 have hb2 : decide (kind = 2) = false := decide_eq_false hk2
 rw [if_neg hk2]
 repeat (first | (apply RL_pu; rfl; (first | exact ZlH | (apply ZaH; rfl; rfl; exact hb2))) | (refine js ?_; (refine bx ?_; intro bk)) | refine walk1 ?_)
 exact rtB
end Go.Proofs.YtbjomhdhkpgbaaaGreatDoor
