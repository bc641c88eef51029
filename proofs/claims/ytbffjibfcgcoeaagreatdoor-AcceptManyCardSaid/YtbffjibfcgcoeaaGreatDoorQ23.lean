/- Contracts of library functions, by the shelf: strings.Cut, HasPrefix, IndexFunc, Join, strconv.ParseUint. Contracts: numeric.Text. Contracts: numeric.Parse. -/
import Derived.Lib.TrimUEq
import Derived.Lib.SmallJoins
import Derived.Test.YtbffjibfcgcoeaaGreatDoorQ19
import Derived.Test.YtbffjibfcgcoeaaGreatDoorQ22
import Derived.Test.YtbffjibfcgcoeaaGreatDoorQ11
set_option linter.unusedVariables false
set_option linter.unusedSimpArgs false
namespace Go.Wk
open Go Go.RowKit Go.Lib
theorem does_of {P : Program} {f : FuncId} {args : List Value} {w : World} {v : Value} (h : Calls P f args.toArray w fun e w' => e = .returned v ∧ Below w.heap.size w w') : Does P f args w fun v' O => v' = v ∧ O = [] :=
  h.mono fun _ _ ⟨he, hb⟩ => ⟨v, [], he, ⟨hb⟩, Holds.nil _ _, rfl, rfl⟩
theorem belDrew (B : Nat) (w : World) (n : Nat) : Below B w (w.drewN n) := ⟨rfl, rfl, rfl, Nat.le_refl _, fun _ _ => rfl⟩
theorem idx_let (s : ByteArray) : ∀ (f pos : Nat), s.size ≤ pos + f → (idxFuncFrom (fun r => notLet (r : Int)) true s f pos < 0 ↔ letterL (s.data.toList.drop pos) = true)
  | 0, pos, h => by
    rw [List.drop_eq_nil_of_le (by simpa using h)]
    simp [idxFuncFrom, letterL]
  | f + 1, pos, h => by
    unfold idxFuncFrom
    by_cases hp : pos < s.size
    · rw [if_pos hp]
      have hp' : pos < s.data.toList.length := by simpa using hp
      rw [List.drop_eq_getElem_cons hp', letterL, List.all_cons]
      have hg : s.get! pos = s.data.toList[pos] := by
        rw [Array.getElem_toList]
        show s.data[pos]! = _
        rw [getElem!_pos s.data pos (by simpa using hp')]
      have ih := idx_let s f (pos + 1) (by omega)
      unfold letterL at ih
      have hd : (s.data.toList[pos].toNat < 128 ∧ Utf8.decode s pos = (s.data.toList[pos].toNat, 1)) ∨ (128 ≤ s.data.toList[pos].toNat ∧ 128 ≤ (Utf8.decode s pos).1) := by
        unfold Utf8.decode
        simp only [Nat.add_zero, hg]
        generalize s.data.toList[pos].toNat = b
        by_cases hb : b < 128
        · exact .inl ⟨hb, by rw [if_pos hb]⟩
        · refine .inr ⟨by omega, ?_⟩
          rw [if_neg hb]
          repeat' split
          all_goals first | (simp only [Utf8.runeError]; omega) | (dsimp only; omega) | (dsimp only; simp only [Bool.and_eq_true, decide_eq_true_eq, ge_iff_le] at *; omega) | decide
      generalize s.data.toList[pos] = b at *
      rcases hd with ⟨hb, hd⟩ | ⟨hb, hd⟩
      · rw [hd]
        dsimp only
        by_cases hl : notLet (b.toNat : Int) = true
        · rw [if_pos hl]
          have : decide (byteK b.toNat = 1) = false := by
            unfold notLet at hl
            simp only [Bool.and_eq_true, Bool.or_eq_true, decide_eq_true_eq] at hl
            unfold byteK
            rw [if_neg (by omega)]
            repeat' split
            all_goals decide
          rw [this]
          simp
        · rw [if_neg hl, ih]
          have : decide (byteK b.toNat = 1) = true := by
            unfold notLet at hl
            simp only [Bool.and_eq_true, Bool.or_eq_true, decide_eq_true_eq] at hl
            unfold byteK
            rw [if_pos (by omega)]
            rfl
          rw [this, Bool.true_and]
      · have hl : notLet ((Utf8.decode s pos).1 : Int) = true := by
          unfold notLet
          simp only [Bool.and_eq_true, Bool.or_eq_true, decide_eq_true_eq]
          omega
        rw [if_pos hl]
        have : decide (byteK b.toNat = 1) = false := by
          unfold byteK
          rw [if_neg (by omega)]
          repeat' split
          all_goals decide
        rw [this]
        simp
    · rw [if_neg hp, List.drop_eq_nil_of_le (by simpa using hp)]
      simp [letterL]
/-- What ParseUint makes of one or two bytes. -/
theorem parse8_eq : ∀ (l : List UInt8), l.length ≤ 2 → (match numU l with | some n => ∃ u : Nat, parseUintB 8 l = .ok u ∧ n = u ∧ u ≤ 99 | none => parseUintB 8 l = .syntax)
  | [], _ => rfl
  | [a], _ => by
    unfold numU parseUintB
    simp only [parseUintM, List.isEmpty_cons, Bool.false_eq_true, if_false, List.all_cons, List.all_nil, Bool.and_true, List.foldl_cons, List.foldl_nil, reduceCtorEq]
    by_cases h : 48 ≤ a ∧ a ≤ 57
    · have h1 : 48 ≤ a.toNat ∧ a.toNat ≤ 57 := ⟨UInt8.le_iff_toNat_le.1 h.1, UInt8.le_iff_toNat_le.1 h.2⟩
      rw [if_pos (by simp [h.1, h.2]), if_pos h1]
      dsimp only
      refine ⟨_, by rw [if_neg (by omega), if_neg (by omega)], by omega, by omega⟩
    · have h1 : ¬ (48 ≤ a.toNat ∧ a.toNat ≤ 57) := fun hh => h ⟨UInt8.le_iff_toNat_le.2 hh.1, UInt8.le_iff_toNat_le.2 hh.2⟩
      rw [if_neg (by simpa using h), if_neg h1]
  | [a, b], _ => by
    unfold numU parseUintB
    simp only [parseUintM, List.isEmpty_cons, Bool.false_eq_true, if_false, List.all_cons, List.all_nil, Bool.and_true, List.foldl_cons, List.foldl_nil, reduceCtorEq]
    by_cases h : 48 ≤ a ∧ a ≤ 57
    · have h1 : 48 ≤ a.toNat ∧ a.toNat ≤ 57 := ⟨UInt8.le_iff_toNat_le.1 h.1, UInt8.le_iff_toNat_le.1 h.2⟩
      by_cases h' : 48 ≤ b ∧ b ≤ 57
      · have h2 : 48 ≤ b.toNat ∧ b.toNat ≤ 57 := ⟨UInt8.le_iff_toNat_le.1 h'.1, UInt8.le_iff_toNat_le.1 h'.2⟩
        rw [if_pos (by simp [h.1, h.2, h'.1, h'.2]), if_pos h1, if_neg (by omega), if_neg (by omega), if_pos h2]
        dsimp only
        refine ⟨_, by rw [if_neg (by omega), if_neg (by omega)], by omega, by omega⟩
      · have h2 : ¬ (48 ≤ b.toNat ∧ b.toNat ≤ 57) := fun hh => h' ⟨UInt8.le_iff_toNat_le.2 hh.1, UInt8.le_iff_toNat_le.2 hh.2⟩
        rw [if_neg (by intro hh; simp only [Bool.and_eq_true, decide_eq_true_eq] at hh; exact h' hh.2), if_pos h1, if_neg (by omega), if_neg (by omega), if_neg h2]
    · have h1 : ¬ (48 ≤ a.toNat ∧ a.toNat ≤ 57) := fun hh => h ⟨UInt8.le_iff_toNat_le.2 hh.1, UInt8.le_iff_toNat_le.2 hh.2⟩
      rw [if_neg (by intro hh; simp only [Bool.and_eq_true, decide_eq_true_eq] at hh; exact h hh.1), if_neg h1]
  | _ :: _ :: _ :: _, h => by simp only [List.length_cons] at h; omega
end Go.Wk
namespace Go.Proofs.YtbffjibfcgcoeaaGreatDoor
open Go Go.RowKit Go.Wk Go.Lib
/-- What the library's own variables must hold. -/
structure LibW (w : World) : Prop where
  mxl : ∃ m, w.cell? ⟨cutLay_ren.g 1, 0, none⟩ = some (.int .i64 m)
  syn : ∃ ev, w.cell? ⟨puLay_ren.g 0, 0, none⟩ = some ev ∧ (ev = .nilIface ∨ ∃ te pe, ev = .iface te pe)
theorem cut_spec (s p : ByteArray) (w : World) (hL : LibW w) (hs : s.size < 4294967281) :
    Does Tryz.prog 136 [.string s, .string p] w (fun v O => v = .tuple #[.string ⟨(cutV s.data.toList p.data.toList).1.toArray⟩, .string ⟨(cutV s.data.toList p.data.toList).2.1.toArray⟩, .bool (cutV s.data.toList p.data.toList).2.2] ∧ O = []) := by
  obtain ⟨m, hm⟩ := hL.mxl
  rw [← cutV_eq]
  exact does_of ((Any.strings_Cut { cutLay with } s p m w hs hm).mono fun e w' ⟨he, n, hw⟩ => ⟨he, hw ▸ belDrew _ _ _⟩)
theorem pref_spec (s p : ByteArray) (w : World) : Does Tryz.prog 243 [.string s, .string p] w (fun v O => v = .bool (p.data.toList.isPrefixOf s.data.toList) ∧ O = []) :=
  does_of ((Any.strings_HasPrefix prefLay s p w).mono fun e w' ⟨he, hw⟩ => ⟨he, hw ▸ Below.refl _ _⟩)
theorem around1_l (c : Int) (w : World) : Calls Tryz.prog 139 #[.int .i32 c] w fun e w' => e = .returned (.bool (notLet c)) ∧ ∃ q, w' = w.drewN q := by
  go_enter Tryz.func139, Tryz.ntmps139
  go_wp2
  all_goals go_ret
  all_goals refine ⟨congrArg Ending.returned (congrArg Value.bool (?_ : _ = notLet c)), 0, rfl⟩
  all_goals unfold notLet
  all_goals first | rfl | (simp [*]; done) | (simp_all; done) | (simp_all; omega)
theorem ixf_spec (s : ByteArray) (w : World) : Does Tryz.prog 138 [.string s, .func (.func 139) #[] #[]] w (fun v O => v = .int .i64 (idxFunc (fun r => notLet (r : Int)) true s) ∧ O = []) :=
  does_of (Any.strings_IndexFunc_runes ixfLay 139 #[] (enters_of Tryz.func139 (by kernel_rfl) rfl) (fun r => notLet (r : Int)) s w (fun W x _ _ => by unfold FnGives; simpa using around1_l x W))
theorem pu8_spec (s : ByteArray) (w : World) (hL : LibW w) (hs : s.size ≤ 2) :
    Does Tryz.prog 242 [.string s, .int .i64 10, .int .i64 8] w (fun v O => (match numU s.data.toList with | some n => v = .tuple #[.int .u64 n, .nilIface] ∧ 0 ≤ n ∧ n ≤ 99 | none => ∃ t p, v = .tuple #[.int .u64 0, .iface t (.pointer p)]) ∧ O = []) := by
  have h := parse8_eq s.data.toList (by simpa using hs)
  cases hn : numU s.data.toList with
  | none =>
    rw [hn] at h
    obtain ⟨ev, h1, h2⟩ := hL.syn
    exact (Any.strconv_ParseUint_10_at8_syntax puLay s (by omega) h ev w h1 h2).mono fun e w' ⟨N, he, _, _, hb⟩ => ⟨_, [], he, ⟨hb⟩, Holds.nil _ _, ⟨_, _, rfl⟩, rfl⟩
  | some n =>
    rw [hn] at h
    obtain ⟨u, h1, rfl, h3⟩ := h
    exact (Any.strconv_ParseUint_10_at8_ok puLay s (by omega) u h1 w).mono fun e w' ⟨he, hb⟩ => ⟨_, [], he, ⟨by rcases hb with rfl | rfl; exact Below.refl _ _; exact Go.Joins.below_bytesWorld _ _ _ _ (Nat.le_refl _)⟩, Holds.nil _ _, ⟨rfl, by omega, by omega⟩, rfl⟩
end Go.Proofs.YtbffjibfcgcoeaaGreatDoor

namespace Go.Wk
open Go Go.RowKit
theorem dig2_V (n : Int) (h0 : 0 ≤ n) (h1 : n ≤ 99) : (dig2 n).map byteV = [.int .u8 (48 + n / 10), .int .u8 (48 + n % 10)] := by
  have a : (UInt8.ofNat (48 + (n / 10).toNat)).toNat = 48 + (n / 10).toNat := by rw [UInt8.toNat_ofNat']; omega
  have b : (UInt8.ofNat (48 + (n % 10).toNat)).toNat = 48 + (n % 10).toNat := by rw [UInt8.toNat_ofNat']; omega
  simp only [dig2, List.map_cons, List.map_nil, byteV, a, b]
  congr 2
  · congr 1; omega
  · congr 2; omega
def signB (off : Int) : UInt8 := if off < 0 then 45 else 43
def signV (off : Int) : Int := if off < 0 then 45 else 43
/-- So many parts of a number. -/
def partN (p q r : Int) : Nat := if r ≠ 0 then 3 else if q ≠ 0 then 2 else 1
theorem textN_eq (off : Int) (h0 : -86400 < off) (h1 : off < 86400) (x : Int) (hx : (if off < 0 then -off else off) = x) : textN off = signB off :: (([x / 3600, x / 60 % 60, x % 60].take (partN (x / 3600) (x / 60 % 60) (x % 60))).flatMap dig2) := by
  unfold textN
  rw [if_neg (by omega)]
  simp only [hx, signB]
  congr 1
  unfold partN
  by_cases h2 : x % 60 = 0
  · by_cases h3 : x / 60 % 60 = 0
    · have : x % 3600 = 0 := by omega
      simp [h2, h3, this]
    · have : ¬ x % 3600 = 0 := by omega
      simp [h2, h3, this]
  · have : ¬ x % 3600 = 0 := by omega
    simp [h2, this]
section
variable {P : Program} {n : Nat} {wr : World} {fr : Fr} {O : List It} {ty : TypeId}
/-- An array's value. -/
theorem Pu_buildArr {t len e sz : Nat} {ag : Bool} {ps : List (Nat × Operand)} {vs : List (Nat × Value)} {z cs cs' : List Value} [hA : ArrT P t len e sz ag] [hz : ZeroT P t z] (hx : evpO fr ps = some vs) (hb : bld (places len sz) z vs = some cs) (hn : Nf cs cs') :
    Pu P n wr fr O (.build t ps.toArray) ty (.agg cs'.toArray) := by
  rw [← hn.eq]
  intro a w hs _ _ _ _
  have h := hz.h
  unfold zeroChk at h
  split at h
  · rename_i i hi
    split at h
    · rename_i zv hzv
      simp only [Option.some.injEq] at h
      subst h
      have h := hA.h
      unfold arrChk at h
      split at h
      · rename_i len' e' hu
        split at h
        · rename_i sz' ag' ht
          simp only [Option.some.injEq, Prod.mk.injEq] at h
          obtain ⟨rfl, rfl, rfl, rfl⟩ := h
          obtain ⟨inf, dd, hinf, hsz, _, _⟩ := Ty.parts ht
          have hf := fill_bldS sz' len' vs zv.cells.toList cs hb
          have hf' : Instr.fill (fun i => some (i * sz', sz')) zv.cells vs = some cs.toArray := by simpa using hf
          have hps : (Array.map (fun (x : Nat × Operand) => (x.1, a.eval x.2)) ps.toArray).toList = vs := by simpa using hs.sim.evpO hx
          simp only [execOp, Instr.build, Sem.run_bind, zeroValue, run_typeInfo hi, Result.andThen_ok, hzv, Sem.run_pure, run_underlying hu, sizeOf, run_typeInfo hinf, hsz]
          rw [hps]
          simp [hf']
        · cases h
      · cases h
    · cases h
  · cases h
end
end Go.Wk
namespace Go.Proofs.YtbffjibfcgcoeaaGreatDoor
open Go Go.RowKit Go.Wk
attribute [local irreducible] W RL Does thenQ blockQ retQ Calls Pu Stp RD Qy Ay DoesIn RW
structure TG where
  k : Nat
  A : Option Addr
  c : Nat
  xs : List Value
theorem text_spec (off : Int) (w : World) : Does Tryz.prog 79 [.int .i64 off] w (fun v O => v = .string ⟨(textN off).toArray⟩ ∧ O = []) := by
  refine Does_of_W Tryz.func79 rfl rfl rfl rfl ?_
  repeat (first | (apply RL_st; rfl; (first | (apply Stp_alloc; intro bk) | (apply Stp_buildSliceC; rfl; rfl; rfl; rfl; (focus repeat (first | exact Nf.nil | apply Nf.cons)); intro bk))) | refine walk ?_)
  refine W_scope (fun _ _ _ => goto_ret) ?_
  by_cases hlo : off ≤ -86400
  · have e : textN off = [] := by unfold textN; rw [if_pos (.inl hlo)]
    rw [e]
    have hb : decide (off ≤ -86400) = true := decide_eq_true hlo
    repeat (first | (apply RL_pu; rfl; (apply Pu_leqB; rfl; rfl; exact hb)) | (apply RL_st; rfl; (first | (apply Stp_alloc; intro bk) | (apply Stp_buildSliceC; rfl; rfl; rfl; rfl; (focus repeat (first | exact Nf.nil | apply Nf.cons)); intro bk))) | refine walk1 ?_)
    exact ret_1 _ [] (.tmp rfl) .nil ⟨rfl, rfl⟩
  have hb : decide (off ≤ -86400) = false := decide_eq_false hlo
  by_cases hhi : 86400 ≤ off
  · have e : textN off = [] := by unfold textN; rw [if_pos (.inr hhi)]
    rw [e]
    have hb2 : decide (86400 ≤ off) = true := decide_eq_true hhi
    repeat (first | (apply RL_pu; rfl; (first | (apply Pu_leqB; rfl; rfl; exact hb) | (apply Pu_geqB; rfl; rfl; exact hb2))) | (apply RL_st; rfl; (first | (apply Stp_alloc; intro bk) | (apply Stp_buildSliceC; rfl; rfl; rfl; rfl; (focus repeat (first | exact Nf.nil | apply Nf.cons)); intro bk))) | refine walk1 ?_)
    exact ret_1 _ [] (.tmp rfl) .nil ⟨rfl, rfl⟩
  have hb2 : decide (86400 ≤ off) = false := decide_eq_false hhi
  obtain ⟨x, hx⟩ : ∃ x, (if off < 0 then -off else off) = x := ⟨_, rfl⟩
  have hx0 : 0 ≤ x ∧ x < 86400 := by split at hx <;> omega
  have hsg : byteV (signB off) = .int .u8 (signV off) := by unfold byteV signB signV; split <;> rfl
  rw [textN_eq off (by omega) (by omega) x hx]
  generalize signB off = sb at hsg ⊢
  obtain ⟨sg, hsg2⟩ : ∃ sg, signV off = sg := ⟨_, rfl⟩
  rw [hsg2] at hsg
  repeat (first | (apply RL_pu; rfl; (first | (apply Pu_leqB; rfl; rfl; exact hb) | (apply Pu_geqB; rfl; rfl; exact hb2))) | (apply RL_st; rfl; (first | (apply Stp_alloc; intro bk) | (apply Stp_buildSliceC; rfl; rfl; rfl; rfl; (focus repeat (first | exact Nf.nil | apply Nf.cons)); intro bk))) | refine walk1 ?_)
  refine W_post (fun fr' O' => Sub [(0, .int .i64 x), (3, .int .u8 sg)] fr') ?_ ?_
  · refine W_cond rfl (fun hc => ?_) (fun hc => ?_)
    · have hneg := of_decide_eq_true hc
      rw [if_pos hneg] at hx
      subst hx
      obtain rfl : sg = 45 := by rw [← hsg2, signV, if_pos hneg]
      repeat (first | (apply RL_pu; rfl; (apply Pu_neg64; rfl; (constructor <;> omega))) | (apply RL_st; rfl; (first | (apply Stp_alloc; intro bk) | (apply Stp_buildSliceC; rfl; rfl; rfl; rfl; (focus repeat (first | exact Nf.nil | apply Nf.cons)); intro bk))) | refine walk1 ?_)
      exact ⟨rfl, (by repeat (first | exact trivial | refine ⟨rfl, ?_⟩))⟩
    · have hneg := of_decide_eq_false hc
      rw [if_neg hneg] at hx
      subst hx
      obtain rfl : sg = 43 := by rw [← hsg2, signV, if_neg hneg]
      repeat (first | (apply RL_st; rfl; (first | (apply Stp_alloc; intro bk) | (apply Stp_buildSliceC; rfl; rfl; rfl; rfl; (focus repeat (first | exact Nf.nil | apply Nf.cons)); intro bk))) | refine walk ?_)
      exact ⟨rfl, (by repeat (first | exact trivial | refine ⟨rfl, ?_⟩))⟩
  intro fr' O' hfr
  refine thenQ_n ?_
  refine W_sub hfr .nil ?_
  have hp0 : 0 ≤ x / 3600 ∧ x / 3600 ≤ 99 := by omega
  have hp1 : 0 ≤ x / 60 % 60 ∧ x / 60 % 60 ≤ 99 := by omega
  have hp2 : 0 ≤ x % 60 ∧ x % 60 ≤ 99 := by omega
  repeat (first | (apply RL_pu; rfl; (first | (apply Pu_quo64; rfl; rfl; omega; omega; decide) | (apply Pu_remE; rfl; rfl; omega; decide) | (apply Pu_buildArr; rfl; rfl; (focus repeat (first | exact Nf.nil | apply Nf.cons))))) | (apply RL_st; rfl; (first | (apply Stp_alloc; intro bk) | (apply Stp_buildSliceC; rfl; rfl; rfl; rfl; (focus repeat (first | exact Nf.nil | apply Nf.cons)); intro bk))) | refine walk1 ?_)
  generalize x / 3600 = p at *
  generalize x / 60 % 60 = q at *
  generalize x % 60 = r at *
  refine W_label (thenQ_n ?_)
  obtain ⟨N, hN⟩ : ∃ N, partN p q r = N := ⟨_, rfl⟩
  have hN3 : 1 ≤ N ∧ N ≤ 3 := by rw [← hN]; unfold partN; split <;> (try split) <;> omega
  refine W_seq (W_post (fun fr' O' => Sub [(3, .int .u8 sg), (4, .pointer (some ⟨bk, 0, none⟩)), (5, .int .i64 N)] fr' ∧ SubO [.blk bk [.int .i64 p, .int .i64 q, .int .i64 r] 168] O') ?_ ?_)
  · refine W_block (W_rounds 3 (RW_succ ?_))
    unfold partN at hN
    by_cases h2 : r = 0
    · rw [if_neg (fun h => h h2)] at hN
      have b2 : decide (r = 0) = true := decide_eq_true h2
      repeat (first | (apply RL_pu; rfl; (first | (apply Pu_gtrB; rfl; rfl; rfl) | (apply Pu_indexArr; rfl; rfl; decide; decide) | (apply Pu_loadBa; rfl; (focus repeat' constructor); rfl) | (apply Pu_eqlB; rfl; rfl; exact b2))) | (apply RL_st; rfl; (first | (apply Stp_alloc; intro bk) | (apply Stp_buildSliceC; rfl; rfl; rfl; rfl; (focus repeat (first | exact Nf.nil | apply Nf.cons)); intro bk))) | refine walk1 ?_)
      refine RW_succ ?_
      by_cases h1 : q = 0
      · rw [if_neg (fun h => h h1)] at hN
        subst hN
        have b1 : decide (q = 0) = true := decide_eq_true h1
        repeat (first | (apply RL_pu; rfl; (first | (apply Pu_gtrB; rfl; rfl; rfl) | (apply Pu_indexArr; rfl; rfl; decide; decide) | (apply Pu_loadBa; rfl; (focus repeat' constructor); rfl) | (apply Pu_eqlB; rfl; rfl; exact b1))) | (apply RL_st; rfl; (first | (apply Stp_alloc; intro bk) | (apply Stp_buildSliceC; rfl; rfl; rfl; rfl; (focus repeat (first | exact Nf.nil | apply Nf.cons)); intro bk))) | refine walk1 ?_)
        refine RW_succ ?_
        repeat (first | (apply RL_pu; rfl; (apply Pu_gtrB; rfl; rfl; rfl)) | (apply RL_st; rfl; (first | (apply Stp_alloc; intro bk) | (apply Stp_buildSliceC; rfl; rfl; rfl; rfl; (focus repeat (first | exact Nf.nil | apply Nf.cons)); intro bk))) | refine walk1 ?_)
        exact ⟨rfl, (by repeat (first | exact trivial | refine ⟨rfl, ?_⟩)), (by first | exact .refl _ | focus repeat (first | exact SubO.nil | (apply SubO.cons; focus repeat' constructor)))⟩
      · rw [if_pos h1] at hN
        subst hN
        have b1 : decide (q = 0) = false := decide_eq_false h1
        repeat (first | (apply RL_pu; rfl; (first | (apply Pu_gtrB; rfl; rfl; rfl) | (apply Pu_indexArr; rfl; rfl; decide; decide) | (apply Pu_loadBa; rfl; (focus repeat' constructor); rfl) | (apply Pu_eqlB; rfl; rfl; exact b1))) | (apply RL_st; rfl; (first | (apply Stp_alloc; intro bk) | (apply Stp_buildSliceC; rfl; rfl; rfl; rfl; (focus repeat (first | exact Nf.nil | apply Nf.cons)); intro bk))) | refine walk1 ?_)
        exact ⟨rfl, (by repeat (first | exact trivial | refine ⟨rfl, ?_⟩)), (by first | exact .refl _ | focus repeat (first | exact SubO.nil | (apply SubO.cons; focus repeat' constructor)))⟩
    · rw [if_pos h2] at hN
      subst hN
      have b2 : decide (r = 0) = false := decide_eq_false h2
      repeat (first | (apply RL_pu; rfl; (first | (apply Pu_gtrB; rfl; rfl; rfl) | (apply Pu_indexArr; rfl; rfl; decide; decide) | (apply Pu_loadBa; rfl; (focus repeat' constructor); rfl) | (apply Pu_eqlB; rfl; rfl; exact b2))) | (apply RL_st; rfl; (first | (apply Stp_alloc; intro bk) | (apply Stp_buildSliceC; rfl; rfl; rfl; rfl; (focus repeat (first | exact Nf.nil | apply Nf.cons)); intro bk))) | refine walk1 ?_)
      exact ⟨rfl, (by repeat (first | exact trivial | refine ⟨rfl, ?_⟩)), (by first | exact .refl _ | focus repeat (first | exact SubO.nil | (apply SubO.cons; focus repeat' constructor)))⟩
  rintro fr2 O2 ⟨hf2, hO2⟩
  rw [hN]
  refine thenQ_n ?_
  refine W_sub hf2 hO2 ?_
  clear hf2 hO2 hfr fr2 O2
  obtain ⟨b3, hb3⟩ : ∃ b3, bk = b3 := ⟨_, rfl⟩
  rw [hb3]
  clear hb3 bk
  repeat (first | (apply RL_pu; rfl; (apply Pu_sliceArrH; rfl; rfl; omega; omega)) | (apply RL_st; rfl; (first | (apply Stp_alloc; intro bk) | (apply Stp_buildSliceC; rfl; rfl; rfl; rfl; (focus repeat (first | exact Nf.nil | apply Nf.cons)); intro bk))) | refine walk1 ?_)
  refine W_toRow (b := bk) (m := 1) 1 (by (focus repeat' constructor)) rfl (by decide) ?_
  obtain ⟨ps, hps⟩ : ∃ ps, [p, q, r] = ps := ⟨_, rfl⟩
  have hpl : ps.length = 3 := by rw [← hps]; rfl
  have hpb : ∀ (k : Nat) (x : Int), ps[k]? = some x → 0 ≤ x ∧ x ≤ 99 := by
    intro k x hk
    rw [← hps] at hk
    match k, hk with
    | 0, hk => simp only [List.getElem?_cons_zero, Option.some.injEq] at hk; omega
    | 1, hk => simp only [List.getElem?_cons_succ, List.getElem?_cons_zero, Option.some.injEq] at hk; omega
    | 2, hk => simp only [List.getElem?_cons_succ, List.getElem?_cons_zero, Option.some.injEq] at hk; omega
    | k + 3, hk => simp at hk
  have hpv : [Value.int .i64 p, .int .i64 q, .int .i64 r] = ps.map (Value.int .i64) := by rw [← hps]; rfl
  rw [hpv, hps]
  refine W_loopF [(40, .slice (some ⟨b3, 0, none⟩) N 3), (41, .int .i64 N)] [.blk b3 (ps.map (Value.int .i64)) 168] (fun g : TG => [(6, .slice g.A (1 + 2 * g.k) g.c), (42, .int .i64 g.k)]) (fun g => [.row (.slice g.A (1 + 2 * g.k) g.c) 5 1 (1 + 2 * g.k) g.xs])
    (fun g => g.k ≤ N ∧ g.A ≠ none ∧ g.xs = (sb :: (ps.take g.k).flatMap dig2).map byteV) (fun g => N - g.k) ⟨0, some ⟨bk, 0, none⟩, 1, [.int .u8 sg]⟩ (by repeat (first | exact trivial | refine ⟨rfl, ?_⟩)) (by first | exact .refl _ | focus repeat (first | exact SubO.nil | (apply SubO.cons; focus repeat' constructor))) ⟨Nat.zero_le _, by simp, by rw [← hsg]; rfl⟩ ?_
  rintro ⟨k, A, c, xs⟩ ⟨hk, hA, hx⟩
  dsimp only at hk hA hx ⊢
  repeat (first | (apply RL_st; rfl; (first | (apply Stp_alloc; intro bk) | (apply Stp_buildSliceC; rfl; rfl; rfl; rfl; (focus repeat (first | exact Nf.nil | apply Nf.cons)); intro bk))) | refine walk ?_)
  refine W_cond rfl (fun hc => ?_) (fun hc => ?_)
  · simp only [decide_eq_true_eq, Int.ofNat_lt] at hc
    have hk3 : k < ps.length := by omega
    have hget := List.getElem?_eq_getElem hk3
    have hbd := hpb k _ hget
    have htk := List.take_append_getElem hk3
    generalize ps[k] = x at *
    have hgv : (ps.map (Value.int .i64))[k * 1]? = some (.int .i64 x) := by rw [Nat.mul_one, List.getElem?_map, hget]; rfl
    repeat (first | (apply RL_pu; rfl; (first | (apply Pu_indexAddr; rfl; rfl; omega; omega; simp) | (apply Pu_loadBi; rfl; (focus repeat' constructor); exact hgv) | (apply Pu_quo64; rfl; rfl; omega; omega; decide) | (apply Pu_remE; rfl; rfl; omega; decide) | (apply Pu_conv8; rfl; omega; omega) | (apply Pu_add8; rfl; rfl; (constructor <;> omega)))) | (apply RL_st0; (apply Stp_append; rfl; rfl; (intro A' c'; (focus repeat' constructor)); (intro w' _ hO; exact blkRaw (hO.of (by (focus repeat' constructor)))); rfl; rfl; (simp only [maxLen]; omega); omega; intro A' c' hc1 hc2 hc3)) | (apply RL_st; rfl; (first | (apply Stp_append; rfl; rfl; (intro A' c'; (focus repeat' constructor)); (intro w' _ hO; exact blkRaw (hO.of (by (focus repeat' constructor)))); rfl; rfl; (simp only [maxLen]; omega); omega; intro A' c' hc1 hc2 hc3) | (apply Stp_alloc; intro bk) | (apply Stp_buildSliceC; rfl; rfl; rfl; rfl; (focus repeat (first | exact Nf.nil | apply Nf.cons)); intro bk))) | refine walk1 ?_)
    refine ⟨⟨k + 1, A', c', xs ++ [.int .u8 (48 + x / 10), .int .u8 (48 + x % 10)]⟩, (by first | omega | (dsimp only; omega)), ⟨(by first | omega | (dsimp only; omega)), hc3 (by omega), ?_⟩, (by repeat (first | exact trivial | refine ⟨rfl, ?_⟩)), (by first | exact .refl _ | focus repeat (first | exact SubO.nil | (apply SubO.cons; focus repeat' constructor)))⟩
    dsimp only
    rw [← htk, hx, ← dig2_V x hbd.1 hbd.2]
    simp
  · have hkN : k = N := by simp only [decide_eq_false_iff_not, Int.ofNat_lt] at hc; omega
    subst hkN
    have hlen : 1 + 2 * k = (sb :: (ps.take k).flatMap dig2).length := by
      have : ∀ l : List Int, (l.flatMap dig2).length = 2 * l.length := fun l => by
        induction l with
        | nil => rfl
        | cons y l ih => simp only [List.flatMap_cons, List.length_append, ih, List.length_cons, dig2, List.length_nil]; omega
      rw [List.length_cons, this, List.length_take]
      omega
    repeat (first | (apply RL_pu; rfl; (apply Pu_convBytes; rfl; (focus repeat' constructor); exact hx; exact hlen; exact hA)) | (apply RL_st; rfl; (first | (apply Stp_alloc; intro bk) | (apply Stp_buildSliceC; rfl; rfl; rfl; rfl; (focus repeat (first | exact Nf.nil | apply Nf.cons)); intro bk))) | refine walk1 ?_)
    exact ret_1 _ [] (.tmp rfl) .nil ⟨rfl, rfl⟩
end Go.Proofs.YtbffjibfcgcoeaaGreatDoor

namespace Go.Wk
open Go Go.RowKit
section
variable {P : Program} {n : Nat} {wr : World} {fr : Fr} {O : List It} {ty : TypeId}
theorem Pu_sliceSS {t : TypeId} {x y z : Operand} {s r : ByteArray} {k k' : IntKind} {i j : Int} [hS : StringT P t] (hx : ev fr x = some (.string s)) (hy : ev fr y = some (.int k i)) (hz : ev fr z = some (.int k' j)) (h0 : 0 ≤ i) (h1 : i ≤ j) (h2 : j ≤ s.size) (hr : s.extract i.toNat j.toNat = r) :
    Pu P n wr fr O (.slice t x (some y) (some z) none) ty (.string r) := fun a w hs _ _ _ _ => by
  have h := run_slice_string (P := P) w t s k k' i j hS.h h0 h1 h2
  rw [hr] at h
  simp [execOp, hs.sim.ev hx, hs.sim.ev hy, hs.sim.ev hz, Instr.sliceAt, run_underlying hS.h, h]
theorem Pu_indexArr1 {t len e : Nat} {x ix : Operand} {kk : IntKind} {i : Int} {cs : List Value} {v : Value} [hA : ArrT P t len e 1 false] (hx : ev fr x = some (.agg cs.toArray)) (hi : ev fr ix = some (.int kk i)) (h0 : 0 ≤ i) (h1 : i < len) (hv : cs[i.toNat]? = some v) :
    Pu P n wr fr O (.index t x ix) ty v := fun a w hs _ _ _ _ => by
  have h := hA.h
  unfold arrChk at h
  split at h
  · rename_i len' e' hu
    split at h
    · rename_i sz' ag' ht
      simp only [Option.some.injEq, Prod.mk.injEq] at h
      obtain ⟨rfl, rfl, rfl, rfl⟩ := h
      obtain ⟨inf, dd, hinf, hsz, hag, _⟩ := Ty.parts ht
      have : Ty P e' 1 false := ⟨ht⟩
      simp only [execOp, hs.sim.ev hx, hs.sim.ev hi, Instr.index, asIntOf, Sem.run_bind, Sem.run_pure, Result.andThen_ok, run_underlying hu, h0, h1, and_self, if_true, part, run_isAgg, run_sizeOf]
      simp [hv]
    · cases h
  · cases h
theorem Pu_neqNilI {t t' : TypeId} {x : Operand} {v : Value} {b : Bool} (hu : ∃ ms, P.underlying t = some (.interface ms)) (hx : ev fr x = some v) (hv : (v = .nilIface ∧ b = false) ∨ (b = true ∧ ∃ te p, v = .iface te (.pointer p))) : Pu P n wr fr O (.binOp .neq t x (.const .nilIface) t') ty (.bool b) := fun a w hs _ _ _ _ => by
  obtain ⟨ms, hu⟩ := hu
  have hc : a.eval (.const .nilIface) = .nilIface := rfl
  have h : (binOp .neq t v .nilIface).run P w = .ok (.bool b) w := by
    have : ∀ d, (Op.equalIn (d + 1) t v .nilIface).run P w = .ok (!b) w := fun d => by
      rcases hv with ⟨rfl, rfl⟩ | ⟨rfl, te, p, rfl⟩ <;> simp [Op.equalIn, run_underlying hu]
    have hb : binOp .neq t v .nilIface = (do pure (.bool (!(← Op.equal t v .nilIface)))) := by rcases hv with ⟨rfl, rfl⟩ | ⟨rfl, te, p, rfl⟩ <;> rfl
    rw [hb, show Op.equal t v .nilIface = Op.equalIn (9999 + 1) t v .nilIface from rfl]
    simp only [Sem.run_bind, this 9999, Result.andThen_ok, Sem.run_pure, Bool.not_not]
  have hg : (eqGuard .neq t x (.const .nilIface) v .nilIface).run P w = .ok () w := by
    rcases hv with ⟨rfl, rfl⟩ | ⟨rfl, te, p, rfl⟩ <;> simp [eqGuard]
  simp only [execOp, hs.sim.ev hx, hc, Sem.run_bind, hg, Result.andThen_ok, h, Sem.run_pure]
theorem Pu_mulE {t t' : TypeId} {x y : Operand} {i j m : Int} (hx : ev fr x = some (.int .i64 i)) (hy : ev fr y = some (.int .i64 j)) (hm : i * j = m) (h : -9223372036854775808 ≤ m ∧ m ≤ 9223372036854775807) : Pu P n wr fr O (.binOp .mul t x y t') ty (.int .i64 m) := hm ▸ Pu_mul hx hy (hm ▸ h)
theorem W_mid {c : Code} {Q : Exit → Fr → List It → Prop} {K' : Fr → List It → Prop} (I : Fr → List It → Prop) (h1 : W P n wr c (thenQ I Q) fr O) (h2 : ∀ fr' O', I fr' O' → K' fr' O') : W P n wr c (thenQ K' Q) fr O :=
  W_mono h1 fun e fr' O' h => by
    cases e with
    | normal => exact h2 fr' O' h
    | _ => exact h
end
theorem two_of (s : ByteArray) (a : Nat) : (s.extract a (min (a + 2) s.size)).data.toList = (s.data.toList.drop a).take 2 := by
  rw [ByteArray.data_extract]
  have hsz : s.size = s.data.toList.length := by simp
  rw [hsz]
  simp only [Array.toList_extract, List.extract_eq_take_drop]
  apply List.ext_getElem?
  intro i
  simp only [List.getElem?_take, List.getElem?_drop]
  by_cases h : i < 2
  · rw [if_pos h]
    by_cases h2 : a + i < s.data.toList.length
    · rw [if_pos (by omega)]
    · rw [List.getElem?_eq_none (by omega)]; simp
  · rw [if_neg h, if_neg (by omega)]
end Go.Wk
namespace Go.Proofs.YtbffjibfcgcoeaaGreatDoor
open Go Go.RowKit Go.Wk
attribute [local irreducible] W RL Does thenQ blockQ retQ Calls Pu Stp RD Qy Ay DoesIn RW
structure PG where
  k : Nat
  off : Int
def prV : Option Int → Value
  | none => .tuple #[.int .i64 0, .int .i64 5]
  | some o => .tuple #[.int .i64 o, .int .i64 0]
def us60 : List Int := [3600, 60, 1]
theorem us60_ok {k : Nat} {u : Int} (h : us60[k]? = some u) : 1 ≤ u ∧ u ≤ 3600 := by
  unfold us60 at h
  match k, h with
  | 0, h => simp only [List.getElem?_cons_zero, Option.some.injEq] at h; omega
  | 1, h => simp only [List.getElem?_cons_succ, List.getElem?_cons_zero, Option.some.injEq] at h; omega
  | 2, h => simp only [List.getElem?_cons_succ, List.getElem?_cons_zero, Option.some.injEq] at h; omega
  | k + 3, h => simp at h
theorem numU_bd (l : List UInt8) (h : l.length ≤ 2) {n : Int} (hn : numU l = some n) : 0 ≤ n ∧ n ≤ 99 := by
  have := parse8_eq l h
  rw [hn] at this
  obtain ⟨u, _, rfl, h3⟩ := this
  omega
theorem parse_spec (s : ByteArray) (w : World) (hL : ∀ w', Bel w.heap.size w w' → LibW w') (hs : s.size ≤ 1000000000000) :
    Does Tryz.prog 198 [.string s] w (fun v O => v = prV (parseN s.data.toList) ∧ O = []) := by
  have hpre := fun w' => pref_spec s ⟨#[45]⟩ w'
  have hsl : s.size = s.data.toList.length := by simp
  have hemp : s = ByteArray.empty ↔ s.data.toList = [] := ⟨fun h => by rw [h]; rfl, fun h => by
    apply ByteArray.ext
    rw [← Array.toArray_toList (xs := s.data), h]
    rfl⟩
  have hp0 : ([45] : List UInt8).isPrefixOf s.data.toList = decide (s.data.toList.head? = some 45) := by
    cases s.data.toList with
    | nil => rfl
    | cons c l =>
      by_cases h : c = 45
      · subst h; simp
      · rw [List.isPrefixOf, show ((45 : UInt8) == c) = false from beq_false_of_ne fun e => h e.symm]; simp [h]
  rw [show (⟨#[45]⟩ : ByteArray).data.toList = [45] from rfl, hp0] at hpre
  obtain ⟨r0, hr0⟩ : ∃ r0, parseGo s.data.toList [3600, 60, 1] 0 0 = r0 := ⟨_, rfl⟩
  unfold parseN
  rw [hr0]
  refine Does_of_W Tryz.func198 rfl rfl rfl rfl ?_
  repeat (first | (apply RL_pu; rfl; (apply Pu_buildArr; rfl; rfl; (focus repeat (first | exact Nf.nil | apply Nf.cons)))) | refine walkB1 ?_)
  refine W_mid (fun fr' O' => ∃ o : Int, r0 = some o ∧ (0 ≤ o ∧ o ≤ 1200000) ∧ Sub [(0, .string s), (4, .int .i64 o)] fr') ?_ ?_
  · apply W_block
    refine W_loopF [(0, .string s), (9, .agg (us60.map (Value.int .i64)).toArray)] [] (fun g : PG => [(4, .int .i64 g.off), (10, .int .i64 g.k)]) (fun _ => []) (fun g => g.k ≤ 3 ∧ (0 ≤ g.off ∧ g.off ≤ 400000 * g.k) ∧ parseGo s.data.toList (us60.drop g.k) g.k g.off = r0) (fun g => 3 - g.k) ⟨0, 0⟩ (by repeat (first | exact trivial | refine ⟨rfl, ?_⟩)) .nil ⟨Nat.zero_le _, ⟨Int.le_refl _, Int.le_refl _⟩, hr0⟩ ?_
    rintro ⟨k, off⟩ ⟨hk, ho, hi⟩
    dsimp only at hk ho hi ⊢
    by_cases hk3 : k < 3
    · have hb3 : decide ((k : Int) < 3) = true := decide_eq_true (by omega)
      have hku : k < us60.length := hk3
      have hu := List.getElem?_eq_getElem hku
      rw [drop_cons hku, parseGo] at hi
      generalize us60[k] = u at *
      have hub := us60_ok hu
      have huv : (us60.map (Value.int .i64))[k]? = some (.int .i64 u) := by rw [List.getElem?_map, hu]; rfl
      by_cases hge : s.data.toList.length ≤ 1 + 2 * k
      · rw [if_pos hge] at hi
        have hbg : decide ((s.size : Int) ≤ 1 + 2 * k) = true := decide_eq_true (by omega)
        repeat (first | (apply RL_pu; rfl; (first | (apply Pu_lssB; rfl; rfl; exact hb3) | (apply Pu_indexArr1; rfl; rfl; omega; omega; exact huv) | (apply Pu_mul; rfl; rfl; (constructor <;> omega)) | (apply Pu_geqB; rfl; rfl; exact hbg))) | refine walk1 ?_)
        exact ⟨off, hi.symm, ⟨ho.1, (by first | omega | (dsimp only; omega))⟩, (by repeat (first | exact trivial | refine ⟨rfl, ?_⟩))⟩
      · rw [if_neg hge] at hi
        have hbg : decide ((s.size : Int) ≤ 1 + 2 * k) = false := decide_eq_false (by omega)
        obtain ⟨r, hr⟩ : ∃ r, s.extract (1 + 2 * k) (min (1 + 2 * k + 2) s.size) = r := ⟨_, rfl⟩
        have hrl : r.data.toList = (s.data.toList.drop (1 + 2 * k)).take 2 := by rw [← hr]; exact two_of s _
        have hrs : r.size ≤ 2 := by
          have : r.size = r.data.toList.length := by simp
          rw [this, hrl, List.length_take]
          omega
        have hpu := fun w' (hw : Bel w.heap.size w w') => pu8_spec r w' (hL w' hw) hrs
        rw [hrl] at hpu
        have hmn : (if (s.size : Int) < 3 + 2 * k then (s.size : Int) else 3 + 2 * k) = ((min (1 + 2 * k + 2) s.size : Nat) : Int) := by split <;> omega
        have hex : s.extract (1 + 2 * (k : Int)).toNat ((min (1 + 2 * k + 2) s.size : Nat) : Int).toNat = r := by
          rw [← hr]
          congr 1
        have hm1 : 1 + 2 * (k : Int) ≤ ((min (1 + 2 * k + 2) s.size : Nat) : Int) := by omega
        have hm2 : ((min (1 + 2 * k + 2) s.size : Nat) : Int) ≤ s.size := by omega
        generalize min (1 + 2 * k + 2) s.size = mm at *
        cases hn : numU ((s.data.toList.drop (1 + 2 * k)).take 2) with
        | none =>
          rw [hn] at hi hpu
          dsimp only at hi hpu
          subst hi
          repeat (first | (apply RL_pu; rfl; (first | (apply Pu_lssB; rfl; rfl; exact hb3) | (apply Pu_indexArr1; rfl; rfl; omega; omega; exact huv) | (apply Pu_mul; rfl; rfl; (constructor <;> omega)) | (apply Pu_geqB; rfl; rfl; exact hbg) | (apply Pu_minK; rfl; rfl; exact hmn) | (apply Pu_sliceSS; rfl; rfl; rfl; omega; exact hm1; exact hm2; exact hex) | (apply Pu_neqNilI; exact ⟨_, Tryz.underlying259⟩; rfl; exact .inr ⟨rfl, _, _, rfl⟩))) | (apply RL_st0; (apply Stp_call (h := fun w' hw _ => hpu w' hw); rfl; rintro v O' ⟨⟨tt, pp, rfl⟩, rfl⟩)) | (apply RL_st; rfl; (apply Stp_call (h := fun w' hw _ => hpu w' hw); rfl; rintro v O' ⟨⟨tt, pp, rfl⟩, rfl⟩)) | refine walk1 ?_)
          exact ret_2 _ _ [] (.tmp rfl) (.tmp rfl) .nil ⟨rfl, rfl⟩
        | some n =>
          rw [hn] at hi hpu
          dsimp only at hi hpu
          have hnb : 0 ≤ n ∧ n ≤ 99 := numU_bd _ (List.length_take_le _ _) hn
          · have h1 : 0 ≤ n * u := Int.mul_nonneg hnb.1 (by omega)
            have h2 : n * u ≤ 99 * 3600 := Int.mul_le_mul hnb.2 hub.2 (by omega) (by omega)
            have hmul : -9223372036854775808 ≤ n * u ∧ n * u ≤ 9223372036854775807 := by omega
            generalize hnu : n * u = m at *
            repeat (first | (apply RL_pu; rfl; (first | (apply Pu_lssB; rfl; rfl; exact hb3) | (apply Pu_indexArr1; rfl; rfl; omega; omega; exact huv) | (apply Pu_mulE; rfl; rfl; exact hnu; exact hmul) | (apply Pu_mul; rfl; rfl; (constructor <;> omega)) | (apply Pu_geqB; rfl; rfl; exact hbg) | (apply Pu_minK; rfl; rfl; exact hmn) | (apply Pu_sliceSS; rfl; rfl; rfl; omega; exact hm1; exact hm2; exact hex) | (apply Pu_neqNilI; exact ⟨_, Tryz.underlying259⟩; rfl; exact .inl ⟨rfl, rfl⟩))) | (apply RL_st0; (apply Stp_call (h := fun w' hw _ => hpu w' hw); rfl; rintro v O' ⟨⟨rfl, _, _⟩, rfl⟩)) | (apply RL_st; rfl; (apply Stp_call (h := fun w' hw _ => hpu w' hw); rfl; rintro v O' ⟨⟨rfl, _, _⟩, rfl⟩)) | refine walk1 ?_)
            exact ⟨⟨k + 1, off + m⟩, (by first | omega | (dsimp only; omega)), ⟨(by first | omega | (dsimp only; omega)), ⟨by dsimp only; omega, by dsimp only; omega⟩, hi⟩, (by repeat (first | exact trivial | refine ⟨rfl, ?_⟩)), .nil⟩
    · obtain rfl : k = 3 := by omega
      have hb3 : decide (((3 : Nat) : Int) < 3) = false := by decide
      rw [show us60.drop 3 = [] from rfl, parseGo] at hi
      repeat (first | (apply RL_pu; rfl; (apply Pu_lssB; rfl; rfl; exact hb3)) | refine walk1 ?_)
      exact ⟨off, hi.symm, ⟨ho.1, (by first | omega | (dsimp only; omega))⟩, (by repeat (first | exact trivial | refine ⟨rfl, ?_⟩))⟩
  rintro fr' O' ⟨o, rfl, ho, hfr⟩
  refine W_sub hfr .nil ?_
  clear hfr fr' O' hr0
  dsimp only
  obtain ⟨o2, ho2⟩ : ∃ o2, (if s.data.toList.head? = some 45 then -o else o) = o2 := ⟨_, rfl⟩
  rw [ho2]
  refine W_seq ?_
  refine W_mid (fun fr' O' => Sub [(0, .string s), (4, .int .i64 o2)] fr') ?_ ?_
  · by_cases hm : s.data.toList.head? = some 45
    · rw [if_pos hm] at ho2
      subst ho2
      rw [decide_eq_true hm] at hpre
      repeat (first | (apply RL_pu; rfl; (apply Pu_neg64; rfl; (constructor <;> omega))) | (apply RL_st0; (apply Stp_call (h := fun w' hw _ => hpre w'); rfl; rintro v O' ⟨rfl, rfl⟩)) | (apply RL_st; rfl; (apply Stp_call (h := fun w' hw _ => hpre w'); rfl; rintro v O' ⟨rfl, rfl⟩)) | refine walk1 ?_)
      exact (by repeat (first | exact trivial | refine ⟨rfl, ?_⟩))
    · rw [if_neg hm] at ho2
      subst ho2
      rw [decide_eq_false hm] at hpre
      repeat (first | (apply RL_st0; (apply Stp_call (h := fun w' hw _ => hpre w'); rfl; rintro v O' ⟨rfl, rfl⟩)) | (apply RL_st; rfl; (apply Stp_call (h := fun w' hw _ => hpre w'); rfl; rintro v O' ⟨rfl, rfl⟩)) | refine walk ?_)
      exact (by repeat (first | exact trivial | refine ⟨rfl, ?_⟩))
  intro fr' O' hfr
  refine W_sub hfr .nil ?_
  clear hfr fr' O' ho2
  have htx := fun w' => text_spec o2 w'
  by_cases hE : s.data.toList = []
  · have hb : decide (s = ByteArray.empty) = true := decide_eq_true (hemp.2 hE)
    rw [if_pos (.inl (by rw [hE]; rfl))]
    repeat (first | (apply RL_pu; rfl; (apply Pu_eqlSB; rfl; rfl; exact hb)) | refine walk1 ?_)
    exact ret_2 _ _ [] (.tmp rfl) (.tmp rfl) .nil ⟨rfl, rfl⟩
  · have hb : decide (s = ByteArray.empty) = false := decide_eq_false (fun h => hE (hemp.1 h))
    by_cases ht : textN o2 = s.data.toList
    · have hb2 : (!decide ((⟨(textN o2).toArray⟩ : ByteArray) = s)) = false := by
        rw [decide_eq_true (by rw [ht])]; rfl
      rw [if_neg (by rintro (h | h); exact hE (List.isEmpty_iff.1 h); exact h ht)]
      repeat (first | (apply RL_pu; rfl; (first | (apply Pu_eqlSB; rfl; rfl; exact hb) | (apply Pu_neqSB; rfl; rfl; exact hb2))) | (apply RL_st0; (apply Stp_call (h := fun w' hw _ => htx w'); rfl; rintro v O' ⟨rfl, rfl⟩)) | (apply RL_st; rfl; (apply Stp_call (h := fun w' hw _ => htx w'); rfl; rintro v O' ⟨rfl, rfl⟩)) | refine walk1 ?_)
      exact ret_2 _ _ [] (.tmp rfl) (.tmp rfl) .nil ⟨rfl, rfl⟩
    · have hb2 : (!decide ((⟨(textN o2).toArray⟩ : ByteArray) = s)) = true := by
        rw [decide_eq_false (fun h => ht (by rw [← h]))]; rfl
      rw [if_pos (.inr ht)]
      repeat (first | (apply RL_pu; rfl; (first | (apply Pu_eqlSB; rfl; rfl; exact hb) | (apply Pu_neqSB; rfl; rfl; exact hb2))) | (apply RL_st0; (apply Stp_call (h := fun w' hw _ => htx w'); rfl; rintro v O' ⟨rfl, rfl⟩)) | (apply RL_st; rfl; (apply Stp_call (h := fun w' hw _ => htx w'); rfl; rintro v O' ⟨rfl, rfl⟩)) | refine walk1 ?_)
      exact ret_2 _ _ [] (.tmp rfl) (.tmp rfl) .nil ⟨rfl, rfl⟩
end Go.Proofs.YtbffjibfcgcoeaaGreatDoor
