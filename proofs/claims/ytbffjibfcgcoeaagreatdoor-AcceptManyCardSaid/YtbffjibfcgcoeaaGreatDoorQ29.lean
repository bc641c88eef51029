/- Contracts: accept.hours, unused, looker.set, states, era$1. Contracts: slices.ContainsFunc at states, accept.unused, looker.era$1. -/
import Derived.Test.YtbffjibfcgcoeaaGreatDoorQ28
import Derived.Test.YtbffjibfcgcoeaaGreatDoorQ19
set_option linter.unusedVariables false
set_option linter.unusedSimpArgs false
namespace Go.Proofs.YtbffjibfcgcoeaaGreatDoor
open Go Go.RowKit Go.Wk
attribute [local irreducible] W RL Does thenQ blockQ retQ Calls Pu Stp RD Qy Ay DoesIn
theorem hours_spec (off save : Int) (ho : I64 off) (hs : I64 save) (w : World) : Does Tryz.prog 163 [.int .i64 off, .int .i64 save] w (fun v O => v = .bool (hoursB off save) ∧ O = []) := by
  have hsm := fun w' => addAny_spec off save ho hs w'
  refine Does_of_W Tryz.func163 rfl rfl rfl rfl ?_
  cases hok : i64ok (off + save) with
  | false =>
    rw [hok] at hsm
    have hb : hoursB off save = false := by
      unfold hoursB
      by_cases h1 : -54000 ≤ off + save
      · by_cases h2 : off + save ≤ 54000
        · exfalso
          have : i64ok (off + save) = true := by unfold i64ok; rw [decide_eq_true (by omega), decide_eq_true (by omega)]; rfl
          rw [this] at hok
          cases hok
        · rw [decide_eq_false h2, Bool.and_false]
      · rw [decide_eq_false h1, Bool.false_and]
    rw [hb]
    repeat (first | (refine RL_und rfl rfl rfl rfl ?_) | (apply RL_st0; (apply Stp_call (h := fun w' hw _ => hsm w'); rfl; rintro v O' ⟨rfl, rfl⟩)) | (apply RL_st; rfl; (apply Stp_call (h := fun w' hw _ => hsm w'); rfl; rintro v O' ⟨rfl, rfl⟩)) | refine walk ?_)
    exact ret_1 _ [] (.tmp rfl) .nil ⟨rfl, rfl⟩
  | true =>
    rw [hok, if_pos rfl] at hsm
    unfold hoursB
    generalize off + save = x at *
    by_cases h1 : -54000 ≤ x
    · have b1 : decide (-54000 ≤ x) = true := decide_eq_true h1
      rw [b1]
      repeat (first | (refine RL_und rfl rfl rfl rfl ?_) | (apply RL_pu; rfl; (apply Pu_geqB; rfl; rfl; exact b1)) | (apply RL_st0; (apply Stp_call (h := fun w' hw _ => hsm w'); rfl; rintro v O' ⟨rfl, rfl⟩)) | (apply RL_st; rfl; (apply Stp_call (h := fun w' hw _ => hsm w'); rfl; rintro v O' ⟨rfl, rfl⟩)) | refine walk1 ?_)
      exact ret_1 _ [] (.tmp rfl) .nil ⟨rfl, rfl⟩
    · have b1 : decide (-54000 ≤ x) = false := decide_eq_false h1
      rw [b1]
      repeat (first | (refine RL_und rfl rfl rfl rfl ?_) | (apply RL_pu; rfl; (apply Pu_geqB; rfl; rfl; exact b1)) | (apply RL_st0; (apply Stp_call (h := fun w' hw _ => hsm w'); rfl; rintro v O' ⟨rfl, rfl⟩)) | (apply RL_st; rfl; (apply Stp_call (h := fun w' hw _ => hsm w'); rfl; rintro v O' ⟨rfl, rfl⟩)) | refine walk1 ?_)
      exact ret_1 _ [] (.tmp rfl) .nil ⟨rfl, rfl⟩
theorem lset_spec (Ar Az Al As : Option Addr) (cr cz cl cs : Nat) (a : DSource) (e : DEra) (w : World) (hA : RdSource w Ar Az Al As cr cz cl cs a) (hn : a.rules.length ≤ 1000000) :
    Does Tryz.prog 164 [srcV Ar Az Al As cr cz cl cs a, .agg e.enc.toArray] w (NewSl 51 11 DRule.enc (setOf a.rules e)) := by
  have hof := fun w' (hw : Bel w.heap.size w w') => ofN_spec Ar Az Al As cr cz cl cs a e.set w' (hA.up hw) hn
  unfold setOf
  obtain ⟨off, kind, save, set, format, til⟩ := e
  dsimp only at hof ⊢
  simp only [DEra.enc]
  refine Does_of_W Tryz.func164 rfl rfl rfl rfl ?_
  by_cases hk : kind = 2
  · subst hk
    rw [if_pos rfl]
    generalize ofB a.rules set = R at *
    repeat (first | (apply RL_st0; (apply Stp_call (h := fun w' hw _ => hof w' hw); rfl; rintro v O' ⟨A3, c3, rfl, rfl⟩)) | (apply RL_st; rfl; (first | (apply Stp_call (h := fun w' hw _ => hof w' hw); rfl; rintro v O' ⟨A3, c3, rfl, rfl⟩) | (apply Stp_boxNf; rfl; (focus repeat (first | exact Nf.nil | apply Nf.cons)); intro bk))) | refine walk ?_)
    exact ret_1 _ [.row (.slice A3 R.length c3) 51 11 R.length (R.flatMap DRule.enc)] (.tmp rfl) (by first | exact .refl _ | focus repeat (first | exact SubO.nil | (apply SubO.cons; focus repeat' constructor))) ⟨A3, c3, rfl, rfl⟩
  · rw [if_neg hk]
    have hb : (!decide (kind = 2)) = true := by rw [decide_eq_false hk]; rfl
    refine W_nil 51 11 ?_
    repeat (first | (apply RL_pu; rfl; (apply Pu_neqB'; rfl; rfl; exact hb)) | (apply RL_st; rfl; (apply Stp_boxNf; rfl; (focus repeat (first | exact Nf.nil | apply Nf.cons)); intro bk)) | refine walk1 ?_)
    exact ret_1 _ [.row (.slice none 0 0) 51 11 0 []] (.tmp rfl) (by first | exact .refl _ | focus repeat (first | exact SubO.nil | (apply SubO.cons; focus repeat' constructor))) ⟨none, 0, rfl, rfl⟩
def stEnc (x : Int × ByteArray) : List Value := [.int .i64 x.1, .string x.2]
theorem stEnc.len (x : Int × ByteArray) : (stEnc x).length = 2 := rfl
structure StG where
  k : Nat
  A : Option Addr
  c : Nat
  m : Nat
  ys : List Value
def StR (l : List (Int × ByteArray)) (v : Value) (O : List It) : Prop := NewSl 75 2 stEnc l v O ∨ ∃ b x, l = [x] ∧ v = .slice (some ⟨b, 0, none⟩) 1 1 ∧ O = [.blk b (stEnc x) 75]
theorem states0_spec (Ar Az Al As : Option Addr) (cr cz cl cs : Nat) (a : DSource) (e : DEra) (w : World) (hA : RdSource w Ar Az Al As cr cz cl cs a) (hn : a.rules.length ≤ 1000000) :
    Does Tryz.prog 166 [srcV Ar Az Al As cr cz cl cs a, .agg e.enc.toArray] w (StR (statesOf a.rules e)) := by
  have hst := fun w' (hw : Bel w.heap.size w w') => lset_spec Ar Az Al As cr cz cl cs a e w' (hA.up hw) hn
  have hRl : (setOf a.rules e).length ≤ 1000000 := by
    unfold setOf
    split
    · exact Nat.le_trans (ofB_len _ _) hn
    · exact Nat.zero_le _
  unfold statesOf
  generalize setOf a.rules e = R at *
  obtain ⟨off, kind, save, set, format, til⟩ := e
  dsimp only at hst ⊢
  simp only [DEra.enc] at hst ⊢
  refine Does_of_W Tryz.func166 rfl rfl rfl rfl ?_
  by_cases hk1 : kind = 1
  · subst hk1
    rw [if_pos rfl]
    repeat (first | (apply RL_st; rfl; (first | (apply Stp_boxNf; rfl; (focus repeat (first | exact Nf.nil | apply Nf.cons)); intro bk) | (apply Stp_buildSliceC; rfl; rfl; rfl; rfl; (focus repeat (first | exact Nf.nil | apply Nf.cons)); intro bk) | (apply Stp_alloc; intro bk))) | refine walk ?_)
    exact ret_1 _ [.blk bk [.int .i64 save, .string ByteArray.empty] 75] (.tmp rfl) (by first | exact .refl _ | focus repeat (first | exact SubO.nil | (apply SubO.cons; focus repeat' constructor))) (.inr ⟨bk, (save, ByteArray.empty), rfl, rfl, rfl⟩)
  have b1 : decide (kind = 1) = false := decide_eq_false hk1
  rw [if_neg hk1]
  by_cases hk2 : kind = 2
  · subst hk2
    rw [if_pos rfl]
    repeat (first | (apply RL_pu; rfl; (apply Pu_eqlB; rfl; rfl; exact b1)) | (apply RL_st0; (apply Stp_call (h := fun w' hw _ => hst w' hw); rfl; rintro v O' ⟨A3, c3, rfl, rfl⟩)) | (apply RL_st; rfl; (first | (apply Stp_call (h := fun w' hw _ => hst w' hw); rfl; rintro v O' ⟨A3, c3, rfl, rfl⟩) | (apply Stp_boxNf; rfl; (focus repeat (first | exact Nf.nil | apply Nf.cons)); intro bk) | (apply Stp_buildSliceC; rfl; rfl; rfl; rfl; (focus repeat (first | exact Nf.nil | apply Nf.cons)); intro bk) | (apply Stp_alloc; intro bk))) | refine walk1 ?_)
    refine W_nil 75 2 ?_
    refine W_loopF [(20, .slice A3 R.length c3), (21, .int .i64 R.length)] [.row (.slice A3 R.length c3) 51 11 R.length (R.flatMap DRule.enc)] (fun g : StG => [(5, .slice g.A g.m g.c), (22, .int .i64 g.k)]) (fun g => [.row (.slice g.A g.m g.c) 75 2 g.m g.ys])
      (fun g => g.k ≤ R.length ∧ g.m = g.k ∧ g.ys = ((R.take g.k).map fun r => (r.save, r.letter)).flatMap stEnc) (fun g => R.length - g.k) ⟨0, none, 0, 0, []⟩ (by repeat (first | exact trivial | refine ⟨rfl, ?_⟩)) (by first | exact .refl _ | focus repeat (first | exact SubO.nil | (apply SubO.cons; focus repeat' constructor))) ⟨Nat.zero_le _, rfl, rfl⟩ ?_
    rintro ⟨k, A1, c1, m, ys⟩ ⟨hkl, hm, hy⟩
    dsimp only at hkl hm hy ⊢
    repeat (first | (apply RL_st; rfl; (first | (apply Stp_boxNf; rfl; (focus repeat (first | exact Nf.nil | apply Nf.cons)); intro bk) | (apply Stp_buildSliceC; rfl; rfl; rfl; rfl; (focus repeat (first | exact Nf.nil | apply Nf.cons)); intro bk) | (apply Stp_alloc; intro bk))) | refine walk ?_)
    refine W_cond rfl (fun hc => ?_) (fun hc => ?_)
    · simp only [decide_eq_true_eq, Int.ofNat_lt] at hc
      have hg1 := flat_get DRule.len R k _ 0 _ (List.getElem?_eq_getElem hc) rfl
      have hgn : ∀ j v, (DRule.enc R[k])[j]? = some v → (R.flatMap DRule.enc)[k * 11 + j]? = some v := fun j v hj => flat_get DRule.len R k _ j v (List.getElem?_eq_getElem hc) hj
      have htk := List.take_append_getElem hc
      generalize R[k] = r at *
      simp only [DRule.enc] at hgn hg1
      repeat (first | (apply RL_pu; rfl; (first | (apply Pu_indexAddrH; rfl; rfl; omega; omega; (intro w' _ hO; exact (row_cell (hO.of (A := .row (.slice A3 R.length c3) 51 11 R.length (R.flatMap DRule.enc)) (by (focus repeat' constructor))) hg1).1)) | (apply Pu_loadRN; rfl; (focus repeat' constructor); exact hgn; rfl))) | (apply RL_st0; (apply Stp_append; rfl; rfl; (intro A' c'; (focus repeat' constructor)); (intro w' _ hO; exact blkRaw (hO.of (by (focus repeat' constructor)))); rfl; rfl; (simp only [maxLen]; omega); omega; intro A' c' hc1 hc2 hc3)) | (apply RL_st; rfl; (first | (apply Stp_append; rfl; rfl; (intro A' c'; (focus repeat' constructor)); (intro w' _ hO; exact blkRaw (hO.of (by (focus repeat' constructor)))); rfl; rfl; (simp only [maxLen]; omega); omega; intro A' c' hc1 hc2 hc3) | (apply Stp_boxNf; rfl; (focus repeat (first | exact Nf.nil | apply Nf.cons)); intro bk) | (apply Stp_buildSliceC; rfl; rfl; rfl; rfl; (focus repeat (first | exact Nf.nil | apply Nf.cons)); intro bk) | (apply Stp_alloc; intro bk))) | refine walk1 ?_)
      exact ⟨⟨k + 1, A', c', m + 1, ys ++ [.int .i64 r.save, .string r.letter]⟩, (by first | omega | (dsimp only; omega)), ⟨(by first | omega | (dsimp only; omega)), (by first | omega | (dsimp only; omega)), by dsimp only; rw [hy, ← htk]; simp [stEnc]⟩, (by repeat (first | exact trivial | refine ⟨rfl, ?_⟩)), (by first | exact .refl _ | focus repeat (first | exact SubO.nil | (apply SubO.cons; focus repeat' constructor)))⟩
    · obtain rfl : k = R.length := by simp only [decide_eq_false_iff_not, Int.ofNat_lt] at hc; omega
      rw [List.take_length] at hy
      subst hm hy
      repeat (first | (apply RL_st; rfl; (first | (apply Stp_boxNf; rfl; (focus repeat (first | exact Nf.nil | apply Nf.cons)); intro bk) | (apply Stp_buildSliceC; rfl; rfl; rfl; rfl; (focus repeat (first | exact Nf.nil | apply Nf.cons)); intro bk) | (apply Stp_alloc; intro bk))) | refine walk ?_)
      exact ret_1 _ [.row (.slice A1 R.length c1) 75 2 R.length ((R.map fun r => (r.save, r.letter)).flatMap stEnc)] (.tmp rfl) (by first | exact .refl _ | focus repeat (first | exact SubO.nil | (apply SubO.cons; focus repeat' constructor))) (.inl ⟨A1, c1, by rw [List.length_map], by rw [List.length_map]⟩)
  have b2 : decide (kind = 2) = false := decide_eq_false hk2
  rw [if_neg hk2]
  repeat (first | (apply RL_pu; rfl; (first | (apply Pu_eqlB; rfl; rfl; exact b1) | (apply Pu_eqlB; rfl; rfl; exact b2))) | (apply RL_st; rfl; (first | (apply Stp_boxNf; rfl; (focus repeat (first | exact Nf.nil | apply Nf.cons)); intro bk) | (apply Stp_buildSliceC; rfl; rfl; rfl; rfl; (focus repeat (first | exact Nf.nil | apply Nf.cons)); intro bk) | (apply Stp_alloc; intro bk))) | refine walk1 ?_)
  exact ret_1 _ [.blk bk [.int .i64 0, .string ByteArray.empty] 75] (.tmp rfl) (by first | exact .refl _ | focus repeat (first | exact SubO.nil | (apply SubO.cons; focus repeat' constructor))) (.inr ⟨bk, (0, ByteArray.empty), rfl, rfl, rfl⟩)
theorem states_spec (Ar Az Al As : Option Addr) (cr cz cl cs : Nat) (a : DSource) (e : DEra) (w : World) (hA : RdSource w Ar Az Al As cr cz cl cs a) (hn : a.rules.length ≤ 1000000) :
    Does Tryz.prog 166 [srcV Ar Az Al As cr cz cl cs a, .agg e.enc.toArray] w (NewSl 75 2 stEnc (statesOf a.rules e)) :=
  (states0_spec Ar Az Al As cr cz cl cs a e w hA hn).monoH fun v O base w' hR hH => by
    rcases hR with h | ⟨b, x, hl, rfl, rfl⟩
    · exact ⟨O, h, hH⟩
    · rw [hl]
      exact ⟨_, ⟨some ⟨b, 0, none⟩, 1, rfl, rfl⟩, hH.toRow (m := 1) 2 rfl (by decide) (by simpa using Upd.here)⟩
end Go.Proofs.YtbffjibfcgcoeaaGreatDoor

namespace Go.Wk
open Go Go.RowKit
theorem Pu_neqEB {P : Program} {n : Nat} {wr : World} {fr : Fr} {O : List It} {ty t t' : TypeId} {α : Type} [DecidableEq α] {enc : α → List Value} {x y : Operand} {i j : α} {b : Bool} [hE : EqE P t α enc] (hx : ev fr x = some (.agg (enc i).toArray)) (hy : ev fr y = some (.agg (enc j).toArray)) (h : (!decide (i = j)) = b) :
    Pu P n wr fr O (.binOp .neq t x y t') ty (.bool b) := h ▸ Pu_neqE hx hy
end Go.Wk
namespace Go.Proofs.YtbffjibfcgcoeaaGreatDoor
open Go Go.RowKit Go.Wk
attribute [local irreducible] W RL Does thenQ blockQ retQ Calls Pu Stp RD Qy Ay DoesIn
theorem indexSt_spec (A : Option Addr) (c : Nat) (l : List (Int × ByteArray)) (f : FuncId) [Body Tryz.prog f] (us cs : List Value) (p : Int × ByteArray → Bool) (w : World) (hA : RdSl w A c stEnc 2 l)
    (hf : ∀ r ∈ l, ∀ w', Bel w.heap.size w w' → Does Tryz.prog f (us ++ [.agg (stEnc r).toArray] ++ cs) w' (fun v O => v = .bool (p r) ∧ O = [])) :
    Does Tryz.prog 209 [.slice A l.length c, .func (.func f) us.toArray cs.toArray] w (fun v O => v = .int .i64 (findI p l 0) ∧ O = []) := by
  have hs1 := hA.le
  have hs2 := hA.cap
  unfold maxLen at hs2
  generalize hres : findI p l 0 = res
  refine Does_of_W Tryz.func209 rfl rfl rfl rfl ?_
  repeat (first | refine walk ?_)
  refine W_loopF [(0, _), (1, _), (4, _), (7, _)] _ (fun k : Nat => [(8, .int .i64 k)]) (fun _ => []) (fun k => k ≤ l.length ∧ findI p (l.drop k) k = res) (fun k => l.length - k) 0 ⟨rfl, rfl, rfl, rfl, rfl, trivial⟩ (.refl _) ⟨by omega, by simpa using hres⟩ ?_
  rintro k ⟨hk, hi⟩
  repeat (first | refine walk ?_)
  refine W_cond rfl (fun hc => ?_) (fun hc => ?_)
  · simp only [decide_eq_true_eq, Int.ofNat_lt] at hc
    obtain ⟨hna, hca⟩ := hA.rd k _ (List.getElem?_eq_getElem hc)
    have hnb := hna
    have hcb := hca
    rw [drop_cons hc, findI] at hi
    have hrm := List.getElem_mem hc
    generalize l[k] = r at *
    repeat (first | (apply RL_pu; rfl; (first | (apply Pu_indexAddr; rfl; rfl; omega; omega; (first | exact hna | exact hnb)) | (apply Pu_loadON; rfl; (first | exact hca | exact hcb); rfl))) | (apply RL_st0; (apply Stp_callV (h := fun w' hw _ => hf r hrm w' hw); rfl; rfl; rintro v O' ⟨rfl, rfl⟩)) | (apply RL_st; rfl; (apply Stp_callV (h := fun w' hw _ => hf r hrm w' hw); rfl; rfl; rintro v O' ⟨rfl, rfl⟩)) | refine walk1 ?_)
    refine W_cond rfl (fun h3 => ?_) (fun h3 => ?_)
    · repeat (first | refine walk ?_)
      rw [if_pos h3] at hi
      exact ret_1 _ [] (.tmp rfl) .nil ⟨by rw [← hi], rfl⟩
    repeat (first | refine walk ?_)
    rw [h3] at hi
    exact ⟨k + 1, by omega, ⟨by omega, hi⟩, (by repeat (first | exact trivial | refine ⟨rfl, ?_⟩)), (by first | exact .refl _ | focus repeat (first | exact SubO.nil | (apply SubO.cons; focus repeat' constructor)))⟩
  simp only [decide_eq_false_iff_not, Int.ofNat_lt] at hc
  repeat (first | refine walk ?_)
  exact ret_1 _ [] (.tmp rfl) .nil ⟨by rw [← hi, List.drop_eq_nil_of_le (by omega)]; rfl, rfl⟩
theorem containsSt_spec (A : Option Addr) (c : Nat) (l : List (Int × ByteArray)) (f : FuncId) [Body Tryz.prog f] (us cs : List Value) (p : Int × ByteArray → Bool) (w : World) (hA : RdSl w A c stEnc 2 l)
    (hf : ∀ r ∈ l, ∀ w', Bel w.heap.size w w' → Does Tryz.prog f (us ++ [.agg (stEnc r).toArray] ++ cs) w' (fun v O => v = .bool (p r) ∧ O = [])) :
    Does Tryz.prog 165 [.slice A l.length c, .func (.func f) us.toArray cs.toArray] w (fun v O => v = .bool (l.any p) ∧ O = []) := by
  have h := fun w' (hw : Bel w.heap.size w w') => indexSt_spec A c l f us cs p w' (hA.up hw) fun r hr w2 h2 => hf r hr w2 (hw.trans (h2.mono hw.size))
  rw [← findI_any p l 0]
  generalize findI p l 0 = k at *
  refine Does_of_W Tryz.func165 rfl rfl rfl rfl ?_
  repeat (first | (apply RL_st0; (apply Stp_call (h := fun w' hw _ => h w' hw); rfl; rintro v O' ⟨rfl, rfl⟩)) | (apply RL_st; rfl; (apply Stp_call (h := fun w' hw _ => h w' hw); rfl; rintro v O' ⟨rfl, rfl⟩)) | refine walk ?_)
  exact ret_1 _ [] (.tmp rfl) .nil ⟨rfl, rfl⟩
theorem era1_spec (x : Int × ByteArray) (ad : Addr) (off : Int) (w : World) (h : w.cell? ad = some (.int .i64 off)) (ho : I64 off) (hx : I64 x.1) : Does Tryz.prog 162 [.agg (stEnc x).toArray, .pointer (some ad)] w (fun v O => v = .bool (!hoursB off x.1) ∧ O = []) := by
  obtain ⟨sv, lt⟩ := x
  dsimp only at hx ⊢
  have hh := fun w' => hours_spec off sv ho hx w'
  generalize hoursB off sv = hb at *
  simp only [stEnc]
  refine Does_of_W Tryz.func162 rfl rfl rfl rfl ?_
  repeat (first | (apply RL_pu; rfl; (apply Pu_loadO1; rfl; exact h)) | (apply RL_st0; (apply Stp_call (h := fun w' hw _ => hh w'); rfl; rintro v O' ⟨rfl, rfl⟩)) | (apply RL_st; rfl; (first | (apply Stp_call (h := fun w' hw _ => hh w'); rfl; rintro v O' ⟨rfl, rfl⟩) | (apply Stp_boxNf; rfl; (focus repeat (first | exact Nf.nil | apply Nf.cons)); intro bk))) | refine walk1 ?_)
  exact ret_1 _ [] (.tmp rfl) .nil ⟨rfl, rfl⟩
instance : EqE Tryz.prog 58 DUntil DUntil.enc where
  h r s w := by
    unfold DUntil.enc
    simp [go_sem, toList_inj]
    rcases r with ⟨_, _, _, ⟨_, _, _⟩, ⟨_, _⟩⟩
    rcases s with ⟨_, _, _, ⟨_, _, _⟩, ⟨_, _⟩⟩
    simp only [ok_ite, Result.ok.injEq, and_true]
    rw [Bool.eq_iff_iff]
    simp [and_assoc]
  g := by kernel_rfl
theorem unused_spec (e : DEra) (w : World) : Does Tryz.prog 167 [.agg e.enc.toArray] w (fun v O => v = .bool (unusedB e) ∧ O = []) := by
  obtain ⟨off, kind, save, set, format, til⟩ := e
  unfold unusedB
  dsimp only
  obtain ⟨is, year, month, ⟨dk, dw, dd⟩, ⟨cs, cb⟩⟩ := til
  dsimp only
  obtain ⟨n1, e1⟩ : ∃ b, (!decide (kind = 1)) = b := ⟨_, rfl⟩
  obtain ⟨n2, e2⟩ : ∃ b, (!decide (save = 0)) = b := ⟨_, rfl⟩
  obtain ⟨n3, e3⟩ : ∃ b, (!decide (kind = 2)) = b := ⟨_, rfl⟩
  obtain ⟨n4, e4⟩ : ∃ b, (!decide (set = ByteArray.empty)) = b := ⟨_, rfl⟩
  obtain ⟨n5, e5⟩ : ∃ b, (!decide ((⟨false, year, month, ⟨dk, dw, dd⟩, ⟨cs, cb⟩⟩ : DUntil) = dU0)) = b := ⟨_, rfl⟩
  rw [e1, e2, e3, e4, e5]
  simp only [DEra.enc]
  refine Does_of_W Tryz.func167 rfl rfl rfl rfl ?_
  repeat' (first | (apply RL_pu; rfl; (first | (apply Pu_neqB'; rfl; rfl; exact e1) | (apply Pu_neqB'; rfl; rfl; exact e2) | (apply Pu_neqB'; rfl; rfl; exact e3) | (apply Pu_neqSB; rfl; rfl; exact e4) | (apply Pu_neqEB (i := (⟨false, year, month, ⟨dk, dw, dd⟩, ⟨cs, cb⟩⟩ : DUntil)) (j := dU0) (enc := DUntil.enc); rfl; rfl; exact e5))) | (apply RL_st; rfl; (first | (apply Stp_boxNf; rfl; (focus repeat (first | exact Nf.nil | apply Nf.cons)); intro bk) | (apply Stp_alloc; intro bk))) | refine walk1 ?_ | (refine RL_und rfl rfl rfl rfl ?_) | (refine RL_gsplit rfl rfl rfl (fun hc => ?_) (fun hc => ?_)) | (refine RD_gsplit rfl rfl rfl (fun hc => ?_) (fun hc => ?_)) | (refine W_cond rfl (fun hc => ?_) (fun hc => ?_)))
  all_goals first | (refine ret_1 _ [] (.tmp rfl) .nil ⟨?_, rfl⟩; first | rfl | (simp only [*, Bool.true_and, Bool.false_and, Bool.true_or, Bool.false_or, Bool.not_true, Bool.not_false]; done) | (simp_all ; done) | (simp_all ; omega) | (simp_all ; rw [Bool.eq_iff_iff]; simp; omega)) | (exfalso; simp_all ; done) | (exfalso; simp_all ; omega) | (exfalso; omega)
end Go.Proofs.YtbffjibfcgcoeaaGreatDoor
