/- Contracts: slices.IndexFunc and ContainsFunc at strings, eras and links. Contract: analemmalaw25.few. Plain law: years by their first days (the reference of layer 1). Plain law: in which years events lie (layers 2, 17). -/
import Derived.Test.YtceekohkjgiabaaGreatDoorQ25
import Derived.Test.YtceekohkjgiabaaGreatDoorQ15
import Derived.Test.YtceekohkjgiabaaGreatDoorQ14
import Derived.Test.YtceekohkjgiabaaGreatDoorQ10
import Derived.Test.YtceekohkjgiabaaGreatDoorQ07
set_option maxHeartbeats 4000000
set_option linter.unusedVariables false
set_option linter.unusedSimpArgs false
namespace Go.Proofs.YtceekohkjgiabaaGreatDoor
open Go Go.RowKit Go.Wk
attribute [local irreducible] W RL Does thenQ blockQ retQ Calls Pu Stp RD Qy Ay DoesIn
theorem indexStr_spec (A : Option Addr) (c : Nat) (l : List ByteArray) (f : FuncId) [Body Tryz.prog f] (us cs : List Value) (p : ByteArray → Bool) (w : World) (hA : RdSl w A c strEnc 1 l)
  (hf : ∀ r ∈ l, ∀ w', Bel w.heap.size w w' → Does Tryz.prog f (us ++ [.string r] ++ cs) w' (fun v O => v = .bool (p r) ∧ O = [])) :
  Does Tryz.prog 34 [.slice A l.length c, .func (.func f) us.toArray cs.toArray] w (fun v O => v = .int .i64 (findI p l 0) ∧ O = []) := by
 have hs1 := hA.le
 have hs2 := hA.cap
 unfold maxLen at hs2
 generalize hres : findI p l 0 = res
 refine Does_of_W Tryz.func34 rfl rfl rfl rfl ?_
 repeat (first | refine walk ?_)
 refine W_loopF [(0, _), (1, _), (4, _), (7, _)] _ (fun k : Nat => [(8, .int .i64 k)]) (fun _ => []) (fun k => k ≤ l.length ∧ findI p (l.drop k) k = res) (fun k => l.length - k) 0 ⟨rfl, rfl, rfl, rfl, rfl, trivial⟩ (.refl _) ⟨by omega, by simpa using hres⟩ ?_
 rintro k ⟨hk, hi⟩
 repeat (first | refine walk ?_)
 refine W_cond rfl (fun hc => ?_) (fun hc => ?_)
 ·simp only [decide_eq_true_eq, Int.ofNat_lt] at hc
  obtain ⟨hna, hca⟩ := hA.rd k _ (List.getElem?_eq_getElem hc)
  have hnb := hna
  have hcb := hca
  rw [drop_cons hc, findI] at hi
  have hrm := List.getElem_mem hc
  generalize l[k] = r at *
  repeat (first | (apply RL_pu; rfl; exact PuI) | (refine js ?_; (refine callV (fun w' hw _ => hf r hrm w' hw) ?_)) | refine walk1 ?_)
  refine W_cond rfl (fun h3 => ?_) (fun h3 => ?_)
  ·repeat (first | refine walk ?_)
   rw [if_pos h3] at hi
   exact ret_1 _ [] (.tmp rfl) .nil ⟨by rw [← hi], rfl⟩
  repeat (first | refine walk ?_)
  rw [h3] at hi
  exact ⟨k + 1, by omega, ⟨by omega, hi⟩, SFA, SOA⟩
 simp only [decide_eq_false_iff_not, Int.ofNat_lt] at hc
 repeat (first | refine walk ?_)
 exact ret_1 _ [] (.tmp rfl) .nil ⟨by rw [← hi, List.drop_eq_nil_of_le (by omega)]; rfl, rfl⟩
theorem containsStr_spec (A : Option Addr) (c : Nat) (l : List ByteArray) (f : FuncId) [Body Tryz.prog f] (us cs : List Value) (p : ByteArray → Bool) (w : World) (hA : RdSl w A c strEnc 1 l)
  (hf : ∀ r ∈ l, ∀ w', Bel w.heap.size w w' → Does Tryz.prog f (us ++ [.string r] ++ cs) w' (fun v O => v = .bool (p r) ∧ O = [])) :
  Does Tryz.prog 14 [.slice A l.length c, .func (.func f) us.toArray cs.toArray] w (fun v O => v = .bool (l.any p) ∧ O = []) := by
 have h := fun w' (hw : Bel w.heap.size w w') => indexStr_spec A c l f us cs p w' (hA.up hw) fun r hr w2 h2 => hf r hr w2 (hw.trans (h2.mono hw.size))
 rw [← findI_any p l 0]
 generalize findI p l 0 = k at *
 refine Does_of_W Tryz.func14 rfl rfl rfl rfl ?_
 repeat (first | (refine js ?_; (refine callE h ?_)) | refine walk ?_)
 exact rtA
theorem indexLk_spec (A : Option Addr) (c : Nat) (l : List DLink) (f : FuncId) [Body Tryz.prog f] (us cs : List Value) (p : DLink → Bool) (w : World) (hA : RdSl w A c DLink.enc 2 l)
  (hf : ∀ r ∈ l, ∀ w', Bel w.heap.size w w' → Does Tryz.prog f (us ++ [.agg (DLink.enc r).toArray] ++ cs) w' (fun v O => v = .bool (p r) ∧ O = [])) :
  Does Tryz.prog 36 [.slice A l.length c, .func (.func f) us.toArray cs.toArray] w (fun v O => v = .int .i64 (findI p l 0) ∧ O = []) := by
 have hs1 := hA.le
 have hs2 := hA.cap
 unfold maxLen at hs2
 generalize hres : findI p l 0 = res
 refine Does_of_W Tryz.func36 rfl rfl rfl rfl ?_
 repeat (first | refine walk ?_)
 refine W_loopF [(0, _), (1, _), (4, _), (7, _)] _ (fun k : Nat => [(8, .int .i64 k)]) (fun _ => []) (fun k => k ≤ l.length ∧ findI p (l.drop k) k = res) (fun k => l.length - k) 0 ⟨rfl, rfl, rfl, rfl, rfl, trivial⟩ (.refl _) ⟨by omega, by simpa using hres⟩ ?_
 rintro k ⟨hk, hi⟩
 repeat (first | refine walk ?_)
 refine W_cond rfl (fun hc => ?_) (fun hc => ?_)
 ·simp only [decide_eq_true_eq, Int.ofNat_lt] at hc
  obtain ⟨hna, hca⟩ := hA.rd k _ (List.getElem?_eq_getElem hc)
  have hnb := hna
  have hcb := hca
  rw [drop_cons hc, findI] at hi
  have hrm := List.getElem_mem hc
  generalize l[k] = r at *
  repeat (first | (apply RL_pu; rfl; exact PuI) | (refine js ?_; (refine callV (fun w' hw _ => hf r hrm w' hw) ?_)) | refine walk1 ?_)
  refine W_cond rfl (fun h3 => ?_) (fun h3 => ?_)
  ·repeat (first | refine walk ?_)
   rw [if_pos h3] at hi
   exact ret_1 _ [] (.tmp rfl) .nil ⟨by rw [← hi], rfl⟩
  repeat (first | refine walk ?_)
  rw [h3] at hi
  exact ⟨k + 1, by omega, ⟨by omega, hi⟩, SFA, SOA⟩
 simp only [decide_eq_false_iff_not, Int.ofNat_lt] at hc
 repeat (first | refine walk ?_)
 exact ret_1 _ [] (.tmp rfl) .nil ⟨by rw [← hi, List.drop_eq_nil_of_le (by omega)]; rfl, rfl⟩
theorem containsLk_spec (A : Option Addr) (c : Nat) (l : List DLink) (f : FuncId) [Body Tryz.prog f] (us cs : List Value) (p : DLink → Bool) (w : World) (hA : RdSl w A c DLink.enc 2 l)
  (hf : ∀ r ∈ l, ∀ w', Bel w.heap.size w w' → Does Tryz.prog f (us ++ [.agg (DLink.enc r).toArray] ++ cs) w' (fun v O => v = .bool (p r) ∧ O = [])) :
  Does Tryz.prog 18 [.slice A l.length c, .func (.func f) us.toArray cs.toArray] w (fun v O => v = .bool (l.any p) ∧ O = []) := by
 have h := fun w' (hw : Bel w.heap.size w w') => indexLk_spec A c l f us cs p w' (hA.up hw) fun r hr w2 h2 => hf r hr w2 (hw.trans (h2.mono hw.size))
 rw [← findI_any p l 0]
 generalize findI p l 0 = k at *
 refine Does_of_W Tryz.func18 rfl rfl rfl rfl ?_
 repeat (first | (refine js ?_; (refine callE h ?_)) | refine walk ?_)
 exact rtA
theorem containsEr_spec (A : Option Addr) (c : Nat) (l : List DEra) (f : FuncId) [Body Tryz.prog f] (us cs : List Value) (p : DEra → Bool) (w : World) (hA : RdSl w A c DEra.enc 13 l)
  (hf : ∀ r ∈ l, ∀ w', Bel w.heap.size w w' → Does Tryz.prog f (us ++ [.agg (DEra.enc r).toArray] ++ cs) w' (fun v O => v = .bool (p r) ∧ O = [])) :
  Does Tryz.prog 16 [.slice A l.length c, .func (.func f) us.toArray cs.toArray] w (fun v O => v = .bool (l.any p) ∧ O = []) := by
 have h := fun w' (hw : Bel w.heap.size w w') => indexEr_spec A c l f us cs p w' (hA.up hw) fun r hr w2 h2 => hf r hr w2 (hw.trans (h2.mono hw.size))
 rw [← findI_any p l 0]
 generalize findI p l 0 = k at *
 refine Does_of_W Tryz.func16 rfl rfl rfl rfl ?_
 repeat (first | (refine js ?_; (refine callE h ?_)) | refine walk ?_)
 exact rtA
end Go.Proofs.YtceekohkjgiabaaGreatDoor
namespace Go.Wk
open Go Go.RowKit
def longB (l : List ByteArray) : Bool := l.any fun s => decide (80 < s.size)
def ruL (r : DRule) : Bool := longB [r.name, r.letter]
def erL (e : DEra) : Bool := longB [e.set, e.format]
def lkL (l : DLink) : Bool := longB [l.target, l.name]
def znL (z : DZone) : Bool := decide (8 < z.eras.length) || (longB [z.name] || z.eras.any erL)
def fewLD (a : DSource) : Bool := !(decide (30 < a.rules.length) || (decide (6 < a.zones.length) || (decide (10 < a.links.length) || decide (10 < a.shifts.length)))) && (!a.rules.any ruL && (!a.zones.any znL && (!longB a.shifts && !a.links.any lkL)))
end Go.Wk
namespace Go.Proofs.YtceekohkjgiabaaGreatDoor
open Go Go.RowKit Go.Wk
attribute [local irreducible] W RL Does thenQ blockQ retQ Calls Pu Stp RD Qy Ay DoesIn
instance : ZeroT Tryz.prog 42 [.nilFunc] := ⟨by kernel_rfl⟩
theorem lt1 {w : World} {b : Nat} {x : ByteArray} (h : (It.blk b [.string x] 9).sat w) : RdSl w (some ⟨b, 0, none⟩) 1 strEnc 1 [x] := litRd (l := [x]) strEnc.len (Nat.le_refl 1) (by decide) h
theorem lt2 {w : World} {b : Nat} {x y : ByteArray} (h : (It.blk b [.string x, .string y] 9).sat w) : RdSl w (some ⟨b, 0, none⟩) 2 strEnc 1 [x, y] := litRd (l := [x, y]) strEnc.len (Nat.le_refl 2) (by decide) h
theorem fl1_spec (s : ByteArray) (w : World) : Does Tryz.prog 15 [.string s] w (fun v O => v = .bool (decide (80 < s.size)) ∧ O = []) := by
 have hb : decide ((80 : Int) < (s.size : Int)) = decide (80 < s.size) := by rw [decide_eq_decide]; omega
 refine Does_of_W Tryz.func15 rfl rfl rfl rfl ?_
 repeat (first | (apply RL_pu; rfl; (apply Pu_gtrB; rfl; rfl; exact hb)) | refine walk1 ?_)
 exact rtA
theorem fl_spec (A : Option Addr) (c : Nat) (l : List ByteArray) (w : World) (hA : RdSl w A c strEnc 1 l) : Does Tryz.prog 13 [.slice A l.length c] w (fun v O => v = .bool (longB l) ∧ O = []) := by
 have h := fun w' (hw : Bel w.heap.size w w') => containsStr_spec A c l 15 [] [] (fun s => decide (80 < s.size)) w' (hA.up hw) fun r _ w2 _ => fl1_spec r w2
 refine Does_of_W Tryz.func13 rfl rfl rfl rfl ?_
 repeat (first | (refine js ?_; (refine callE h ?_)) | refine walk ?_)
 exact rtA
theorem PuFewL1 {G : Prop} (h : G := by (apply Pu_loadO1; rfl; exact h)) : G := h
theorem fl2_spec (e : DEra) (ad : Addr) (w : World) (h : w.cell? ad = some (.func (.func 13) #[] #[])) : Does Tryz.prog 17 [.agg (DEra.enc e).toArray, .pointer (some ad)] w (fun v O => v = .bool (erL e) ∧ O = []) := by
 obtain ⟨off, kind, save, x, y, ⟨is, year, month, ⟨dk, dw, dd⟩, ⟨us, ub⟩⟩⟩ := e
 unfold erL
 simp only [DEra.enc]
 refine Does_of_W Tryz.func17 rfl rfl rfl rfl ?_
 repeat (first | (apply RL_pu; rfl; exact PuFewL1) | (refine js ?_; (first | (apply Stp_callV (f := 13) (us := []) (vs := [.slice (some ⟨bk, 0, none⟩) 2 2]) (cs := []) (h := fun w' hw hO => fl_spec (some ⟨bk, 0, none⟩) 2 [x, y] w' (lt2 (hO.of (A := .blk bk [.string x, .string y] 9) (by repeat' constructor)))); rfl; rfl; rintro v O' ⟨rfl, rfl⟩) | (refine bx ?_; intro bk))) | refine walk1 ?_)
 exact rtA
theorem fl3_spec (l : DLink) (ad : Addr) (w : World) (h : w.cell? ad = some (.func (.func 13) #[] #[])) : Does Tryz.prog 19 [.agg (DLink.enc l).toArray, .pointer (some ad)] w (fun v O => v = .bool (lkL l) ∧ O = []) := by
 obtain ⟨x, y⟩ := l
 unfold lkL
 simp only [DLink.enc]
 refine Does_of_W Tryz.func19 rfl rfl rfl rfl ?_
 repeat (first | (apply RL_pu; rfl; exact PuFewL1) | (refine js ?_; (first | (apply Stp_callV (f := 13) (us := []) (vs := [.slice (some ⟨bk, 0, none⟩) 2 2]) (cs := []) (h := fun w' hw hO => fl_spec (some ⟨bk, 0, none⟩) 2 [x, y] w' (lt2 (hO.of (A := .blk bk [.string x, .string y] 9) (by repeat' constructor)))); rfl; rfl; rintro v O' ⟨rfl, rfl⟩) | (refine bx ?_; intro bk))) | refine walk1 ?_)
 exact rtA
theorem PuFewL2 {G : Prop} (h : G := by (apply Pu_gtrB; rfl; rfl; first | exact b1 | exact b2 | exact b3 | exact b4)) : G := h
theorem PuFewL3 {G : Prop} (h : G := by (first | exact PuI | (apply Pu_gtrB; rfl; rfl; exact hd1))) : G := h
set_option maxHeartbeats 2000000 in
theorem few25_spec (Ar Az Al As : Option Addr) (cr cz cl cs : Nat) (a : DSource) (w : World) (hA : RdSource w Ar Az Al As cr cz cl cs a) :
  Does Tryz.prog 4 [srcV Ar Az Al As cr cz cl cs a] w (fun v O => v = .bool (fewLD a) ∧ O = []) := by
 unfold fewLD
 obtain ⟨c1, b1⟩ : ∃ c, decide ((30 : Int) < (a.rules.length : Int)) = c := ⟨_, rfl⟩
 obtain ⟨c2, b2⟩ : ∃ c, decide ((6 : Int) < (a.zones.length : Int)) = c := ⟨_, rfl⟩
 obtain ⟨c3, b3⟩ : ∃ c, decide ((10 : Int) < (a.links.length : Int)) = c := ⟨_, rfl⟩
 obtain ⟨c4, b4⟩ : ∃ c, decide ((10 : Int) < (a.shifts.length : Int)) = c := ⟨_, rfl⟩
 rw [show decide (30 < a.rules.length) = c1 by rw [← b1, decide_eq_decide]; omega, show decide (6 < a.zones.length) = c2 by rw [← b2, decide_eq_decide]; omega, show decide (10 < a.links.length) = c3 by rw [← b3, decide_eq_decide]; omega, show decide (10 < a.shifts.length) = c4 by rw [← b4, decide_eq_decide]; omega]
 have hrl := hA.r.le
 have hrc := hA.r.cap
 have hzl := hA.zle
 have hzc := hA.zcap
 unfold maxLen at hrc hzc
 have hls := fun w' (hw : Bel w.heap.size w w') => fl_spec As cs a.shifts w' (hA.s.up hw)
 have hlk := fun (b5 : Nat) w' (hw : Bel w.heap.size w w') (hc : CellsAt w' ⟨b5, 0, none⟩ [.func (.func 13) #[] #[]]) => containsLk_spec Al cl a.links 19 [] [.pointer (some ⟨b5, 0, none⟩)] lkL w' (hA.l.up hw) fun r _ w2 h2 => fl3_spec r ⟨b5, 0, none⟩ w2 (by have := (hc.up h2 (Nat.le_refl _)) 0 _ rfl; rwa [add_mk] at this)
 refine Does_of_W Tryz.func4 rfl rfl rfl rfl ?_
 by_cases hbig : (c1 || (c2 || (c3 || c4))) = true
 ·rw [hbig]
  have hd : c1 = true ∨ (c1 = false ∧ c2 = true) ∨ (c1 = false ∧ c2 = false ∧ c3 = true) ∨ (c1 = false ∧ c2 = false ∧ c3 = false ∧ c4 = true) := by
   revert hbig
   cases c1 <;> cases c2 <;> cases c3 <;> cases c4 <;> simp
  clear hbig
  rcases hd with rfl | ⟨rfl, rfl⟩ | ⟨rfl, rfl, rfl⟩ | ⟨rfl, rfl, rfl, rfl⟩
  all_goals
   repeat (first | refine und ?_ | (apply RL_pu; rfl; exact PuFewL2) | (refine js ?_; (refine bx ?_; intro bk)) | refine walk1 ?_)
   exact rtA
 have hall : c1 = false ∧ c2 = false ∧ c3 = false ∧ c4 = false := by
  revert hbig
  cases c1 <;> cases c2 <;> cases c3 <;> cases c4 <;> simp
 obtain ⟨rfl, rfl, rfl, rfl⟩ := hall
 obtain ⟨q1, hq1⟩ : ∃ q, a.rules.any ruL = q := ⟨_, rfl⟩
 obtain ⟨q2, hq2⟩ : ∃ q, a.zones.any znL = q := ⟨_, rfl⟩
 rw [hq1, hq2]
 generalize longB a.shifts = q3 at *
 generalize a.links.any lkL = q4 at *
 simp only [Bool.false_or, Bool.not_false, Bool.true_and]
 repeat (first | (apply RL_pu; rfl; exact PuFewL2) | (refine js ?_; (refine bx ?_; intro bk)) | refine walk1 ?_)
 rename_i b1'
 obtain ⟨bf, hbf⟩ : ∃ b, bk = b := ⟨_, rfl⟩
 rw [hbf]
 clear hbf bk
 refine W_loopF [(1, .pointer (some ⟨b1', 0, none⟩)), (3, .pointer (some ⟨bf, 0, none⟩)), (31, .slice Ar a.rules.length cr), (32, .int .i64 a.rules.length)] [.blk bf [.func (.func 13) #[] #[]] 42, .blk b1' [.slice Ar a.rules.length cr, .slice Az a.zones.length cz, .slice Al a.links.length cl, .slice As a.shifts.length cs] 27]
  (fun k : Nat => [(33, .int .i64 k)]) (fun _ => []) (fun k => k ≤ a.rules.length ∧ (a.rules.drop k).any ruL = q1) (fun k => a.rules.length - k) 0 SFA SOA ⟨Nat.zero_le _, hq1⟩ ?_
 clear hq1
 rintro k ⟨hk, hi⟩
 repeat (first | (refine js ?_; (refine bx ?_; intro bk)) | refine walk ?_)
 refine W_cond rfl (fun hc => ?_) (fun hc => ?_)
 ·simp only [decide_eq_true_eq, Int.ofNat_lt] at hc
  obtain ⟨hna, hca⟩ := hA.r.rd k _ (List.getElem?_eq_getElem hc)
  rw [drop_cons hc, List.any_cons] at hi
  generalize a.rules[k] = r at *
  obtain ⟨x, fr, to, mo, ⟨dk, dw, dd⟩, ⟨us, ub⟩, sv, y⟩ := r
  simp only [DRule.enc, ruL] at hca hi
  repeat (first | (apply RL_pu; rfl; exact PuI) | (refine js ?_; (first | (apply Stp_callV (f := 13) (us := []) (vs := [.slice (some ⟨bk, 0, none⟩) 2 2]) (cs := []) (h := fun w' hw hO => fl_spec (some ⟨bk, 0, none⟩) 2 [x, y] w' (lt2 (hO.of (A := .blk bk [.string x, .string y] 9) (by repeat' constructor)))); rfl; rfl; rintro v O' ⟨rfl, rfl⟩) | (refine bx ?_; intro bk))) | refine walk1 ?_)
  cases hl : longB [x, y] with
  | true =>
   rw [hl] at hi
   obtain rfl : true = q1 := by simpa using hi
   repeat (first | (refine js ?_; (refine bx ?_; intro bk)) | refine walk ?_)
   exact rtA
  | false =>
   rw [hl] at hi
   repeat (first | (refine js ?_; (refine bx ?_; intro bk)) | refine walk ?_)
   exact ⟨k + 1, OA, ⟨OA, by simpa using hi⟩, SFA, SOA⟩
 simp only [decide_eq_false_iff_not, Int.ofNat_lt] at hc
 rw [List.drop_eq_nil_of_le (by omega), List.any_nil] at hi
 subst hi
 simp only [Bool.not_false, Bool.true_and]
 repeat (first | (refine js ?_; (refine bx ?_; intro bk)) | refine walk ?_)
 refine W_loopF [(1, .pointer (some ⟨b1', 0, none⟩)), (3, .pointer (some ⟨bf, 0, none⟩)), (46, .slice Az a.zones.length cz), (47, .int .i64 a.zones.length)] [.blk bf [.func (.func 13) #[] #[]] 42, .blk b1' [.slice Ar a.rules.length cr, .slice Az a.zones.length cz, .slice Al a.links.length cl, .slice As a.shifts.length cs] 27]
  (fun k : Nat => [(48, .int .i64 k)]) (fun _ => []) (fun k => k ≤ a.zones.length ∧ (a.zones.drop k).any znL = q2) (fun k => a.zones.length - k) 0 SFA SOA ⟨Nat.zero_le _, hq2⟩ ?_
 clear hq2
 rintro k ⟨hk, hi⟩
 repeat (first | (refine js ?_; (refine bx ?_; intro bk)) | refine walk ?_)
 refine W_cond rfl (fun hc => ?_) (fun hc => ?_)
 ·simp only [decide_eq_true_eq, Int.ofNat_lt] at hc
  obtain ⟨hna, cs1, ⟨Ae, ce, hEz, rfl⟩, hca⟩ := hA.z k _ (List.getElem?_eq_getElem hc)
  rw [drop_cons hc, List.any_cons] at hi
  generalize a.zones[k] = z at *
  have hel := hEz.le
  obtain ⟨x, es⟩ := z
  dsimp only at hEz hca hi hel
  rw [show znL ⟨x, es⟩ = (decide (8 < es.length) || (longB [x] || es.any erL)) from rfl] at hi
  obtain ⟨d1, hd1⟩ : ∃ d, decide ((8 : Int) < (es.length : Int)) = d := ⟨_, rfl⟩
  rw [show decide (8 < es.length) = d1 by rw [← hd1, decide_eq_decide]; omega] at hi
  have her := fun (b5 : Nat) w' (hw : Bel w.heap.size w w') (hc : CellsAt w' ⟨b5, 0, none⟩ [.func (.func 13) #[] #[]]) => containsEr_spec Ae ce es 17 [] [.pointer (some ⟨b5, 0, none⟩)] erL w' (hEz.up hw) fun r _ w2 h2 => fl2_spec r ⟨b5, 0, none⟩ w2 (by have := (hc.up h2 (Nat.le_refl _)) 0 _ rfl; rwa [add_mk] at this)
  generalize es.any erL = d3 at *
  have hx := fun A c w' h => fl_spec A c [x] w' h
  generalize longB [x] = d2 at *
  have hd : (d1 = true ∧ true = q2) ∨ (d1 = false ∧ d2 = true ∧ true = q2) ∨ (d1 = false ∧ d2 = false ∧ d3 = true ∧ true = q2) ∨ (d1 = false ∧ d2 = false ∧ d3 = false ∧ (a.zones.drop (k + 1)).any znL = q2) := by
   revert hi
   generalize (a.zones.drop (k + 1)).any znL = rest
   cases d1 <;> cases d2 <;> cases d3 <;> simp
  clear hi
  rcases hd with ⟨rfl, rfl⟩ | ⟨rfl, rfl, rfl⟩ | ⟨rfl, rfl, rfl, rfl⟩ | ⟨rfl, rfl, rfl, hi⟩
  ·repeat (first | refine und ?_ | (apply RL_pu; rfl; exact PuFewL3) | (refine js ?_; (refine bx ?_; intro bk)) | refine walk1 ?_)
   exact rtA
  ·repeat (first | refine und ?_ | (apply RL_pu; rfl; exact PuFewL3) | (refine js ?_; (first | (apply Stp_callV (f := 13) (us := []) (vs := [.slice (some ⟨bk, 0, none⟩) 1 1]) (cs := []) (h := fun w' hw hO => hx (some ⟨bk, 0, none⟩) 1 w' (lt1 (hO.of (A := .blk bk [.string x] 9) (by repeat' constructor)))); rfl; rfl; rintro v O' ⟨rfl, rfl⟩) | (refine bx ?_; intro bk))) | refine walk1 ?_)
   exact rtA
  ·repeat (first | refine und ?_ | (apply RL_pu; rfl; exact PuFewL3) | (refine js ?_; (first | (apply Stp_callV (f := 13) (us := []) (vs := [.slice (some ⟨bk, 0, none⟩) 1 1]) (cs := []) (h := fun w' hw hO => hx (some ⟨bk, 0, none⟩) 1 w' (lt1 (hO.of (A := .blk bk [.string x] 9) (by repeat' constructor)))); rfl; rfl; rintro v O' ⟨rfl, rfl⟩) | (refine callO (fun w' hw hO => her bf w' hw (hO.cells (by repeat' constructor))) ?_) | (refine bx ?_; intro bk))) | refine walk1 ?_)
   exact rtA
  ·repeat (first | refine und ?_ | (apply RL_pu; rfl; exact PuFewL3) | (refine js ?_; (first | (apply Stp_callV (f := 13) (us := []) (vs := [.slice (some ⟨bk, 0, none⟩) 1 1]) (cs := []) (h := fun w' hw hO => hx (some ⟨bk, 0, none⟩) 1 w' (lt1 (hO.of (A := .blk bk [.string x] 9) (by repeat' constructor)))); rfl; rfl; rintro v O' ⟨rfl, rfl⟩) | (refine callO (fun w' hw hO => her bf w' hw (hO.cells (by repeat' constructor))) ?_) | (refine bx ?_; intro bk))) | refine walk1 ?_)
   exact ⟨k + 1, OA, ⟨OA, hi⟩, SFA, SOA⟩
 simp only [decide_eq_false_iff_not, Int.ofNat_lt] at hc
 rw [List.drop_eq_nil_of_le (by omega), List.any_nil] at hi
 subst hi
 simp only [Bool.not_false, Bool.true_and]
 cases q3 with
 | true =>
  repeat (first | refine und ?_ | (refine js ?_; (first | (apply Stp_callV (f := 13) (us := []) (vs := [.slice As a.shifts.length cs]) (cs := []) (h := fun w' hw _ => hls w' hw); rfl; rfl; rintro v O' ⟨rfl, rfl⟩) | (refine bx ?_; intro bk))) | refine walk ?_)
  exact rtA
 | false =>
  repeat (first | refine und ?_ | (refine js ?_; (first | (apply Stp_callV (f := 13) (us := []) (vs := [.slice As a.shifts.length cs]) (cs := []) (h := fun w' hw _ => hls w' hw); rfl; rfl; rintro v O' ⟨rfl, rfl⟩) | (refine callO (fun w' hw hO => hlk bf w' hw (hO.cells (by repeat' constructor))) ?_) | (refine bx ?_; intro bk))) | refine walk ?_)
  exact rtA
end Go.Proofs.YtceekohkjgiabaaGreatDoor
namespace Go.Wk
open Go Go.RowKit
def jan1 (y : Int) : Int := 365 * y + (y + 3) / 4 - (y + 99) / 100 + (y + 399) / 400 - 719528
def sizeY (y : Int) : Int := if leapB y then 366 else 365
theorem leapB_iff (y : Int) : leapB y = true ↔ y % 4 = 0 ∧ (y % 100 ≠ 0 ∨ y % 400 = 0) := by
 unfold leapB
 simp
theorem jan1_c (c : Int) : jan1 (c * 400) = c * 146097 - 719528 := by unfold jan1; omega
theorem jan1_succ (y : Int) : jan1 (y + 1) = jan1 y + sizeY y := by
 unfold sizeY
 have h := leapB_iff y
 by_cases hl : leapB y = true
 ·rw [if_pos hl]
  have := h.1 hl
  unfold jan1
  omega
 ·rw [if_neg hl]
  have : ¬ (y % 4 = 0 ∧ (y % 100 ≠ 0 ∨ y % 400 = 0)) := fun e => hl (h.2 e)
  unfold jan1
  omega
theorem sizeY_bd (y : Int) : 365 ≤ sizeY y ∧ sizeY y ≤ 366 := by unfold sizeY; split <;> omega
theorem jan1_dayNo (y : Int) : jan1 y = dayNo y 1 1 := by
 unfold dayNo dayNoM jan1
 rw [if_pos (by decide), show ((1 : Int) + 12 - 3).toNat = 10 by decide, show beforeL.getD 10 0 = 306 by decide]
 omega
theorem dayNo_succ (y : Int) (m : Nat) (h0 : 1 ≤ m) (h1 : m ≤ 11) : dayNo y ((m : Int) + 1) 1 = dayNo y m 1 + lenM y m := by
 have h := leapB_iff y
 have hm : m = 1 ∨ m = 2 ∨ m = 3 ∨ m = 4 ∨ m = 5 ∨ m = 6 ∨ m = 7 ∨ m = 8 ∨ m = 9 ∨ m = 10 ∨ m = 11 := by omega
 rcases hm with rfl | rfl | rfl | rfl | rfl | rfl | rfl | rfl | rfl | rfl | rfl
 ·show dayNoM (y - 1) 14 1 = dayNoM (y - 1) 13 1 + 31
  unfold dayNoM
  rw [show ((14 : Int) - 3).toNat = 11 by decide, show ((13 : Int) - 3).toNat = 10 by decide, show beforeL.getD 11 0 = 337 by decide, show beforeL.getD 10 0 = 306 by decide]
  omega
 ·show dayNoM y 3 1 = dayNoM (y - 1) 14 1 + (if leapB y then 29 else 28)
  unfold dayNoM
  rw [show ((14 : Int) - 3).toNat = 11 by decide, show ((3 : Int) - 3).toNat = 0 by decide, show beforeL.getD 11 0 = 337 by decide, show beforeL.getD 0 0 = 0 by decide]
  by_cases hl : leapB y = true
  ·rw [if_pos hl]
   have := h.1 hl
   omega
  ·rw [if_neg hl]
   have : ¬ (y % 4 = 0 ∧ (y % 100 ≠ 0 ∨ y % 400 = 0)) := fun e => hl (h.2 e)
   omega
 all_goals
  show dayNoM y _ 1 = dayNoM y _ 1 + _
  unfold dayNoM
 ·show y / 400 * 146097 + y % 400 * 365 + y % 400 / 4 - y % 400 / 100 + 31 + 1 - 1 - 719468 = y / 400 * 146097 + y % 400 * 365 + y % 400 / 4 - y % 400 / 100 + 0 + 1 - 1 - 719468 + 31
  omega
 ·show y / 400 * 146097 + y % 400 * 365 + y % 400 / 4 - y % 400 / 100 + 61 + 1 - 1 - 719468 = y / 400 * 146097 + y % 400 * 365 + y % 400 / 4 - y % 400 / 100 + 31 + 1 - 1 - 719468 + 30
  omega
 ·show y / 400 * 146097 + y % 400 * 365 + y % 400 / 4 - y % 400 / 100 + 92 + 1 - 1 - 719468 = y / 400 * 146097 + y % 400 * 365 + y % 400 / 4 - y % 400 / 100 + 61 + 1 - 1 - 719468 + 31
  omega
 ·show y / 400 * 146097 + y % 400 * 365 + y % 400 / 4 - y % 400 / 100 + 122 + 1 - 1 - 719468 = y / 400 * 146097 + y % 400 * 365 + y % 400 / 4 - y % 400 / 100 + 92 + 1 - 1 - 719468 + 30
  omega
 ·show y / 400 * 146097 + y % 400 * 365 + y % 400 / 4 - y % 400 / 100 + 153 + 1 - 1 - 719468 = y / 400 * 146097 + y % 400 * 365 + y % 400 / 4 - y % 400 / 100 + 122 + 1 - 1 - 719468 + 31
  omega
 ·show y / 400 * 146097 + y % 400 * 365 + y % 400 / 4 - y % 400 / 100 + 184 + 1 - 1 - 719468 = y / 400 * 146097 + y % 400 * 365 + y % 400 / 4 - y % 400 / 100 + 153 + 1 - 1 - 719468 + 31
  omega
 ·show y / 400 * 146097 + y % 400 * 365 + y % 400 / 4 - y % 400 / 100 + 214 + 1 - 1 - 719468 = y / 400 * 146097 + y % 400 * 365 + y % 400 / 4 - y % 400 / 100 + 184 + 1 - 1 - 719468 + 30
  omega
 ·show y / 400 * 146097 + y % 400 * 365 + y % 400 / 4 - y % 400 / 100 + 245 + 1 - 1 - 719468 = y / 400 * 146097 + y % 400 * 365 + y % 400 / 4 - y % 400 / 100 + 214 + 1 - 1 - 719468 + 31
  omega
 ·show y / 400 * 146097 + y % 400 * 365 + y % 400 / 4 - y % 400 / 100 + 275 + 1 - 1 - 719468 = y / 400 * 146097 + y % 400 * 365 + y % 400 / 4 - y % 400 / 100 + 245 + 1 - 1 - 719468 + 30
  omega
theorem dayNo_add (y m d : Int) : dayNo y m d = dayNo y m 1 + d - 1 := by
 unfold dayNo dayNoM
 split <;> omega
theorem monN_ten (q : Int) (h0 : 0 ≤ q) : 10 ≤ monN q 11 ↔ 306 ≤ q := by
 have b11 : beforeL.getD 11 0 = 337 := by decide
 have b10 : beforeL.getD 10 0 = 306 := by decide
 have hle : ∀ m, monN q m ≤ m := by
  intro m
  induction m with
  | zero => exact Nat.le_refl _
  | succ m ih => rw [monN]; split <;> omega
 rw [monN, monN]
 simp only [b11, show beforeL.getD (9 + 1) 0 = 306 from b10, show beforeL.getD (10 + 1) 0 = 337 from b11]
 have h9 := hle 9
 split
 ·constructor <;> intro <;> omega
 ·split
  ·constructor <;> intro <;> omega
  ·constructor <;> intro <;> omega
theorem jan1_mar (c y : Int) (h0 : 0 ≤ y) (h1 : y ≤ 399) : jan1 (c * 400 + y + 1) = c * 146097 + (y * 365 + y / 4 - y / 100) + 306 - 719468 := by
 have e1 : (c * 400 + y + 1 + 3) / 4 = 100 * c + y / 4 + 1 := by omega
 have e2 : (c * 400 + y + 1 + 99) / 100 = 4 * c + y / 100 + 1 := by omega
 have e3 : (c * 400 + y + 1 + 399) / 400 = c + 1 := by omega
 unfold jan1
 rw [e1, e2, e3]
 omega
theorem dateY_jan (n : Int) : jan1 (dateY n) ≤ n ∧ n < jan1 (dateY n + 1) := by
 have hD : dateY n = if 10 ≤ monN ((n + 719468) % 146097 - (yearN ((n + 719468) % 146097) * 365 + yearN ((n + 719468) % 146097) / 4 - yearN ((n + 719468) % 146097) / 100)) 11 then (n + 719468) / 146097 * 400 + yearN ((n + 719468) % 146097) + 1 else (n + 719468) / 146097 * 400 + yearN ((n + 719468) % 146097) := rfl
 have c3 : 0 ≤ (n + 719468) % 146097 ∧ (n + 719468) % 146097 < 146097 := by omega
 have hn : n = (n + 719468) / 146097 * 146097 + (n + 719468) % 146097 - 719468 := by omega
 have hb := yearN_bd _ c3.1 c3.2
 generalize (n + 719468) % 146097 = r at *
 generalize (n + 719468) / 146097 = c at *
 generalize yearN r = y at *
 obtain ⟨y1, y2, y3, y4⟩ := hb
 have ht := monN_ten _ y3
 have hm := jan1_mar c y y1 y2
 by_cases h : 10 ≤ monN (r - (y * 365 + y / 4 - y / 100)) 11
 ·rw [if_pos h] at hD
  have hq := ht.1 h
  have h2 := jan1_succ (c * 400 + y + 1)
  have h3 := sizeY_bd (c * 400 + y + 1)
  rw [hD, h2, hm]
  omega
 ·rw [if_neg h] at hD
  have hq : ¬ 306 ≤ r - (y * 365 + y / 4 - y / 100) := fun e => h (ht.2 e)
  have h2 := jan1_succ (c * 400 + y)
  have h3 := sizeY_bd (c * 400 + y)
  rw [hD]
  omega
theorem jan1_mono (a : Int) (k : Nat) : jan1 a + 365 * k ≤ jan1 (a + k) := by
 induction k with
 | zero => simp
 | succ k ih =>
  have := jan1_succ (a + k)
  have h2 := sizeY_bd (a + k)
  rw [show a + ((k + 1 : Nat) : Int) = a + k + 1 by omega, this]
  omega
theorem jan1_uni {n a b : Int} (h1 : jan1 a ≤ n) (h2 : n < jan1 (a + 1)) (h3 : jan1 b ≤ n) (h4 : n < jan1 (b + 1)) : a = b := by
 by_cases h : a < b
 ·have := jan1_mono (a + 1) (b - (a + 1)).toNat
  rw [show a + 1 + ((b - (a + 1)).toNat : Int) = b by omega] at this
  omega
 ·by_cases h' : b < a
  ·have := jan1_mono (b + 1) (a - (b + 1)).toNat
   rw [show b + 1 + ((a - (b + 1)).toNat : Int) = a by omega] at this
   omega
  ·omega
theorem dayNo_year (y m : Int) : dayNo y m 1 + 365 ≤ dayNo (y + 1) m 1 := by
 unfold dayNo dayNoM
 split <;> omega
theorem dayNo_mono (y m : Int) (k : Nat) : dayNo y m 1 + 365 * k ≤ dayNo (y + k) m 1 := by
 induction k with
 | zero => simp
 | succ k ih =>
  have := dayNo_year (y + k) m
  rw [show y + ((k + 1 : Nat) : Int) = y + k + 1 by omega]
  omega
theorem dayNo_janN (y : Int) : ∀ (m : Nat), m ≤ 11 → jan1 y ≤ dayNo y ((m : Int) + 1) 1 ∧ dayNo y ((m : Int) + 1) 1 ≤ jan1 y + 31 * m
 | 0, _ => by rw [jan1_dayNo]; simp
 | m + 1, h => by
  have ih := dayNo_janN y m (by omega)
  have h1 := dayNo_succ y (m + 1) (by omega) (by omega)
  have h2 := lenM_bd y ((m + 1 : Nat) : Int)
  rw [h1]
  rw [show ((m + 1 : Nat) : Int) = (m : Int) + 1 by omega] at *
  omega
theorem dayNo_jan (y m : Int) (h0 : 1 ≤ m) (h1 : m ≤ 12) : jan1 y ≤ dayNo y m 1 ∧ dayNo y m 1 ≤ jan1 y + 341 := by
 have h := dayNo_janN y (m - 1).toNat (by omega)
 rw [show (((m - 1).toNat : Nat) : Int) + 1 = m by omega] at h
 omega
theorem onD_in {y m : Int} {d : DDay} (h : (onD y m d).2 = 0) : 1 ≤ m ∧ m ≤ 12 ∧ dayNo y m 1 - 6 ≤ (onD y m d).1 ∧ (onD y m d).1 ≤ dayNo y m 1 + 36 := by
 unfold onD at h ⊢
 by_cases h1 : daysOk y m 1 = false
 ·rw [if_pos h1] at h; simp at h
 rw [if_neg h1] at h ⊢
 by_cases h2 : dayChk d = false
 ·rw [if_pos h2] at h; simp at h
 rw [if_neg h2] at h ⊢
 by_cases h3 : lenM y m < d.day
 ·rw [if_pos h3] at h; simp at h
 rw [if_neg h3]
 have hl := lenM_bd y m
 have hm : 1 ≤ m ∧ m ≤ 12 := by
  simp only [daysOk, Bool.not_eq_false, Bool.and_eq_true, decide_eq_true_eq] at h1
  have h4 := h1.2
  unfold lenM at h4
  by_cases hb : m < 1 ∨ 12 < m
  ·rw [if_pos hb] at h4; omega
  ·omega
 have hd : dayChk d = true := by simpa using h2
 refine ⟨hm.1, hm.2, ?_⟩
 simp only [dayChk, dayK, weekK, Bool.and_eq_true, Bool.or_eq_false_iff, Bool.not_eq_true', decide_eq_true_eq, decide_eq_false_iff_not] at hd
 simp only [daysOk, Bool.not_eq_false, Bool.and_eq_true, decide_eq_true_eq] at h1
 obtain ⟨⟨k1, k2⟩, hk⟩ := hd
 have hdd : d.kind ≠ 2 → 1 ≤ d.day := by
  intro h5
  have e1 : (!decide (d.kind = 2)) = true := by simpa using h5
  obtain ⟨⟨⟨⟨⟨_, _⟩, _⟩, h7⟩, h8⟩, _⟩ := hk
  rw [e1] at h7
  simp at h7
  omega
 unfold findD beforeW behindW
 dsimp only
 split
 ·omega
 ·split
  ·omega
  ·split <;> omega
theorem onR_some {least : Int} {r : DRule} {i y : Int} {e : DEvent} (h : onR least r i y = some e) : e.year = y ∧ e.rule = i ∧ max r.from_ (-2000000000) ≤ y ∧ y ≤ 2000000000 ∧ -604799 ≤ r.at_.sec ∧ r.at_.sec ≤ 604799 ∧ (onD y r.month r.day).2 = 0 ∧ e.nominal = 86400 * (onD y r.month r.day).1 + (r.at_.sec + (if r.at_.base = 1 then max least (-10800) else 0)) := by
 unfold onR at h
 split at h
 ·cases h
 rename_i h1
 split at h
 ·cases h
 rename_i h2
 cases h
 have hc : clkChk r.at_ = true := by
  cases hc : clkChk r.at_
  ·exact absurd (.inr (.inr hc)) h1
  ·rfl
 simp only [clkChk, Bool.and_eq_true, decide_eq_true_eq] at hc
 have hl : ¬ lastY r < y := fun h => h1 (.inr (.inl h))
 have hl2 : lastY r ≤ 2000000000 := by unfold lastY; split <;> omega
 refine ⟨rfl, rfl, ?_, by omega, hc.1.1.1, hc.1.1.2, Decidable.not_not.1 h2, ?_⟩
 ·have : ¬ y < max r.from_ (-2000000000) := fun h => h1 (.inl h)
  omega
 ·dsimp only
  omega
theorem onR_in {least : Int} (hl : least ≤ 0) {r : DRule} {i y : Int} {e : DEvent} (h : onR least r i y = some e) : jan1 y * 86400 - 1700000 ≤ e.nominal ∧ e.nominal ≤ jan1 (y + 1) * 86400 + 1700000 := by
 obtain ⟨_, _, _, _, h3, h4, h5, h6⟩ := onR_some h
 obtain ⟨m1, m2, d1, d2⟩ := onD_in h5
 have hj := dayNo_jan y r.month m1 m2
 have hs := jan1_succ y
 have hz := sizeY_bd y
 have hm : -10800 ≤ (if r.at_.base = 1 then max least (-10800) else 0) ∧ (if r.at_.base = 1 then max least (-10800) else 0) ≤ 0 := by split <;> omega
 generalize (if r.at_.base = 1 then max least (-10800) else 0) = mx at *
 generalize (onD y r.month r.day).1 = D at *
 omega
theorem onR_mono {least : Int} {r : DRule} {i i' y y' : Int} {e e' : DEvent} (h : onR least r i y = some e) (h' : onR least r i' y' = some e') (hy : y < y') : e.nominal < e'.nominal := by
 obtain ⟨_, _, _, _, h3, h4, h5, h6⟩ := onR_some h
 obtain ⟨_, _, _, _, g3, g4, g5, g6⟩ := onR_some h'
 obtain ⟨m1, m2, d1, d2⟩ := onD_in h5
 obtain ⟨n1, n2, e1, e2⟩ := onD_in g5
 have hk := dayNo_mono y r.month (y' - y).toNat
 rw [show y + ((y' - y).toNat : Int) = y' by omega] at hk
 rw [h6, g6]
 generalize r.at_.sec + (if r.at_.base = 1 then max least (-10800) else 0) = s at *
 generalize (onD y r.month r.day).1 = D at *
 generalize (onD y' r.month r.day).1 = D' at *
 omega
theorem year_near {y y' : Int} (h : jan1 y * 86400 - 2100000 < jan1 (y' + 1) * 86400 + 2100000) : y ≤ y' + 1 := by
 by_cases hc : y ≤ y' + 1
 ·exact hc
 ·have := jan1_mono (y' + 1) (y - (y' + 1)).toNat
  rw [show y' + 1 + ((y - (y' + 1)).toNat : Int) = y by omega] at this
  omega
theorem yearOf_jan {t : Int} (h0 : -4000000000000 ≤ t) (h1 : t ≤ 4000000000000) : jan1 (yearOf t) * 86400 ≤ t ∧ t < jan1 (yearOf t + 1) * 86400 := by
 have h := dateY_jan (t / 86400)
 have hb : -1000000000 ≤ dateY (t / 86400) ∧ dateY (t / 86400) ≤ 1000000000 := by
  unfold jan1 at h
  omega
 have e : yearOf t = dateY (t / 86400) := by unfold yearOf; omega
 rw [e]
 omega
end Go.Wk
