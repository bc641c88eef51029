/- Contract: the reference of layer 24: Check. Plain law: following links by steps, or by names seen. Contract: the reference of layer 15: Check. -/
import Derived.Test.YtceekohkjgiabaaGreatDoorQ38
import Derived.Test.YtceekohkjgiabaaGreatDoorQ30
import Derived.Test.YtceekohkjgiabaaGreatDoorQ32
set_option maxHeartbeats 4000000
set_option linter.unusedVariables false
set_option linter.unusedSimpArgs false
namespace Go.Wk
def idxGo {α : Type} (p : α → Bool) : List α → Nat → Option Nat
 | [], _ => none
 | x :: l, k => if p x then some k else idxGo p l (k + 1)
theorem idxGo_eq {α : Type} (p : α → Bool) : ∀ (l : List α) (k : Nat), idxGo p l k = (l.findIdx? p).map (· + k)
 | [], _ => rfl
 | x :: l, k => by
  rw [idxGo, List.findIdx?_cons]
  cases h : p x with
  | true => simp
  | false =>
   simp only [Bool.false_eq_true, if_false, Option.map_map]
   rw [idxGo_eq p l (k + 1)]
   congr 1
   funext y
   simp only [Function.comp]
   omega
theorem idxGo_0 {α : Type} (p : α → Bool) (l : List α) : l.findIdx? p = idxGo p l 0 := by rw [idxGo_eq]; simp
end Go.Wk
namespace Go.Proofs.YtceekohkjgiabaaGreatDoor
open Go Go.RowKit Go.Wk
attribute [local irreducible] W RL Does thenQ blockQ retQ Calls Pu Stp RD Qy Ay DoesIn
def wordB (f : Int) (v : Value) (O : List It) : Prop := (∃ s, v = .string s ∧ decide (s = (⟨#[]⟩ : ByteArray)) = (decide (f < 1) || decide (3 < f))) ∧ O = []
theorem rword_spec (f : Int) (w : World) : Does Tryz.prog 73 [.int .i64 f] w (wordB f) := by
 refine Does_of_W Tryz.func73 rfl rfl rfl rfl ?_
 by_cases h1 : f = 1
 ·subst h1
  repeat (first | refine walk ?_)
  exact ret_1 _ [] (.tmp rfl) .nil ⟨⟨_, rfl, by decide⟩, rfl⟩
 have b1 : decide (f = 1) = false := decide_eq_false h1
 by_cases h2 : f = 2
 ·subst h2
  repeat (first | refine walk ?_)
  exact ret_1 _ [] (.tmp rfl) .nil ⟨⟨_, rfl, by decide⟩, rfl⟩
 have b2 : decide (f = 2) = false := decide_eq_false h2
 by_cases h3 : f = 3
 ·subst h3
  repeat (first | refine walk ?_)
  exact ret_1 _ [] (.tmp rfl) .nil ⟨⟨_, rfl, by decide⟩, rfl⟩
 have b3 : decide (f = 3) = false := decide_eq_false h3
 repeat (first | (apply RL_pu; rfl; (apply Pu_eqlB; rfl; rfl; first | exact b1 | exact b2 | exact b3)) | refine walk1 ?_)
 refine ret_1 _ [] (.tmp rfl) .nil ⟨⟨_, rfl, ?_⟩, rfl⟩
 rw [decide_eq_true (show (⟨#[]⟩ : ByteArray) = ⟨#[]⟩ from rfl)]
 symm
 simp only [Bool.or_eq_true, decide_eq_true_eq]
 omega
theorem PuRfX1 {G : Prop} (h : G := by (apply Pu_eqlSB; rfl; rfl; exact hws.trans hfb)) : G := h
theorem PuRfX2 {G : Prop} (h : G := by (first | exact PuI | (apply Pu_lssB; rfl; rfl; exact z1) | (apply Pu_eqlB; rfl; rfl; first | exact n1 | exact q4 | exact q5 | exact m2) | (apply Pu_neqB'; rfl; rfl; first | exact m1 | exact m4))) : G := h
theorem PuRfX3 {G : Prop} (h : G := by (first | (apply Pu_gtrB; rfl; rfl; exact bs1) | (apply Pu_lssB; rfl; rfl; exact z1) | (apply Pu_eqlB; rfl; rfl; first | exact n1 | exact q4 | exact q5 | exact m2) | (apply Pu_neqB'; rfl; rfl; first | exact m1 | exact m4))) : G := h
set_option maxHeartbeats 4000000 in
theorem rvar_gen (Ar Az Al As : Option Addr) (cr cz cl cs : Nat) (a : DSource) (f : Int) (a1 a2 a3 a4 : Bool) (w : World) (hA : RdSource w Ar Az Al As cr cz cl cs a) (hS : SrcOk a) (hZ : ∀ z ∈ a.zones, ∀ e ∈ z.eras, e.format.size ≤ 1000000000)
  (hf : 1 ≤ f ∧ f ≤ 3) (n1 : decide (f = 3) = !a1) (m1 : (!decide (f = 1)) = !a2) (m2 : decide (f = 1) = !a3) (m4 : (!decide (f = 3)) = !a4) :
  Does Tryz.prog 33 [srcV Ar Az Al As cr cz cl cs a, .int .i64 f] w (fun v O => v = ptV (vfG a1 a2 a3 a4 a) ∧ O = []) := by
 have hnz := hS.nz
 have hnr := hS.nr
 have hns := hS.ns
 unfold vfG
 rw [idxGo_0]
 obtain ⟨R1, h1⟩ : ∃ R, idxGo (negB a1) a.rules 0 = R := ⟨_, rfl⟩
 obtain ⟨R2, h2⟩ : ∃ R, zGo a2 a3 a.zones 0 = R := ⟨_, rfl⟩
 rw [h1, h2]
 refine Does_of_W Tryz.func33 rfl rfl rfl rfl ?_
 have hfb : (decide (f < 1) || decide (3 < f)) = false := by rw [decide_eq_false (show ¬ f < 1 by omega), decide_eq_false (show ¬ 3 < f by omega)]; rfl
 repeat (first | (apply RL_pu; rfl; exact PuRfX1) | (refine js ?_; (first | (apply Stp_call (h := fun w' _ _ => rword_spec f w'); rfl; rintro v O' ⟨⟨ws, rfl, hws⟩, rfl⟩) | (refine bx ?_; intro bk))) | refine walk1 ?_)
 rename_i bs
 obtain ⟨b4, hb4⟩ : ∃ b4, bk = b4 := ⟨_, rfl⟩
 rw [hb4]
 clear hb4 bk
 refine W_loopF [(1, .int .i64 f), (2, .pointer (some ⟨bs, 0, none⟩)), (4, .pointer (some ⟨b4, 0, none⟩))] [.blk b4 [.int .i64 0, .int .i64 0, .int .i64 0] 31, .blk bs [.slice Ar a.rules.length cr, .slice Az a.zones.length cz, .slice Al a.links.length cl, .slice As a.shifts.length cs] 27]
  (fun k : Nat => [(6, .int .i64 k)]) (fun _ => []) (fun k => k ≤ a.rules.length ∧ idxGo (negB a1) (a.rules.drop k) k = R1) (fun k => a.rules.length - k) 0 SFA SOA ⟨Nat.zero_le _, h1⟩ ?_
 clear h1
 rintro k ⟨hk, hi⟩
 repeat (first | (refine js ?_; (refine bx ?_; intro bk)) | refine walk ?_)
 refine W_cond rfl (fun hc => ?_) (fun hc => ?_)
 ·simp only [decide_eq_true_eq, Int.ofNat_lt] at hc
  obtain ⟨hna, hca⟩ := hA.r.rd k _ (List.getElem?_eq_getElem hc)
  rw [drop_cons hc, idxGo, negB] at hi
  generalize a.rules[k] = r at *
  simp only [DRule.enc] at hca
  obtain ⟨z, z1⟩ : ∃ z, decide (r.save < 0) = z := ⟨_, rfl⟩
  rw [z1] at hi
  have hnb := hna
  have hcb := hca
  cases z with
  | false =>
   rw [Bool.false_and, if_neg (by decide)] at hi
   repeat (first | refine und ?_ | (apply RL_pu; rfl; exact PuRfX2) | (refine js ?_; (refine bx ?_; intro bk)) | refine walk1 ?_)
   exact ⟨k + 1, OA, ⟨OA, hi⟩, SFA, SOA⟩
  | true =>
   cases a1 with
   | true =>
    rw [if_neg (by decide)] at hi
    repeat (first | refine und ?_ | (apply RL_pu; rfl; exact PuRfX2) | (refine js ?_; (refine bx ?_; intro bk)) | refine walk1 ?_)
    exact ⟨k + 1, OA, ⟨OA, hi⟩, SFA, SOA⟩
   | false =>
    rw [if_pos (by decide)] at hi
    subst hi
    simp only [ptV, plV, DPlace.enc]
    repeat (first | refine und ?_ | (apply RL_pu; rfl; exact PuRfX2) | (refine js ?_; (refine bx ?_; intro bk)) | refine walk1 ?_)
    exact rtC
 simp only [decide_eq_false_iff_not, Int.ofNat_lt] at hc
 rw [List.drop_eq_nil_of_le (by omega), idxGo] at hi
 subst hi
 dsimp only
 clear hk hc
 repeat (first | (refine js ?_; (refine bx ?_; intro bk)) | refine walk ?_)
 refine W_loopF [(1, .int .i64 f), (2, .pointer (some ⟨bs, 0, none⟩)), (4, .pointer (some ⟨b4, 0, none⟩))] [.blk b4 [.int .i64 0, .int .i64 0, .int .i64 0] 31, .blk bs [.slice Ar a.rules.length cr, .slice Az a.zones.length cz, .slice Al a.links.length cl, .slice As a.shifts.length cs] 27]
  (fun k : Nat => [(7, .int .i64 k)]) (fun _ => []) (fun k => k ≤ a.zones.length ∧ zGo a2 a3 (a.zones.drop k) k = R2) (fun k => a.zones.length - k) 0 SFA SOA ⟨Nat.zero_le _, h2⟩ ?_
 clear h2 k
 rintro k ⟨hk, hi⟩
 repeat (first | (refine js ?_; (refine bx ?_; intro bk)) | refine walk ?_)
 refine W_cond rfl (fun hc => ?_) (fun hc => ?_)
 ·simp only [decide_eq_true_eq, Int.ofNat_lt] at hc
  obtain ⟨hna, cs1, ⟨Ae, ce, hEz, rfl⟩, hca⟩ := hA.z k _ (List.getElem?_eq_getElem hc)
  have hmem := List.getElem_mem hc
  rw [drop_cons hc, zGo, idxGo_0] at hi
  generalize a.zones[k] = z at *
  have hel := (hS.zs z hmem).2.1
  obtain ⟨E, hE⟩ : ∃ E, idxGo (wrongB a2 a3) z.eras 0 = E := ⟨_, rfl⟩
  rw [hE] at hi
  repeat (first | (refine js ?_; (refine bx ?_; intro bk)) | refine walk ?_)
  refine W_loopF [(1, .int .i64 f), (2, .pointer (some ⟨bs, 0, none⟩)), (4, .pointer (some ⟨b4, 0, none⟩)), (7, .int .i64 k)] [.blk b4 [.int .i64 0, .int .i64 0, .int .i64 0] 31, .blk bs [.slice Ar a.rules.length cr, .slice Az a.zones.length cz, .slice Al a.links.length cl, .slice As a.shifts.length cs] 27]
   (fun j : Nat => [(8, .int .i64 j)]) (fun _ => []) (fun j => j ≤ z.eras.length ∧ idxGo (wrongB a2 a3) (z.eras.drop j) j = E) (fun j => z.eras.length - j) 0 SFA SOA ⟨Nat.zero_le _, hE⟩ ?_
  clear hE
  rintro j ⟨hj, hij⟩
  have hcb := hca
  have hnb := hna
  repeat (first | (apply RL_pu; rfl; exact PuI) | (refine js ?_; (refine bx ?_; intro bk)) | refine walk1 ?_)
  refine W_cond rfl (fun hc2 => ?_) (fun hc2 => ?_)
  ·simp only [decide_eq_true_eq, Int.ofNat_lt] at hc2
   clear hcb hnb
   obtain ⟨hnb, hcb⟩ := hEz.rd j _ (List.getElem?_eq_getElem hc2)
   have hem := List.getElem_mem hc2
   rw [drop_cons hc2, idxGo, wrongB] at hij
   generalize z.eras[j] = e at *
   have hk := fun w' => rkind_spec e.format (hZ z hmem e hem) w'
   generalize kindF e.format.data.toList = K at *
   simp only [DEra.enc] at hcb
   obtain ⟨y4, q4⟩ : ∃ y, decide (K = 4) = y := ⟨_, rfl⟩
   obtain ⟨y5, q5⟩ : ∃ y, decide (K = 5) = y := ⟨_, rfl⟩
   rw [q4, q5] at hij
   obtain ⟨W, hW⟩ : ∃ W, ((y4 && !a2) || (y5 && !a3)) = W := ⟨_, rfl⟩
   rw [hW] at hij
   cases W with
   | false =>
    rw [if_neg (by decide)] at hij
    cases y4 <;> cases a2 <;> cases y5 <;> cases a3
    all_goals first | exact absurd hW (by decide) | skip
    all_goals
     repeat (first | refine und ?_ | (apply RL_pu; rfl; exact PuRfX2) | (refine js ?_; (first | (refine callE (fun w' _ => hk w') ?_) | (refine bx ?_; intro bk))) | refine walk1 ?_)
     exact ⟨j + 1, OA, ⟨OA, hij⟩, SFA, SOA⟩
   | true =>
    rw [if_pos rfl] at hij
    subst hij
    dsimp only at hi
    subst hi
    simp only [ptV, plV, DPlace.enc]
    cases y4 <;> cases a2 <;> cases y5 <;> cases a3
    all_goals first | exact absurd hW (by decide) | skip
    all_goals
     repeat (first | refine und ?_ | (apply RL_pu; rfl; exact PuRfX2) | (refine js ?_; (first | (refine callE (fun w' _ => hk w') ?_) | (refine bx ?_; intro bk))) | refine walk1 ?_)
     exact rtC
  ·simp only [decide_eq_false_iff_not, Int.ofNat_lt] at hc2
   rw [List.drop_eq_nil_of_le (by omega), idxGo] at hij
   subst hij
   dsimp only at hi
   repeat (first | (refine js ?_; (refine bx ?_; intro bk)) | refine walk ?_)
   exact ⟨k + 1, OA, ⟨OA, hi⟩, SFA, SOA⟩
 simp only [decide_eq_false_iff_not, Int.ofNat_lt] at hc
 rw [List.drop_eq_nil_of_le (by omega), zGo] at hi
 subst hi
 dsimp only
 by_cases hsn : 0 < a.shifts.length
 ·have bs1 : decide ((0 : Int) < a.shifts.length) = true := decide_eq_true (by omega)
  cases a4 with
  | false =>
   rw [if_pos ⟨hsn, rfl⟩]
   simp only [ptV, plV, DPlace.enc]
   repeat (first | refine und ?_ | (apply RL_pu; rfl; exact PuRfX3) | (refine js ?_; (refine bx ?_; intro bk)) | refine walk1 ?_)
   exact rtC
  | true =>
   rw [if_neg (by rintro ⟨_, h⟩; cases h)]
   simp only [ptV, plV, DPlace.enc]
   repeat (first | refine und ?_ | (apply RL_pu; rfl; exact PuRfX3) | (refine js ?_; (refine bx ?_; intro bk)) | refine walk1 ?_)
   exact rtC
 ·have bs1 : decide ((0 : Int) < a.shifts.length) = false := decide_eq_false (by omega)
  rw [if_neg (fun h => hsn h.1)]
  simp only [ptV, plV, DPlace.enc]
  repeat (first | refine und ?_ | (apply RL_pu; rfl; exact PuRfX3) | (refine js ?_; (refine bx ?_; intro bk)) | refine walk1 ?_)
  exact rtC
theorem rvar_spec (Ar Az Al As : Option Addr) (cr cz cl cs : Nat) (a : DSource) (f : Int) (w : World) (hA : RdSource w Ar Az Al As cr cz cl cs a) (hS : SrcOk a) (hZ : ∀ z ∈ a.zones, ∀ e ∈ z.eras, e.format.size ≤ 1000000000) :
  Does Tryz.prog 33 [srcV Ar Az Al As cr cz cl cs a, .int .i64 f] w (fun v O => v = ptV (varFault f a) ∧ O = []) := by
 by_cases hb : f < 1 ∨ 3 < f
 ·rw [show varFault f a = some (⟨0, 0, 0⟩, 2) by unfold varFault; rw [if_pos hb]]
  refine Does_of_W Tryz.func33 rfl rfl rfl rfl ?_
  simp only [ptV, plV, DPlace.enc]
  have hfb : (decide (f < 1) || decide (3 < f)) = true := by simpa using hb
  repeat (first | (apply RL_pu; rfl; exact PuRfX1) | (refine js ?_; (first | (apply Stp_call (h := fun w' _ _ => rword_spec f w'); rfl; rintro v O' ⟨⟨ws, rfl, hws⟩, rfl⟩) | (refine bx ?_; intro bk))) | refine walk1 ?_)
  exact rtC
 ·obtain rfl | rfl | rfl : f = 1 ∨ f = 2 ∨ f = 3 := by omega
  ·rw [vf_1]; exact rvar_gen Ar Az Al As cr cz cl cs a 1 _ _ _ _ w hA hS hZ (by decide) rfl rfl rfl rfl
  ·rw [vf_2]; exact rvar_gen Ar Az Al As cr cz cl cs a 2 _ _ _ _ w hA hS hZ (by decide) rfl rfl rfl rfl
  ·rw [vf_3]; exact rvar_gen Ar Az Al As cr cz cl cs a 3 _ _ _ _ w hA hS hZ (by decide) rfl rfl rfl rfl
end Go.Proofs.YtceekohkjgiabaaGreatDoor
namespace Go.Proofs.YtceekohkjgiabaaGreatDoor
open Go Go.RowKit Go.Wk
def stepL (s : DSource) (x : ByteArray) : Option ByteArray :=
 match firstZ x s.zones 0 with
 | some _ => none
 | none => match firstL x s.links 0 with
  | none => none
  | some i => some ((s.links[i]?).map (·.target) |>.getD ByteArray.empty)
def iterL (s : DSource) : Nat → ByteArray → Option ByteArray
 | 0, x => some x
 | n + 1, x => (stepL s x).bind (iterL s n)
theorem iterL_add (s : DSource) (b : Nat) : ∀ (a : Nat) (x : ByteArray), iterL s (a + b) x = (iterL s a x).bind (iterL s b)
 | 0, x => by rw [Nat.zero_add]; rfl
 | a + 1, x => by
  rw [show a + 1 + b = (a + b) + 1 by omega, iterL, iterL, Option.bind_assoc]
  congr 1
  funext y
  exact iterL_add s b a y
theorem iterL_loop {s : DSource} {x : ByteArray} {j : Nat} (h : iterL s (j + 1) x = some x) (n : Nat) : iterL s n x ≠ none := by
 have hk : ∀ k, iterL s ((j + 1) * k) x = some x := fun k => by
  induction k with
  | zero => rfl
  | succ k ih => rw [Nat.mul_succ, iterL_add, ih]; exact h
 intro hn
 have h1 := hk n
 have h2 : (j + 1) * n = n + j * n := by rw [Nat.add_mul]; omega
 rw [h2, iterL_add, hn] at h1
 cases h1
theorem findR_iter (s : DSource) : ∀ (f : Nat) (x : ByteArray), (findR s f x).2 = 11 ↔ iterL s f x ≠ none
 | 0, x => ⟨fun _ h => (by cases h), fun _ => rfl⟩
 | f + 1, x => by
  rw [findR, iterL, stepL]
  cases firstZ x s.zones 0 with
  | some i => exact ⟨fun h => (by cases h), fun h => absurd rfl h⟩
  | none =>
   cases firstL x s.links 0 with
   | none => exact ⟨fun h => (by cases h), fun h => absurd rfl h⟩
   | some i => exact findR_iter s f _
theorem nodup_len {α : Type} [DecidableEq α] : ∀ (a b : List α), a.Nodup → (∀ x ∈ a, x ∈ b) → a.length ≤ b.length
 | [], _, _, _ => Nat.zero_le _
 | x :: a, b, hn, hs => by
  have hx := hs x List.mem_cons_self
  rw [List.nodup_cons] at hn
  have ih := nodup_len a (b.erase x) hn.2 fun y hy => (List.mem_erase_of_ne (fun e => hn.1 (by rw [← e]; exact hy))).2 (hs y (List.mem_cons_of_mem _ hy))
  rw [List.length_erase_of_mem hx] at ih
  have : 0 < b.length := List.length_pos_of_mem hx
  simp only [List.length_cons]
  omega
theorem memB_iff (x : ByteArray) : ∀ l : List ByteArray, memB x l = true ↔ x ∈ l
 | [] => ⟨fun h => (by cases h), fun h => (by cases h)⟩
 | y :: l => by
  rw [memB_cons, Bool.or_eq_true, decide_eq_true_eq, memB_iff x l, List.mem_cons]
  exact ⟨fun h => h.elim (fun h => .inl h.symm) .inr, fun h => h.elim (fun h => .inl h.symm) .inr⟩
theorem firstL_name {x : ByteArray} : ∀ (l : List DLink) (k i : Nat), firstL x l k = some i → ∃ z ∈ l, z.name = x
 | [], _, _, h => by cases h
 | y :: l, k, i, h => by
  rw [firstL] at h
  by_cases hy : y.name = x
  ·exact ⟨y, List.mem_cons_self, hy⟩
  ·rw [if_neg hy] at h
   obtain ⟨z, hz, e⟩ := firstL_name l (k + 1) i h
   exact ⟨z, List.mem_cons_of_mem _ hz, e⟩
theorem followD_loop (s : DSource) : ∀ (f : Nat) (seen : List ByteArray) (x : ByteArray), f + seen.length = s.links.length + 1 → seen.Nodup → (∀ y ∈ seen, y ∈ s.links.map (·.name)) → (∀ y ∈ seen, ∃ j, iterL s (j + 1) y = some x) →
  (followD s f seen x).2 = 11 → ∀ n, iterL s n x ≠ none
 | 0, seen, x, hf, hn, hm, _, _ => by
  have := nodup_len _ _ hn hm
  rw [List.length_map] at this
  omega
 | f + 1, seen, x, hf, hn, hm, hj, h => by
  rw [followD] at h
  cases hz : firstZ x s.zones 0 with
  | some i => rw [hz] at h; cases h
  | none =>
   rw [hz] at h
   dsimp only at h
   cases hl : firstL x s.links 0 with
   | none => rw [hl] at h; cases h
   | some i =>
    rw [hl] at h
    dsimp only at h
    by_cases hb : memB x seen = true
    ·obtain ⟨j, hj⟩ := hj x ((memB_iff x seen).1 hb)
     exact iterL_loop hj
    ·rw [if_neg hb] at h
     have hx : x ∉ seen := fun e => hb ((memB_iff x seen).2 e)
     have hst : stepL s x = some ((s.links[i]?).map (·.target) |>.getD ByteArray.empty) := by unfold stepL; rw [hz, hl]
     have ih := followD_loop s f (x :: seen) _ (by simp only [List.length_cons]; omega) (List.nodup_cons.2 ⟨hx, hn⟩) (fun y hy => by
      rcases List.mem_cons.1 hy with rfl | hy
      ·obtain ⟨z, hz, e⟩ := firstL_name _ _ _ hl
       exact List.mem_map.2 ⟨z, hz, e⟩
      ·exact hm y hy) (fun y hy => by
      rcases List.mem_cons.1 hy with rfl | hy
      ·exact ⟨0, by rw [iterL, hst]; rfl⟩
      ·obtain ⟨j, hj⟩ := hj y hy
       exact ⟨j + 1, by rw [show j + 1 + 1 = (j + 1) + 1 from rfl, iterL_add, hj, Option.bind_some, iterL, hst]; rfl⟩) h
     intro n
     cases n with
     | zero => exact fun e => by cases e
     | succ n => rw [iterL, hst]; exact ih n
theorem followD_not (s : DSource) : ∀ (f : Nat) (seen : List ByteArray) (x : ByteArray), (followD s f seen x).2 ≠ 11 → iterL s f x = none
 | 0, _, _, h => absurd rfl h
 | f + 1, seen, x, h => by
  rw [followD] at h
  rw [iterL, stepL]
  cases hz : firstZ x s.zones 0 with
  | some i => rfl
  | none =>
   rw [hz] at h
   dsimp only at h ⊢
   cases hl : firstL x s.links 0 with
   | none => rfl
   | some i =>
    rw [hl] at h
    dsimp only at h ⊢
    by_cases hb : memB x seen = true
    ·rw [if_pos hb] at h; exact absurd rfl h
    ·rw [if_neg hb] at h
     exact followD_not s f _ _ h
theorem follow_find (s : DSource) (x : ByteArray) : (followD s (s.links.length + 1) [] x).2 = 11 ↔ (findR s (s.links.length + 1) x).2 = 11 := by
 rw [findR_iter]
 constructor
 ·intro h
  exact followD_loop s _ [] x (by simp) List.nodup_nil (fun _ h => by cases h) (fun _ h => by cases h) h _
 ·intro h
  exact Decidable.of_not_not fun hn => h (followD_not s _ [] x hn)
attribute [local irreducible] W RL Does thenQ blockQ retQ Calls Pu Stp RD Qy Ay DoesIn
theorem wkRfJ0 {G G' : Prop} (k : G') (h : Hold G' → G := by intro k9; (first | refine walk ?_ | (refine jn ?_; (try intro F); (first | (refine stA ?_) | (apply Stp_pu; exact PuA)); refine fin ?_)); exact k9.out) : G := h ⟨k⟩
theorem PuRfJ0 {G : Prop} (h : G := by (first | exact PuI | (apply Pu_lssB; rfl; rfl; exact b1))) : G := h
theorem QyRfJ0 {G : Prop} (h : G := by first | (apply Qy_y; rfl; exact PuRfJ0) | exact QyA) : G := h
theorem QFRfJ0 {G : Prop} (h : G := by repeat (first | exact QF.nil | (apply QF.mk; rfl; rfl; decide +kernel; exact QyRfJ0))) : G := h
theorem PuRfJ1 {G : Prop} (h : G := by (first | exact PuI | (apply Pu_geqB; rfl; rfl; exact bz))) : G := h
theorem QyRfJ1 {G : Prop} (h : G := by first | (apply Qy_y; rfl; exact PuRfJ1) | exact QyA) : G := h
theorem QFRfJ1 {G : Prop} (h : G := by repeat (first | exact QF.nil | (apply QF.mk; rfl; rfl; decide +kernel; exact QyRfJ1))) : G := h
theorem PuRfJ2 {G : Prop} (h : G := by (first | exact PuRfJ0 | (apply Pu_geqB; rfl; rfl; exact bz))) : G := h
theorem QyRfJ2 {G : Prop} (h : G := by first | (apply Qy_y; rfl; exact PuRfJ2) | exact QyA) : G := h
theorem QFRfJ2 {G : Prop} (h : G := by repeat (first | exact QF.nil | (apply QF.mk; rfl; rfl; decide +kernel; exact QyRfJ2))) : G := h
theorem PuRfJ3 {G : Prop} (h : G := by (first | exact PuI | (apply Pu_eqlB; rfl; rfl; exact b1))) : G := h
theorem QyRfJ3 {G : Prop} (h : G := by first | (apply Qy_y; rfl; exact PuRfJ3) | exact QyA) : G := h
theorem QFRfJ3 {G : Prop} (h : G := by repeat (first | exact QF.nil | (apply QF.mk; rfl; rfl; decide +kernel; exact QyRfJ3))) : G := h
set_option maxHeartbeats 2000000 in
theorem r15chk_spec (Ar Az Al As : Option Addr) (cr cz cl cs : Nat) (a : DSource) (w : World) (hA : RdSource w Ar Az Al As cr cz cl cs a) (hS : SrcOk a) :
  Does Tryz.prog 30 [srcV Ar Az Al As cr cz cl cs a] w (fun v O => v = ptV (linksD a) ∧ O = []) := by
 have hn := hS.nz
 have hn2 := hS.nl
 have hzs := fun x w' (hw : Bel w.heap.size w w') => rzone_spec Ar Az Al As cr cz cl cs a x w' (hA.up hw) hn
 have hls := fun x w' (hw : Bel w.heap.size w w') => rlink_spec Ar Az Al As cr cz cl cs a x w' (hA.up hw) hn2
 have hks := fun x w' (hw : Bel w.heap.size w w') => rknown_spec Ar Az Al As cr cz cl cs a x w' (hA.up hw) hn hn2
 have hfs := fun x w' (hw : Bel w.heap.size w w') => rFind_spec Ar Az Al As cr cz cl cs a x w' (hA.up hw) hn hn2
 have hfe := fun x => follow_find a x
 unfold linksD
 obtain ⟨R1, h1⟩ : ∃ R, zoneFault a a.zones 0 = R := ⟨_, rfl⟩
 obtain ⟨R2, h2⟩ : ∃ R, linkFault a a.links 0 = R := ⟨_, rfl⟩
 obtain ⟨R3, h3⟩ : ∃ R, loopFault a a.links 0 = R := ⟨_, rfl⟩
 rw [h1, h2, h3]
 refine Does_of_W Tryz.func30 rfl rfl rfl rfl ?_
 repeat (first | refine wkRfJ0 ?_ | (refine jn ?_; (try intro F); (refine bx ?_; intro bk); refine fin ?_) | (apply RD_W; rfl; intro bk))
 rename_i bs
 obtain ⟨b2, hb2⟩ : ∃ b2, bk = b2 := ⟨_, rfl⟩
 rw [hb2]
 clear hb2 bk
 refine W_loopF [(1, .pointer (some ⟨bs, 0, none⟩)), (2, .pointer (some ⟨b2, 0, none⟩))] [.blk b2 [.int .i64 0, .int .i64 0, .int .i64 0] 31, .blk bs [.slice Ar a.rules.length cr, .slice Az a.zones.length cz, .slice Al a.links.length cl, .slice As a.shifts.length cs] 27]
  (fun k : Nat => [(4, .int .i64 k)]) (fun _ => []) (fun k => k ≤ a.zones.length ∧ zoneFault a (a.zones.drop k) k = R1) (fun k => a.zones.length - k) 0 SFA SOA ⟨Nat.zero_le _, h1⟩ ?_
 clear h1
 rintro k ⟨hk, hi⟩
 repeat (first | refine wkRfJ0 ?_ | (refine jn ?_; (try intro F); (refine bx ?_; intro bk); refine fin ?_) | (apply RD_W; rfl; intro bk))
 refine W_cond rfl (fun hc => ?_) (fun hc => ?_)
 ·simp only [decide_eq_true_eq, Int.ofNat_lt] at hc
  obtain ⟨hna, cs1, ⟨Ae, ce, hEz, rfl⟩, hca⟩ := hA.z k _ (List.getElem?_eq_getElem hc)
  have hsz := (hS.zs _ (List.getElem_mem hc)).1
  obtain ⟨j, hj, hjk⟩ := firstZ_le a.zones 0 k (List.getElem?_eq_getElem hc)
  rw [drop_cons hc, zoneFault] at hi
  generalize a.zones[k] = z at *
  have hnm := fun w' => rZone_spec z.name (by omega) w'
  have hz := hzs z.name
  rw [hj] at hi hz
  simp only [ixN] at hz
  cases hb : zoneB z.name with
  | false =>
   rw [hb] at hi hnm
   rw [if_pos rfl] at hi
   subst hi
   simp only [Option.some_or, ptV, plV, DPlace.enc]
   repeat (first | (apply RL_pu; rfl; exact PuI) | (apply RD_Q; rfl; rfl; decide +kernel; rfl; rfl; exact QyI) | refine walk1 ?_ | (refine jg ?_; (try intro F); (first | (refine callE (fun w' _ => hnm w') ?_) | (refine bx ?_; intro bk) | (refine stA ?_)); first | refine ⟨_, EndsA, QFI, ?_⟩ | refine fin ?_) | (refine jn ?_; (try intro F); (first | (refine bx ?_; intro bk) | (refine stA ?_) | (apply Stp_pu; first | exact PuI | exact PuA)); first | refine ⟨_, EndsA, QFI, ?_⟩ | refine fin ?_) | (apply RD_W; rfl; intro bk))
   exact rtC
  | true =>
   rw [hb] at hi hnm
   rw [if_neg (by decide)] at hi
   by_cases hjk2 : j < k
   ·have b1 : decide ((j : Int) < (k : Int)) = true := decide_eq_true (by omega)
    rw [if_pos (fun e => by injection e with e; omega)] at hi
    subst hi
    simp only [Option.some_or, ptV, plV, DPlace.enc]
    repeat (first | (apply RL_pu; rfl; exact PuRfJ0) | (apply RD_Q; rfl; rfl; decide +kernel; rfl; rfl; exact QyRfJ0) | refine walk1 ?_ | (refine jg ?_; (try intro F); (first | (refine callE (fun w' _ => hnm w') ?_) | (refine callE hz ?_) | (refine bx ?_; intro bk) | (refine stA ?_)); first | refine ⟨_, EndsA, QFRfJ0, ?_⟩ | refine fin ?_) | (refine jn ?_; (try intro F); (first | (refine bx ?_; intro bk) | (refine stA ?_) | (apply Stp_pu; first | exact PuRfJ0 | exact PuA)); first | refine ⟨_, EndsA, QFRfJ0, ?_⟩ | refine fin ?_) | (apply RD_W; rfl; intro bk))
    exact rtC
   ·have b1 : decide ((j : Int) < (k : Int)) = false := decide_eq_false (by omega)
    rw [if_neg (fun e => e (by congr 1; omega))] at hi
    repeat (first | (apply RL_pu; rfl; exact PuRfJ0) | (apply RD_Q; rfl; rfl; decide +kernel; rfl; rfl; exact QyRfJ0) | refine walk1 ?_ | (refine jg ?_; (try intro F); (first | (refine callE (fun w' _ => hnm w') ?_) | (refine callE hz ?_) | (refine bx ?_; intro bk) | (refine stA ?_)); first | refine ⟨_, EndsA, QFRfJ0, ?_⟩ | refine fin ?_) | (refine jn ?_; (try intro F); (first | (refine bx ?_; intro bk) | (refine stA ?_) | (apply Stp_pu; first | exact PuRfJ0 | exact PuA)); first | refine ⟨_, EndsA, QFRfJ0, ?_⟩ | refine fin ?_) | (apply RD_W; rfl; intro bk))
    exact ⟨k + 1, OA, ⟨OA, hi⟩, SFA, SOA⟩
 simp only [decide_eq_false_iff_not, Int.ofNat_lt] at hc
 rw [List.drop_eq_nil_of_le (by omega), zoneFault] at hi
 subst hi
 rw [Option.none_or]
 clear hk hc
 repeat (first | refine wkRfJ0 ?_ | (refine jn ?_; (try intro F); (refine bx ?_; intro bk); refine fin ?_) | (apply RD_W; rfl; intro bk))
 refine W_loopF [(1, .pointer (some ⟨bs, 0, none⟩)), (2, .pointer (some ⟨b2, 0, none⟩))] [.blk b2 [.int .i64 0, .int .i64 0, .int .i64 0] 31, .blk bs [.slice Ar a.rules.length cr, .slice Az a.zones.length cz, .slice Al a.links.length cl, .slice As a.shifts.length cs] 27]
  (fun k : Nat => [(6, .int .i64 k)]) (fun _ => []) (fun k => k ≤ a.links.length ∧ linkFault a (a.links.drop k) k = R2) (fun k => a.links.length - k) 0 SFA SOA ⟨Nat.zero_le _, h2⟩ ?_
 clear h2 k
 rintro k ⟨hk, hi⟩
 repeat (first | refine wkRfJ0 ?_ | (refine jn ?_; (try intro F); (refine bx ?_; intro bk); refine fin ?_) | (apply RD_W; rfl; intro bk))
 refine W_cond rfl (fun hc => ?_) (fun hc => ?_)
 ·simp only [decide_eq_true_eq, Int.ofNat_lt] at hc
  obtain ⟨hna, hca⟩ := hA.l.rd k _ (List.getElem?_eq_getElem hc)
  have hsz := (hS.ls _ (List.getElem_mem hc)).2
  obtain ⟨j, hj, hjk⟩ := firstL_le a.links 0 k (List.getElem?_eq_getElem hc)
  rw [drop_cons hc, linkFault] at hi
  generalize a.links[k] = z at *
  have hnm := fun w' => rZone_spec z.name (by omega) w'
  have hz := hzs z.name
  have hl := hls z.name
  have hk2 := hks z.target
  have bz := ixN_geq (firstZ z.name a.zones 0)
  rw [hj] at hi hl
  simp only [ixN] at hl
  generalize firstZ z.name a.zones 0 = o1 at *
  generalize ixN o1 = n1 at *
  cases hb : zoneB z.name with
  | false =>
   rw [hb] at hi hnm
   rw [if_pos rfl] at hi
   subst hi
   simp only [Option.some_or, ptV, plV, DPlace.enc]
   repeat (first | (apply RL_pu; rfl; exact PuI) | (apply RD_Q; rfl; rfl; decide +kernel; rfl; rfl; exact QyI) | refine walk1 ?_ | (refine jg ?_; (try intro F); (first | (refine callE (fun w' _ => hnm w') ?_) | (refine bx ?_; intro bk) | (refine stA ?_)); first | refine ⟨_, EndsA, QFI, ?_⟩ | refine fin ?_) | (refine jn ?_; (try intro F); (first | (refine bx ?_; intro bk) | (refine stA ?_) | (apply Stp_pu; first | exact PuI | exact PuA)); first | refine ⟨_, EndsA, QFI, ?_⟩ | refine fin ?_) | (apply RD_W; rfl; intro bk))
   exact rtC
  | true =>
   rw [hb] at hi hnm
   rw [if_neg (by decide)] at hi
   generalize o1.isSome = z1 at *
   cases z1 with
   | true =>
    rw [if_pos (.inl rfl)] at hi
    subst hi
    simp only [Option.some_or, ptV, plV, DPlace.enc]
    repeat (first | refine und ?_ | (apply RL_pu; rfl; exact PuRfJ1) | (apply RD_Q; rfl; rfl; decide +kernel; rfl; rfl; exact QyRfJ1) | refine walk1 ?_ | (refine jg ?_; (try intro F); (first | (refine callE (fun w' _ => hnm w') ?_) | (refine callE hz ?_) | (refine bx ?_; intro bk) | (refine stA ?_)); first | refine ⟨_, EndsA, QFRfJ1, ?_⟩ | refine fin ?_) | (refine jn ?_; (try intro F); (first | (refine bx ?_; intro bk) | (refine stA ?_) | (apply Stp_pu; first | exact PuRfJ1 | exact PuA)); first | refine ⟨_, EndsA, QFRfJ1, ?_⟩ | refine fin ?_) | (apply RD_W; rfl; intro bk))
    exact rtC
   | false =>
    by_cases hjk2 : j < k
    ·have b1 : decide ((j : Int) < (k : Int)) = true := decide_eq_true (by omega)
     rw [if_pos (.inr (fun e => by injection e with e; omega))] at hi
     subst hi
     simp only [Option.some_or, ptV, plV, DPlace.enc]
     repeat (first | refine und ?_ | (apply RL_pu; rfl; exact PuRfJ2) | (apply RD_Q; rfl; rfl; decide +kernel; rfl; rfl; exact QyRfJ2) | refine walk1 ?_ | (refine jg ?_; (try intro F); (first | (refine callE (fun w' _ => hnm w') ?_) | (refine callE hz ?_) | (refine callE hl ?_) | (refine bx ?_; intro bk) | (refine stA ?_)); first | refine ⟨_, EndsA, QFRfJ2, ?_⟩ | refine fin ?_) | (refine jn ?_; (try intro F); (first | (refine bx ?_; intro bk) | (refine stA ?_) | (apply Stp_pu; first | exact PuRfJ2 | exact PuA)); first | refine ⟨_, EndsA, QFRfJ2, ?_⟩ | refine fin ?_) | (apply RD_W; rfl; intro bk))
     exact rtC
    ·have b1 : decide ((j : Int) < (k : Int)) = false := decide_eq_false (by omega)
     rw [if_neg (fun e => e.elim (fun e => by cases e) (fun e => e (by congr 1; omega)))] at hi
     by_cases hkn : (firstZ z.target a.zones 0).isNone ∧ (firstL z.target a.links 0).isNone
     ·rw [if_pos hkn] at hi
      have e0 : ((firstZ z.target a.zones 0).isSome || (firstL z.target a.links 0).isSome) = false := by
       rw [Bool.or_eq_false_iff]
       exact ⟨by rw [← Option.not_isNone, hkn.1]; rfl, by rw [← Option.not_isNone, hkn.2]; rfl⟩
      rw [e0] at hk2
      subst hi
      simp only [Option.some_or, ptV, plV, DPlace.enc]
      repeat (first | refine und ?_ | (apply RL_pu; rfl; exact PuRfJ2) | (apply RD_Q; rfl; rfl; decide +kernel; rfl; rfl; exact QyRfJ2) | refine walk1 ?_ | (refine jg ?_; (try intro F); (first | (refine callE (fun w' _ => hnm w') ?_) | (refine callE hz ?_) | (refine callE hl ?_) | (refine callE hk2 ?_) | (refine bx ?_; intro bk) | (refine stA ?_)); first | refine ⟨_, EndsA, QFRfJ2, ?_⟩ | refine fin ?_) | (refine jn ?_; (try intro F); (first | (refine bx ?_; intro bk) | (refine stA ?_) | (apply Stp_pu; first | exact PuRfJ2 | exact PuA)); first | refine ⟨_, EndsA, QFRfJ2, ?_⟩ | refine fin ?_) | (apply RD_W; rfl; intro bk))
      exact rtC
     ·rw [if_neg hkn] at hi
      have e0 : ((firstZ z.target a.zones 0).isSome || (firstL z.target a.links 0).isSome) = true := by
       cases hh : ((firstZ z.target a.zones 0).isSome || (firstL z.target a.links 0).isSome) with
       | true => rfl
       | false =>
        rw [Bool.or_eq_false_iff] at hh
        exact absurd ⟨by rw [← Option.not_isSome, hh.1]; rfl, by rw [← Option.not_isSome, hh.2]; rfl⟩ hkn
      rw [e0] at hk2
      repeat (first | refine und ?_ | (apply RL_pu; rfl; exact PuRfJ2) | (apply RD_Q; rfl; rfl; decide +kernel; rfl; rfl; exact QyRfJ2) | refine walk1 ?_ | (refine jg ?_; (try intro F); (first | (refine callE (fun w' _ => hnm w') ?_) | (refine callE hz ?_) | (refine callE hl ?_) | (refine callE hk2 ?_) | (refine bx ?_; intro bk) | (refine stA ?_)); first | refine ⟨_, EndsA, QFRfJ2, ?_⟩ | refine fin ?_) | (refine jn ?_; (try intro F); (first | (refine bx ?_; intro bk) | (refine stA ?_) | (apply Stp_pu; first | exact PuRfJ2 | exact PuA)); first | refine ⟨_, EndsA, QFRfJ2, ?_⟩ | refine fin ?_) | (apply RD_W; rfl; intro bk))
      exact ⟨k + 1, OA, ⟨OA, hi⟩, SFA, SOA⟩
 simp only [decide_eq_false_iff_not, Int.ofNat_lt] at hc
 rw [List.drop_eq_nil_of_le (by omega), linkFault] at hi
 subst hi
 rw [Option.none_or]
 clear hk hc
 repeat (first | refine wkRfJ0 ?_ | (refine jn ?_; (try intro F); (refine bx ?_; intro bk); refine fin ?_) | (apply RD_W; rfl; intro bk))
 refine W_loopF [(1, .pointer (some ⟨bs, 0, none⟩)), (2, .pointer (some ⟨b2, 0, none⟩))] [.blk b2 [.int .i64 0, .int .i64 0, .int .i64 0] 31, .blk bs [.slice Ar a.rules.length cr, .slice Az a.zones.length cz, .slice Al a.links.length cl, .slice As a.shifts.length cs] 27]
  (fun k : Nat => [(8, .int .i64 k)]) (fun _ => []) (fun k => k ≤ a.links.length ∧ loopFault a (a.links.drop k) k = R3) (fun k => a.links.length - k) 0 SFA SOA ⟨Nat.zero_le _, h3⟩ ?_
 clear h3 k
 rintro k ⟨hk, hi⟩
 repeat (first | refine wkRfJ0 ?_ | (refine jn ?_; (try intro F); (refine bx ?_; intro bk); refine fin ?_) | (apply RD_W; rfl; intro bk))
 refine W_cond rfl (fun hc => ?_) (fun hc => ?_)
 ·simp only [decide_eq_true_eq, Int.ofNat_lt] at hc
  obtain ⟨hna, hca⟩ := hA.l.rd k _ (List.getElem?_eq_getElem hc)
  rw [drop_cons hc, loopFault] at hi
  generalize a.links[k] = z at *
  have hfi := hfs z.name
  have hfe := hfe z.name
  generalize followD a (a.links.length + 1) [] z.name = q1 at *
  generalize findR a (a.links.length + 1) z.name = q2 at *
  by_cases h11 : q1.2 = 11
  ·rw [if_pos h11] at hi
   subst hi
   have b1 : decide (q2.2 = 11) = true := decide_eq_true (hfe.1 h11)
   simp only [ptV, plV, DPlace.enc]
   repeat (first | (apply RL_pu; rfl; exact PuRfJ3) | (apply RD_Q; rfl; rfl; decide +kernel; rfl; rfl; exact QyRfJ3) | refine walk1 ?_ | (refine jg ?_; (try intro F); (first | (refine callE hfi ?_) | (refine bx ?_; intro bk) | (refine stA ?_)); first | refine ⟨_, EndsA, QFRfJ3, ?_⟩ | refine fin ?_) | (refine jn ?_; (try intro F); (first | (refine bx ?_; intro bk) | (refine stA ?_) | (apply Stp_pu; first | exact PuRfJ3 | exact PuA)); first | refine ⟨_, EndsA, QFRfJ3, ?_⟩ | refine fin ?_) | (apply RD_W; rfl; intro bk))
   exact rtC
  ·rw [if_neg h11] at hi
   have b1 : decide (q2.2 = 11) = false := decide_eq_false (fun e => h11 (hfe.2 e))
   repeat (first | (apply RL_pu; rfl; exact PuRfJ3) | (apply RD_Q; rfl; rfl; decide +kernel; rfl; rfl; exact QyRfJ3) | refine walk1 ?_ | (refine jg ?_; (try intro F); (first | (refine callE hfi ?_) | (refine bx ?_; intro bk) | (refine stA ?_)); first | refine ⟨_, EndsA, QFRfJ3, ?_⟩ | refine fin ?_) | (refine jn ?_; (try intro F); (first | (refine bx ?_; intro bk) | (refine stA ?_) | (apply Stp_pu; first | exact PuRfJ3 | exact PuA)); first | refine ⟨_, EndsA, QFRfJ3, ?_⟩ | refine fin ?_) | (apply RD_W; rfl; intro bk))
   exact ⟨k + 1, OA, ⟨OA, hi⟩, SFA, SOA⟩
 simp only [decide_eq_false_iff_not, Int.ofNat_lt] at hc
 rw [List.drop_eq_nil_of_le (by omega), loopFault] at hi
 subst hi
 simp only [ptV, plV, DPlace.enc]
 repeat (first | refine wkRfJ0 ?_ | (refine jn ?_; (try intro F); (refine bx ?_; intro bk); refine fin ?_) | (apply RD_W; rfl; intro bk))
 exact rtC
end Go.Proofs.YtceekohkjgiabaaGreatDoor
