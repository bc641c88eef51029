/- Contract: numeric.Expansion. Contracts: format.is, around, Kind, Parts. Contracts: format.Parts, Abbr. -/
import Derived.Test.YtbjkhnlnedfceaaGreatDoorQ27
set_option maxHeartbeats 4000000
set_option linter.unusedVariables false
set_option linter.unusedSimpArgs false
namespace Go.Proofs.YtbjkhnlnedfceaaGreatDoor
open Go Go.RowKit Go.Wk Go.Lib
attribute [local irreducible] W RL Does thenQ blockQ retQ Calls Pu Stp RD Qy Ay DoesIn RW
def xpV (x : List UInt8 × Int) : Value := .tuple #[.string ⟨x.1.toArray⟩, .int .i64 x.2]
theorem otherGo_64 : ∀ (l : List DRule) (x : Int), (∀ r ∈ l, I64 r.save) → I64 x → I64 (otherGo l x).1
 | [], _, _, hx => hx
 | r :: l, x, h, hx => by
  have hr := h r List.mem_cons_self
  have ht := fun y => otherGo_64 l y fun s hs => h s (List.mem_cons_of_mem _ hs)
  unfold otherGo
  split
  ·exact ht x hx
  ·split
   ·exact ⟨by decide, by decide⟩
   ·exact ht _ hr
def anyS (l : List DRule) : Bool := l.any fun r => !decide (r.save = 0)
theorem PuNumD0 {G : Prop} (h : G := by (apply Pu_eqlB; rfl; rfl; exact hb0)) : G := h
theorem PuNumD1 {G : Prop} (h : G := by (first | exact PuNumD0 | (apply Pu_eqlB; rfl; rfl; exact hb1))) : G := h
theorem expand_spec (e : DEra) (A : Option Addr) (c : Nat) (l : List DRule) (w : World) (hA : RdSl w A c DRule.enc 11 l) (ho : I64 e.off) (hs : I64 e.save) (hr : ∀ r ∈ l, I64 r.save) (hn : l.length ≤ 1000000) :
  Does Tryz.prog 75 [.agg e.enc.toArray, .slice A l.length c] w (fun v O => v = xpV (expandN e l) ∧ O = []) := by
 have h1 := fun (x : Int) (hx : I64 x) (bk : Nat) w' (hc : CellsAt w' ⟨bk, 0, none⟩ [.int .i64 x]) => joined_spec (some ⟨bk, 0, none⟩) 1 e.off [x] w' (cellsRd (fun _ => rfl) (Nat.le_refl 1) (by decide) hc) ho (fun y hy => by simp only [List.mem_singleton] at hy; subst hy; exact hx) (by simp)
 have h2 := fun (x : Int) (hx : I64 x) (bk : Nat) w' (hc : CellsAt w' ⟨bk, 0, none⟩ [.int .i64 0, .int .i64 x]) => joined_spec (some ⟨bk, 0, none⟩) 2 e.off [0, x] w' (cellsRd (fun _ => rfl) (Nat.le_refl 2) (by decide) hc) ho (fun y hy => by
  simp only [List.mem_cons, List.not_mem_nil, or_false] at hy
  rcases hy with rfl | rfl
  ·exact ⟨by decide, by decide⟩
  ·exact hx) (by simp)
 have hot := fun w' (hw : Bel w.heap.size w w') => other_spec A c l w' (hA.up hw)
 have hx := otherGo_64 l 0 hr ⟨by decide, by decide⟩
 rw [show otherGo l 0 = otherD l from rfl] at hx
 obtain ⟨off, kind, save, set, format, til⟩ := e
 unfold expandN
 dsimp only at ho hs h1 h2 ⊢
 refine Does_of_W Tryz.func75 rfl rfl rfl rfl ?_
 simp only [DEra.enc]
 by_cases hk0 : kind = 0
 ·subst hk0
  rw [if_pos rfl]
  have hj1 := h1 0 ⟨by decide, by decide⟩
  generalize joinN off [0] = j at *
  cases j with
  | none =>
   simp only [jnV] at hj1
   repeat (first | (refine js ?_; (first | (apply Stp_call (h := fun w' _ hH => hj1 _ w' (hH.cells (by repeat' constructor))); rfl; rintro v O' ⟨rfl, rfl⟩) | (refine bx ?_; intro bk))) | refine walk ?_)
   exact rtB
  | some r =>
   simp only [jnV] at hj1
   repeat (first | (refine js ?_; (first | (apply Stp_call (h := fun w' _ hH => hj1 _ w' (hH.cells (by repeat' constructor))); rfl; rintro v O' ⟨rfl, rfl⟩) | (refine bx ?_; intro bk))) | refine walk ?_)
   exact rtB
 have hb0 : decide (kind = 0) = false := decide_eq_false hk0
 rw [if_neg hk0]
 by_cases hk1 : kind = 1
 ·subst hk1
  rw [if_pos rfl]
  have hj1 := h1 save hs
  generalize joinN off [save] = j at *
  cases j with
  | none =>
   simp only [jnV] at hj1
   repeat (first | (apply RL_pu; rfl; exact PuNumD0) | (refine js ?_; (first | (apply Stp_call (h := fun w' _ hH => hj1 _ w' (hH.cells (by repeat' constructor))); rfl; rintro v O' ⟨rfl, rfl⟩) | (refine bx ?_; intro bk))) | refine walk1 ?_)
   exact rtB
  | some r =>
   simp only [jnV] at hj1
   repeat (first | (apply RL_pu; rfl; exact PuNumD0) | (refine js ?_; (first | (apply Stp_call (h := fun w' _ hH => hj1 _ w' (hH.cells (by repeat' constructor))); rfl; rintro v O' ⟨rfl, rfl⟩) | (refine bx ?_; intro bk))) | refine walk1 ?_)
   exact rtB
 have hb1 : decide (kind = 1) = false := decide_eq_false hk1
 rw [if_neg hk1]
 by_cases hk2 : kind = 2
 ·subst hk2
  rw [if_pos rfl]
  generalize otherD l = od at *
  obtain ⟨ox, ob⟩ := od
  dsimp only at hx hot ⊢
  cases ob with
  | true =>
   have hj1 := h2 ox hx
   rw [if_pos rfl]
   generalize joinN off [0, ox] = j at *
   cases j with
   | none =>
    simp only [jnV] at hj1
    repeat (first | (apply RL_pu; rfl; exact PuNumD1) | (refine js ?_; (first | (refine callE hot ?_) | (apply Stp_call (h := fun w' _ hH => hj1 _ w' (hH.cells (by repeat' constructor))); rfl; rintro v O' ⟨rfl, rfl⟩) | (refine bx ?_; intro bk))) | refine walk1 ?_)
    exact rtB
   | some r =>
    simp only [jnV] at hj1
    repeat (first | (apply RL_pu; rfl; exact PuNumD1) | (refine js ?_; (first | (refine callE hot ?_) | (apply Stp_call (h := fun w' _ hH => hj1 _ w' (hH.cells (by repeat' constructor))); rfl; rintro v O' ⟨rfl, rfl⟩) | (refine bx ?_; intro bk))) | refine walk1 ?_)
    exact rtB
  | false =>
   rw [if_neg (by decide)]
   obtain ⟨an, han⟩ : ∃ an, anyS l = an := ⟨_, rfl⟩
   rw [show (l.any fun r => !decide (r.save = 0)) = an from han]
   repeat (first | (apply RL_pu; rfl; exact PuNumD1) | (refine js ?_; (first | (refine callE hot ?_) | (refine bx ?_; intro bk))) | refine walk1 ?_)
   obtain ⟨b2, hb2⟩ : ∃ b2, bk = b2 := ⟨_, rfl⟩
   rw [hb2]
   clear hb2 bk
   refine W_loopF [(2, .pointer (some ⟨b2, 0, none⟩)), (45, .slice A l.length c), (46, .int .i64 l.length)] [.blk b2 [.int .i64 off, .int .i64 2, .int .i64 save, .string set, .string format, .bool til.is, .int .i64 til.year, .int .i64 til.month, .int .i64 til.day.kind, .int .i64 til.day.week, .int .i64 til.day.day, .int .i64 til.at_.sec, .int .i64 til.at_.base] 48] (fun k : Nat => [(47, .int .i64 k)]) (fun _ => []) (fun k => k ≤ l.length ∧ anyS (l.drop k) = an) (fun k => l.length - k) 0 SFA SOA ⟨Nat.zero_le _, han⟩ ?_
   rintro k ⟨hk, hi⟩
   repeat (first | (refine js ?_; (refine bx ?_; intro bk)) | refine walk ?_)
   refine W_cond rfl (fun hc => ?_) (fun hc => ?_)
   ·simp only [decide_eq_true_eq, Int.ofNat_lt] at hc
    obtain ⟨hna, hca⟩ := hA.rd k _ (List.getElem?_eq_getElem hc)
    rw [drop_cons hc, anyS, List.any_cons] at hi
    generalize l[k] = r at *
    repeat (first | (apply RL_pu; rfl; exact PuI) | (refine js ?_; (refine bx ?_; intro bk)) | refine walk1 ?_)
    refine W_cond rfl (fun h3 => ?_) (fun h3 => ?_)
    ·rw [h3] at hi
     simp only [Bool.true_or] at hi
     subst hi
     rw [if_pos rfl]
     repeat (first | (refine js ?_; (refine bx ?_; intro bk)) | refine walk ?_)
     exact rtB
    ·rw [h3, Bool.false_or] at hi
     repeat (first | (refine js ?_; (refine bx ?_; intro bk)) | refine walk ?_)
     exact ⟨k + 1, OA, ⟨OA, hi⟩, SFA, SOA⟩
   ·simp only [decide_eq_false_iff_not, Int.ofNat_lt] at hc
    rw [List.drop_eq_nil_of_le (by omega)] at hi
    subst hi
    rw [show anyS [] = false from rfl, if_neg (by decide)]
    have hj1 := h1 0 ⟨by decide, by decide⟩
    generalize joinN off [0] = j at *
    cases j with
    | none =>
     simp only [jnV] at hj1
     repeat (first | (refine js ?_; (first | (apply Stp_call (h := fun w' _ hH => hj1 _ w' (hH.cells (by repeat' constructor))); rfl; rintro v O' ⟨rfl, rfl⟩) | (refine bx ?_; intro bk))) | refine walk ?_)
     exact rtB
    | some r =>
     simp only [jnV] at hj1
     repeat (first | (refine js ?_; (first | (apply Stp_call (h := fun w' _ hH => hj1 _ w' (hH.cells (by repeat' constructor))); rfl; rintro v O' ⟨rfl, rfl⟩) | (refine bx ?_; intro bk))) | refine walk ?_)
     exact rtB
 have hb2 : decide (kind = 2) = false := decide_eq_false hk2
 rw [if_neg hk2]
 repeat (first | (apply RL_pu; rfl; (first | exact PuNumD1 | (apply Pu_eqlB; rfl; rfl; exact hb2))) | (refine js ?_; (refine bx ?_; intro bk)) | refine walk1 ?_)
 exact rtB
theorem LibW.up {w w' : World} (h : LibW w) (hb : Bel w.heap.size w w') : LibW w' where
 mxl := by
  obtain ⟨m, hm⟩ := h.mxl
  exact ⟨m, (hb.cell (World.block_lt_of_cell? w _ hm)).trans hm⟩
 syn := by
  obtain ⟨ev, h1, h2⟩ := h.syn
  exact ⟨ev, (hb.cell (World.block_lt_of_cell? w _ h1)).trans h1, h2⟩
theorem isN_spec (s : ByteArray) (w : World) (hL : LibW w) (hs : s.size ≤ 1000000000000) : Does Tryz.prog 97 [.string s] w (fun v O => v = .bool (parseN s.data.toList).isSome ∧ O = []) := by
 have hp := fun w' (hw : Bel w.heap.size w w') => parse_spec s w' (fun w2 hw2 => (hL.up hw).up hw2) hs
 refine Does_of_W Tryz.func97 rfl rfl rfl rfl ?_
 generalize parseN s.data.toList = o at *
 cases o with
 | none =>
  simp only [prV] at hp
  repeat (first | (refine js ?_; (refine callE hp ?_)) | refine walk ?_)
  exact rtA
 | some x =>
  simp only [prV] at hp
  repeat (first | (refine js ?_; (refine callE hp ?_)) | refine walk ?_)
  exact rtA
theorem cutV_len (f p : List UInt8) : (cutV f p).1.length + (cutV f p).2.1.length ≤ f.length := by
 unfold cutV
 split
 ·rename_i a b h
  have := cutAt_len h
  simp only [List.length_nil] at this
  dsimp only
  omega
 ·simp
def arV (l : List UInt8) : Value := .tuple #[.string ⟨(cutV l [37, 115]).1.toArray⟩, .string ⟨(cutV l [37, 115]).2.1.toArray⟩, .bool (aroundF l).isSome]
theorem arB_eq (l : List UInt8) : (aroundF l).isSome = ((cutV l [37, 115]).2.2 && (letterL ((cutV l [37, 115]).1 ++ (cutV l [37, 115]).2.1) && decide (((cutV l [37, 115]).1 ++ (cutV l [37, 115]).2.1).length ≤ 5))) := by
 unfold aroundF cutV
 cases cutAt [37, 115] l [] with
 | none => rfl
 | some ab =>
  obtain ⟨a, b⟩ := ab
  dsimp only
  by_cases h1 : letterL (a ++ b) = true
  ·by_cases h2 : (a ++ b).length ≤ 5
   ·rw [if_pos ⟨h1, h2⟩, h1, decide_eq_true h2]; rfl
   ·rw [if_neg (fun h => h2 h.2), decide_eq_false h2, Bool.and_false, Bool.and_false]; rfl
  ·rw [if_neg (fun h => h1 h.1), show letterL (a ++ b) = false from by simpa using h1, Bool.false_and, Bool.and_false]; rfl
theorem PuFmtB0 {G : Prop} (h : G := by (first | (apply Pu_addS; rfl; rfl; exact hss) | (apply Pu_lssB; rfl; rfl; exact hil) | (apply Pu_leqB; rfl; rfl; exact h5))) : G := h
theorem wkFmtB0 {G G' : Prop} (k : G') (h : Hold G' → G := by intro k9; (first | (apply RL_pu; rfl; exact PuFmtB0) | (refine js ?_; (first | (refine callE hc ?_) | (refine callE (fun w' hw => hix w') ?_))) | refine walk1 ?_); exact k9.out) : G := h ⟨k⟩
theorem around_spec (f : ByteArray) (w : World) (hL : LibW w) (hs : f.size ≤ 1000000000) : Does Tryz.prog 55 [.string f] w (fun v O => v = arV f.data.toList ∧ O = []) := by
 have hc := fun w' (hw : Bel w.heap.size w w') => cut_spec f ⟨#[37, 115]⟩ w' (hL.up hw) (by omega)
 rw [show (⟨#[37, 115]⟩ : ByteArray).data.toList = [37, 115] from rfl] at hc
 have hl := cutV_len f.data.toList [37, 115]
 have hfs : f.data.toList.length = f.size := by simp
 rw [hfs] at hl
 unfold arV
 rw [arB_eq]
 obtain ⟨ab, hab⟩ : ∃ ab, cutV f.data.toList [37, 115] = ab := ⟨_, rfl⟩
 rw [hab] at hc hl ⊢
 obtain ⟨a, b, ok⟩ := ab
 dsimp only at hc hl ⊢
 have hix := fun w' => ixf_spec (⟨a.toArray⟩ ++ ⟨b.toArray⟩) w'
 have hd : ((⟨a.toArray⟩ : ByteArray) ++ ⟨b.toArray⟩).data.toList = a ++ b := by simp
 have hs1 : (⟨a.toArray⟩ : ByteArray).size = a.length := by show a.toArray.size = a.length; simp
 have hs2 : (⟨b.toArray⟩ : ByteArray).size = b.length := by show b.toArray.size = b.length; simp
 have hsz : ((⟨a.toArray⟩ : ByteArray) ++ ⟨b.toArray⟩).size = (a ++ b).length := by rw [ByteArray.size_append, hs1, hs2, List.length_append]
 have h1 := idx_let ((⟨a.toArray⟩ : ByteArray) ++ ⟨b.toArray⟩) ((⟨a.toArray⟩ : ByteArray) ++ ⟨b.toArray⟩).size 0 (by omega)
 rw [List.drop_zero, hd] at h1
 have hil : decide (idxFunc (fun r => notLet (r : Int)) true ((⟨a.toArray⟩ : ByteArray) ++ ⟨b.toArray⟩) < 0) = letterL (a ++ b) := by
  rw [Bool.eq_iff_iff, decide_eq_true_eq]
  exact h1
 have h5 : decide (((((⟨a.toArray⟩ : ByteArray) ++ ⟨b.toArray⟩).size : Nat) : Int) ≤ 5) = decide ((a ++ b).length ≤ 5) := by
  rw [decide_eq_decide]
  omega
 have hss : (⟨a.toArray⟩ : ByteArray).size + (⟨b.toArray⟩ : ByteArray).size ≤ 9223372036854775807 := by omega
 clear h1
 generalize idxFunc (fun r => notLet (r : Int)) true ((⟨a.toArray⟩ : ByteArray) ++ ⟨b.toArray⟩) = i at *
 generalize letterL (a ++ b) = lt at *
 generalize decide ((a ++ b).length ≤ 5) = l5 at *
 refine Does_of_W Tryz.func55 rfl rfl rfl rfl ?_
 cases ok with
 | false =>
  repeat refine wkFmtB0 ?_
  exact ret_3 _ _ _ [] (.tmp rfl) (.tmp rfl) (.tmp rfl) .nil ⟨rfl, rfl⟩
 | true =>
  cases lt with
  | false =>
   repeat refine wkFmtB0 ?_
   exact ret_3 _ _ _ [] (.tmp rfl) (.tmp rfl) (.tmp rfl) .nil ⟨rfl, rfl⟩
  | true =>
   repeat refine wkFmtB0 ?_
   exact ret_3 _ _ _ [] (.tmp rfl) (.tmp rfl) (.tmp rfl) .nil ⟨rfl, rfl⟩
def kindV (ab0 ok ab1 ab2 ar q4 i0 i1 i2 : Bool) : Int := if ab0 then 1 else if ok && (ab1 && ab2) then 2 else if ar then 3 else if q4 then 4 else if i0 || (ok && (i1 && i2)) then 5 else 0
theorem kindF_eq (l : List UInt8) : kindF l = kindV (abbrL l) (cutV l [47]).2.2 (abbrL (cutV l [47]).1) (abbrL (cutV l [47]).2.1) (aroundF l).isSome (decide (l = [37, 122])) (parseN l).isSome (parseN (cutV l [47]).1).isSome (parseN (cutV l [47]).2.1).isSome := by
 unfold kindF kindV cutV
 cases cutAt [47] l [] with
 | none => simp
 | some ab => simp
theorem kind_spec (f : ByteArray) (w : World) (hL : LibW w) (hs : f.size ≤ 1000000000) : Does Tryz.prog 54 [.string f] w (fun v O => v = .int .i64 (kindF f.data.toList) ∧ O = []) := by
 have hc := fun w' (hw : Bel w.heap.size w w') => cut_spec f ⟨#[47]⟩ w' (hL.up hw) (by omega)
 rw [show (⟨#[47]⟩ : ByteArray).data.toList = [47] from rfl] at hc
 have hl := cutV_len f.data.toList [47]
 have hfs : f.data.toList.length = f.size := by simp
 rw [hfs] at hl
 have har := fun w' (hw : Bel w.heap.size w w') => around_spec f w' (hL.up hw) hs
 unfold arV at har
 rw [kindF_eq]
 have hq : decide (f = ⟨#[37, 122]⟩) = decide (f.data.toList = [37, 122]) := by
  rw [decide_eq_decide]
  exact ⟨fun h => by rw [h], fun h => by
   apply ByteArray.ext
   rw [← Array.toArray_toList (xs := f.data), h]⟩
 obtain ⟨ab, hab⟩ : ∃ ab, cutV f.data.toList [47] = ab := ⟨_, rfl⟩
 rw [hab] at hc hl ⊢
 obtain ⟨a, b, ok⟩ := ab
 dsimp only at hc hl ⊢
 have hs1 : (⟨a.toArray⟩ : ByteArray).size = a.length := by show a.toArray.size = a.length; simp
 have hs2 : (⟨b.toArray⟩ : ByteArray).size = b.length := by show b.toArray.size = b.length; simp
 have a0 := fun w' => abbr_spec f (by omega) w'
 have a1 := fun w' => abbr_spec ⟨a.toArray⟩ (by omega) w'
 have a2 := fun w' => abbr_spec ⟨b.toArray⟩ (by omega) w'
 have i0 := fun w' (hw : Bel w.heap.size w w') => isN_spec f w' (hL.up hw) (by omega)
 have i1 := fun w' (hw : Bel w.heap.size w w') => isN_spec ⟨a.toArray⟩ w' (hL.up hw) (by omega)
 have i2 := fun w' (hw : Bel w.heap.size w w') => isN_spec ⟨b.toArray⟩ w' (hL.up hw) (by omega)
 rw [show abbrB f = abbrL f.data.toList from rfl] at a0
 rw [show abbrB ⟨a.toArray⟩ = abbrL a from rfl] at a1
 rw [show abbrB ⟨b.toArray⟩ = abbrL b from rfl] at a2
 rw [show (⟨a.toArray⟩ : ByteArray).data.toList = a from rfl] at i1
 rw [show (⟨b.toArray⟩ : ByteArray).data.toList = b from rfl] at i2
 generalize abbrL f.data.toList = A0 at *
 generalize abbrL a = A1 at *
 generalize abbrL b = A2 at *
 generalize (parseN f.data.toList).isSome = I0 at *
 generalize (parseN a).isSome = I1 at *
 generalize (parseN b).isSome = I2 at *
 generalize (aroundF f.data.toList).isSome = ar at *
 generalize decide (f.data.toList = [37, 122]) = q4 at *
 refine Does_of_W Tryz.func54 rfl rfl rfl rfl ?_
 repeat' (first | (apply RL_pu; rfl; (apply Pu_eqlSB; rfl; rfl; exact hq)) | (refine js ?_; (first | (refine callE hc ?_) | (refine callE har ?_) | (refine callE (fun w' hw => a0 w') ?_) | (refine callE (fun w' hw => a1 w') ?_) | (refine callE (fun w' hw => a2 w') ?_) | (refine callE i0 ?_) | (refine callE i1 ?_) | (refine callE i2 ?_))) | refine walk1 ?_ | refine und ?_ | (refine RL_gsplit rfl rfl rfl (fun hc => ?_) (fun hc => ?_)) | (refine RD_gsplit rfl rfl rfl (fun hc => ?_) (fun hc => ?_)) | (refine W_cond rfl (fun hc => ?_) (fun hc => ?_)))
 all_goals first | (refine ret_1 _ [] (.tmp rfl) .nil ⟨?_, rfl⟩; first | rfl | (simp only [*, Bool.true_and, Bool.false_and, Bool.true_or, Bool.false_or, Bool.not_true, Bool.not_false]; done) | (simp_all [kindV]; done) | (simp_all [kindV]; omega) | (simp_all [kindV]; rw [Bool.eq_iff_iff]; simp; omega)) | (exfalso; simp_all [kindV]; done) | (exfalso; simp_all [kindV]; omega) | (exfalso; omega)
end Go.Proofs.YtbjkhnlnedfceaaGreatDoor
namespace Go.Wk
open Go Go.RowKit
end Go.Wk
namespace Go.Proofs.YtbjkhnlnedfceaaGreatDoor
open Go Go.RowKit Go.Wk Go.Lib
attribute [local irreducible] W RL Does thenQ blockQ retQ Calls Pu Stp RD Qy Ay DoesIn RW
def ptsV : Option (List UInt8 × List UInt8) → Value
 | none => .tuple #[.string ByteArray.empty, .string ByteArray.empty, .bool false]
 | some (a, b) => .tuple #[.string ⟨a.toArray⟩, .string ⟨b.toArray⟩, .bool true]
theorem partsF_eq (l : List UInt8) : partsF l = if (cutV l [47]).2.2 = true ∧ (kindF l = 2 ∨ kindF l = 5) then some ((cutV l [47]).1, (cutV l [47]).2.1) else none := by
 unfold partsF cutV
 cases cutAt [47] l [] with
 | none => simp
 | some ab => simp
theorem kindF_ne (l : List UInt8) (h : kindF l = 3) : aroundF l = some ((cutV l [37, 115]).1, (cutV l [37, 115]).2.1) := by
 have hs : (aroundF l).isSome = true := by
  rw [kindF_eq] at h
  unfold kindV at h
  cases hx : (aroundF l).isSome with
  | true => rfl
  | false =>
   rw [hx] at h
   exfalso
   revert h
   repeat' split
   all_goals first | decide | (intro h; omega) | simp_all
 unfold aroundF cutV at *
 cases hc : cutAt [37, 115] l [] with
 | none => rw [hc] at hs; cases hs
 | some ab =>
  rw [hc] at hs
  dsimp only at hs ⊢
  split at hs
  ·rename_i h1; rw [if_pos h1]
  ·cases hs
theorem PuFmtC0 {G : Prop} (h : G := by (first | (apply Pu_addWE; rfl; rfl; exact hw) | (apply Pu_gtrB; rfl; rfl; exact b1) | (apply Pu_gtrB; rfl; rfl; exact b2) | (apply Pu_neqB'; rfl; rfl; exact b3))) : G := h
theorem PuFmtC1 {G : Prop} (h : G := by (first | (apply Pu_addWE; rfl; rfl; exact hw) | (apply Pu_gtrB; rfl; rfl; exact b1) | (apply Pu_gtrB; rfl; rfl; exact b2))) : G := h
theorem addAny_spec (a b : Int) (ha : I64 a) (hb : I64 b) (w : World) : Does Tryz.prog 58 [.int .i64 a, .int .i64 b] w (fun v O => v = .tuple #[.int .i64 (if i64ok (a + b) then a + b else 0), .bool (i64ok (a + b))] ∧ O = []) := by
 unfold I64 at ha hb
 have hw : IntKind.i64.wrap (a + b) = if a + b < -9223372036854775808 then a + b + 18446744073709551616 else if 9223372036854775807 < a + b then a + b - 18446744073709551616 else a + b := by
  rw [IntKind.wrap_i64]
  repeat' split
  all_goals omega
 refine Does_of_W Tryz.func58 rfl rfl rfl rfl ?_
 by_cases hlo : a + b < -9223372036854775808
 ·rw [if_pos hlo] at hw
  have hok : i64ok (a + b) = false := by unfold i64ok; rw [decide_eq_false (by omega)]; rfl
  have b1 : decide (a < a + b + 18446744073709551616) = true := decide_eq_true (by omega)
  have b2 : decide (0 < b) = false := decide_eq_false (by omega)
  have b3 : (!decide (b = 0)) = true := by rw [decide_eq_false (by omega)]; rfl
  rw [hok]
  repeat (first | (apply RL_pu; rfl; exact PuFmtC0) | refine walk1 ?_)
  exact rtB
 rw [if_neg hlo] at hw
 by_cases hhi : 9223372036854775807 < a + b
 ·rw [if_pos hhi] at hw
  have hok : i64ok (a + b) = false := by unfold i64ok; rw [decide_eq_false (show ¬ a + b ≤ 9223372036854775807 by omega), Bool.and_false]
  have b1 : decide (a < a + b - 18446744073709551616) = false := decide_eq_false (by omega)
  have b2 : decide (0 < b) = true := decide_eq_true (by omega)
  have b3 : (!decide (b = 0)) = true := by rw [decide_eq_false (by omega)]; rfl
  rw [hok]
  repeat (first | (apply RL_pu; rfl; exact PuFmtC0) | refine walk1 ?_)
  exact rtB
 rw [if_neg hhi] at hw
 have hok : i64ok (a + b) = true := by unfold i64ok; rw [decide_eq_true (by omega), decide_eq_true (by omega)]; rfl
 rw [hok, if_pos rfl]
 by_cases hp : 0 < b
 ·have b1 : decide (a < a + b) = true := decide_eq_true (by omega)
  have b2 : decide (0 < b) = true := decide_eq_true hp
  repeat (first | (apply RL_pu; rfl; exact PuFmtC1) | refine walk1 ?_)
  exact rtB
 ·have b1 : decide (a < a + b) = false := decide_eq_false (by omega)
  have b2 : decide (0 < b) = false := decide_eq_false hp
  repeat (first | (apply RL_pu; rfl; exact PuFmtC1) | refine walk1 ?_)
  exact rtB
theorem PuFmtC2 {G : Prop} (h : G := by (apply Pu_neqB'; rfl; rfl; exact b2)) : G := h
theorem parts_spec (f : ByteArray) (w : World) (hL : LibW w) (hs : f.size ≤ 1000000000) : Does Tryz.prog 53 [.string f] w (fun v O => v = ptsV (partsF f.data.toList) ∧ O = []) := by
 have hc := fun w' (hw : Bel w.heap.size w w') => cut_spec f ⟨#[47]⟩ w' (hL.up hw) (by omega)
 rw [show (⟨#[47]⟩ : ByteArray).data.toList = [47] from rfl] at hc
 have hk := fun w' (hw : Bel w.heap.size w w') => kind_spec f w' (hL.up hw) hs
 rw [partsF_eq]
 generalize kindF f.data.toList = K at *
 generalize cutV f.data.toList [47] = ab at *
 obtain ⟨a, b, ok⟩ := ab
 dsimp only at hc ⊢
 refine Does_of_W Tryz.func53 rfl rfl rfl rfl ?_
 cases ok with
 | false =>
  rw [if_neg (by rintro ⟨h, _⟩; cases h)]
  repeat (first | refine und ?_ | (refine js ?_; (first | (refine callE hc ?_) | (refine callE hk ?_))) | refine walk ?_)
  exact ret_3 _ _ _ [] (.tmp rfl) (.tmp rfl) (.tmp rfl) .nil ⟨rfl, rfl⟩
 | true =>
  by_cases h2 : K = 2
  ·subst h2
   rw [if_pos ⟨rfl, .inl rfl⟩]
   repeat (first | (refine js ?_; (first | (refine callE hc ?_) | (refine callE hk ?_))) | refine walk ?_)
   exact ret_3 _ _ _ [] (.tmp rfl) (.tmp rfl) (.tmp rfl) .nil ⟨rfl, rfl⟩
  ·have b2 : (!decide (K = 2)) = true := by rw [decide_eq_false h2]; rfl
   by_cases h5 : K = 5
   ·subst h5
    rw [if_pos ⟨rfl, .inr rfl⟩]
    repeat (first | (apply RL_pu; rfl; exact PuFmtC2) | (refine js ?_; (first | (refine callE hc ?_) | (refine callE hk ?_))) | refine walk1 ?_)
    exact ret_3 _ _ _ [] (.tmp rfl) (.tmp rfl) (.tmp rfl) .nil ⟨rfl, rfl⟩
   ·have b5 : (!decide (K = 5)) = true := by rw [decide_eq_false h5]; rfl
    rw [if_neg (by rintro ⟨_, h | h⟩; exact h2 h; exact h5 h)]
    repeat (first | (apply RL_pu; rfl; (first | exact PuFmtC2 | (apply Pu_neqB'; rfl; rfl; exact b5))) | (refine js ?_; (first | (refine callE hc ?_) | (refine callE hk ?_))) | refine walk1 ?_)
    exact ret_3 _ _ _ [] (.tmp rfl) (.tmp rfl) (.tmp rfl) .nil ⟨rfl, rfl⟩
theorem bytes_back (s : ByteArray) : (⟨s.data.toList.toArray⟩ : ByteArray) = s := by
 apply ByteArray.ext
 simp
theorem PuFmtC4 {G : Prop} (h : G := by (apply Pu_eqlB; rfl; rfl; exact hb0)) : G := h
theorem QyFmtC4 {G : Prop} (h : G := by first | (apply Qy_y; rfl; exact PuFmtC4) | exact QyA) : G := h
theorem QFFmtC4 {G : Prop} (h : G := by repeat (first | exact QF.nil | (apply QF.mk; rfl; rfl; decide +kernel; exact QyFmtC4))) : G := h
theorem PuFmtC5 {G : Prop} (h : G := by (first | (apply Pu_addS; rfl; rfl; exact q1) | (apply Pu_addS; rfl; rfl; exact q2))) : G := h
theorem QyFmtC5 {G : Prop} (h : G := by first | (apply Qy_y; rfl; exact PuFmtC5) | exact QyA) : G := h
theorem QFFmtC5 {G : Prop} (h : G := by repeat (first | exact QF.nil | (apply QF.mk; rfl; rfl; decide +kernel; exact QyFmtC5))) : G := h
theorem PuFmtC6 {G : Prop} (h : G := by (apply Pu_neqSB; rfl; rfl; exact hb)) : G := h
theorem QyFmtC6 {G : Prop} (h : G := by first | (apply Qy_y; rfl; exact PuFmtC6) | exact QyA) : G := h
theorem QFFmtC6 {G : Prop} (h : G := by repeat (first | exact QF.nil | (apply QF.mk; rfl; rfl; decide +kernel; exact QyFmtC6))) : G := h
theorem PuFmtC7 {G : Prop} (h : G := by (first | (apply Pu_eqlB; rfl; rfl; exact hb3) | (apply Pu_eqlB; rfl; rfl; exact hb4) | (apply Pu_eqlB; rfl; rfl; exact hb1) | (apply Pu_eqlB; rfl; rfl; exact hb5))) : G := h
theorem QyFmtC7 {G : Prop} (h : G := by first | (apply Qy_y; rfl; exact PuFmtC7) | exact QyA) : G := h
theorem QFFmtC7 {G : Prop} (h : G := by repeat (first | exact QF.nil | (apply QF.mk; rfl; rfl; decide +kernel; exact QyFmtC7))) : G := h
theorem fabbr_spec (f letter : ByteArray) (off save : Int) (w : World) (hL : LibW w) (hs : f.size ≤ 1000000000) (hl : letter.size ≤ 1000000000) (ho : I64 off) (hv : I64 save) :
  Does Tryz.prog 24 [.string f, .int .i64 off, .agg #[.int .i64 save, .string letter]] w (fun v O => v = xpV (abbrF f.data.toList off save letter.data.toList) ∧ O = []) := by
 have hp := fun w' (hw : Bel w.heap.size w w') => parts_spec f w' (hL.up hw) hs
 have hk := fun w' (hw : Bel w.heap.size w w') => kind_spec f w' (hL.up hw) hs
 have har := fun w' (hw : Bel w.heap.size w w') => around_spec f w' (hL.up hw) hs
 have hsm := fun w' => addAny_spec off save ho hv w'
 have h3 := kindF_ne f.data.toList
 have hcl := cutV_len f.data.toList [37, 115]
 have hfs : f.data.toList.length = f.size := by simp
 rw [hfs] at hcl
 have hfb := bytes_back f
 unfold arV at har
 unfold abbrF
 refine Does_of_W Tryz.func24 rfl rfl rfl rfl ?_
 cases hP : partsF f.data.toList with
 | some ab =>
  obtain ⟨a, b⟩ := ab
  rw [hP] at hp
  simp only [ptsV] at hp
  dsimp only
  by_cases h0 : save = 0
  ·subst h0
   rw [if_pos rfl]
   repeat (first | refine walk ?_ | (refine jg ?_; (try intro F); (first | (refine callE hp ?_) | (refine bx ?_; intro bk)); refine fin ?_) | (refine jn ?_; (try intro F); (first | (refine bx ?_; intro bk) | (apply Stp_pu; exact PuA)); refine fin ?_))
   exact rtB
  ·rw [if_neg h0]
   have hb0 : decide (save = 0) = false := decide_eq_false h0
   repeat (first | (apply RL_pu; rfl; exact PuFmtC4) | (apply RD_Q; rfl; rfl; decide +kernel; rfl; rfl; exact QyFmtC4) | refine walk1 ?_ | (refine jg ?_; (try intro F); (first | (refine callE hp ?_) | (refine bx ?_; intro bk)); first | refine ⟨_, EndsA, QFFmtC4, ?_⟩ | refine fin ?_) | (refine jn ?_; (try intro F); (first | (refine bx ?_; intro bk) | (apply Stp_pu; first | exact PuFmtC4 | exact PuA)); first | refine ⟨_, EndsA, QFFmtC4, ?_⟩ | refine fin ?_))
   exact rtB
 | none =>
 rw [hP] at hp
 simp only [ptsV] at hp
 dsimp only
 generalize kindF f.data.toList = K at *
 by_cases hK3 : K = 3
 ·subst hK3
  rw [if_pos rfl, h3 rfl]
  dsimp only
  generalize (cutV f.data.toList [37, 115]).1 = a at *
  generalize (cutV f.data.toList [37, 115]).2.1 = b at *
  have hs1 : (⟨a.toArray⟩ : ByteArray).size = a.length := by show a.toArray.size = a.length; simp
  have hs2 : (⟨b.toArray⟩ : ByteArray).size = b.length := by show b.toArray.size = b.length; simp
  have q1 : (⟨a.toArray⟩ : ByteArray).size + letter.size ≤ 9223372036854775807 := by omega
  have q2 : ((⟨a.toArray⟩ : ByteArray) ++ letter).size + (⟨b.toArray⟩ : ByteArray).size ≤ 9223372036854775807 := by rw [ByteArray.size_append]; omega
  have q3 : (((⟨a.toArray⟩ : ByteArray) ++ letter ++ ⟨b.toArray⟩).size : Int) ≤ 9223372036854775807 := by rw [ByteArray.size_append, ByteArray.size_append]; omega
  have hx : ((⟨a.toArray⟩ : ByteArray) ++ letter ++ ⟨b.toArray⟩).data.toList = a ++ letter.data.toList ++ b := by simp
  have hXb := bytes_back ((⟨a.toArray⟩ : ByteArray) ++ letter ++ ⟨b.toArray⟩)
  have hab := fun w' => abbr_spec ((⟨a.toArray⟩ : ByteArray) ++ letter ++ ⟨b.toArray⟩) q3 w'
  rw [show abbrB ((⟨a.toArray⟩ : ByteArray) ++ letter ++ ⟨b.toArray⟩) = abbrL (a ++ letter.data.toList ++ b) from by unfold abbrB abbrL; rw [hx]] at hab
  rw [hx] at hXb
  have hri := fun w' => right_spec ((⟨a.toArray⟩ : ByteArray) ++ letter ++ ⟨b.toArray⟩) (abbrL (a ++ letter.data.toList ++ b)) w'
  cases hok : abbrL (a ++ letter.data.toList ++ b) with
  | false =>
   rw [hok] at hab hri
   rw [if_neg (by decide)]
   repeat (first | (apply RL_pu; rfl; exact PuFmtC5) | (apply RD_Q; rfl; rfl; decide +kernel; rfl; rfl; exact QyFmtC5) | refine walk1 ?_ | (refine jg ?_; (try intro F); (first | (refine callE hp ?_) | (refine callE hk ?_) | (refine callE har ?_) | (refine callE (fun w' hw => hab w') ?_) | (refine callE (fun w' hw => hri w') ?_) | (refine bx ?_; intro bk)); first | refine ⟨_, EndsA, QFFmtC5, ?_⟩ | refine fin ?_) | (refine jn ?_; (try intro F); (first | (refine bx ?_; intro bk) | (apply Stp_pu; first | exact PuFmtC5 | exact PuA)); first | refine ⟨_, EndsA, QFFmtC5, ?_⟩ | refine fin ?_))
   exact rtB
  | true =>
   rw [hok] at hab hri
   rw [if_pos rfl]
   unfold xpV
   dsimp only
   rw [hXb]
   repeat (first | (apply RL_pu; rfl; exact PuFmtC5) | (apply RD_Q; rfl; rfl; decide +kernel; rfl; rfl; exact QyFmtC5) | refine walk1 ?_ | (refine jg ?_; (try intro F); (first | (refine callE hp ?_) | (refine callE hk ?_) | (refine callE har ?_) | (refine callE (fun w' hw => hab w') ?_) | (refine callE (fun w' hw => hri w') ?_) | (refine bx ?_; intro bk)); first | refine ⟨_, EndsA, QFFmtC5, ?_⟩ | refine fin ?_) | (refine jn ?_; (try intro F); (first | (refine bx ?_; intro bk) | (apply Stp_pu; first | exact PuFmtC5 | exact PuA)); first | refine ⟨_, EndsA, QFFmtC5, ?_⟩ | refine fin ?_))
   exact rtB
 have hb3 : decide (K = 3) = false := decide_eq_false hK3
 rw [if_neg hK3]
 by_cases hK4 : K = 4
 ·subst hK4
  rw [if_pos rfl]
  cases hok : i64ok (off + save) with
  | false =>
   rw [hok] at hsm
   rw [if_neg (by rintro ⟨h, _⟩; cases h)]
   have htx := fun w' => text_spec 0 w'
   have hr2 := fun w' => right_spec ⟨(textN 0).toArray⟩ false w'
   rw [if_neg (by decide)] at hsm
   repeat (first | refine walk ?_ | (refine jg ?_; (try intro F); (first | (refine callE hp ?_) | (refine callE hk ?_) | (refine callE (fun w' hw => hsm w') ?_) | (refine callE (fun w' hw => htx w') ?_) | (refine callE (fun w' hw => hr2 w') ?_) | (refine bx ?_; intro bk)); refine fin ?_) | (refine jn ?_; (try intro F); (first | (refine bx ?_; intro bk) | (apply Stp_pu; exact PuA)); refine fin ?_))
   exact rtB
  | true =>
   rw [hok, if_pos rfl] at hsm
   have htx := fun w' => text_spec (off + save) w'
   have hri := fun ok w' => right_spec ⟨(textN (off + save)).toArray⟩ ok w'
   by_cases he : textN (off + save) = []
   ·rw [if_neg (by rintro ⟨_, h⟩; exact h he)]
    have hr2 := hri false
    have hb : (!decide ((⟨(textN (off + save)).toArray⟩ : ByteArray) = ByteArray.empty)) = false := by rw [he]; decide
    repeat (first | (apply RL_pu; rfl; exact PuFmtC6) | (apply RD_Q; rfl; rfl; decide +kernel; rfl; rfl; exact QyFmtC6) | refine walk1 ?_ | (refine jg ?_; (try intro F); (first | (refine callE hp ?_) | (refine callE hk ?_) | (refine callE (fun w' hw => hsm w') ?_) | (refine callE (fun w' hw => htx w') ?_) | (refine callE (fun w' hw => hr2 w') ?_) | (refine bx ?_; intro bk)); first | refine ⟨_, EndsA, QFFmtC6, ?_⟩ | refine fin ?_) | (refine jn ?_; (try intro F); (first | (refine bx ?_; intro bk) | (apply Stp_pu; first | exact PuFmtC6 | exact PuA)); first | refine ⟨_, EndsA, QFFmtC6, ?_⟩ | refine fin ?_))
    exact rtB
   ·rw [if_pos ⟨rfl, he⟩]
    have hr2 := hri true
    have hb : (!decide ((⟨(textN (off + save)).toArray⟩ : ByteArray) = ByteArray.empty)) = true := by
     rw [decide_eq_false (fun h => he (by simpa using congrArg (fun b : ByteArray => b.data.toList) h))]; rfl
    repeat (first | (apply RL_pu; rfl; exact PuFmtC6) | (apply RD_Q; rfl; rfl; decide +kernel; rfl; rfl; exact QyFmtC6) | refine walk1 ?_ | (refine jg ?_; (try intro F); (first | (refine callE hp ?_) | (refine callE hk ?_) | (refine callE (fun w' hw => hsm w') ?_) | (refine callE (fun w' hw => htx w') ?_) | (refine callE (fun w' hw => hr2 w') ?_) | (refine bx ?_; intro bk)); first | refine ⟨_, EndsA, QFFmtC6, ?_⟩ | refine fin ?_) | (refine jn ?_; (try intro F); (first | (refine bx ?_; intro bk) | (apply Stp_pu; first | exact PuFmtC6 | exact PuA)); first | refine ⟨_, EndsA, QFFmtC6, ?_⟩ | refine fin ?_))
    exact rtB
 have hb4 : decide (K = 4) = false := decide_eq_false hK4
 rw [if_neg hK4]
 by_cases hK1 : K = 1
 ·subst hK1
  rw [if_pos (.inl rfl)]
  unfold xpV
  dsimp only
  rw [hfb]
  repeat (first | refine walk ?_ | (refine jg ?_; (try intro F); (first | (refine callE hp ?_) | (refine callE hk ?_) | (refine bx ?_; intro bk)); refine fin ?_) | (refine jn ?_; (try intro F); (first | (refine bx ?_; intro bk) | (apply Stp_pu; exact PuA)); refine fin ?_))
  exact rtB
 have hb1 : decide (K = 1) = false := decide_eq_false hK1
 by_cases hK5 : K = 5
 ·subst hK5
  rw [if_pos (.inr rfl)]
  unfold xpV
  dsimp only
  rw [hfb]
  repeat (first | refine walk ?_ | (refine jg ?_; (try intro F); (first | (refine callE hp ?_) | (refine callE hk ?_) | (refine bx ?_; intro bk)); refine fin ?_) | (refine jn ?_; (try intro F); (first | (refine bx ?_; intro bk) | (apply Stp_pu; exact PuA)); refine fin ?_))
  exact rtB
 have hb5 : decide (K = 5) = false := decide_eq_false hK5
 rw [if_neg (by rintro (h | h); exact hK1 h; exact hK5 h)]
 repeat (first | (apply RL_pu; rfl; exact PuFmtC7) | (apply RD_Q; rfl; rfl; decide +kernel; rfl; rfl; exact QyFmtC7) | refine walk1 ?_ | (refine jg ?_; (try intro F); (first | (refine callE hp ?_) | (refine callE hk ?_) | (refine bx ?_; intro bk)); first | refine ⟨_, EndsA, QFFmtC7, ?_⟩ | refine fin ?_) | (refine jn ?_; (try intro F); (first | (refine bx ?_; intro bk) | (apply Stp_pu; first | exact PuFmtC7 | exact PuA)); first | refine ⟨_, EndsA, QFFmtC7, ?_⟩ | refine fin ?_))
 exact rtB
end Go.Proofs.YtbjkhnlnedfceaaGreatDoor
