/- Contracts: numeric.sum at any numbers, strings.Join, numeric.joined, numeric.Expansion. Contract: numeric.Expansion. Contracts: format.is, around, Kind, Parts. -/
import Derived.Test.YtonjepladadmhaaGreatDoorS22
import Derived.Test.YtonjepladadmhaaGreatDoorS20
import Derived.Test.YtonjepladadmhaaGreatDoorS13
import Derived.Test.YtonjepladadmhaaGreatDoorS11
set_option maxHeartbeats 4000000
set_option linter.unusedVariables false
set_option linter.unusedSimpArgs false
namespace Go.Proofs.YtonjepladadmhaaGreatDoor
open Go Go.RowKit Go.Wk Go.Lib
attribute [local irreducible] W RL Does thenQ blockQ retQ Calls Pu Stp RD Qy Ay DoesIn RW
def I64 (n : Int) : Prop := -9223372036854775808 ≤ n ∧ n ≤ 9223372036854775807
theorem sumAny_spec (a b : Int) (ha : I64 a) (hb : I64 b) (w : World) : Does Tryz.prog 235 [.int .i64 a, .int .i64 b] w (fun v O => v = .tuple #[.int .i64 (IntKind.i64.wrap (a + b)), .bool (i64ok (a + b))] ∧ O = []) := by
 unfold I64 at ha hb
 have hd : (decide (a < IntKind.i64.wrap (a + b)) == decide (0 < b)) = i64ok (a + b) := by
  unfold i64ok
  have hw : IntKind.i64.wrap (a + b) = if a + b < -9223372036854775808 then a + b + 18446744073709551616 else if 9223372036854775807 < a + b then a + b - 18446744073709551616 else a + b := by
   rw [IntKind.wrap_i64]
   repeat' split
   all_goals omega
  rw [hw]
  rw [Bool.eq_iff_iff]
  simp only [beq_iff_eq, Bool.and_eq_true, decide_eq_true_eq]
  rw [decide_eq_decide]
  repeat' split
  all_goals omega
 refine Does_of_W Tryz.func235 rfl rfl rfl rfl ?_
 repeat (first | (apply RL_pu; rfl; (apply Pu_addW; rfl; rfl)) | refine walk1 ?_)
 exact ret_2 _ _ [] (.tmp rfl) (.tmp rfl) .nil ⟨by rw [hd], rfl⟩
theorem join_spec (A : Option Addr) (c : Nat) (l : List ByteArray) (w : World) (hR : (It.row (.slice A l.length c) 9 1 l.length (l.flatMap strEnc)).sat w) (hn : l.length ≤ 1000000) (hlen : (Lib.join (l.map (·.data.toList)) [47]).length ≤ 140737488355328) :
  Does Tryz.prog 236 [.slice A l.length c, .string ⟨#[47]⟩] w (fun v O => v = .string ⟨(Lib.join (l.map (·.data.toList)) [47]).toArray⟩ ∧ O = []) := by
 have hcl := fun j x hj => row_cell hR (u := x) (j := j) hj
 obtain ⟨hxl, ⟨hv, _⟩ | ⟨b, cap, cur, hval, hb0, hg, hmc, hcm, hsz, hcur⟩⟩ := id hR
 ·injection hv with h1 h2 h3
  obtain rfl := List.eq_nil_of_length_eq_zero h2
  subst h1 h3
  exact does_of ((Any.strings_Join_none joinLay joinExtra none 0 ⟨#[47]⟩ w).mono fun e w' ⟨he, hw⟩ => ⟨he, hw ▸ Below.refl _ _⟩)
 injection hval with hA h2 h3
 subst hA h3
 have hbw : b < w.heap.size := (Array.getElem?_eq_some_iff.1 hg).1
 exact does_of (Any.strings_Join joinLay joinExtra b 0 c l ⟨#[47]⟩ w (fun j x hj => by
  have hg := flat_get (enc := strEnc) (fun _ => rfl) l j x 0 (.string x) hj rfl
  have := (hcl _ _ hg).2
  rw [show adr (some (⟨b, 0, none⟩ : Addr)) = ⟨b, 0, none⟩ from rfl, add_mk] at this
  simpa using this) hbw (by omega) (by omega) hlen)
theorem joinL_eq : ∀ (l : List (List UInt8)), Lib.join l [47] = slashed l
 | [] => rfl
 | [x] => by simp [Lib.join, slashed]
 | x :: y :: l => by
  have ih := joinL_eq (y :: l)
  unfold Lib.join at ih ⊢
  rw [show slashed (x :: y :: l) = x ++ 47 :: slashed (y :: l) from rfl, ← ih]
  simp [List.intercalate, List.intersperse]
def bsE (l : List (List UInt8)) : List ByteArray := l.map fun t => ⟨t.toArray⟩
theorem bsE_back (l : List (List UInt8)) : (bsE l).map (·.data.toList) = l := by
 rw [bsE, List.map_map]
 exact (List.map_congr_left fun _ _ => rfl).trans (List.map_id l)
theorem slashed_len : ∀ (l : List (List UInt8)), (∀ t ∈ l, t.length ≤ 1000) → (slashed l).length ≤ 1001 * l.length
 | [], _ => Nat.le_refl _
 | [x], h => by have := h x List.mem_cons_self; simp only [slashed, List.length_cons, List.length_nil]; omega
 | x :: y :: l, h => by
  have ih := slashed_len (y :: l) fun t ht => h t (List.mem_cons_of_mem _ ht)
  have := h x List.mem_cons_self
  simp only [slashed, List.length_append, List.length_cons] at ih ⊢
  omega
def jnV : Option (List (List UInt8)) → Value
 | none => .tuple #[.string ByteArray.empty, .int .i64 3]
 | some r => .tuple #[.string ⟨(slashed r).toArray⟩, .int .i64 0]
structure JG where
 k : Nat
 A : Option Addr
 c : Nat
 m : Nat
 ys : List Value
 acc : List (List UInt8)
theorem textN_len (n : Int) : (textN n).length ≤ 7 := by
 unfold textN
 split
 ·simp
 ·simp only [List.length_cons, List.length_append, dig2, List.length_nil]
  repeat' split
  all_goals simp
theorem PuNumC1 {G : Prop} (h : G := by (first | exact PuI | (apply Pu_eqlSB; rfl; rfl; exact hb))) : G := h
theorem joined_spec (A : Option Addr) (c : Nat) (off : Int) (xs : List Int) (w : World) (hA : RdSl w A c iEnc 1 xs) (hoff : I64 off) (hxs : ∀ x ∈ xs, I64 x) (hn : xs.length ≤ 1000000) :
  Does Tryz.prog 222 [.int .i64 off, .slice A xs.length c] w (fun v O => v = jnV (joinN off xs) ∧ O = []) := by
 obtain ⟨res, hres⟩ : ∃ res, joinN off xs = res := ⟨_, rfl⟩
 rw [hres]
 refine Does_of_W Tryz.func222 rfl rfl rfl rfl ?_
 repeat (first | (refine js ?_; (refine bx ?_; intro bk)) | refine walk ?_)
 refine W_nil 9 1 ?_
 refine W_loopF [(0, .int .i64 off), (12, .slice A xs.length c), (13, .int .i64 xs.length)] [] (fun g : JG => [(6, .slice g.A g.m g.c), (14, .int .i64 g.k)]) (fun g => [.row (.slice g.A g.m g.c) 9 1 g.m g.ys])
  (fun g => g.k ≤ xs.length ∧ g.m = g.k ∧ g.m = g.acc.length ∧ g.ys = (bsE g.acc).flatMap strEnc ∧ (∀ t ∈ g.acc, t.length ≤ 1000) ∧ (joinN off (xs.drop g.k)).map (g.acc ++ ·) = res) (fun g => xs.length - g.k) ⟨0, none, 0, 0, [], []⟩ SFA SOA ⟨Nat.zero_le _, rfl, rfl, rfl, nofun, by rw [← hres]; dsimp only; rw [List.drop_zero]; cases joinN off xs <;> rfl⟩ ?_
 rintro ⟨k, A1, c1, m, ys, acc⟩ ⟨hk, hmk, hm, hy, ht, hi⟩
 dsimp only at hk hmk hm hy ht hi ⊢
 repeat (first | (refine js ?_; (refine bx ?_; intro bk)) | refine walk ?_)
 refine W_cond rfl (fun hc => ?_) (fun hc => ?_)
 ·simp only [decide_eq_true_eq, Int.ofNat_lt] at hc
  obtain ⟨hna, hca⟩ := hA.rd k _ (List.getElem?_eq_getElem hc)
  have hxk := hxs _ (List.getElem_mem hc)
  rw [drop_cons hc, joinN] at hi
  generalize xs[k] = x at *
  have hsm := fun w' => sumAny_spec off x hoff hxk w'
  have htl := textN_len (off + x)
  cases hok : i64ok (off + x) with
  | false =>
   rw [if_pos (.inl hok)] at hi
   subst hi
   rw [hok] at hsm
   have htx := fun w' => text_spec (IntKind.i64.wrap (off + x)) w'
   repeat (first | (apply RL_pu; rfl; exact PuI) | (refine js ?_; (first | (refine callE (fun w' hw => hsm w') ?_) | (refine callE (fun w' hw => htx w') ?_) | (refine bx ?_; intro bk))) | refine walk1 ?_)
   exact rtB
  | true =>
   have hwr : IntKind.i64.wrap (off + x) = off + x := wrap64_id (by simpa [i64ok] using hok)
   rw [hok, hwr] at hsm
   have htx := fun w' => text_spec (off + x) w'
   generalize textN (off + x) = tt at *
   by_cases he : tt = []
   ·rw [if_pos (.inr he)] at hi
    subst hi
    subst he
    have hb : decide ((⟨([] : List UInt8).toArray⟩ : ByteArray) = ByteArray.empty) = true := by decide
    repeat (first | (apply RL_pu; rfl; exact PuNumC1) | (refine js ?_; (first | (refine callE (fun w' hw => hsm w') ?_) | (refine callE (fun w' hw => htx w') ?_) | (refine bx ?_; intro bk))) | refine walk1 ?_)
    exact rtB
   ·rw [if_neg (by rintro (h | h); rw [hok] at h; cases h; exact he h)] at hi
    have hb : decide ((⟨tt.toArray⟩ : ByteArray) = ByteArray.empty) = false := decide_eq_false (fun h => he (by simpa using congrArg (fun b : ByteArray => b.data.toList) h))
    repeat (first | (apply RL_pu; rfl; exact PuNumC1) | (refine js ?_; (first | (refine callE (fun w' hw => hsm w') ?_) | (refine callE (fun w' hw => htx w') ?_) | (apply Stp_append; rfl; rfl; (intro A' c'; (focus repeat' constructor)); (intro w' _ hO; exact blkRaw (hO.of (by repeat' constructor))); rfl; rfl; (simp only [maxLen]; omega); omega; intro A' c' hc1 hc2 hc3) | (refine bx ?_; intro bk))) | refine walk1 ?_)
    exact ⟨⟨k + 1, A', c', m + 1, ys ++ [.string ⟨tt.toArray⟩], acc ++ [tt]⟩, OA, ⟨OA, OA, by simp [hm], by rw [hy]; simp [bsE, strEnc], by
     intro t htm
     rcases List.mem_append.1 htm with h | h
     ·exact ht t h
     ·simp only [List.mem_singleton] at h; subst h; omega, by
     rw [← hi]
     cases joinN off (xs.drop (k + 1)) with
     | none => rfl
     | some r => simp⟩, SFA, SOA⟩
 ·simp only [decide_eq_false_iff_not, Int.ofNat_lt] at hc
  rw [List.drop_eq_nil_of_le (by omega), joinN] at hi
  simp only [Option.map_some, List.append_nil] at hi
  subst hi hy
  have hbl : (bsE acc).length = m := by rw [hm]; simp [bsE]
  have hj := fun w' h => join_spec A1 c1 (bsE acc) w' h (by omega) (by
   rw [bsE_back, joinL_eq]
   have := slashed_len acc ht
   omega)
  rw [bsE_back, joinL_eq, hbl] at hj
  repeat (first | (refine js ?_; (first | (refine callO (fun w' hw hO => hj w' (hO.of (A := .row (.slice A1 m c1) 9 1 m ((bsE acc).flatMap strEnc)) (by repeat' constructor))) ?_) | (refine bx ?_; intro bk))) | refine walk ?_)
  exact rtB
def xpV (x : List UInt8 × Int) : Value := .tuple #[.string ⟨x.1.toArray⟩, .int .i64 x.2]
theorem otherGo_64 : ∀ (l : List DRule) (x : Int), (∀ r ∈ l, I64 r.save) → I64 x → I64 (otherGo l x).1
 | [], _, _, hx => hx
 | r :: l, x, h, hx => by
  have hr := h r List.mem_cons_self
  have ht := fun y => otherGo_64 l y fun s hs => h s (List.mem_cons_of_mem _ hs)
  unfold otherGo
  split
  ·exact ht x hx
  ·split
   ·exact ⟨by decide, by decide⟩
   ·exact ht _ hr
def anyS (l : List DRule) : Bool := l.any fun r => !decide (r.save = 0)
theorem PuNumD0 {G : Prop} (h : G := by (apply Pu_eqlB; rfl; rfl; exact hb0)) : G := h
theorem PuNumD1 {G : Prop} (h : G := by (first | exact PuNumD0 | (apply Pu_eqlB; rfl; rfl; exact hb1))) : G := h
theorem expand_spec (e : DEra) (A : Option Addr) (c : Nat) (l : List DRule) (w : World) (hA : RdSl w A c DRule.enc 11 l) (ho : I64 e.off) (hs : I64 e.save) (hr : ∀ r ∈ l, I64 r.save) (hn : l.length ≤ 1000000) :
  Does Tryz.prog 202 [.agg e.enc.toArray, .slice A l.length c] w (fun v O => v = xpV (expandN e l) ∧ O = []) := by
 have h1 := fun (x : Int) (hx : I64 x) (bk : Nat) w' (hc : CellsAt w' ⟨bk, 0, none⟩ [.int .i64 x]) => joined_spec (some ⟨bk, 0, none⟩) 1 e.off [x] w' (cellsRd (fun _ => rfl) (Nat.le_refl 1) (by decide) hc) ho (fun y hy => by simp only [List.mem_singleton] at hy; subst hy; exact hx) (by simp)
 have h2 := fun (x : Int) (hx : I64 x) (bk : Nat) w' (hc : CellsAt w' ⟨bk, 0, none⟩ [.int .i64 0, .int .i64 x]) => joined_spec (some ⟨bk, 0, none⟩) 2 e.off [0, x] w' (cellsRd (fun _ => rfl) (Nat.le_refl 2) (by decide) hc) ho (fun y hy => by
  simp only [List.mem_cons, List.not_mem_nil, or_false] at hy
  rcases hy with rfl | rfl
  ·exact ⟨by decide, by decide⟩
  ·exact hx) (by simp)
 have hot := fun w' (hw : Bel w.heap.size w w') => other_spec A c l w' (hA.up hw)
 have hx := otherGo_64 l 0 hr ⟨by decide, by decide⟩
 rw [show otherGo l 0 = otherD l from rfl] at hx
 obtain ⟨off, kind, save, set, format, til⟩ := e
 unfold expandN
 dsimp only at ho hs h1 h2 ⊢
 refine Does_of_W Tryz.func202 rfl rfl rfl rfl ?_
 simp only [DEra.enc]
 by_cases hk0 : kind = 0
 ·subst hk0
  rw [if_pos rfl]
  have hj1 := h1 0 ⟨by decide, by decide⟩
  generalize joinN off [0] = j at *
  cases j with
  | none =>
   simp only [jnV] at hj1
   repeat (first | (refine js ?_; (first | (apply Stp_call (h := fun w' _ hH => hj1 _ w' (hH.cells (by repeat' constructor))); rfl; rintro v O' ⟨rfl, rfl⟩) | (refine bx ?_; intro bk))) | refine walk ?_)
   exact rtB
  | some r =>
   simp only [jnV] at hj1
   repeat (first | (refine js ?_; (first | (apply Stp_call (h := fun w' _ hH => hj1 _ w' (hH.cells (by repeat' constructor))); rfl; rintro v O' ⟨rfl, rfl⟩) | (refine bx ?_; intro bk))) | refine walk ?_)
   exact rtB
 have hb0 : decide (kind = 0) = false := decide_eq_false hk0
 rw [if_neg hk0]
 by_cases hk1 : kind = 1
 ·subst hk1
  rw [if_pos rfl]
  have hj1 := h1 save hs
  generalize joinN off [save] = j at *
  cases j with
  | none =>
   simp only [jnV] at hj1
   repeat (first | (apply RL_pu; rfl; exact PuNumD0) | (refine js ?_; (first | (apply Stp_call (h := fun w' _ hH => hj1 _ w' (hH.cells (by repeat' constructor))); rfl; rintro v O' ⟨rfl, rfl⟩) | (refine bx ?_; intro bk))) | refine walk1 ?_)
   exact rtB
  | some r =>
   simp only [jnV] at hj1
   repeat (first | (apply RL_pu; rfl; exact PuNumD0) | (refine js ?_; (first | (apply Stp_call (h := fun w' _ hH => hj1 _ w' (hH.cells (by repeat' constructor))); rfl; rintro v O' ⟨rfl, rfl⟩) | (refine bx ?_; intro bk))) | refine walk1 ?_)
   exact rtB
 have hb1 : decide (kind = 1) = false := decide_eq_false hk1
 rw [if_neg hk1]
 by_cases hk2 : kind = 2
 ·subst hk2
  rw [if_pos rfl]
  generalize otherD l = od at *
  obtain ⟨ox, ob⟩ := od
  dsimp only at hx hot ⊢
  cases ob with
  | true =>
   have hj1 := h2 ox hx
   rw [if_pos rfl]
   generalize joinN off [0, ox] = j at *
   cases j with
   | none =>
    simp only [jnV] at hj1
    repeat (first | (apply RL_pu; rfl; exact PuNumD1) | (refine js ?_; (first | (refine callE hot ?_) | (apply Stp_call (h := fun w' _ hH => hj1 _ w' (hH.cells (by repeat' constructor))); rfl; rintro v O' ⟨rfl, rfl⟩) | (refine bx ?_; intro bk))) | refine walk1 ?_)
    exact rtB
   | some r =>
    simp only [jnV] at hj1
    repeat (first | (apply RL_pu; rfl; exact PuNumD1) | (refine js ?_; (first | (refine callE hot ?_) | (apply Stp_call (h := fun w' _ hH => hj1 _ w' (hH.cells (by repeat' constructor))); rfl; rintro v O' ⟨rfl, rfl⟩) | (refine bx ?_; intro bk))) | refine walk1 ?_)
    exact rtB
  | false =>
   rw [if_neg (by decide)]
   obtain ⟨an, han⟩ : ∃ an, anyS l = an := ⟨_, rfl⟩
   rw [show (l.any fun r => !decide (r.save = 0)) = an from han]
   repeat (first | (apply RL_pu; rfl; exact PuNumD1) | (refine js ?_; (first | (refine callE hot ?_) | (refine bx ?_; intro bk))) | refine walk1 ?_)
   obtain ⟨b2, hb2⟩ : ∃ b2, bk = b2 := ⟨_, rfl⟩
   rw [hb2]
   clear hb2 bk
   refine W_loopF [(2, .pointer (some ⟨b2, 0, none⟩)), (45, .slice A l.length c), (46, .int .i64 l.length)] [.blk b2 [.int .i64 off, .int .i64 2, .int .i64 save, .string set, .string format, .bool til.is, .int .i64 til.year, .int .i64 til.month, .int .i64 til.day.kind, .int .i64 til.day.week, .int .i64 til.day.day, .int .i64 til.at_.sec, .int .i64 til.at_.base] 55] (fun k : Nat => [(47, .int .i64 k)]) (fun _ => []) (fun k => k ≤ l.length ∧ anyS (l.drop k) = an) (fun k => l.length - k) 0 SFA SOA ⟨Nat.zero_le _, han⟩ ?_
   rintro k ⟨hk, hi⟩
   repeat (first | (refine js ?_; (refine bx ?_; intro bk)) | refine walk ?_)
   refine W_cond rfl (fun hc => ?_) (fun hc => ?_)
   ·simp only [decide_eq_true_eq, Int.ofNat_lt] at hc
    obtain ⟨hna, hca⟩ := hA.rd k _ (List.getElem?_eq_getElem hc)
    rw [drop_cons hc, anyS, List.any_cons] at hi
    generalize l[k] = r at *
    repeat (first | (apply RL_pu; rfl; exact PuI) | (refine js ?_; (refine bx ?_; intro bk)) | refine walk1 ?_)
    refine W_cond rfl (fun h3 => ?_) (fun h3 => ?_)
    ·rw [h3] at hi
     simp only [Bool.true_or] at hi
     subst hi
     rw [if_pos rfl]
     repeat (first | (refine js ?_; (refine bx ?_; intro bk)) | refine walk ?_)
     exact rtB
    ·rw [h3, Bool.false_or] at hi
     repeat (first | (refine js ?_; (refine bx ?_; intro bk)) | refine walk ?_)
     exact ⟨k + 1, OA, ⟨OA, hi⟩, SFA, SOA⟩
   ·simp only [decide_eq_false_iff_not, Int.ofNat_lt] at hc
    rw [List.drop_eq_nil_of_le (by omega)] at hi
    subst hi
    rw [show anyS [] = false from rfl, if_neg (by decide)]
    have hj1 := h1 0 ⟨by decide, by decide⟩
    generalize joinN off [0] = j at *
    cases j with
    | none =>
     simp only [jnV] at hj1
     repeat (first | (refine js ?_; (first | (apply Stp_call (h := fun w' _ hH => hj1 _ w' (hH.cells (by repeat' constructor))); rfl; rintro v O' ⟨rfl, rfl⟩) | (refine bx ?_; intro bk))) | refine walk ?_)
     exact rtB
    | some r =>
     simp only [jnV] at hj1
     repeat (first | (refine js ?_; (first | (apply Stp_call (h := fun w' _ hH => hj1 _ w' (hH.cells (by repeat' constructor))); rfl; rintro v O' ⟨rfl, rfl⟩) | (refine bx ?_; intro bk))) | refine walk ?_)
     exact rtB
 have hb2 : decide (kind = 2) = false := decide_eq_false hk2
 rw [if_neg hk2]
 repeat (first | (apply RL_pu; rfl; (first | exact PuNumD1 | (apply Pu_eqlB; rfl; rfl; exact hb2))) | (refine js ?_; (refine bx ?_; intro bk)) | refine walk1 ?_)
 exact rtB
theorem LibW.up {w w' : World} (h : LibW w) (hb : Bel w.heap.size w w') : LibW w' where
 mxl := by
  obtain ⟨m, hm⟩ := h.mxl
  exact ⟨m, (hb.cell (World.block_lt_of_cell? w _ hm)).trans hm⟩
 syn := by
  obtain ⟨ev, h1, h2⟩ := h.syn
  exact ⟨ev, (hb.cell (World.block_lt_of_cell? w _ h1)).trans h1, h2⟩
theorem isN_spec (s : ByteArray) (w : World) (hL : LibW w) (hs : s.size ≤ 1000000000000) : Does Tryz.prog 178 [.string s] w (fun v O => v = .bool (parseN s.data.toList).isSome ∧ O = []) := by
 have hp := fun w' (hw : Bel w.heap.size w w') => parse_spec s w' (fun w2 hw2 => (hL.up hw).up hw2) hs
 refine Does_of_W Tryz.func178 rfl rfl rfl rfl ?_
 generalize parseN s.data.toList = o at *
 cases o with
 | none =>
  simp only [prV] at hp
  repeat (first | (refine js ?_; (refine callE hp ?_)) | refine walk ?_)
  exact rtA
 | some x =>
  simp only [prV] at hp
  repeat (first | (refine js ?_; (refine callE hp ?_)) | refine walk ?_)
  exact rtA
theorem cutV_len (f p : List UInt8) : (cutV f p).1.length + (cutV f p).2.1.length ≤ f.length := by
 unfold cutV
 split
 ·rename_i a b h
  have := cutAt_len h
  simp only [List.length_nil] at this
  dsimp only
  omega
 ·simp
def arV (l : List UInt8) : Value := .tuple #[.string ⟨(cutV l [37, 115]).1.toArray⟩, .string ⟨(cutV l [37, 115]).2.1.toArray⟩, .bool (aroundF l).isSome]
theorem arB_eq (l : List UInt8) : (aroundF l).isSome = ((cutV l [37, 115]).2.2 && (letterL ((cutV l [37, 115]).1 ++ (cutV l [37, 115]).2.1) && decide (((cutV l [37, 115]).1 ++ (cutV l [37, 115]).2.1).length ≤ 5))) := by
 unfold aroundF cutV
 cases cutAt [37, 115] l [] with
 | none => rfl
 | some ab =>
  obtain ⟨a, b⟩ := ab
  dsimp only
  by_cases h1 : letterL (a ++ b) = true
  ·by_cases h2 : (a ++ b).length ≤ 5
   ·rw [if_pos ⟨h1, h2⟩, h1, decide_eq_true h2]; rfl
   ·rw [if_neg (fun h => h2 h.2), decide_eq_false h2, Bool.and_false, Bool.and_false]; rfl
  ·rw [if_neg (fun h => h1 h.1), show letterL (a ++ b) = false from by simpa using h1, Bool.false_and, Bool.and_false]; rfl
theorem PuFmtB0 {G : Prop} (h : G := by (first | (apply Pu_addS; rfl; rfl; exact hss) | (apply Pu_lssB; rfl; rfl; exact hil) | (apply Pu_leqB; rfl; rfl; exact h5))) : G := h
theorem wkFmtB0 {G G' : Prop} (k : G') (h : Hold G' → G := by intro k9; (first | (apply RL_pu; rfl; exact PuFmtB0) | (refine js ?_; (first | (refine callE hc ?_) | (refine callE (fun w' hw => hix w') ?_))) | refine walk1 ?_); exact k9.out) : G := h ⟨k⟩
theorem around_spec (f : ByteArray) (w : World) (hL : LibW w) (hs : f.size ≤ 1000000000) : Does Tryz.prog 132 [.string f] w (fun v O => v = arV f.data.toList ∧ O = []) := by
 have hc := fun w' (hw : Bel w.heap.size w w') => cut_spec f ⟨#[37, 115]⟩ w' (hL.up hw) (by omega)
 rw [show (⟨#[37, 115]⟩ : ByteArray).data.toList = [37, 115] from rfl] at hc
 have hl := cutV_len f.data.toList [37, 115]
 have hfs : f.data.toList.length = f.size := by simp
 rw [hfs] at hl
 unfold arV
 rw [arB_eq]
 obtain ⟨ab, hab⟩ : ∃ ab, cutV f.data.toList [37, 115] = ab := ⟨_, rfl⟩
 rw [hab] at hc hl ⊢
 obtain ⟨a, b, ok⟩ := ab
 dsimp only at hc hl ⊢
 have hix := fun w' => ixf_spec (⟨a.toArray⟩ ++ ⟨b.toArray⟩) w'
 have hd : ((⟨a.toArray⟩ : ByteArray) ++ ⟨b.toArray⟩).data.toList = a ++ b := by simp
 have hs1 : (⟨a.toArray⟩ : ByteArray).size = a.length := by show a.toArray.size = a.length; simp
 have hs2 : (⟨b.toArray⟩ : ByteArray).size = b.length := by show b.toArray.size = b.length; simp
 have hsz : ((⟨a.toArray⟩ : ByteArray) ++ ⟨b.toArray⟩).size = (a ++ b).length := by rw [ByteArray.size_append, hs1, hs2, List.length_append]
 have h1 := idx_let ((⟨a.toArray⟩ : ByteArray) ++ ⟨b.toArray⟩) ((⟨a.toArray⟩ : ByteArray) ++ ⟨b.toArray⟩).size 0 (by omega)
 rw [List.drop_zero, hd] at h1
 have hil : decide (idxFunc (fun r => notLet (r : Int)) true ((⟨a.toArray⟩ : ByteArray) ++ ⟨b.toArray⟩) < 0) = letterL (a ++ b) := by
  rw [Bool.eq_iff_iff, decide_eq_true_eq]
  exact h1
 have h5 : decide (((((⟨a.toArray⟩ : ByteArray) ++ ⟨b.toArray⟩).size : Nat) : Int) ≤ 5) = decide ((a ++ b).length ≤ 5) := by
  rw [decide_eq_decide]
  omega
 have hss : (⟨a.toArray⟩ : ByteArray).size + (⟨b.toArray⟩ : ByteArray).size ≤ 9223372036854775807 := by omega
 clear h1
 generalize idxFunc (fun r => notLet (r : Int)) true ((⟨a.toArray⟩ : ByteArray) ++ ⟨b.toArray⟩) = i at *
 generalize letterL (a ++ b) = lt at *
 generalize decide ((a ++ b).length ≤ 5) = l5 at *
 refine Does_of_W Tryz.func132 rfl rfl rfl rfl ?_
 cases ok with
 | false =>
  repeat refine wkFmtB0 ?_
  exact ret_3 _ _ _ [] (.tmp rfl) (.tmp rfl) (.tmp rfl) .nil ⟨rfl, rfl⟩
 | true =>
  cases lt with
  | false =>
   repeat refine wkFmtB0 ?_
   exact ret_3 _ _ _ [] (.tmp rfl) (.tmp rfl) (.tmp rfl) .nil ⟨rfl, rfl⟩
  | true =>
   repeat refine wkFmtB0 ?_
   exact ret_3 _ _ _ [] (.tmp rfl) (.tmp rfl) (.tmp rfl) .nil ⟨rfl, rfl⟩
def kindV (ab0 ok ab1 ab2 ar q4 i0 i1 i2 : Bool) : Int := if ab0 then 1 else if ok && (ab1 && ab2) then 2 else if ar then 3 else if q4 then 4 else if i0 || (ok && (i1 && i2)) then 5 else 0
theorem kindF_eq (l : List UInt8) : kindF l = kindV (abbrL l) (cutV l [47]).2.2 (abbrL (cutV l [47]).1) (abbrL (cutV l [47]).2.1) (aroundF l).isSome (decide (l = [37, 122])) (parseN l).isSome (parseN (cutV l [47]).1).isSome (parseN (cutV l [47]).2.1).isSome := by
 unfold kindF kindV cutV
 cases cutAt [47] l [] with
 | none => simp
 | some ab => simp
theorem kind_spec (f : ByteArray) (w : World) (hL : LibW w) (hs : f.size ≤ 1000000000) : Does Tryz.prog 131 [.string f] w (fun v O => v = .int .i64 (kindF f.data.toList) ∧ O = []) := by
 have hc := fun w' (hw : Bel w.heap.size w w') => cut_spec f ⟨#[47]⟩ w' (hL.up hw) (by omega)
 rw [show (⟨#[47]⟩ : ByteArray).data.toList = [47] from rfl] at hc
 have hl := cutV_len f.data.toList [47]
 have hfs : f.data.toList.length = f.size := by simp
 rw [hfs] at hl
 have har := fun w' (hw : Bel w.heap.size w w') => around_spec f w' (hL.up hw) hs
 unfold arV at har
 rw [kindF_eq]
 have hq : decide (f = ⟨#[37, 122]⟩) = decide (f.data.toList = [37, 122]) := by
  rw [decide_eq_decide]
  exact ⟨fun h => by rw [h], fun h => by
   apply ByteArray.ext
   rw [← Array.toArray_toList (xs := f.data), h]⟩
 obtain ⟨ab, hab⟩ : ∃ ab, cutV f.data.toList [47] = ab := ⟨_, rfl⟩
 rw [hab] at hc hl ⊢
 obtain ⟨a, b, ok⟩ := ab
 dsimp only at hc hl ⊢
 have hs1 : (⟨a.toArray⟩ : ByteArray).size = a.length := by show a.toArray.size = a.length; simp
 have hs2 : (⟨b.toArray⟩ : ByteArray).size = b.length := by show b.toArray.size = b.length; simp
 have a0 := fun w' => abbr_spec f (by omega) w'
 have a1 := fun w' => abbr_spec ⟨a.toArray⟩ (by omega) w'
 have a2 := fun w' => abbr_spec ⟨b.toArray⟩ (by omega) w'
 have i0 := fun w' (hw : Bel w.heap.size w w') => isN_spec f w' (hL.up hw) (by omega)
 have i1 := fun w' (hw : Bel w.heap.size w w') => isN_spec ⟨a.toArray⟩ w' (hL.up hw) (by omega)
 have i2 := fun w' (hw : Bel w.heap.size w w') => isN_spec ⟨b.toArray⟩ w' (hL.up hw) (by omega)
 rw [show abbrB f = abbrL f.data.toList from rfl] at a0
 rw [show abbrB ⟨a.toArray⟩ = abbrL a from rfl] at a1
 rw [show abbrB ⟨b.toArray⟩ = abbrL b from rfl] at a2
 rw [show (⟨a.toArray⟩ : ByteArray).data.toList = a from rfl] at i1
 rw [show (⟨b.toArray⟩ : ByteArray).data.toList = b from rfl] at i2
 generalize abbrL f.data.toList = A0 at *
 generalize abbrL a = A1 at *
 generalize abbrL b = A2 at *
 generalize (parseN f.data.toList).isSome = I0 at *
 generalize (parseN a).isSome = I1 at *
 generalize (parseN b).isSome = I2 at *
 generalize (aroundF f.data.toList).isSome = ar at *
 generalize decide (f.data.toList = [37, 122]) = q4 at *
 refine Does_of_W Tryz.func131 rfl rfl rfl rfl ?_
 repeat' (first | (apply RL_pu; rfl; (apply Pu_eqlSB; rfl; rfl; exact hq)) | (refine js ?_; (first | (refine callE hc ?_) | (refine callE har ?_) | (refine callE (fun w' hw => a0 w') ?_) | (refine callE (fun w' hw => a1 w') ?_) | (refine callE (fun w' hw => a2 w') ?_) | (refine callE i0 ?_) | (refine callE i1 ?_) | (refine callE i2 ?_))) | refine walk1 ?_ | refine und ?_ | (refine RL_gsplit rfl rfl rfl (fun hc => ?_) (fun hc => ?_)) | (refine RD_gsplit rfl rfl rfl (fun hc => ?_) (fun hc => ?_)) | (refine W_cond rfl (fun hc => ?_) (fun hc => ?_)))
 all_goals first | (refine ret_1 _ [] (.tmp rfl) .nil ⟨?_, rfl⟩; first | rfl | (simp only [*, Bool.true_and, Bool.false_and, Bool.true_or, Bool.false_or, Bool.not_true, Bool.not_false]; done) | (simp_all [kindV]; done) | (simp_all [kindV]; omega) | (simp_all [kindV]; rw [Bool.eq_iff_iff]; simp; omega)) | (exfalso; simp_all [kindV]; done) | (exfalso; simp_all [kindV]; omega) | (exfalso; omega)
end Go.Proofs.YtonjepladadmhaaGreatDoor
